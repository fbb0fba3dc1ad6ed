/- A heap of objects as plain data. -/
import Derived.Test.YtpjkohpiikcegaaDoorE2
set_option linter.unusedSimpArgs false
set_option linter.unusedVariables false
set_option linter.unusedSectionVars false
namespace Go.Proofs.YtpjkohpiikcegaaDoor.PDescKinds
open Go.RowKit Go.Ev
structure HD where
  hb : Nat
  cap : Int
  fuel : Int
  depth : Int
  A : Option Addr
  n : Nat
  c : Nat
  ob : Nat → Nat
  p : Nat → V
def HD.vals (h : HD) : List Value := [.int .i64 h.cap, .int .i64 h.fuel, .int .i64 h.depth, .int .i64 0, .slice h.A h.n h.c]
def V.cellsV (v : V) : List SV := [.val (.int .i64 v.k), .val (.bool v.b), .val (.float .f64 v.n), .val (.string v.s), .val (.int .i64 v.id)]
def objV (v : V) : List Value := [.int .i64 1, .int .i64 v.k, .bool v.b, .float .f64 v.n, .string v.s, .int .i64 v.id, .bool true, .iface 55 (.agg #[]), .nilIface, .pointer none]
def shpV (v : V) : List Value := [.int .i64 1, .int .i64 v.k, .bool v.b, .float .f64 v.n, .string v.s, .int .i64 v.id, .bool true, .slice none 0 0]
/-- A heap of objects, as rows, and one more row. -/
@[instance_reducible] def rowsH (h : HD) (bx : XR) : XEnv := ⟨fun r => match r with
  | [] => ⟨some ⟨h.hb, 0, none⟩, 5, 1, 1, fun _ => [.val (.int .i64 h.cap), .val (.int .i64 h.fuel), .val (.int .i64 h.depth), .val (.int .i64 0), .xs [0]]⟩
  | [_] => ⟨h.A, 1, h.n, h.c, fun j => [.val (.pointer (some ⟨h.ob j, 0, none⟩))]⟩
  | _ => bx⟩
def noX1 : XR := ⟨none, 1, 0, 0, fun _ => []⟩
/-- One object. -/
@[instance_reducible] def rowOb (g : Nat) (v : V) : XEnv := ⟨fun _ => ⟨some ⟨g, 0, none⟩, 10, 1, 1, fun _ => (objV v).map SV.val⟩⟩
def bxV (g : Nat) (v : V) : XR := ⟨some ⟨g, 0, none⟩, 5, 1, 1, fun _ => v.list.map SV.val⟩
/-- A well formed value. -/
noncomputable def ck (v : V) : Int := if PHeapGrows.value_Check.good v.k v.b v.n v.s v.id = true then 0 else 5
def L25 (ck : V → Int) : Tab := [(25, onV fun v => .leaf (.int .i64 (ck v)))]
end Go.Proofs.YtpjkohpiikcegaaDoor.PDescKinds
