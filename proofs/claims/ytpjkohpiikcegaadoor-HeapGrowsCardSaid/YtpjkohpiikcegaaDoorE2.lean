/- Parts of the proof, joined (2). -/
import Derived.Laws.BitsAllLaws
import Derived.Lib.DecodeN
import Derived.Lib.Bytes
import Derived.WalkKit
import Derived.ProofKit
import Derived.OpenShut
import Derived.Deep.DeepHandedRow
import Derived.Lib.LaidTab
import Derived.Lib.LaidIn
import Derived.Lib.LaidU8T
import Derived.Laws.AppendOwnNone
import Derived.Maps.OwnOps
import Derived.Maps.Views
import Derived.DeepKeys4
import Derived.Carry
import Derived.OrdersHeld
import Derived.Shelf.RegionOpenPlain
import Derived.Deep.RegionLaw
import Derived.Lib.SliceRun
import Derived.Deep.RegionHeld3
import Derived.Laws.BitsLemmas
import Derived.RowKit
import Derived.Test.YtpjkohpiikcegaaDoorE1
section
/- Parts of the proof, joined (2). -/
section
/- The contract of value.in: which of the seven types a value is of. -/
namespace Go.Proofs.YtpjkohpiikcegaaDoor.PDescKinds
open Go.RowKit Go.Proofs.YtpjkohpiikcegaaDoorV.PrintWords
set_option linter.unusedVariables false
set_option linter.unusedSimpArgs false
end Go.Proofs.YtpjkohpiikcegaaDoor.PDescKinds
/-! #### part G0 -/
/- Values and descriptors as_ plain data; tables of contracts over them. -/
set_option linter.unusedSimpArgs false
set_option linter.unusedVariables false
set_option linter.unusedSectionVars false
namespace Go.Proofs.YtpjkohpiikcegaaDoor.PDescKinds
open Go.RowKit Go.Ev Go.Proofs.YtpjkohpiikcegaaDoorV.PrintWords
structure V where
  k : Int
  b : Bool
  n : Nat
  s : ByteArray
  id : Int
structure D where
  v : V
  g : V
  t : V
  w : Int
  e : Int
  c : Int
def V.agg (v : V) : Value := .agg #[.int .i64 v.k, .bool v.b, .float .f64 v.n, .string v.s, .int .i64 v.id]
def getV : Value → Option V
  | .agg a => match a.toList with
    | [.int .i64 k, .bool b, .float .f64 n, .string s, .int .i64 id] => some ⟨k, b, n, s, id⟩
    | _ => none
  | _ => none
def cutV : List Value → Option (V × List Value)
  | .int .i64 k :: .bool b :: .float .f64 n :: .string s :: .int .i64 id :: r => some (⟨k, b, n, s, id⟩, r)
  | _ => none
def getD : Value → Option D
  | .agg a => match cutV a.toList with
    | some (v, r) => match cutV r with
      | some (g, r) => match cutV r with
        | some (t, r) => match r with
          | [.int .i64 w, .int .i64 e, .int .i64 c] => some ⟨v, g, t, w, e, c⟩
          | _ => none
        | none => none
      | none => none
    | none => none
  | _ => none
theorem getV_agg {x : Value} {v : V} (h : getV x = some v) : x = v.agg := by
  unfold getV at h
  split at h
  · rename_i a
    split at h
    · rename_i ha
      simp only [Option.some.injEq] at h
      subst h
      unfold V.agg
      rw [← ha]
    · cases h
  · cases h
/-! ### Shapes of arguments -/
def onV (g : V → DT Value) : List Value → Option (DT Value)
  | [x] => match getV x with
    | some v => some (g v)
    | none => none
  | _ => none
def onF (g : Nat → DT Value) : List Value → Option (DT Value)
  | [.float .f64 n] => some (g n)
  | _ => none
/-- math.Float64bits is one step. -/
def bitsOf : List Value → Option Value
  | [.float .f64 n] => some (.int .u64 (n : Int))
  | _ => none
def ext : ExtFn := fun f => bif Nat.beq f 23 then some bitsOf else none
theorem ext_sound : ExtSound Tryd.prog ext := by
  intro f g hg args v hv w
  unfold ext at hg
  cases hb : Nat.beq f 23 with
  | false => rw [hb] at hg; cases hg
  | true =>
    rw [hb] at hg
    have := Nat.eq_of_beq_eq_true hb
    subst this
    simp only [cond_true, Option.some.injEq] at hg
    subst hg
    unfold bitsOf at hv
    split at hv
    · simp only [Option.some.injEq] at hv
      subst hv
      exact run_f64bits 23 Tryd.func23 (by kernel_rfl) (by kernel_rfl) (by kernel_rfl) (by kernel_rfl) _ w
    · cases hv
theorem tabs_stable : Stable Tabs := fun _ _ h hb => tabs_b h hb
theorem mixed : Tryd.prog.follows .mixedOrders = true := by kernel_rfl
abbrev E (p : Nat × (List Value → Option (DT Value))) : Prop := Entry Tryd.prog Tabs p
/-- No rows come in. -/
instance noRows : XEnv := ⟨fun _ => ⟨none, 0, 0, 0, fun _ => []⟩⟩
theorem noX : ∀ w, Tabs w → XOk w := fun _ _ _ j hj => absurd hj (Nat.not_lt_zero _)
/-- A function by evaluation over the entries before. -/
theorem byEv {l : Tab} (hl : ∀ p ∈ l, E p) {q : Nat × (List Value → Option (DT Value))} (k : Nat) (h : ∀ args t, q.2 args = some t → evFn Tryd.prog ext (tab l) k q.1 args = t.val) : E q :=
  entry_of mixed ext_sound tabs_stable noX hl k h
theorem bif_eq {α : Type} {c : Bool} {a b r : α} (ht : c = true → a = r) (hf : c = false → b = r) : (bif c then a else b) = r := by
  cases c
  · exact hf rfl
  · exact ht rfl
end Go.Proofs.YtpjkohpiikcegaaDoor.PDescKinds
end
section
/- What the functions of package desc, and those that they call, answer: plain functions over plain data; and the contracts that say so. -/
set_option linter.unusedSimpArgs false
set_option linter.unusedVariables false
set_option linter.unusedSectionVars false
namespace Go.Proofs.YtpjkohpiikcegaaDoor.PDescKinds
open Go.RowKit Go.Ev
namespace S
end S
namespace T
end T
end Go.Proofs.YtpjkohpiikcegaaDoor.PDescKinds
end
section
/-
  Floats by their bits: which are no numbers, and that '==' of two numbers of one sign is '=' of their bits.
-/
set_option linter.unusedSimpArgs false
set_option linter.unusedVariables false
set_option linter.unusedSectionVars false
namespace Go.Proofs.YtpjkohpiikcegaaDoor.FloatEq
open Go.Proofs.YtpjkohpiikcegaaDoorV.PrintWords
open Ieee
end Go.Proofs.YtpjkohpiikcegaaDoor.FloatEq
namespace Go.Proofs.YtpjkohpiikcegaaDoor.PDescKinds
open Go.RowKit Go.Ev
end Go.Proofs.YtpjkohpiikcegaaDoor.PDescKinds
end
section
/- Moments as_ plain data: the rows that come in, the shapes of arguments. -/
set_option linter.unusedSimpArgs false
set_option linter.unusedVariables false
set_option linter.unusedSectionVars false
namespace Go.Proofs.YtpjkohpiikcegaaDoor.PDescKinds
open Go.RowKit Go.Ev
structure K where
  s : ByteArray
  n : Int
structure Pr where
  k : K
  d : D
def Pr.cells (q : Pr) : List SV := [.val (.string q.k.s), .val (.int .i64 q.k.n), .val (.int .i64 q.d.v.k), .val (.bool q.d.v.b), .val (.float .f64 q.d.v.n), .val (.string q.d.v.s), .val (.int .i64 q.d.v.id),
  .val (.int .i64 q.d.g.k), .val (.bool q.d.g.b), .val (.float .f64 q.d.g.n), .val (.string q.d.g.s), .val (.int .i64 q.d.g.id), .val (.int .i64 q.d.t.k), .val (.bool q.d.t.b), .val (.float .f64 q.d.t.n), .val (.string q.d.t.s), .val (.int .i64 q.d.t.id), .val (.int .i64 q.d.w), .val (.int .i64 q.d.e), .val (.int .i64 q.d.c)]
/-! ### Shapes of arguments -/
def cutSV : List SV → Option (V × List SV)
  | .val (.int .i64 k) :: .val (.bool b) :: .val (.float .f64 n) :: .val (.string s) :: .val (.int .i64 id) :: r => some (⟨k, b, n, s, id⟩, r)
  | _ => none
/-! Contracts over shapes -/
end Go.Proofs.YtpjkohpiikcegaaDoor.PDescKinds
end
section
-- Printed by a program of this session over the translation; Lean checks it.
namespace Go.Proofs.YtpjkohpiikcegaaDoor.PDescKinds
open Go.RowKit Go.Proofs.YtpjkohpiikcegaaDoorV.PrintWords
set_option linter.unusedVariables false
set_option linter.unusedSimpArgs false
/-! ### cameoref01_tail: function 124 -/
def cameoref01_tail.l0 : Nat → ByteArray → Int → Int → Int → Int → Option (Int)
  | 0, _, _, _, _, _ => none
  | k + 1, x0, x1, x2, x7, x8 => if x8 < x2 then (if (wrap64 (x1 + x8)) ≥ (x0.size : Int) then (some (-1)) else (if 0 ≤ (wrap64 (x1 + x8)) then (if (wrap64 (x1 + x8)) < (x0.size : Int) then (if (bt x0 (wrap64 (x1 + x8))) < 128 then (some (-1)) else (if (bt x0 (wrap64 (x1 + x8))) > 191 then (some (-1)) else (cameoref01_tail.l0 k x0 x1 x2 (wrap64 ((wrap64 ((wrap64 (64 * x7)) + (wrap64 (bt x0 (wrap64 (x1 + x8)))))) - 128)) (wrap64 (x8 + 1))))) else (none)) else (none))) else (some x7)
def cameoref01_tail.f (k : Nat) (a0 : ByteArray) (a1 : Int) (a2 : Int) : Option (Int) := cameoref01_tail.l0 k a0 a1 a2 0 0
end Go.Proofs.YtpjkohpiikcegaaDoor.PDescKinds
end
section
-- Printed by a program of this session over the translation; Lean checks it.
namespace Go.Proofs.YtpjkohpiikcegaaDoor.PDescKinds
open Go.RowKit Go.Proofs.YtpjkohpiikcegaaDoorV.PrintWords
set_option linter.unusedVariables false
set_option linter.unusedSimpArgs false
/-! ### cameoref01_read: function 116 -/
mutual
def cameoref01_read.l0 : Nat → ByteArray → List Int → Int → Option (List Int × Bool)
  | 0, _, _, _ => none
  | k + 1, x0, x4, x5 => if x5 < (x0.size : Int) then (if 0 ≤ x5 then (if (wrap64 (bt x0 x5)) < 128 then (cameoref01_read.j3 k x0 x4 x5 0 (wrap64 (bt x0 x5))) else (if (wrap64 (bt x0 x5)) ≥ 192 then (cameoref01_read.j1 k x0 x4 x5 (wrap64 (bt x0 x5)) (decide ((wrap64 (bt x0 x5)) < 224))) else (cameoref01_read.j1 k x0 x4 x5 (wrap64 (bt x0 x5)) false))) else (none)) else (some (x4, true))
def cameoref01_read.j3 : Nat → ByteArray → List Int → Int → Int → Int → Option (List Int × Bool)
  | 0, _, _, _, _, _ => none
  | k + 1, x0, x4, x5, x7, x8 => (cameoref01_tail.f k x0 (wrap64 (x5 + 1)) x7).bind fun t264 => (if t264 < 0 then (some (([] : List Int), false)) else (cameoref01_read.l1 k x0 x4 x5 x7 x8 t264 0))
def cameoref01_read.l1 : Nat → ByteArray → List Int → Int → Int → Int → Int → Int → Option (List Int × Bool)
  | 0, _, _, _, _, _, _, _ => none
  | k + 1, x0, x4, x5, x7, x8, x9, x10 => if x10 < x7 then (cameoref01_read.l1 k x0 x4 x5 x7 (wrap64 (x8 * 64)) x9 (wrap64 (x10 + 1))) else (if (wrap64 (x9 + x8)) > 1114111 then (some (([] : List Int), false)) else (if (wrap64 (x9 + x8)) ≥ 65536 then ((some (([IntKind.u16.wrap (wrap64 (55296 + (wrap64 (Int.tdiv (wrap64 ((wrap64 (x9 + x8)) - 65536)) 1024)))), IntKind.u16.wrap (wrap64 (56320 + (Int.tmod (wrap64 ((wrap64 (x9 + x8)) - 65536)) 1024)))] : List Int) : List Int)).bind fun y265 => (if x4.length + y265.length < 70368744177664 then (cameoref01_read.l0 k x0 (x4 ++ y265) (wrap64 (x5 + (wrap64 (1 + x7))))) else (none))) else (if x4.length < 70368744177664 then (cameoref01_read.l0 k x0 (x4 ++ [IntKind.u16.wrap (wrap64 (x9 + x8))]) (wrap64 (x5 + (wrap64 (1 + x7))))) else (none))))
def cameoref01_read.j1 : Nat → ByteArray → List Int → Int → Int → Bool → Option (List Int × Bool)
  | 0, _, _, _, _, _ => none
  | k + 1, x0, x4, x5, x6, x23 => if x23 = true then (cameoref01_read.j3 k x0 x4 x5 1 (wrap64 (x6 - 192))) else (if x6 ≥ 224 then (cameoref01_read.j2 k x0 x4 x5 x6 (decide (x6 < 240))) else (cameoref01_read.j2 k x0 x4 x5 x6 false))
def cameoref01_read.j2 : Nat → ByteArray → List Int → Int → Int → Bool → Option (List Int × Bool)
  | 0, _, _, _, _, _ => none
  | k + 1, x0, x4, x5, x6, x32 => if x32 = true then (cameoref01_read.j3 k x0 x4 x5 2 (wrap64 (x6 - 224))) else (if x6 ≥ 240 then (if x6 < 248 then (cameoref01_read.j3 k x0 x4 x5 3 (wrap64 (x6 - 240))) else (some (([] : List Int), false))) else (some (([] : List Int), false)))
end
/-! ### cameoref01_high: function 128 -/
/-! ### cameoref01_low: function 129 -/
end Go.Proofs.YtpjkohpiikcegaaDoor.PDescKinds
end
section
-- Printed by a program of this session over the translation; Lean checks it.
namespace Go.Proofs.YtpjkohpiikcegaaDoor.PDescKinds
open Go.RowKit Go.Proofs.YtpjkohpiikcegaaDoorV.PrintWords
set_option linter.unusedVariables false
set_option linter.unusedSimpArgs false
/-! ### cameoref01_Row: function 125 -/
/-! ### cameoref01_put: function 126 -/
/-! ### cameoref01_Of: function 117 -/
/-! ### cameoref01_Valid: function 98 -/
end Go.Proofs.YtpjkohpiikcegaaDoor.PDescKinds
end
section
/- Bytes as_ code points: what is read leniently and written anew is what was read just where each code point was written as_ shortly as_ may be, and no two halves stand apart. Plain lists of numbers. -/
set_option linter.unusedSimpArgs false
set_option linter.unusedVariables false
namespace Go.Proofs.YtpjkohpiikcegaaDoor.Utf
def cont (b : Nat) : Prop := 128 ≤ b ∧ b ≤ 191
instance (b : Nat) : Decidable (cont b) := inferInstanceAs (Decidable (_ ∧ _))
end Go.Proofs.YtpjkohpiikcegaaDoor.Utf
/-! #### part U1 -/
/- units.Valid: every code point written as_ shortly as_ may be, and no two halves side by side. -/
set_option linter.unusedSimpArgs false
set_option linter.unusedVariables false
namespace Go.Proofs.YtpjkohpiikcegaaDoor.Utf
open Go.RowKit Go.Proofs.YtpjkohpiikcegaaDoorV.PrintWords Go.Proofs.YtpjkohpiikcegaaDoor.PDescKinds
end Go.Proofs.YtpjkohpiikcegaaDoor.Utf
/-! #### part U2 -/
/- The reference's Valid is the program's. -/
set_option linter.unusedSimpArgs false
set_option linter.unusedVariables false
namespace Go.Proofs.YtpjkohpiikcegaaDoor.Utf
open Go.RowKit Go.Proofs.YtpjkohpiikcegaaDoorV.PrintWords Go.Proofs.YtpjkohpiikcegaaDoor.PDescKinds
end Go.Proofs.YtpjkohpiikcegaaDoor.Utf
/-! #### part U3 -/
/- The reference's Valid is the program's: what is read is written anew. -/
set_option linter.unusedSimpArgs false
set_option linter.unusedVariables false
namespace Go.Proofs.YtpjkohpiikcegaaDoor.Utf
open Go.RowKit Go.Proofs.YtpjkohpiikcegaaDoorV.PrintWords Go.Proofs.YtpjkohpiikcegaaDoor.PDescKinds
end Go.Proofs.YtpjkohpiikcegaaDoor.Utf
end
section
/- The same contracts without branches, for the laws. -/
set_option linter.unusedSimpArgs false
set_option linter.unusedVariables false
namespace Go.Proofs.YtpjkohpiikcegaaDoor.PDescKinds
open Go.RowKit Go.Ev
namespace S
end S
namespace R
end R
namespace T
end T
end Go.Proofs.YtpjkohpiikcegaaDoor.PDescKinds
end
section
/- Plain laws: the reference's answers on descriptors are the program's. -/
set_option linter.unusedSimpArgs false
set_option linter.unusedVariables false
namespace Go.Proofs.YtpjkohpiikcegaaDoor.PDescKinds
open Ieee FloatEq
namespace R
end R
end Go.Proofs.YtpjkohpiikcegaaDoor.PDescKinds
/-! #### part P3 -/
/- Plain laws: Apply, Keeps and Same by the document are the program's. -/
set_option linter.unusedSimpArgs false
set_option linter.unusedVariables false
namespace Go.Proofs.YtpjkohpiikcegaaDoor.PDescKinds
open Ieee FloatEq Go.RowKit
namespace R
end R
end Go.Proofs.YtpjkohpiikcegaaDoor.PDescKinds
end
section
/- Moments: what the functions over values answer; words for loops. -/
set_option linter.unusedSimpArgs false
set_option linter.unusedVariables false
set_option linter.unusedSectionVars false
namespace Go.Proofs.YtpjkohpiikcegaaDoor.PDescKinds
open Go.RowKit Go.Ev
namespace S
end S
namespace R
end R
namespace T
end T
end Go.Proofs.YtpjkohpiikcegaaDoor.PDescKinds
end
section
/- Moments: what the functions over shapes answer, and the contracts that say so. -/
set_option linter.unusedSimpArgs false
set_option linter.unusedVariables false
set_option linter.unusedSectionVars false
namespace Go.Proofs.YtpjkohpiikcegaaDoor.PDescKinds
open Go.RowKit Go.Ev
namespace S
end S
namespace S
end S
/-! The contract of slices.IndexFunc, by the function it is handed -/
/-! Boxes -/
namespace S
end S
noncomputable def bodyOf (fn : Func) : List Code := flat (fn.body.getD .skip)
/-! Words for rounds -/
theorem wr {i n : Nat} (h : i < n) (hn : (n : Int) ≤ 9223372036854775807) : IntKind.i64.wrap ((i : Int) + 1) = ((i + 1 : Nat) : Int) := by rw [IntKind.wrap_i64]; omega
/-! What stands -/
end Go.Proofs.YtpjkohpiikcegaaDoor.PDescKinds
end
section
/- Moments: functions with one loop, piece by piece. Written by a program of this session. -/
set_option linter.unusedSimpArgs false
set_option linter.unusedVariables false
set_option linter.unusedSectionVars false
namespace Go.Proofs.YtpjkohpiikcegaaDoor.PDescKinds
open Go.RowKit Go.Ev
end Go.Proofs.YtpjkohpiikcegaaDoor.PDescKinds
end
section
/- Contracts by evaluation: what each function of a list answers. Written by a program of this session. -/
namespace Go.Proofs.YtpjkohpiikcegaaDoor.PDescKinds
open Go.RowKit Go.Ev
set_option linter.unusedSimpArgs false
set_option linter.unusedVariables false
set_option maxRecDepth 100000
end Go.Proofs.YtpjkohpiikcegaaDoor.PDescKinds
end
section
/- Moments: functions with one loop, piece by piece. Written by a program of this session. -/
set_option linter.unusedSimpArgs false
set_option linter.unusedVariables false
set_option linter.unusedSectionVars false
namespace Go.Proofs.YtpjkohpiikcegaaDoor.PDescKinds
open Go.RowKit Go.Ev
namespace R
end R
end Go.Proofs.YtpjkohpiikcegaaDoor.PDescKinds
end
section
/- Moments: Broken. Written by a program of this session. -/
set_option linter.unusedSimpArgs false
set_option linter.unusedVariables false
set_option linter.unusedSectionVars false
namespace Go.Proofs.YtpjkohpiikcegaaDoor.PDescKinds
open Go.RowKit Go.Ev
namespace S
end S
namespace R
end R
def thenOf : Code → Code
  | .cond _ t _ => t
  | c => c
def elseOf : Code → Code
  | .cond _ _ e => e
  | c => c
end Go.Proofs.YtpjkohpiikcegaaDoor.PDescKinds
end
section
/- Moments: few; the law's own pieces. Written by a program of this session. -/
set_option linter.unusedSimpArgs false
set_option linter.unusedVariables false
set_option linter.unusedSectionVars false
namespace Go.Proofs.YtpjkohpiikcegaaDoor.PDescKinds
open Go.RowKit Go.Ev
namespace S
end S
namespace S
end S
end Go.Proofs.YtpjkohpiikcegaaDoor.PDescKinds
end
section
/- What the rows' arguments read as_: descriptors as_ plain data; what the rows' tables give. -/
set_option linter.unusedSimpArgs false
set_option linter.unusedVariables false
set_option linter.unusedSectionVars false
namespace Go.Proofs.YtpjkohpiikcegaaDoor.PDescKinds
open Go.ChangeShapes Go.WideShapes Go.ChangeAt Go.RowKit Go.Lib
section
variable {H : Type} {enc : TypeId × Value → H} {P : Program} {w : World} {base : Nat} {spare : Nat → Bool} {held : Bool} {fuel : Nat} {t : TypeId} {cs : List Value} {x : DataW H × List MemPlace}
end
def V.list (v : V) : List Value := [.int .i64 v.k, .bool v.b, .float .f64 v.n, .string v.s, .int .i64 v.id]
section
variable {H : Type} {enc : TypeId × Value → H} {w : World} {base : Nat} {spare : Nat → Bool} {held : Bool} {fuel : Nat} {cs : List Value} {x : DataW H × List MemPlace}
end
end Go.Proofs.YtpjkohpiikcegaaDoor.PDescKinds
end
section
/- cameoref10.Copy: shapes in memory of their own. -/
set_option linter.unusedSimpArgs false
set_option linter.unusedVariables false
set_option linter.unusedSectionVars false
namespace Go.Ev
open Go.RowKit
section
variable [XEnv]
variable {P : Program} {X : ExtFn} {call : CallFn} {I : World → Prop} {N : Nat} {ops : Array Oper} {w0 : World} {Q : Exit → Act → World → Prop}
theorem pickT_mem (t : Nat) : ∀ ts : List (Nat × SV), pickT ts t = SV.unk ∨ (t, pickT ts t) ∈ ts
  | [] => .inl rfl
  | p :: r => by
    simp only [pickT]
    cases h : Nat.beq t p.1 with
    | true =>
      have := Nat.eq_of_beq_eq_true h
      subst this
      exact .inr List.mem_cons_self
    | false =>
      rcases pickT_mem t r with h | h
      · exact .inl h
      · exact .inr (List.mem_cons_of_mem _ h)
/-- All that is, is as_ if it had come in. -/
theorem epoch {a : Act} {w : World} (hs : a.tmps.size = N) (hd : a.defers = []) (ts : List (Nat × SV)) (m : Nat → Nat) (h : ∀ p ∈ ts, a.tmps.getD p.1 undef = p.2.den m) (hok : ∀ p ∈ ts, p.2.ok fun _ => none) :
    SR w N m ((Cut.mk ts []).st 0) a w := by
  refine ⟨MR.start w m, ⟨hs, hd, fun t ht => ?_, fun t => ?_⟩, fun _ _ => rfl⟩
  · have ht : (pickT ts t).known = true := ht
    show a.tmps.getD t undef = (pickT ts t).den m
    rcases pickT_mem t ts with h1 | h1
    · rw [h1] at ht; cases ht
    · exact h _ h1
  · show (pickT ts t).ok _
    rcases pickT_mem t ts with h1 | h1
    · rw [h1]; exact ok_unk
    · exact hok _ h1
/-- The same, with own blocks. -/
theorem epochB {a : Act} {w w' : World} {next : Nat} (hb : Below w.heap.size w w') (hs : a.tmps.size = N) (hd : a.defers = []) (ts : List (Nat × SV)) (bs : List (Nat × Blk)) (m : Nat → Nat) (h : ∀ p ∈ ts, a.tmps.getD p.1 undef = p.2.den m)
    (hok : ∀ p ∈ ts, p.2.ok (pickM bs)) (hblk : ∀ b k, pickM bs b = some k → w.heap.size ≤ m b ∧ w'.heap[m b]? = some (.cells (k.cells.map (SV.den m)).toArray k.ty (0, 0)) ∧ ∀ c ∈ k.cells, c.ok (pickM bs))
    (hinj : ∀ b b' k k', pickM bs b = some k → pickM bs b' = some k' → m b = m b' → b = b') (hfr : ∀ b, next ≤ b → pickM bs b = none) :
    SR w N m ((Cut.mk ts bs).st next) a w' := by
  refine ⟨⟨hb, hblk, hinj⟩, ⟨hs, hd, fun t ht => ?_, fun t => ?_⟩, hfr⟩
  · have ht : (pickT ts t).known = true := ht
    show a.tmps.getD t undef = (pickT ts t).den m
    rcases pickT_mem t ts with h1 | h1
    · rw [h1] at ht; cases ht
    · exact h _ h1
  · show (pickT ts t).ok _
    rcases pickT_mem t ts with h1 | h1
    · rw [h1]; exact ok_unk
    · exact hok _ h1
end
end Go.Ev
namespace Go.Proofs.YtpjkohpiikcegaaDoor.PDescKinds
open Go.RowKit Go.Ev
/-! ### Moments as_ the world has them -/
theorem add_block (a : Addr) (k : Nat) : (a.add k).block = a.block := by unfold Addr.add; split <;> rfl
def inB : Code → Code
  | .block _ c => c
  | c => c
def opsOf : Code → Array Oper
  | .region _ ops _ => ops
  | _ => #[]
namespace Copy
end Copy
namespace Copy
end Copy
end Go.Proofs.YtpjkohpiikcegaaDoor.PDescKinds
end
section
/- cameoref10.Copy: a round; the whole. -/
set_option linter.unusedSimpArgs false
set_option linter.unusedVariables false
set_option linter.unusedSectionVars false
namespace Go.Proofs.YtpjkohpiikcegaaDoor.PDescKinds
open Go.RowKit Go.Ev
/-! Rows laid one behind the other -/
theorem flat_len {f : Nat → List Value} {z : Nat} (hz : ∀ t, (f t).length = z) (n : Nat) : ((List.range n).flatMap f).length = n * z := by
  induction n with
  | zero => simp
  | succ n ih => rw [List.range_succ, List.flatMap_append, List.length_append, ih, Nat.succ_mul]; simp [hz]
theorem flat_in {f : Nat → List Value} {z : Nat} (hz : ∀ t, (f t).length = z) : ∀ (n t k : Nat) (u : Value), t < n → (f t)[k]? = some u → ((List.range n).flatMap f)[t * z + k]? = some u
  | 0, t, k, u, h, _ => absurd h (Nat.not_lt_zero _)
  | n + 1, t, k, u, h, hk => by
    have hkz : k < z := by rw [← hz t]; exact (List.getElem?_eq_some_iff.1 hk).1
    rw [List.range_succ, List.flatMap_append]
    by_cases e : t = n
    · subst e
      rw [List.getElem?_append_right (by rw [flat_len hz]; omega), flat_len hz]
      simpa using hk
    · have hlt : t < n := by omega
      have h1 : t * z + k < n * z := by
        have : (t + 1) * z ≤ n * z := Nat.mul_le_mul_right z hlt
        rw [Nat.add_mul] at this
        omega
      rw [List.getElem?_append_left (by rw [flat_len hz]; exact h1)]
      exact flat_in hz n t k u hlt hk
theorem flat_out {f : Nat → List Value} {z : Nat} (hz : ∀ t, (f t).length = z) : ∀ (n j : Nat) (u : Value), ((List.range n).flatMap f)[j]? = some u → ∃ t k, t < n ∧ j = t * z + k ∧ (f t)[k]? = some u
  | 0, j, u, h => by simp at h
  | n + 1, j, u, h => by
    rw [List.range_succ, List.flatMap_append] at h
    by_cases hj : j < n * z
    · rw [List.getElem?_append_left (by rw [flat_len hz]; exact hj)] at h
      obtain ⟨t, k, h1, h2, h3⟩ := flat_out hz n j u h
      exact ⟨t, k, by omega, h2, h3⟩
    · rw [List.getElem?_append_right (by rw [flat_len hz]; omega), flat_len hz] at h
      refine ⟨n, j - n * z, by omega, by omega, by simpa using h⟩
theorem flat_congr {f g : Nat → List Value} (n : Nat) (h : ∀ j, j < n → f j = g j) : (List.range n).flatMap f = (List.range n).flatMap g := by
  induction n with
  | zero => rfl
  | succ n ih => rw [List.range_succ, List.flatMap_append, List.flatMap_append, ih fun j hj => h j (by omega)]; simp [h n (by omega)]
theorem grown_of {w w' : World} (hb : Below w.heap.size w w') (row : Option Nat) : w.grownBy w' row := ⟨hb.os, hb.tape, hb.output, hb.size, fun k hk _ => hb.block k hk⟩
namespace Copy
theorem put_self (a : Act) (d : Nat) (v : Value) (h : d < a.tmps.size) : (a.put (some d) v).tmps.getD d undef = v := by
  show (a.tmps.setIfInBounds d v).getD d undef = v
  simp [h]
theorem put_ne (a : Act) (d t : Nat) (v : Value) (h : d ≠ t) : (a.put (some d) v).tmps.getD t undef = a.tmps.getD t undef := by
  show (a.tmps.setIfInBounds d v).getD t undef = _
  simp [Array.getElem?_setIfInBounds_ne h]
section
end
end Copy
end Go.Proofs.YtpjkohpiikcegaaDoor.PDescKinds
end
section
/- InvariantBroken: the law runs; what is left is plain. -/
set_option linter.unusedSimpArgs false
set_option linter.unusedVariables false
set_option linter.unusedSectionVars false
namespace Go.Proofs.YtpjkohpiikcegaaDoor.PDescKinds
open Go.RowKit Go.Ev
def slA : Value → Option Addr
  | .slice A _ _ => A
  | _ => none
def slC : Value → Nat
  | .slice _ _ c => c
  | _ => 0
theorem own_slice {w : World} {b e z n : Nat} {v : Value} {xs : List Value} (h : w.ownsRow b e z v n xs) : v = .slice (slA v) n (slC v) ∧ (slA v = none → n = 0 ∧ slC v = 0) := by
  rcases h.2 with ⟨rfl, rfl⟩ | ⟨g, cap, cur, rfl, _⟩
  · exact ⟨rfl, fun _ => ⟨rfl, rfl⟩⟩
  · exact ⟨rfl, fun h => by cases h⟩
/-! A call of one argument, and its answer in a variable -/
theorem call_region {P : Program} {id : Nat} {ops : Array Oper} {mv cl asg : Oper} {src d1 d2 d3 : Nat} {f : FuncId} {ats : Array TypeId} {va : Value} {a : Act} {w : World} {N : Nat} {R : Ending → World → Prop} {Q : Exit → Act → World → Prop}
    (hops : ops.toList = [mv, cl, asg]) (g1 : mv.guard = none) (g2 : cl.guard = none) (g3 : asg.guard = none) (o1 : mv.op = .move (.tmp src)) (t1 : mv.dst = some d1) (o2 : cl.op = .call { callee := .value (.func f), args := #[.tmp d1], argTypes := ats }) (t2 : cl.dst = some d2)
    (o3 : asg.op = .assign (.tmp d2)) (t3 : asg.dst = some d3) (he : enters P f = true) (hs : a.tmps.size = N) (l1 : d1 < N) (l2 : d2 < N) (hv : a.tmps.getD src undef = va) (hc : Calls P f #[va] w R) (hR : ∀ e w', R e w' → ∃ v, e = .returned v)
    (h : ∀ v w', R (.returned v) w' → Q .normal (((a.put (some d1) va).put (some d2) v).put (some d3) v) w') : (Code.region id ops false).wp P Q a w := by
  refine wp_region_list ?_
  rw [hops]
  refine wpList_plain g1 fun K hK => ?_
  have e1 : a.eval (.tmp src) = va := hv
  have x1 : (execOp a.eval mv).run P w = .ok (.value va) w := by
    unfold execOp
    simp only [o1, e1, Sem.run_pure]
  unfold Oper.wp
  rw [x1, Oper.upon_value, t1]
  refine hK _ _ (wpList_plain g2 fun K hK => ?_)
  have e2 : (a.put (some d1) va).eval (.tmp d1) = va := Copy.put_self a d1 va (by omega)
  have x2 : (execOp (a.put (some d1) va).eval cl).run P w = .ok (.enter f #[va]) w := by
    rw [← run_enters he #[va] w]
    unfold execOp
    have em : (#[Operand.tmp d1] : Array Operand).map (a.put (some d1) va).eval = #[va] := by simp [e2]
    simp only [o2, resolve, em, Act.eval, Deferred.ofValue, Sem.run_bind, Sem.run_pure, Result.andThen_ok, invoke]
    simp
  unfold Oper.wp
  rw [x2, Oper.upon_enter, t2]
  refine Calls.mono hc fun e w' hr => ?_
  obtain ⟨v, rfl⟩ := hR e w' hr
  refine hK _ _ (wpList_plain g3 fun K hK => ?_)
  have e3 : ((a.put (some d1) va).put (some d2) v).eval (.tmp d2) = v := Copy.put_self _ d2 v (by simp [Act.put]; omega)
  have x3 : (execOp ((a.put (some d1) va).put (some d2) v).eval asg).run P w' = .ok (.value v) w' := by
    unfold execOp
    simp only [o3, e3, Sem.run_pure]
  unfold Oper.wp
  rw [x3, Oper.upon_value, t3]
  exact hK _ _ (h v w' hr)
/-! The law -/
namespace Brk
end Brk
end Go.Proofs.YtpjkohpiikcegaaDoor.PDescKinds
end
section
/- Own rows that grow beside what is computed: lists of deltas. -/
set_option linter.unusedSimpArgs false
set_option linter.unusedVariables false
set_option linter.unusedSectionVars false
namespace Go.Ev
section
variable [XEnv]
variable {P : Program} {X : ExtFn} {G : GFn} {I : World → Prop} {N : Nat} {fn : Func} {fs : List Fr} {l : List Code} {k : Nat} {ts bs : List Nat} {next : Nat}
end
end Go.Ev
namespace Go.Proofs.YtpjkohpiikcegaaDoor.PDescKinds
open Go.RowKit Go.Ev
section
end
end Go.Proofs.YtpjkohpiikcegaaDoor.PDescKinds
end
section
/- invariant.between, from its beginning to its end. -/
set_option linter.unusedSimpArgs false
set_option linter.unusedVariables false
set_option linter.unusedSectionVars false
namespace Go.Proofs.YtpjkohpiikcegaaDoor.PDescKinds
open Go.RowKit Go.Ev
theorem own_base {w : World} {b b' e z n : Nat} {v : Value} {xs : List Value} (h : w.ownsRow b e z v n xs) (hb : b' ≤ b) : w.ownsRow b' e z v n xs := by
  refine ⟨h.1, ?_⟩
  rcases h.2 with h | ⟨g, cap, cur, h1, h2, h3⟩
  · exact .inl h
  · exact .inr ⟨g, cap, cur, h1, Nat.le_trans hb h2, h3⟩
namespace Btw
end Btw
end Go.Proofs.YtpjkohpiikcegaaDoor.PDescKinds
end
section
/- invariant.Diff runs, of two moments of one length. -/
set_option linter.unusedSimpArgs false
set_option linter.unusedVariables false
set_option linter.unusedSectionVars false
namespace Go.Proofs.YtpjkohpiikcegaaDoor.PDescKinds
open Go.RowKit Go.Ev
theorem put_all (a : Act) (N d : Nat) (v : Value) (hs : a.tmps.size = N) (hd : d < N) : (a.put (some d) v).tmps.size = N ∧ (a.put (some d) v).defers = a.defers ∧ (a.put (some d) v).tmps.getD d undef = v ∧ ∀ t, d ≠ t → (a.put (some d) v).tmps.getD t undef = a.tmps.getD t undef :=
  ⟨by simp [Act.put, hs], rfl, Copy.put_self a d v (by omega), fun t h => Copy.put_ne a d t v h⟩
theorem wpOp_of {P : Program} {ops : Array Oper} {Q : Exit → Act → World → Prop} {i : Nat} {o : Oper} {K : Act → World → Prop} {a : Act} {w : World} (hi : ops[i]? = some o) (hg : o.guard = none) (h : o.wp P a w K Q) : wpOp P ops Q i K a w := by
  unfold Go.wpOp
  simp only [hi, Region.wanted, hg, if_true]
  exact .inl h
namespace Df
end Df
end Go.Proofs.YtpjkohpiikcegaaDoor.PDescKinds
end
section
/- Operations that only read, taken first where a region draws its order. -/
set_option linter.unusedSimpArgs false
set_option linter.unusedVariables false
set_option linter.unusedSectionVars false
namespace Go.Ev
open Go.RowKit Go.Proofs.YtpjkohpiikcegaaDoor.PDescKinds
variable [XEnv]
/-- The length of a slice that is a plain value. -/
def lenV (P : Program) (b : Builtin) (ts : Array TypeId) (args : List SV) : Option SV :=
  match b with
  | .len => match args with
    | [.val (.slice _ n _)] => match ts[0]? with
      | some t => match pureRun P (underlying t) with
        | some (.slice _) => some (.val (.int .i64 n))
        | _ => none
      | none => none
    | _ => none
  | _ => none
/-- What an operation that only reads yields. -/
def evP (P : Program) (ρ : Operand → SV) (o : Oper) : Option SV :=
  match o.op with
  | .move x => bif (ρ x).known then some (ρ x) else none
  | .assign x => bif (ρ x).known then some (ρ x) else none
  | .load t x => match ρ x with
    | .xp r i off => evLoad P t ⟨t, (XEnv.env r).g i⟩ off
    | _ => none
  | .fieldAddr s x i => match ρ x with
    | .xp r j off => match fieldOff P s i with
      | some d => some (.xp r j (off + d))
      | none => none
    | .val (.pointer (some A)) => match fieldOff P s i with
      | some d => some (.val (.pointer (some (A.add d))))
      | none => none
    | _ => none
  | .nilCheck x => match ρ x with
    | .xp r j off => some (.xp r j off)
    | .val (.pointer (some A)) => some (.val (.pointer (some A)))
    | _ => none
  | .call c => match c.callee with
    | .builtin b => match lenV P b c.argTypes (c.args.toList.map ρ) with
      | some v => some v
      | none => lenOf P b c.argTypes (c.args.toList.map ρ)
    | _ => none
  | .binOp op t x y _ => match ρ x with
    | .val a => match ρ y with
      | .val b => match binV P op t x y a b with
        | some v => some (.val v)
        | none => none
      | _ => none
    | _ => none
  | .indexAddr t x i => match ρ x with
    | .val (.slice (some A) n _) => match ρ i with
      | .val (.int _ j) => match pureRun P (underlying t) with
        | some (.slice elem) => match pureRun P (sizeOf elem) with
          | some size => bif decide (0 ≤ j) && decide (j < n) then some (.val (.pointer (some (A.add (j.toNat * size))))) else none
          | none => none
        | _ => none
      | _ => none
    | _ => idxAddr P t (ρ x) (ρ i)
  | .build _ _ => bif o.op.operands.toList.all (fun x => (ρ x).isVal) && noSelect o.op then
      match pureRun P (execOp (fun x => (ρ x).un) o) with
      | some (.value v) => some (.val v)
      | _ => none
    else none
  | .extract _ _ => bif o.op.operands.toList.all (fun x => (ρ x).isVal) && noSelect o.op then
      match pureRun P (execOp (fun x => (ρ x).un) o) with
      | some (.value v) => some (.val v)
      | _ => none
    else none
  | .unOp _ _ _ => bif o.op.operands.toList.all (fun x => (ρ x).isVal) && noSelect o.op then
      match pureRun P (execOp (fun x => (ρ x).un) o) with
      | some (.value v) => some (.val v)
      | _ => none
    else none
  | _ => none
section
variable {P : Program} {ρ : Operand → SV} {o : Oper} {m : Nat → Nat} {a : Act} {w : World} {v : SV}
theorem evP_run (hX0 : XOk w) (hok : ∀ x, (ρ x).ok fun _ => none) (he : ∀ x, (ρ x).known = true → a.eval x = (ρ x).den m) (h : evP P ρ o = some v) :
    (execOp a.eval o).run P w = .ok (.value (v.den m)) w ∧ v.ok fun _ => none := by
  unfold evP at h
  split at h
  · rename_i x ho
    cases hkn : (ρ x).known with
    | false => rw [hkn] at h; cases h
    | true =>
      rw [hkn] at h
      simp only [cond_true, Option.some.injEq] at h
      subst h
      exact ⟨by unfold execOp; simp only [ho, he x hkn, Sem.run_pure], hok x⟩
  · rename_i x ho
    cases hkn : (ρ x).known with
    | false => rw [hkn] at h; cases h
    | true =>
      rw [hkn] at h
      simp only [cond_true, Option.some.injEq] at h
      subst h
      exact ⟨by unfold execOp; simp only [ho, he x hkn, Sem.run_pure], hok x⟩
  · rename_i t x ho
    split at h
    · rename_i r i off hx
      have hxo : (SV.xp r i off).ok fun _ => none := hx ▸ hok x
      obtain ⟨hl, huok⟩ := xload_sound (P := P) (m := m) (mem := fun _ => none) hX0 (ok_xp.1 hxo) h
      exact ⟨by unfold execOp; simp only [ho, he x (known_of hx rfl), hx, Sem.run_bind, hl, Result.andThen_ok, Sem.run_pure], huok⟩
    · cases h
  · rename_i s x i ho
    split at h
    · rename_i r j off hx
      split at h
      · rename_i d hd
        simp only [Option.some.injEq] at h
        subst h
        have hb : (SV.xp r j off).ok fun _ => none := hx ▸ hok x
        obtain ⟨_, _, ad, hA, _, _⟩ := hX0 r j (ok_xp.1 hb)
        exact ⟨by
          unfold execOp
          simp only [ho, he x (known_of hx rfl), hx, den_xp, hA, Option.map_some, Sem.run_bind, xfield_sound hd, Result.andThen_ok, Sem.run_pure]
          rw [add_add, Nat.add_assoc], ok_xp.2 (ok_xp.1 hb)⟩
      · cases h
    · rename_i A hx
      split at h
      · rename_i d hd
        simp only [Option.some.injEq] at h
        subst h
        exact ⟨by
          unfold execOp
          simp only [ho, he x (known_of hx rfl), hx, den_val, Sem.run_bind, xfield_sound hd, Result.andThen_ok, Sem.run_pure], ok_val _ _⟩
      · cases h
    · cases h
  · rename_i x ho
    split at h
    · rename_i r j off hx
      simp only [Option.some.injEq] at h
      subst h
      have hb : (SV.xp r j off).ok fun _ => none := hx ▸ hok x
      obtain ⟨_, _, ad, hA, _, _⟩ := hX0 r j (ok_xp.1 hb)
      exact ⟨by unfold execOp; simp only [ho, he x (known_of hx rfl), hx, den_xp, hA, Option.map_some, Sem.run_pure], hb⟩
    · rename_i A hx
      simp only [Option.some.injEq] at h
      subst h
      exact ⟨by unfold execOp; simp only [ho, he x (known_of hx rfl), hx, den_val, Sem.run_pure], ok_val _ _⟩
    · cases h
  · rename_i c ho
    split at h
    · rename_i bi hbi
      obtain ⟨cal, ags, ts⟩ := c
      simp only at hbi h
      subst hbi
      split at h
      · rename_i v' hlv
        simp only [Option.some.injEq] at h
        subst h
        unfold lenV at hlv
        split at hlv
        · split at hlv
          · rename_i A n cap hargs
            split at hlv
            case h_2 => cases hlv
            rename_i ty hty
            split at hlv
            case h_2 => cases hlv
            rename_i elem hel
            simp only [Option.some.injEq] at hlv
            subst hlv
            have hmap : ags.map a.eval = #[.slice A n cap] := by
              rw [map_eval (m := m) he (by rw [hargs]; intro x hx; rcases List.mem_singleton.1 hx with rfl; rfl), hargs]
              simp [den_val]
            have : (execOp a.eval o).run P w = .ok (.value (.int .i64 n)) w := by
              unfold execOp
              have h0 : (#[Value.slice A n cap] : Array Value)[0]? = some (.slice A n cap) := rfl
              simp only [ho, resolve, hmap, Sem.run_bind, Sem.run_pure, Result.andThen_ok, invoke, builtin, Builtin.len_, hty, h0, pureRun_run _ hel w]
              rfl
            exact ⟨by rw [den_val]; exact this, ok_val _ _⟩
          · cases hlv
        · cases hlv
      unfold lenOf at h
      split at h
      · split at h
        · rename_i b off n cap hargs
          split at h
          case h_2 => cases h
          split at h
          case h_2 => cases h
          have := args_ok hok (.slc b off n cap) (show SV.slc b off n cap ∈ ags.toList.map ρ by rw [hargs]; simp)
          exact absurd (ok_slc.1 this) (by simp)
        · rename_i r hargs
          split at h
          case h_2 => cases h
          rename_i ty hty
          split at h
          case h_2 => cases h
          rename_i elem hel
          simp only [Option.some.injEq] at h
          subst h
          have hmap : ags.map a.eval = #[.slice (XEnv.env r).A (XEnv.env r).n (XEnv.env r).c] := by
            rw [map_eval (m := m) he (by rw [hargs]; intro x hx; rcases List.mem_singleton.1 hx with rfl; rfl), hargs]
            simp [den_xs]
          have : (execOp a.eval o).run P w = .ok (.value (.int .i64 (XEnv.env r).n)) w := by
            unfold execOp
            have h0 : (#[Value.slice (XEnv.env r).A (XEnv.env r).n (XEnv.env r).c] : Array Value)[0]? = some (.slice (XEnv.env r).A (XEnv.env r).n (XEnv.env r).c) := rfl
            simp only [ho, resolve, hmap, Sem.run_bind, Sem.run_pure, Result.andThen_ok, invoke, builtin, Builtin.len_, hty, h0, pureRun_run _ hel w]
            rfl
          exact ⟨by rw [den_val]; exact this, ok_val _ _⟩
        · cases h
      · cases h
    · cases h
  · rename_i op t x y yt ho
    split at h
    · rename_i p hx
      split at h
      · rename_i q hy
        split at h
        · rename_i u hu
          simp only [Option.some.injEq] at h
          subst h
          have h1 : a.eval x = p := by rw [he x (known_of hx rfl), hx]; exact den_val _ _
          have h2 : a.eval y = q := by rw [he y (known_of hy rfl), hy]; exact den_val _ _
          exact ⟨by unfold execOp; simp only [ho, h1, h2]; rw [Sem.run_bind, binV_run hu w, den_val]; rfl, ok_val _ _⟩
        · cases h
      · cases h
    · cases h
  · rename_i t x i ho
    split at h
    · rename_i A n c hx
      split at h
      · rename_i kk q hi
        split at h
        · rename_i elem hu
          split at h
          · rename_i size hsz
            cases hb : (decide (0 ≤ q) && decide (q < (n : Int))) with
            | false => rw [hb] at h; cases h
            | true =>
              rw [hb] at h
              simp only [cond_true, Option.some.injEq] at h
              subst h
              rw [Bool.and_eq_true, decide_eq_true_eq, decide_eq_true_eq] at hb
              have h1 : a.eval x = .slice (some A) n c := by rw [he x (known_of hx rfl), hx, den_val]
              have h2 : a.eval i = .int kk q := by rw [he i (known_of hi rfl), hi, den_val]
              exact ⟨by
                unfold execOp
                simp only [ho, h1, h2, Instr.indexAt, asIntOf, Sem.run_bind, Sem.run_pure, Result.andThen_ok, pureRun_run _ hu w, if_pos hb, pureRun_run _ hsz w, den_val], ok_val _ _⟩
          · cases h
        · cases h
      · cases h
    · obtain ⟨k1, k2⟩ := idx_known h
      obtain ⟨hl, huok⟩ := idx_sound (P := P) (w := w) (m := m) hX0 h (hok x)
      exact ⟨by unfold execOp; simp only [ho, he x k1, he i k2, Sem.run_bind, hl, Result.andThen_ok, Sem.run_pure], huok⟩
  · rename_i t ps ho
    cases hc : (o.op.operands.toList.all (fun x => (ρ x).isVal) && noSelect o.op) with
    | false => rw [hc] at h; cases h
    | true =>
      rw [hc] at h
      simp only [cond_true] at h
      rw [Bool.and_eq_true] at hc
      have hns : ∀ cs b, o.op ≠ .select cs b := fun cs b hh => by rw [hh] at hc; cases hc.2
      have hev : ∀ x ∈ o.op.operands, a.eval x = (ρ x).un := fun x hx => by
        have := List.all_eq_true.1 hc.1 x (by simpa using hx)
        cases hq : ρ x with
        | val u => rw [he x (known_of hq rfl), hq, den_val]; rfl
        | _ => rw [hq] at this; cases this
      have h2 : execOp (fun x => (ρ x).un) o = execOp a.eval o := execOp_congr o hns fun x hx => (hev x hx).symm
      split at h
      · rename_i u hu
        simp only [Option.some.injEq] at h
        subst h
        rw [h2] at hu
        exact ⟨by rw [den_val]; exact pureRun_run _ hu w, ok_val _ _⟩
      · cases h
  · rename_i _ _ ho
    cases hc : (o.op.operands.toList.all (fun x => (ρ x).isVal) && noSelect o.op) with
    | false => rw [hc] at h; cases h
    | true =>
      rw [hc] at h
      simp only [cond_true] at h
      rw [Bool.and_eq_true] at hc
      have hns : ∀ cs b, o.op ≠ .select cs b := fun cs b hh => by rw [hh] at hc; cases hc.2
      have hev : ∀ x ∈ o.op.operands, a.eval x = (ρ x).un := fun x hx => by
        have := List.all_eq_true.1 hc.1 x (by simpa using hx)
        cases hq : ρ x with
        | val u => rw [he x (known_of hq rfl), hq, den_val]; rfl
        | _ => rw [hq] at this; cases this
      have h2 : execOp (fun x => (ρ x).un) o = execOp a.eval o := execOp_congr o hns fun x hx => (hev x hx).symm
      split at h
      · rename_i u hu
        simp only [Option.some.injEq] at h
        subst h
        rw [h2] at hu
        exact ⟨by rw [den_val]; exact pureRun_run _ hu w, ok_val _ _⟩
      · cases h
  · rename_i _ _ _ ho
    cases hc : (o.op.operands.toList.all (fun x => (ρ x).isVal) && noSelect o.op) with
    | false => rw [hc] at h; cases h
    | true =>
      rw [hc] at h
      simp only [cond_true] at h
      rw [Bool.and_eq_true] at hc
      have hns : ∀ cs b, o.op ≠ .select cs b := fun cs b hh => by rw [hh] at hc; cases hc.2
      have hev : ∀ x ∈ o.op.operands, a.eval x = (ρ x).un := fun x hx => by
        have := List.all_eq_true.1 hc.1 x (by simpa using hx)
        cases hq : ρ x with
        | val u => rw [he x (known_of hq rfl), hq, den_val]; rfl
        | _ => rw [hq] at this; cases this
      have h2 : execOp (fun x => (ρ x).un) o = execOp a.eval o := execOp_congr o hns fun x hx => (hev x hx).symm
      split at h
      · rename_i u hu
        simp only [Option.some.injEq] at h
        subst h
        rw [h2] at hu
        exact ⟨by rw [den_val]; exact pureRun_run _ hu w, ok_val _ _⟩
      · cases h
  · cases h
end
/-- Operations taken first, one behind the other. -/
def takes (P : Program) (ops : Array Oper) (N : Nat) : List Nat → (Nat → SV) → Array Bool → Option ((Nat → SV) × Array Bool)
  | [], t, l => some (t, l)
  | i :: r, t, l => match ops[i]? with
    | some o => bif o.guard.isNone && (Region.free .any ops l i && ((Region.ready .any ops l).contains i && dstOk N o.dst)) then
        match evP P (look t) o with
        | some v => takes P ops N r (putS t o.dst v) (l.setIfInBounds i true)
        | none => none
      else none
    | none => none
section
variable {P : Program} {ops : Array Oper} {N : Nat} {m : Nat → Nat} {S : World → Prop} {Q : Act → World → Prop}
/-- What must come behind a region, with nothing said of how it might die. -/
abbrev onlyN (Q : Act → World → Prop) : Exit → Act → World → Prop := fun e a w => match e with | .normal => Q a w | _ => False
theorem takes_sound (hS : ∀ w, S w → XOk w) (hns : Region.noSelect ops = true) : ∀ (is : List Nat) (t t' : Nat → SV) (l l' : Array Bool) (fuel : Nat) (a : Act) (w : World), takes P ops N is t l = some (t', l') → AR N m t (fun _ => none) a → S w →
    (∀ a', AR N m t' (fun _ => none) a' → wpAnyH P .any ops (onlyN Q) S fuel l' a' w) → wpAnyH P .any ops (onlyN Q) S (is.length + fuel) l a w
  | [], t, t', l, l', fuel, a, w, h, har, hSw, k => by
    simp only [takes, Option.some.injEq, Prod.mk.injEq] at h
    obtain ⟨rfl, rfl⟩ := h
    simpa using k a har
  | i :: r, t, t', l, l', fuel, a, w, h, har, hSw, k => by
    unfold takes at h
    split at h
    · rename_i o ho
      cases hc : (o.guard.isNone && (Region.free .any ops l i && ((Region.ready .any ops l).contains i && dstOk N o.dst))) with
      | false => rw [hc] at h; cases h
      | true =>
        rw [hc] at h
        simp only [cond_true] at h
        simp only [Bool.and_eq_true] at hc
        obtain ⟨hg, hf, hr, hd⟩ := hc
        split at h
        · rename_i v hv
          have hgn : o.guard = none := by simpa using hg
          have hy : YieldsIf P ops S o (v.den m) a := .inl ⟨by simp [Region.wanted, hgn], fun w' hw' => (evP_run (m := m) (hS w' hw') (fun x => har.look_ok x) (fun x hk => har.eval x hk) hv).1⟩
          have hvok := (evP_run (m := m) (hS w hSw) (fun x => har.look_ok x) (fun x hk => har.eval x hk) hv).2
          rw [show (i :: r).length + fuel = (r.length + fuel) + 1 by simp only [List.length_cons]; omega]
          refine wpAnyH_take ho hns hf hr (fun c a w h => h.elim) hy hSw ?_
          exact takes_sound hS hns r _ t' _ l' fuel _ w h (har.put (Agree.refl _ _) (Grows.refl _) hd hvok) hSw k
        · cases h
    · cases h
end
/-- Operations that only read, one behind the other. -/
def reads (P : Program) (N : Nat) : List Oper → (Nat → SV) → Option (Nat → SV)
  | [], t => some t
  | o :: r, t => if o.guard.isNone && dstOk N o.dst then
      match evP P (look t) o with
      | some v => reads P N r (putS t o.dst v)
      | none => none
    else none
section
variable {P : Program} {N : Nat} {m : Nat → Nat} {Q : Exit → Act → World → Prop}
theorem reads_sound {os : Array Oper} {rest : List Oper} : ∀ (ops : List Oper) (t t' : Nat → SV) (a : Act) (w : World), XOk w → reads P N ops t = some t' → AR N m t (fun _ => none) a →
    (∀ a', AR N m t' (fun _ => none) a' → wpList P os Q rest a' w) → wpList P os Q (ops ++ rest) a w
  | [], t, t', a, w, _, h, har, k => by
    simp only [reads, Option.some.injEq] at h
    subst h
    exact k a har
  | o :: r, t, t', a, w, hX, h, har, k => by
    unfold reads at h
    cases hc : (o.guard.isNone && dstOk N o.dst) with
    | false => rw [hc] at h; cases h
    | true =>
      rw [hc] at h
      simp only [if_true] at h
      rw [Bool.and_eq_true] at hc
      obtain ⟨hg, hd⟩ := hc
      split at h
      · rename_i v hv
        obtain ⟨hr, hvok⟩ := evP_run (m := m) (w := w) hX (fun x => har.look_ok x) (fun x hk => har.eval x hk) hv
        show wpList P os Q (o :: (r ++ rest)) a w
        refine wpList_plain (by simpa using hg) fun K hK => ?_
        unfold Oper.wp
        rw [hr, Oper.upon_value]
        exact hK _ _ (reads_sound r _ t' _ w hX h (har.put (Agree.refl _ _) (Grows.refl _) hd hvok) k)
      · cases h
end
end Go.Ev
end
section
/- Own rows: a store into a member; own moments. -/
set_option linter.unusedSimpArgs false
set_option linter.unusedVariables false
set_option linter.unusedSectionVars false
namespace Go.Proofs.YtpjkohpiikcegaaDoor.PDescKinds
open Go.RowKit Go.Ev
/-- A list with some members of it put anew. -/
def splice {α : Type} (l : List α) (o : Nat) (cs : List α) : List α := l.take o ++ cs ++ l.drop (o + cs.length)
theorem splice_len {α : Type} (l : List α) (o : Nat) (cs : List α) (h : o + cs.length ≤ l.length) : (splice l o cs).length = l.length := by
  simp [splice]
  omega
theorem splice_at {α : Type} (l : List α) (o : Nat) (cs : List α) (h : o + cs.length ≤ l.length) (j : Nat) : (splice l o cs)[j]? = if j < o then l[j]? else if j < o + cs.length then cs[j - o]? else l[j]? := by
  unfold splice
  by_cases h1 : j < o
  · rw [if_pos h1, List.append_assoc, List.getElem?_append_left (by rw [List.length_take]; omega), List.getElem?_take, if_pos h1]
  · rw [if_neg h1]
    by_cases h2 : j < o + cs.length
    · rw [if_pos h2, List.getElem?_append_left (by rw [List.length_append, List.length_take]; omega), List.getElem?_append_right (by rw [List.length_take]; omega), List.length_take]
      congr 1
      omega
    · rw [if_neg h2, List.getElem?_append_right (by rw [List.length_append, List.length_take]; omega), List.length_append, List.length_take, List.getElem?_drop]
      congr 1
      omega
theorem splice_take {α : Type} (l : List α) (o : Nat) (cs : List α) (m : Nat) (h : o + cs.length ≤ m) (hm : m ≤ l.length) : (splice l o cs).take m = splice (l.take m) o cs := by
  have hl : (l.take m).length = m := by rw [List.length_take]; omega
  apply List.ext_getElem?
  intro j
  rw [List.getElem?_take, splice_at _ _ _ (by omega), splice_at _ _ _ (by omega), List.getElem?_take]
  by_cases h1 : j < m
  · simp only [if_pos h1]
  · simp only [if_neg h1]
    rw [if_neg (by omega), if_neg (by omega)]
def fput {α : Type} (f : Nat → α) (t : Nat) (x : α) : Nat → α := fun j => if j = t then x else f j
theorem splice_flat {f : Nat → List Value} {z n t o : Nat} {cs : List Value} (hz : ∀ t, (f t).length = z) (ht : t < n) (ho : o + cs.length ≤ z) :
    splice ((List.range n).flatMap f) (t * z + o) cs = (List.range n).flatMap (fput f t (splice (f t) o cs)) := by
  have hz' : ∀ j, (fput f t (splice (f t) o cs) j).length = z := fun j => by
    unfold fput
    split
    · rw [splice_len _ _ _ (by rw [hz]; exact ho), hz]
    · exact hz j
  have hb : (t + 1) * z ≤ n * z := Nat.mul_le_mul_right z ht
  rw [Nat.add_mul, Nat.one_mul] at hb
  have hl : t * z + o + cs.length ≤ ((List.range n).flatMap f).length := by rw [flat_len hz]; omega
  apply List.ext_getElem?
  intro j
  cases hq : ((List.range n).flatMap (fput f t (splice (f t) o cs)))[j]? with
  | none =>
    rw [List.getElem?_eq_none_iff, flat_len hz'] at hq
    rw [List.getElem?_eq_none_iff, splice_len _ _ _ hl, flat_len hz]
    exact hq
  | some u =>
    obtain ⟨q, r, q1, rfl, q3⟩ := flat_out hz' n j u hq
    have hr : r < z := by rw [← hz' q]; exact (List.getElem?_eq_some_iff.1 q3).1
    rw [splice_at _ _ _ hl]
    by_cases e : q = t
    · subst e
      simp only [fput, if_pos] at q3
      rw [splice_at _ _ _ (by rw [hz]; exact ho)] at q3
      by_cases h1 : r < o
      · rw [if_pos h1] at q3
        rw [if_pos (by omega)]
        exact flat_in hz n q r u q1 q3
      · rw [if_neg h1] at q3
        rw [if_neg (by omega)]
        by_cases h2 : r < o + cs.length
        · rw [if_pos h2] at q3
          rw [if_pos (by omega), ← q3]
          congr 1
          omega
        · rw [if_neg h2] at q3
          rw [if_neg (by omega)]
          exact flat_in hz n q r u q1 q3
    · simp only [fput, if_neg e] at q3
      have hin := flat_in hz n q r u q1 q3
      rcases Nat.lt_or_gt_of_ne e with hlt | hgt
      · have : (q + 1) * z ≤ t * z := Nat.mul_le_mul_right z hlt
        rw [Nat.add_mul, Nat.one_mul] at this
        rw [if_pos (by omega)]
        exact hin
      · have : (t + 1) * z ≤ q * z := Nat.mul_le_mul_right z hgt
        rw [Nat.add_mul, Nat.one_mul] at this
        rw [if_neg (by omega), if_neg (by omega)]
        exact hin
theorem own_splice {w : World} {B e z n c g : Nat} {f : Nat → List Value} (h : w.ownsRow B e z (.slice (some ⟨g, 0, none⟩) n c) n ((List.range n).flatMap f)) (hz : ∀ t, (f t).length = z) {P : Program} {ty : TypeId} {t o : Nat} {x : Value} (ht : t < n)
    (hs : pureRun P (sizeOf ty) = some x.cells.size) (ho : o + x.cells.size ≤ z) (h1 : ∀ u ∈ x.cells.toList, u.oneCell' = true) :
    ∃ w', (Instr.storeAt ty (.pointer (some ⟨g, t * z + o, none⟩)) x).run P w = .ok () w' ∧ w'.ownsRow B e z (.slice (some ⟨g, 0, none⟩) n c) n ((List.range n).flatMap (fput f t (splice (f t) o x.cells.toList))) ∧ w.grownBy w' (some g) := by
  letI : XEnv := ⟨fun _ => ⟨none, 0, 0, 0, fun _ => []⟩⟩
  have hlen : x.cells.toList.length = x.cells.size := Array.length_toList
  have hb : (t + 1) * z ≤ n * z := Nat.mul_le_mul_right z ht
  rw [Nat.add_mul, Nat.one_mul] at hb
  rcases h.2 with ⟨e, _⟩ | ⟨g', cap, cur, e, h2, h3, h4, h5, h6, h7⟩
  · cases e
  simp only [Value.slice.injEq, Option.some.injEq, Addr.mk.injEq, and_true, true_and] at e
  obtain ⟨rfl, rfl⟩ := e
  have hcap : n * z ≤ c * z := Nat.mul_le_mul_right z h4
  have hcl : cur.toList.length = c * z := by rw [Array.length_toList]; exact h6
  have hev : evStore P ty ⟨e, cur.toList.map SV.val⟩ (t * z + o) (.val x) = some ⟨e, (splice cur.toList (t * z + o) x.cells.toList).map SV.val⟩ := by
    unfold evStore
    rw [hs]
    have c1 : Nat.beq (SV.val x).cells.length x.cells.size = true := by
      simp only [SV.cells, List.length_map, Array.length_toList]
      exact Nat.beq_refl _
    have c2 : Nat.ble (t * z + o + x.cells.size) (cur.toList.map SV.val).length = true := by
      rw [List.length_map, hcl]
      exact Nat.ble_eq_true_of_le (by omega)
    have c3 : (SV.val x).cells.all SV.one = true := by
      simp only [SV.cells, List.all_map, List.all_eq_true]
      exact fun u hu => h1 u hu
    simp only [c1, c2, c3, Bool.and_self, cond_true]
    simp only [SV.cells]
    unfold splice
    rw [List.map_append, List.map_append, List.map_take, List.map_drop, hlen]
  have hden : ∀ l : List Value, ((l.map SV.val).map (SV.den fun _ => 0)) = l := fun l => by
    rw [List.map_map, show (SV.den (fun _ => 0) ∘ SV.val) = _root_.id from funext fun v => den_val _ v, List.map_id]
  obtain ⟨hr, _, _⟩ := store_sound (P := P) (w := w) (m := fun _ => 0) (mem := fun _ => none) (g := g) (k := ⟨e, cur.toList.map SV.val⟩) hev (by rw [hden]; exact h3) (fun s hs => by
    obtain ⟨u, _, rfl⟩ := List.mem_map.1 hs
    exact ok_val _ _) (ok_val _ _)
  rw [den_val, hden] at hr
  refine ⟨_, hr, ⟨?_, .inr ⟨g, c, _, rfl, h2, setRow_heap _ _ _ _ _ _ h3, h4, h5, ?_, ?_⟩⟩, ⟨rfl, rfl, rfl, by simp [World.setRow], fun k _ hk => setRow_other _ _ _ _ (fun e => hk (by rw [e]))⟩⟩
  · refine flat_len (fun j => ?_) n
    unfold fput
    split
    · rw [splice_len _ _ _ (by rw [hz, hlen]; exact ho), hz]
    · exact hz j
  · show (splice cur.toList (t * z + o) x.cells.toList).toArray.size = _
    rw [List.size_toArray, splice_len _ _ _ (by rw [hlen, hcl]; omega), hcl]
  · rw [← splice_flat hz ht (by rw [hlen]; exact ho), ← h7]
    show (splice cur.toList (t * z + o) x.cells.toList).take (n * z) = _
    exact splice_take _ _ _ _ (by rw [hlen]; omega) (by rw [hcl]; exact hcap)
end Go.Proofs.YtpjkohpiikcegaaDoor.PDescKinds
end
section
/- Own moments: what may be done with them. -/
set_option linter.unusedSimpArgs false
set_option linter.unusedVariables false
set_option linter.unusedSectionVars false
namespace Go.Proofs.YtpjkohpiikcegaaDoor.PDescKinds
open Go.RowKit Go.Ev
/-- An append to an own row: where the row stands behind it. -/
theorem append_fresh {P : Program} (w : World) (base : Nat) (t ty e : TypeId) (i : TypeInfo) (z : Value) (size bytes : Nat) (ht : P.underlying t = some (.slice e)) (hi : P.info? e = some i) (hz : i.zero = some z)
    (hsize : i.size = size) (hby : i.bytes = bytes) (hzs : z.cells.size = size) (hsz : 0 < size) (v : Value) (n : Nat) (xs : List Value) (hown : w.ownsRow base e size v n xs)
    (a : Addr) (m c : Nat) (news : List Value) (hl : news.length = m * size) (hnews : ∀ j u, news[j]? = some u → w.cell? (a.add j) = some u) (h1 : ∀ u ∈ news, u.oneCell' = true)
    (h63 : n + m ≤ maxLen) (hbytes : (n + m) * bytes ≤ 140737488355328) (hbase : base ≤ w.heap.size) :
    ∃ v' w', (Builtin.append_ #[t, t] ty #[v, .slice (some a) m c]).run P w = .ok v' w' ∧ w'.ownsRow base e size v' (n + m) (xs ++ news) ∧ w.grownBy w' v.ownBlock ∧
      (v'.ownBlock = v.ownBlock ∨ ∃ g, v'.ownBlock = some g ∧ w.heap.size ≤ g) := by
  obtain ⟨v', w', hr, h2, h3, h4⟩ := run_append_own w base t ty e i z size bytes ht hi hz hsize hby hzs hsz v n xs hown a m c news hl hnews h1 h63 hbytes hbase
  refine ⟨v', w', hr, h2, h3, ?_⟩
  have hsmall : n + m ≤ 9223372036854775807 := by simp only [maxLen] at h63; omega
  subst hsize hby
  rcases hown.2 with ⟨rfl, rfl⟩ | ⟨g, cap, cur, rfl, hbg, hg, hnc, hcm, hcs, htake⟩
  · by_cases hm : m = 0
    · left; rw [h4.2 ⟨rfl, hm⟩]
    · right
      have := run_append_nil (P := P) w t ty e i z ht hi hz a m c news hl hnews (by omega) (by omega) (by have hb := hbytes; simp only [Nat.zero_add] at hb; omega)
      rw [this] at hr
      cases hr
      exact ⟨_, rfl, Nat.le_refl _⟩
  · by_cases hroom : n + m ≤ cap
    · left
      have hfit : n * i.size + news.length ≤ cur.size := by rw [hl, hcs, ← Nat.add_mul]; exact Nat.mul_le_mul_right _ hroom
      have := run_append_room (P := P) w t ty e i ht hi g n cap cur hg a m c news hl hnews h1 hroom hfit
      rw [this] at hr
      cases hr
      rfl
    · right
      have := run_append_grow (P := P) w t ty e i z ht hi hz ⟨g, 0, none⟩ n cap xs hown.1 (hown.cells (g := g) rfl) a m c news hl hnews (by omega) (by omega) (growslice_fits (by omega) hbytes)
      rw [this] at hr
      cases hr
      exact ⟨_, rfl, Nat.le_refl _⟩
theorem wp_append_fresh {P : Program} {w : World} {o : Oper} {a : Act} {K : Act → World → Prop} {Q : Exit → Act → World → Prop} (s x : Operand) (t : TypeId)
    (ho : o.op = .call { callee := .builtin .append, args := #[s, x], argTypes := #[t, t] })
    (base : Nat) (e : TypeId) (i : TypeInfo) (z : Value) (size bytes : Nat) (ht : P.underlying t = some (.slice e)) (hi : P.info? e = some i) (hz : i.zero = some z)
    (hsize : i.size = size) (hby : i.bytes = bytes) (hzs : z.cells.size = size) (hsz : 0 < size)
    (v : Value) (n : Nat) (xs : List Value) (hs : a.eval s = v) (hown : w.ownsRow base e size v n xs)
    (ad : Addr) (m c : Nat) (news : List Value) (hx : a.eval x = .slice (some ad) m c) (hl : news.length = m * size) (hnews : ∀ j u, news[j]? = some u → w.cell? (ad.add j) = some u) (h1 : ∀ u ∈ news, u.oneCell' = true)
    (h63 : n + m ≤ maxLen) (hbytes : (n + m) * bytes ≤ 140737488355328) (hbase : base ≤ w.heap.size)
    (h : ∀ v' w', w'.ownsRow base e size v' (n + m) (xs ++ news) → w.grownBy w' v.ownBlock → (v'.ownBlock = v.ownBlock ∨ ∃ g, v'.ownBlock = some g ∧ w.heap.size ≤ g) → K (a.put o.dst v') w') : o.wp P a w K Q := by
  obtain ⟨v', w', hr, h2, h3, h4⟩ := append_fresh (P := P) w base t o.type e i z size bytes ht hi hz hsize hby hzs hsz v n xs hown ad m c news hl hnews h1 h63 hbytes hbase
  have hex : (execOp a.eval o).run P w = .ok (.value v') w' := by
    unfold execOp
    simp only [ho, resolve, invoke, builtin, Sem.run_bind, Sem.run_pure, Result.andThen_ok, List.map_toArray, List.map_cons, List.map_nil, hs, hx, hr]
  unfold Oper.wp
  rw [hex, Oper.upon_value]
  exact h v' w' h2 h3 h4
/-! Own moments -/
theorem row_slice {w : World} {b e z n : Nat} {A : Option Addr} {c : Nat} {xs : List Value} (h : w.ownsRow b e z (.slice A n c) n xs) : A = none ∧ n = 0 ∧ c = 0 ∨ ∃ g, A = some ⟨g, 0, none⟩ ∧ b ≤ g ∧ g < w.heap.size := by
  rcases h.2 with ⟨e, h0⟩ | ⟨g, cap, cur, e, h1, h2, _⟩
  · cases e
    exact .inl ⟨rfl, rfl, rfl⟩
  · cases e
    exact .inr ⟨g, rfl, h1, (Array.getElem?_eq_some_iff.1 h2).1⟩
theorem own_at {w : World} {b e z n g c : Nat} {f : Nat → List Value} (hz : ∀ t, (f t).length = z) (h : w.ownsRow b e z (.slice (some ⟨g, 0, none⟩) n c) n ((List.range n).flatMap f)) {t : Nat} (ht : t < n) (k : Nat) (u : Value) (hk : (f t)[k]? = some u) : w.cell? ((⟨g, 0, none⟩ : Addr).add (t * z + k)) = some u :=
  h.cells (g := g) rfl _ _ (flat_in hz n t k u ht hk)
section
end
end Go.Proofs.YtpjkohpiikcegaaDoor.PDescKinds
end
section
/- slices.Delete of one property. -/
set_option linter.unusedSimpArgs false
set_option linter.unusedVariables false
set_option linter.unusedSectionVars false
namespace Go.Proofs.YtpjkohpiikcegaaDoor.PDescKinds
open Go.RowKit Go.Lib
open Go.Ev (add_none)
end Go.Proofs.YtpjkohpiikcegaaDoor.PDescKinds
end
section
/- InvariantBroken, plain: what the program answers of two moments is what the document says. -/
set_option linter.unusedSimpArgs false
set_option linter.unusedVariables false
set_option linter.unusedSectionVars false
namespace Go.Proofs.YtpjkohpiikcegaaDoor.PDescKinds
open Go.RowKit Go.Ev FloatEq
namespace R
end R
/-! Moments whose numbers are numbers -/
theorem bytes_refl (a : ByteArray) : (a == a) = true := by
  cases a with | mk d =>
  show ByteArray.beq ⟨d⟩ ⟨d⟩ = true
  unfold ByteArray.beq
  simp
end Go.Proofs.YtpjkohpiikcegaaDoor.PDescKinds
end
section
/- InvariantGoes, plain: Broken of two moments is transitive. -/
set_option linter.unusedSimpArgs false
set_option linter.unusedVariables false
set_option linter.unusedSectionVars false
namespace Go.Proofs.YtpjkohpiikcegaaDoor.PDescKinds
open Go.RowKit Go.Ev FloatEq
/-! Two loops, one within the other -/
/-! Keys -/
/-! Values -/
/-! Descriptors -/
/-! Shapes -/
end Go.Proofs.YtpjkohpiikcegaaDoor.PDescKinds
end
section
/- Pieces that read, then a store; moments as_ lists of lists. -/
set_option linter.unusedSimpArgs false
set_option linter.unusedVariables false
set_option linter.unusedSectionVars false
namespace Go.Ev
open Go.RowKit Go.Proofs.YtpjkohpiikcegaaDoor.PDescKinds
section
variable [XEnv] {P : Program} {N : Nat} {m : Nat → Nat} {Q : Exit → Act → World → Prop}
theorem ar_of {a : Act} (w : World) {ts : List (Nat × SV)} (hs : a.tmps.size = N) (hd : a.defers = []) (h : ∀ p ∈ ts, a.tmps.getD p.1 undef = p.2.den m) (hok : ∀ p ∈ ts, p.2.ok fun _ => none) : AR N m (pickT ts) (fun _ => none) a :=
  (epoch (w := w) hs hd ts m h hok).ar
theorem ar_get {a : Act} {t : Nat → SV} {mem : Mem} (h : AR N m t mem a) {i : Nat} {s : SV} (e : t i = s) (hk : s.known = true) : a.tmps.getD i undef = s.den m := by
  rw [← e] at hk ⊢
  exact h.tm i hk
theorem ar_eval {a : Act} {t : Nat → SV} {mem : Mem} (h : AR N m t mem a) {i : Nat} {v : Value} (e : t i = .val v) : a.eval (.tmp i) = v := (ar_get h e rfl).trans (den_val _ _)
theorem wpList_reads {os : Array Oper} {l rest : List Oper} {ns : List Nat} {vs : List SV} {t : Nat → SV} {a : Act} {w : World} (hX : XOk w) (hev : (reads P N l t).map (fun t => ns.map t) = some vs) (har : AR N m t (fun _ => none) a)
    (k : ∀ a' t', AR N m t' (fun _ => none) a' → ns.map t' = vs → wpList P os Q rest a' w) : wpList P os Q (l ++ rest) a w := by
  obtain ⟨t', h1, h2⟩ := Option.map_eq_some_iff.1 hev
  exact reads_sound l _ t' a w hX h1 har fun a' h => k a' t' h h2
theorem region_reads {id : Nat} {ops : Array Oper} {ns : List Nat} {vs : List SV} {t : Nat → SV} {a : Act} {w : World} (hX : XOk w) (hev : (reads P N ops.toList t).map (fun t => ns.map t) = some vs) (har : AR N m t (fun _ => none) a)
    (k : ∀ a' t', AR N m t' (fun _ => none) a' → ns.map t' = vs → Q .normal a' w) : (Code.region id ops false).wp P Q a w := by
  refine wp_region_list ?_
  rw [← List.append_nil ops.toList]
  exact wpList_reads hX hev har k
theorem store_run {a : Act} {w w' : World} {o : Oper} {t : TypeId} {x y : Operand} {p v : Value} (ho : o.op = .store t x y) (hx : a.eval x = p) (hy : a.eval y = v) (h : (Instr.storeAt t p v).run P w = .ok () w') : (execOp a.eval o).run P w = .ok .skip w' := by
  unfold execOp
  simp only [ho, hx, hy, Sem.run_bind, h, Result.andThen_ok, Sem.run_pure]
/-- A store, last of a region. -/
theorem wpList_store {os : Array Oper} {o : Oper} {a : Act} {w w' : World} {t : TypeId} {x y : Operand} {p v : Value} (ho : o.op = .store t x y) (hg : o.guard = none) (hd : o.dst = none) (hx : a.eval x = p) (hy : a.eval y = v)
    (h : (Instr.storeAt t p v).run P w = .ok () w') (k : Q .normal a w') : wpList P os Q [o] a w := by
  refine wpList_plain hg fun K hK => ?_
  unfold Oper.wp
  rw [store_run ho hx hy h, Oper.upon_skip, hd]
  exact hK _ _ k
theorem takes_cut {ops : Array Oper} {S : World → Prop} {Q : Act → World → Prop} (hS : ∀ w, S w → XOk w) (hns : Region.noSelect ops = true) {is : List Nat} {t : Nat → SV} {l l' : Array Bool} {ns : List Nat} {vs : List SV} {fuel : Nat} {a : Act} {w : World}
    (h : (takes P ops N is t l).map (fun p => (ns.map p.1, p.2)) = some (vs, l')) (har : AR N m t (fun _ => none) a) (hw : S w)
    (k : ∀ a' t', AR N m t' (fun _ => none) a' → ns.map t' = vs → wpAnyH P .any ops (onlyN Q) S fuel l' a' w) : wpAnyH P .any ops (onlyN Q) S (is.length + fuel) l a w := by
  obtain ⟨⟨t', l2⟩, h1, h2⟩ := Option.map_eq_some_iff.1 h
  simp only [Prod.mk.injEq] at h2
  obtain ⟨h2, rfl⟩ := h2
  exact takes_sound hS hns is t t' l l2 fuel a w h1 har hw fun a' har' => k a' t' har' h2
end
end Go.Ev
namespace Go.Proofs.YtpjkohpiikcegaaDoor.PDescKinds
open Go.RowKit Go.Ev
namespace L
end L
namespace S
end S
end Go.Proofs.YtpjkohpiikcegaaDoor.PDescKinds
end
end
section
/- Parts of the proof, joined (3). -/
section
/- invariant.apply: its pieces, by computing. -/
set_option linter.unusedSimpArgs false
set_option linter.unusedVariables false
set_option linter.unusedSectionVars false
namespace Go.Proofs.YtpjkohpiikcegaaDoor.PDescKinds
open Go.RowKit Go.Ev
/-- A box, and a shape, as_ rows. -/
@[instance_reducible] def rowsX (bA : Option Addr) (b : List SV) (sA : Option Addr) (s : List SV) : XEnv := ⟨fun r => match r with
  | [] => ⟨bA, b.length, 1, 1, fun _ => b⟩
  | _ :: _ => ⟨sA, s.length, 1, 1, fun _ => s⟩⟩
/-- No rows. -/
@[instance_reducible] def row0 : XEnv := ⟨fun _ => ⟨none, 0, 0, 0, fun _ => []⟩⟩
theorem xok_0 (w : World) : @XOk row0 w := fun r j hj => absurd hj (Nat.not_lt_zero _)
namespace Ap
noncomputable def ap : List Code := bodyOf Tryd.f16
noncomputable def l0 : List Code := flat (inB (ap.getD 8 .skip))
noncomputable def l1 : List Code := flat (elseOf (l0.getD 1 .skip))
noncomputable def l2 : List Code := flat (elseOf (l1.getD 1 .skip))
noncomputable def l3 : List Code := flat (elseOf (l2.getD 1 .skip))
noncomputable def t3 : List Code := flat (thenOf (l3.getD 1 .skip))
set_option maxRecDepth 100000
end Ap
end Go.Proofs.YtpjkohpiikcegaaDoor.PDescKinds
end
section
/- invariant.apply: tools for its regions. -/
set_option linter.unusedSimpArgs false
set_option linter.unusedVariables false
set_option linter.unusedSectionVars false
namespace Go.Proofs.YtpjkohpiikcegaaDoor.PDescKinds
open Go.RowKit Go.Ev
theorem then_nil {P : Program} {Q : Exit → Act → World → Prop} : Exit.then (wpL P [] Q) Q = Q := by
  funext e a w
  cases e <;> rfl
theorem below_grown {B g : Nat} {w w' : World} (hB : B ≤ w.heap.size) (hg : w.grownBy w' (some g)) (h : B ≤ g) : Below B w w' :=
  ⟨hg.os, hg.tape, hg.output, hg.size, fun k hk => hg.block k (Nat.lt_of_lt_of_le hk hB) (fun e => by
    simp only [Option.some.injEq] at e
    omega)⟩
theorem below_own {B e z n : Nat} {v : Value} {xs : List Value} {w w' : World} (hB : B ≤ w.heap.size) (h : w.ownsRow B e z v n xs) (hg : w.grownBy w' v.ownBlock) : Below B w w' :=
  ⟨hg.os, hg.tape, hg.output, hg.size, fun k hk => hg.block k (Nat.lt_of_lt_of_le hk hB) (fun e => by
    have := (h.lt k e.symm).1
    omega)⟩
theorem below_drew (B : Nat) (w : World) : Below B w { w with drawn := w.drawn + 1 } := ⟨rfl, rfl, rfl, Nat.le_refl _, fun _ _ => rfl⟩
/-- A region that draws. -/
theorem region_drawn {id : Nat} {ops : Array Oper} {Q : Exit → Act → World → Prop} (S : World → Prop) {a : Act} {w : World}
    (h : wpAnyH Tryd.prog .any ops (onlyN fun a w => Q .normal a w) S ops.size (Array.replicate ops.size false) a { w with drawn := w.drawn + 1 }) : (Code.region id ops true).wp Tryd.prog Q a w :=
  wp_mono (wp_region_held mixed h) fun e a w h => by cases e <;> first | exact h | exact h.elim
theorem xrow_val {w : World} {A : Addr} {l : List Value} (hA : A.block < w.heap.size) (h : ∀ k u, l[k]? = some u → w.cell? (A.add k) = some u) (e : XEnv) : @XRow e w ⟨some A, (l.map SV.val).length, 1, 1, fun _ => l.map SV.val⟩ := by
  intro j hj
  have hj : j < 1 := hj
  obtain rfl : j = 0 := by omega
  refine ⟨rfl, fun s hs mem => ?_, A, rfl, hA, fun k s hk m => ?_⟩
  · obtain ⟨u, _, rfl⟩ := List.mem_map.1 hs
    exact ok_val _ _
  · have hk : (l.map SV.val)[k]? = some s := hk
    rw [List.getElem?_map] at hk
    obtain ⟨u, hu, rfl⟩ := Option.map_eq_some_iff.1 hk
    rw [show 0 * (l.map SV.val).length + k = k by omega, den_val]
    exact h k u hu
theorem xok_X {w : World} {bA sA : Option Addr} {b s : List SV} (h1 : ∀ e, @XRow e w ⟨bA, b.length, 1, 1, fun _ => b⟩) (h2 : ∀ e, @XRow e w ⟨sA, s.length, 1, 1, fun _ => s⟩) : @XOk (rowsX bA b sA s) w := by
  intro r
  cases r with
  | nil => exact h1 _
  | cons x r => exact h2 _
/-- An own slice of one, out of a value. -/
theorem build1 {o : Oper} {a : Act} {w : World} {N : Nat} {K : Act → World → Prop} {Q : Exit → Act → World → Prop} {t : Nat → SV} {ty : TypeId} {l : List Value} (har : @AR row0 N (fun _ => 0) t (fun _ => none) a)
    (hev : @evOp row0 Tryd.prog ext (fun _ _ _ _ => none) (Ev.look t) (fun _ => none) 0 o = some (.slc 0 0 1 1, .new ⟨ty, l.map SV.val⟩))
    (k : ∀ g w', Below w.heap.size w w' → w.heap.size ≤ g → w'.heap[g]? = some (.cells l.toArray ty (0, 0)) → K (a.put o.dst (.slice (some ⟨g, 0, none⟩) 1 1)) w') : o.wp Tryd.prog a w K Q := by
  letI := row0
  refine op_sound (I := fun _ => True) (w0 := w) ext_sound trivial (fun _ _ _ _ => trivial) (fun w _ => xok_0 w) (fun f args mem id v m' n hc => by cases hc) hev (fun _ => rfl) (fun ⟨m, n, he⟩ => by cases he) (fun x => har.look_ok x) (fun x hk => har.eval x hk) (MR.start w fun _ => 0) fun m' w' h1 h2 h3 h4 h5 => ?_
  obtain ⟨b1, b2, b3⟩ := h2.blk 0 ⟨ty, l.map SV.val⟩ (by simp [Eff.mem, upd])
  rw [den_slc]
  refine k (m' 0) w' h2.below b1 ?_
  rw [b2, List.map_map, show (SV.den m' ∘ SV.val) = _root_.id from funext fun v => den_val _ v, List.map_id]
namespace Ap
/-- Where apply stands behind its head. -/
structure At (v0 A3 A6 : Value) (i w : Int) (a : Act) : Prop where
  size : a.tmps.size = 114
  defers : a.defers = []
  t0 : a.tmps.getD 0 undef = v0
  t3 : a.tmps.getD 3 undef = A3
  t6 : a.tmps.getD 6 undef = A6
  t7 : a.tmps.getD 7 undef = .int .i64 i
  t49 : a.tmps.getD 49 undef = .int .i64 w
section
variable {v0 A3 A6 : Value} {i what : Int} {a : Act} {w : World} {Q : Exit → Act → World → Prop}
abbrev TS (v0 A3 A6 : Value) (i w : Int) : List (Nat × SV) := [(0, .val v0), (3, .val A3), (6, .val A6), (7, .val (.int .i64 i)), (49, .val (.int .i64 w))]
theorem At.ar (h : At v0 A3 A6 i what a) (w : World) : @AR row0 114 (fun _ => 0) (pickT (TS v0 A3 A6 i what)) (fun _ => none) a := by
  letI := row0
  refine ar_of w h.size h.defers (fun p hp => ?_) (fun p hp => ?_)
  · simp only [List.mem_cons, List.not_mem_nil, or_false] at hp
    rcases hp with rfl | rfl | rfl | rfl | rfl
    · exact h.t0.trans (den_val _ _).symm
    · exact h.t3.trans (den_val _ _).symm
    · exact h.t6.trans (den_val _ _).symm
    · exact h.t7.trans (den_val _ _).symm
    · exact h.t49.trans (den_val _ _).symm
  · simp only [List.mem_cons, List.not_mem_nil, or_false] at hp
    rcases hp with rfl | rfl | rfl | rfl | rfl <;> exact ok_val _ _
end
end Ap
end Go.Proofs.YtpjkohpiikcegaaDoor.PDescKinds
end
section
/- invariant.apply: its stores, and the property that goes. -/
set_option linter.unusedSimpArgs false
set_option linter.unusedVariables false
set_option linter.unusedSectionVars false
namespace Go.Proofs.YtpjkohpiikcegaaDoor.PDescKinds
open Go.RowKit Go.Ev
theorem V.agg_cells (v : V) : v.agg.cells.toList = v.list := by rfl
theorem V.list_one (v : V) : ∀ u ∈ v.list, u.oneCell' = true := by
  intro u hu
  simp only [V.list, List.mem_cons, List.not_mem_nil, or_false] at hu
  rcases hu with rfl | rfl | rfl | rfl | rfl <;> rfl
namespace Ap
section
end
end Ap
end Go.Proofs.YtpjkohpiikcegaaDoor.PDescKinds
end
section
/- invariant.apply: its regions that draw. -/
set_option linter.unusedSimpArgs false
set_option linter.unusedVariables false
set_option linter.unusedSectionVars false
namespace Go.Ev
open Go.RowKit Go.Proofs.YtpjkohpiikcegaaDoor.PDescKinds
section
variable [XEnv] {P : Program} {N : Nat} {m : Nat → Nat}
theorem pickT_zip (t : Nat → SV) (i : Nat) : ∀ ns : List Nat, pickT (ns.zip (ns.map t)) i = .unk ∨ pickT (ns.zip (ns.map t)) i = t i
  | [] => .inl rfl
  | n :: r => by
    simp only [List.map_cons, List.zip_cons_cons, pickT]
    cases hb : Nat.beq i n with
    | true => right; rw [Nat.eq_of_beq_eq_true hb]; rfl
    | false => exact pickT_zip t i r
theorem ar_pick {a : Act} {t : Nat → SV} {ns : List Nat} {vs : List SV} (h : AR N m t (fun _ => none) a) (e : ns.map t = vs) : AR N m (pickT (ns.zip vs)) (fun _ => none) a := by
  subst e
  refine ⟨h.size, h.defers, fun i hi => ?_, fun i => ?_⟩
  · rcases pickT_zip t i ns with e | e
    · rw [e] at hi; cases hi
    · rw [e] at hi ⊢; exact h.tm i hi
  · rcases pickT_zip t i ns with e | e
    · rw [e]; exact ok_unk
    · rw [e]; exact h.ok i
theorem take_one {ops : Array Oper} {S : World → Prop} {Q : Act → World → Prop} (hS : ∀ w, S w → XOk w) (hns : Region.noSelect ops = true) {i : Nat} {o : Oper} {v : SV} {t : Nat → SV} {l : Array Bool} {fuel : Nat} {a : Act} {w : World} (ho : ops[i]? = some o)
    (hc : (o.guard.isNone && (Region.free .any ops l i && ((Region.ready .any ops l).contains i && dstOk N o.dst))) = true) (hv : evP P (Ev.look t) o = some v) (har : AR N m t (fun _ => none) a) (hw : S w)
    (k : ∀ a', AR N m (putS t o.dst v) (fun _ => none) a' → wpAnyH P .any ops (onlyN Q) S fuel (l.setIfInBounds i true) a' w) : wpAnyH P .any ops (onlyN Q) S (fuel + 1) l a w := by
  rw [Nat.add_comm]
  refine takes_sound hS hns [i] t (putS t o.dst v) l (l.setIfInBounds i true) fuel a w ?_ har hw k
  unfold takes
  rw [ho]
  simp only [hc, if_true, hv]
  rfl
end
end Go.Ev
namespace Go.Proofs.YtpjkohpiikcegaaDoor.PDescKinds
open Go.RowKit Go.Ev
namespace Ap
section
end
end Ap
end Go.Proofs.YtpjkohpiikcegaaDoor.PDescKinds
end
section
/- invariant.apply: a property more, an object more. -/
set_option linter.unusedSimpArgs false
set_option linter.unusedVariables false
set_option linter.unusedSectionVars false
namespace Go.Proofs.YtpjkohpiikcegaaDoor.PDescKinds
open Go.RowKit Go.Ev
namespace Ap
theorem ctx0 : @Ctx row0 Tryd.prog ext (tab []) (fun _ => True) := by
  letI := row0
  exact ⟨mixed, ext_sound, fun _ _ _ _ => trivial, fun w _ => xok_0 w, tab_sound entries_nil⟩
section
end
end Ap
end Go.Proofs.YtpjkohpiikcegaaDoor.PDescKinds
end
section
/- invariant.apply: its contract over own moments. -/
set_option linter.unusedSimpArgs false
set_option linter.unusedVariables false
set_option linter.unusedSectionVars false
namespace Go.Proofs.YtpjkohpiikcegaaDoor.PDescKinds
open Go.RowKit Go.Ev
namespace Ap
section
end
end Ap
end Go.Proofs.YtpjkohpiikcegaaDoor.PDescKinds
end
section
/- invariant.apply runs. -/
set_option linter.unusedSimpArgs false
set_option linter.unusedVariables false
set_option linter.unusedSectionVars false
namespace Go.Proofs.YtpjkohpiikcegaaDoor.PDescKinds
open Go.RowKit Go.Ev
namespace Ap
section
theorem wrap_nat {k : Nat} (h : k < 4000000000) : IntKind.i64.wrap (k : Int) = (k : Int) := by
  cases k with
  | zero => rfl
  | succ k =>
    have := wr (n := 5000000000) (i := k) (by omega) (by omega)
    exact this
end
end Ap
end Go.Proofs.YtpjkohpiikcegaaDoor.PDescKinds
end
section
/- slices.Clone of properties; an own shape more. -/
set_option linter.unusedSimpArgs false
set_option linter.unusedVariables false
set_option linter.unusedSectionVars false
namespace Go.Proofs.YtpjkohpiikcegaaDoor.PDescKinds
open Go.RowKit Go.Ev
/-- An empty own slice. -/
theorem build0 {o : Oper} {a : Act} {w : World} {N : Nat} {K : Act → World → Prop} {Q : Exit → Act → World → Prop} {t : Nat → SV} {ty : TypeId} (har : @AR row0 N (fun _ => 0) t (fun _ => none) a)
    (hev : @evOp row0 Tryd.prog ext (fun _ _ _ _ => none) (Ev.look t) (fun _ => none) 0 o = some (.slc 0 0 0 0, .new ⟨ty, []⟩))
    (k : ∀ g w', Below w.heap.size w w' → w.heap.size ≤ g → w'.heap[g]? = some (.cells #[] ty (0, 0)) → K (a.put o.dst (.slice (some ⟨g, 0, none⟩) 0 0)) w') : o.wp Tryd.prog a w K Q := by
  letI := row0
  refine op_sound (I := fun _ => True) (w0 := w) ext_sound trivial (fun _ _ _ _ => trivial) (fun w _ => xok_0 w) (fun f args mem id v m' n hc => by cases hc) hev (fun _ => rfl) (fun ⟨m, n, he⟩ => by cases he) (fun x => har.look_ok x) (fun x hk => har.eval x hk) (MR.start w fun _ => 0) fun m' w' h1 h2 h3 h4 h5 => ?_
  obtain ⟨b1, b2, b3⟩ := h2.blk 0 ⟨ty, []⟩ (by simp [Eff.mem, upd])
  rw [den_slc]
  exact k (m' 0) w' h2.below b1 b2
namespace Clone
end Clone
end Go.Proofs.YtpjkohpiikcegaaDoor.PDescKinds
end
section
/- invariant.Patch: its pieces, by computing. -/
set_option linter.unusedSimpArgs false
set_option linter.unusedVariables false
set_option linter.unusedSectionVars false
namespace Go.Proofs.YtpjkohpiikcegaaDoor.PDescKinds
open Go.RowKit Go.Ev
namespace Pa
set_option maxRecDepth 100000
end Pa
end Go.Proofs.YtpjkohpiikcegaaDoor.PDescKinds
end
section
/- invariant.Patch: the copy. -/
set_option linter.unusedSimpArgs false
set_option linter.unusedVariables false
set_option linter.unusedSectionVars false
namespace Go.Ev
open Go.RowKit Go.Proofs.YtpjkohpiikcegaaDoor.PDescKinds
/-- Is a temporary left alone? -/
def offD (l : List Oper) (t : Nat) : Bool := l.all fun o => match o.dst with
  | some d => !(Nat.beq d t)
  | none => true
def offDs (l : List Oper) (ts : List Nat) : Bool := ts.all (offD l)
section
variable [XEnv] {P : Program} {N : Nat} {m : Nat → Nat} {Q : Exit → Act → World → Prop}
theorem put_off {a : Act} {d : Option Nat} {v : Value} {t : Nat} (h : (match d with | some d => !(Nat.beq d t) | none => true) = true) : (a.put d v).tmps.getD t undef = a.tmps.getD t undef := by
  cases d with
  | none => rfl
  | some d =>
    refine Copy.put_ne a d t v fun e => ?_
    subst e
    simp only [Nat.beq_refl, Bool.not_true] at h
    cases h
theorem reads_off {os : Array Oper} {rest : List Oper} : ∀ (ops : List Oper) (t t' : Nat → SV) (a : Act) (w : World), XOk w → reads P N ops t = some t' → AR N m t (fun _ => none) a →
    (∀ a', AR N m t' (fun _ => none) a' → (∀ i, offD ops i = true → a'.tmps.getD i undef = a.tmps.getD i undef) → wpList P os Q rest a' w) → wpList P os Q (ops ++ rest) a w
  | [], t, t', a, w, _, h, har, k => by
    simp only [reads, Option.some.injEq] at h
    subst h
    exact k a har fun _ _ => rfl
  | o :: r, t, t', a, w, hX, h, har, k => by
    unfold reads at h
    cases hc : (o.guard.isNone && dstOk N o.dst) with
    | false => rw [hc] at h; cases h
    | true =>
      rw [hc] at h
      simp only [if_true] at h
      rw [Bool.and_eq_true] at hc
      obtain ⟨hg, hd⟩ := hc
      split at h
      · rename_i v hv
        obtain ⟨hr, hvok⟩ := evP_run (m := m) (w := w) hX (fun x => har.look_ok x) (fun x hk => har.eval x hk) hv
        show wpList P os Q (o :: (r ++ rest)) a w
        refine wpList_plain (by simpa using hg) fun K hK => ?_
        unfold Oper.wp
        rw [hr, Oper.upon_value]
        refine hK _ _ (reads_off r _ t' _ w hX h (har.put (Agree.refl _ _) (Grows.refl _) hd hvok) fun a' h1 h2 => k a' h1 fun i hi => ?_)
        simp only [offD, List.all_cons, Bool.and_eq_true] at hi
        exact (h2 i hi.2).trans (put_off hi.1)
      · cases h
theorem wpList_readsF {os : Array Oper} {l rest : List Oper} {ns : List Nat} {vs : List SV} {t : Nat → SV} {a : Act} {w : World} (keep : List Nat) (hX : XOk w) (hev : (reads P N l t).map (fun t => ns.map t) = some vs) (hk : offDs l keep = true) (har : AR N m t (fun _ => none) a)
    (k : ∀ a' t', AR N m t' (fun _ => none) a' → ns.map t' = vs → (∀ i ∈ keep, a'.tmps.getD i undef = a.tmps.getD i undef) → wpList P os Q rest a' w) : wpList P os Q (l ++ rest) a w := by
  obtain ⟨t', h1, h2⟩ := Option.map_eq_some_iff.1 hev
  exact reads_off l _ t' a w hX h1 har fun a' h h' => k a' t' h h2 fun i hi => h' i (List.all_eq_true.1 hk i hi)
theorem region_readsF {id : Nat} {ops : Array Oper} {ns : List Nat} {vs : List SV} {t : Nat → SV} {a : Act} {w : World} (keep : List Nat) (hX : XOk w) (hev : (reads P N ops.toList t).map (fun t => ns.map t) = some vs) (hk : offDs ops.toList keep = true) (har : AR N m t (fun _ => none) a)
    (k : ∀ a' t', AR N m t' (fun _ => none) a' → ns.map t' = vs → (∀ i ∈ keep, a'.tmps.getD i undef = a.tmps.getD i undef) → Q .normal a' w) : (Code.region id ops false).wp P Q a w := by
  refine wp_region_list ?_
  rw [← List.append_nil ops.toList]
  exact wpList_readsF keep hX hev hk har k
end
end Go.Ev
namespace Go.Proofs.YtpjkohpiikcegaaDoor.PDescKinds
open Go.RowKit Go.Ev
namespace Pa
theorem ar_vals {N : Nat} {a : Act} {ts : List (Nat × Value)} (w : World) (hs : a.tmps.size = N) (hd : a.defers = []) (h : ∀ p ∈ ts, a.tmps.getD p.1 undef = p.2) : @AR row0 N (fun _ => 0) (pickT (ts.map fun p => (p.1, .val p.2))) (fun _ => none) a := by
  letI := row0
  refine ar_of w hs hd (fun p hp => ?_) (fun p hp => ?_)
  · obtain ⟨q, hq, rfl⟩ := List.mem_map.1 hp
    exact (h q hq).trans (den_val _ _).symm
  · obtain ⟨q, hq, rfl⟩ := List.mem_map.1 hp
    exact ok_val _ _
section
end
end Pa
end Go.Proofs.YtpjkohpiikcegaaDoor.PDescKinds
end
section
/- invariant.Patch: the copy's loop. -/
set_option linter.unusedSimpArgs false
set_option linter.unusedVariables false
set_option linter.unusedSectionVars false
namespace Go.Proofs.YtpjkohpiikcegaaDoor.PDescKinds
open Go.RowKit Go.Ev
namespace Pa
section
end
end Pa
end Go.Proofs.YtpjkohpiikcegaaDoor.PDescKinds
end
section
/- invariant.Patch runs. -/
set_option linter.unusedSimpArgs false
set_option linter.unusedVariables false
set_option linter.unusedSectionVars false
namespace Go.Proofs.YtpjkohpiikcegaaDoor.PDescKinds
open Go.RowKit Go.Ev
namespace L
end L
namespace Pa
section
end
end Pa
end Go.Proofs.YtpjkohpiikcegaaDoor.PDescKinds
end
section
/- invariant.Patch: its contract. -/
set_option linter.unusedSimpArgs false
set_option linter.unusedVariables false
set_option linter.unusedSectionVars false
namespace Go.Proofs.YtpjkohpiikcegaaDoor.PDescKinds
open Go.RowKit Go.Ev
namespace Pa
section
end
end Pa
end Go.Proofs.YtpjkohpiikcegaaDoor.PDescKinds
end
section
/- There and back, in plain lists: what Diff tells makes the one moment of the other. -/
set_option linter.unusedSimpArgs false
set_option linter.unusedVariables false
set_option linter.unusedSectionVars false
namespace Go.Proofs.YtpjkohpiikcegaaDoor.PDescKinds
open Go.RowKit Go.Ev
/-! Sublists -/
/-! Keys -/
namespace L
end L
/-! What was kept -/
section
end
end Go.Proofs.YtpjkohpiikcegaaDoor.PDescKinds
end
section
/- There and back: moments. -/
set_option linter.unusedSimpArgs false
set_option linter.unusedVariables false
set_option linter.unusedSectionVars false
namespace Go.Proofs.YtpjkohpiikcegaaDoor.PDescKinds
open Go.RowKit Go.Ev
/-! Keys that stand once -/
namespace L
end L
section
end
/-! How much there is -/
end Go.Proofs.YtpjkohpiikcegaaDoor.PDescKinds
end
section
/- InvariantBack: the law runs. -/
set_option linter.unusedSimpArgs false
set_option linter.unusedVariables false
set_option linter.unusedSectionVars false
namespace Go.Proofs.YtpjkohpiikcegaaDoor.PDescKinds
open Go.RowKit Go.Ev
/-- A call of two arguments, of which two results are taken. -/
theorem pairR {id N f m1 m2 tp d1 d2 : Nat} {ops : Array Oper} {ats : Array TypeId} {ts : List (Nat × Value)} {v1 v2 : Value} {a : Act} {w : World} {R : Ending → World → Prop} {Q : Exit → Act → World → Prop} (keep : List Nat)
    (hsp : ops.toList = ops.toList.take 2 ++ (ops.toList.getD 2 default :: (ops.toList.drop 3 ++ []))) (hop : (ops.toList.getD 2 default).op = .call { callee := .value (.func f), args := #[.tmp m1, .tmp m2], argTypes := ats })
    (hgd : (ops.toList.getD 2 default).guard = none) (hdst : (ops.toList.getD 2 default).dst = some tp) (hen : enters Tryd.prog f = true) (htp : tp < N) (htk : ∀ t ∈ keep, tp ≠ t)
    (hr1 : letI := row0; (reads Tryd.prog N (ops.toList.take 2) (pickT (ts.map fun p => (p.1, .val p.2)))).map (fun t => [m1, m2].map t) = some [.val v1, .val v2])
    (hr2 : ∀ x y, letI := row0; (reads Tryd.prog N (ops.toList.drop 3) (pickT [(tp, .val (.tuple #[x, y]))])).map (fun t => [d1, d2].map t) = some [.val x, .val y])
    (ho1 : offDs (ops.toList.take 2) keep = true) (ho2 : offDs (ops.toList.drop 3) keep = true)
    (hs : a.tmps.size = N) (hd : a.defers = []) (hts : ∀ p ∈ ts, a.tmps.getD p.1 undef = p.2) (hc : Calls Tryd.prog f #[v1, v2] w R)
    (hQ : ∀ e w', R e w' → ∃ x y, e = .returned (.tuple #[x, y]) ∧ ∀ a', a'.tmps.size = N → a'.defers = [] → (∀ t ∈ keep, a'.tmps.getD t undef = a.tmps.getD t undef) → a'.tmps.getD d1 undef = x → a'.tmps.getD d2 undef = y → Q .normal a' w') :
    (Code.region id ops false).wp Tryd.prog Q a w := by
  letI := row0
  refine wp_region_list ?_
  rw [hsp]
  refine wpList_readsF keep (xok_0 w) hr1 ho1 (Pa.ar_vals w hs hd hts) fun a1 t1 har1 e hk1 => ?_
  simp only [List.map_cons, List.map_nil, List.cons.injEq, and_true] at e
  obtain ⟨e1, e2⟩ := e
  have q1 : a1.eval (.tmp m1) = v1 := ar_eval har1 e1
  have q2 : a1.eval (.tmp m2) = v2 := ar_eval har1 e2
  have hrun : (execOp a1.eval (ops.toList.getD 2 default)).run Tryd.prog w = .ok (.enter f #[v1, v2]) w := by
    rw [← run_enters (P := Tryd.prog) (f := f) hen]
    have em : (#[Operand.tmp m1, .tmp m2] : Array Operand).map a1.eval = #[v1, v2] := by
      simp only [List.map_toArray, List.map_cons, List.map_nil, q1, q2]
    unfold execOp
    simp only [hop, resolve, em, Act.eval, Deferred.ofValue, Sem.run_bind, Sem.run_pure, Result.andThen_ok, invoke]
    simp
  refine wpList_plain hgd fun K hK => ?_
  unfold Oper.wp
  rw [hrun, Oper.upon_enter]
  refine Calls.mono hc fun e w4 hR => ?_
  obtain ⟨x, y, he, hq⟩ := hQ e w4 hR
  subst he
  refine hK _ _ ?_
  rw [hdst]
  obtain ⟨s4, f4, x4, r4⟩ := put_all a1 N tp (.tuple #[x, y]) har1.size htp
  generalize hA4 : a1.put (some tp) (.tuple #[x, y]) = a4 at s4 f4 x4 r4 ⊢
  refine wpList_readsF keep (xok_0 w4) (hr2 x y) ho2 (Pa.ar_vals (ts := [(tp, .tuple #[x, y])]) w4 s4 (f4.trans har1.defers) (fun p hp => by
    obtain rfl := List.mem_singleton.1 hp
    exact x4)) fun a5 t5 har5 e hk5 => ?_
  simp only [List.map_cons, List.map_nil, List.cons.injEq, and_true] at e
  obtain ⟨e5, e6⟩ := e
  exact hq a5 har5.size har5.defers (fun t ht => ((hk5 t ht).trans (r4 t (htk t ht))).trans (hk1 t ht)) (ar_eval har5 e5) (ar_eval har5 e6)
namespace Bk
set_option maxRecDepth 100000
section
end
end Bk
end Go.Proofs.YtpjkohpiikcegaaDoor.PDescKinds
end
end
section
/- The seat of InvariantPatches: what the ported texts lack. -/
set_option linter.unusedSimpArgs false
set_option linter.unusedVariables false
set_option linter.unusedSectionVars false
namespace Go.Proofs.YtpjkohpiikcegaaDoor.PDescKinds
open Go.RowKit Go.Ev
end Go.Proofs.YtpjkohpiikcegaaDoor.PDescKinds
end
section
/- cameoref10.Patch: a shape goes back where it was taken from. -/
set_option linter.unusedSimpArgs false
set_option linter.unusedVariables false
set_option linter.unusedSectionVars false
namespace Go.Proofs.YtpjkohpiikcegaaDoor.PDescKinds
open Go.RowKit Go.Ev
theorem pickT_cons {t : Nat} {p : Nat × SV} {r : List (Nat × SV)} (h : t ≠ p.1) : pickT (p :: r) t = pickT r t := by
  simp only [pickT]
  cases hb : Nat.beq t p.1 with
  | true => exact absurd (Nat.eq_of_beq_eq_true hb) h
  | false => rfl
theorem pickT_head {p : Nat × SV} {r : List (Nat × SV)} : pickT (p :: r) p.1 = p.2 := by
  simp only [pickT, Nat.beq_refl, cond_true]
namespace RP
section
end
end RP
end Go.Proofs.YtpjkohpiikcegaaDoor.PDescKinds
end
section
-- PRINTED BY print.sh 35421559b90ae4d0a3588c463048766b98c2df88dd9212a6774a882060cdf62d: not written by this session
/-
  PRINTED WORDS, second file: A REGION THAT DRAWS ITS ORDER, WALKED BY HAND, where its last store writes what its own loads read ('x.f = append(x.f, f(i))'). Plain theorems; no macro, no elab. A claim may hold it (turn the namespace's name).
  A load may be taken first in every world that meets S; behind the operations of ds nothing is shown; sound because each of ds waits for what is taken (Region.lastB). The kernel checks it.
  By an AI agent of Go's test side, Mon Nov 16 2026. No person has read it.
-/
namespace Go.Proofs.YtpjkohpiikcegaaDoorV.PrintLast
section
variable {P : Program} {ops : Array Oper} {Q : Exit → Act → World → Prop} {md : Region.Mode} {S : World → Prop} {ds : List Nat}
/-- Operation d waits for operation i, by a chain of at most 'fuel' edges. -/
def Region.reachB (md : Region.Mode) (ops : Array Oper) (i : Nat) : Nat → Nat → Bool
  | 0, _ => false
  | fuel + 1, d => match ops[d]? with
    | some o => o.after.any fun e => Region.binds md e && (e.on == i || Region.reachB md ops i fuel e.on)
    | none => false
/-- What is listed is closed under the edges. -/
def Region.closedB (md : Region.Mode) (ops : Array Oper) (listed : Array Bool) : Bool :=
  (List.range ops.size).all fun j => !listed.getD j false || match ops[j]? with
    | some o => o.after.all fun e => !Region.binds md e || listed.getD e.on false
    | none => true
/-- Each of ds that has not come up yet waits for number i. -/
def Region.lastB (md : Region.Mode) (ops : Array Oper) (listed : Array Bool) (ds : List Nat) (i : Nat) : Bool :=
  ds.all fun d => listed.getD d true || Region.reachB md ops i ops.size d
def ListedClosed (md : Region.Mode) (ops : Array Oper) (listed : Array Bool) : Prop :=
  ∀ j oj, ops[j]? = some oj → listed.getD j false = true → ∀ e ∈ oj.after, Region.binds md e = true → listed.getD e.on false = true
theorem Region.closedB_spec {listed : Array Bool} (h : Region.closedB md ops listed = true) : ListedClosed md ops listed := by
  intro j oj hj hl e he hb
  have hlt : j < ops.size := (Array.getElem?_eq_some_iff.1 hj).1
  have h1 := List.all_eq_true.1 h j (List.mem_range.2 hlt)
  simp only [hl, hj, Bool.not_true, Bool.false_or] at h1
  have h2 := Array.all_eq_true_iff_forall_mem.1 h1 e he
  simpa [hb] using h2
theorem ListedClosed.set {listed : Array Bool} {i : Nat} (h : ListedClosed md ops listed) (hi : i ∈ Region.ready md ops listed) : ListedClosed md ops (listed.setIfInBounds i true) := by
  obtain ⟨_, oi, hoi, hall⟩ := mem_ready.1 hi
  intro j oj hj hl e he hb
  by_cases hij : i = j
  · subst hij
    have : oj = oi := Option.some.inj (hj.symm.trans hoi)
    subst this
    exact getD_set_true (hall e he hb)
  · rw [getD_set_ne false hij] at hl
    exact getD_set_true (h j oj hj hl e he hb)
theorem Region.reach_listed {listed : Array Bool} {i : Nat} (hc : ListedClosed md ops listed) : ∀ (fuel d : Nat), Region.reachB md ops i fuel d = true → listed.getD d false = true → listed.getD i false = true
  | 0, _, h, _ => by simp [Region.reachB] at h
  | fuel + 1, d, h, hl => by
    unfold Region.reachB at h
    cases ho : ops[d]? with
    | none => rw [ho] at h; simp at h
    | some o =>
      rw [ho] at h
      obtain ⟨e, he, h1⟩ := Array.any_eq_true'.1 h
      simp only [Bool.and_eq_true, Bool.or_eq_true, beq_iff_eq] at h1
      have hle := hc d o ho hl e he h1.1
      rcases h1.2 with h2 | h2
      · rw [← h2]; exact hle
      · exact Region.reach_listed hc fuel e.on h2 hle
/-- What waits for i cannot come up before i is listed. -/
theorem Region.reach_not_ready {listed : Array Bool} {i d fuel : Nat} (hc : ListedClosed md ops listed) (hr : Region.reachB md ops i fuel d = true) (hun : listed.getD i true = false) : d ∉ Region.ready md ops listed := by
  intro hd
  obtain ⟨_, o, ho, hall⟩ := mem_ready.1 hd
  have hi : listed.getD i false = true := by
    cases fuel with
    | zero => simp [Region.reachB] at hr
    | succ n =>
      unfold Region.reachB at hr
      rw [ho] at hr
      obtain ⟨e, he, h1⟩ := Array.any_eq_true'.1 hr
      simp only [Bool.and_eq_true, Bool.or_eq_true, beq_iff_eq] at h1
      have hle := hall e he h1.1
      rcases h1.2 with h2 | h2
      · rw [← h2]; exact hle
      · exact Region.reach_listed hc n e.on h2 hle
  rcases Nat.lt_or_ge i listed.size with h' | h'
  · simp [h'] at hun hi
    rw [hun] at hi
    cases hi
  · simp [Array.getElem?_eq_none h'] at hun
/-- Whatever order is picked from here on, AND 'S' HOLDS BEHIND EVERY OPERATION THAT IS CARRIED OUT, those of ds apart. -/
def wpAnyLast (P : Program) (md : Region.Mode) (ops : Array Oper) (Q : Exit → Act → World → Prop) (S : World → Prop) (ds : List Nat) : Nat → Array Bool → Act → World → Prop
  | 0, listed, a, w => Region.ready md ops listed = [] ∧ Q .normal a w
  | fuel + 1, listed, a, w =>
    (Region.ready md ops listed = [] → Q .normal a w) ∧
    ∀ i ∈ Region.ready md ops listed, wpOp P ops Q i (fun a' w' => (i ∉ ds → S w → S w') ∧ wpAnyLast P md ops Q S ds fuel (listed.setIfInBounds i true) a' w') a w
theorem wpAny_of_last : ∀ (fuel : Nat) (listed : Array Bool) (a : Act) (w : World), wpAnyLast P md ops Q S ds fuel listed a w → wpAny P md ops Q fuel listed a w
  | 0, _, _, _, h => h
  | fuel + 1, _, _, _, h => ⟨h.1, fun i hi => wpOp_mono (fun a' w' h' => wpAny_of_last fuel _ a' w' h'.2) (h.2 i hi)⟩
theorem wpAnyLast_first {i : Nat} {oi : Oper} {v : Value} (hi : ops[i]? = some oi) (hsel : ∀ (j : Nat) (o : Oper) cs b, ops[j]? = some o → o.op ≠ .select cs b)
    (hQ : ∀ c a w, Q (.panic c) (a.put oi.dst v) w → Q (.panic c) a w) (n : Nat) :
    ∀ (fuel : Nat) (listed : Array Bool) (a : Act) (w : World),
      (∀ j oj, ops[j]? = some oj → j ≠ i → listed.getD j true = false → (∀ e ∈ oj.after, Region.binds md e = true → e.on ≠ i) → oi.apart ops oj = true) →
      ListedClosed md ops listed → (∀ d ∈ ds, listed.getD d true = false → Region.reachB md ops i n d = true) →
      i ∈ Region.ready md ops listed → YieldsIf P ops S oi v a → S w →
      wpAnyLast P md ops Q S ds fuel (listed.setIfInBounds i true) (a.put oi.dst v) w → wpAnyLast P md ops Q S ds (fuel + 1) listed a w := by
  intro fuel
  induction fuel with
  | zero =>
    intro listed a w _ _ _ hr hy hS H
    refine ⟨fun h => (by rw [h] at hr; cases hr), fun j hj => ?_⟩
    by_cases hji : j = i
    · subst hji; exact hy.wpOp hi hS ⟨fun _ h => h, H⟩
    · have := ready_mono hj hji
      rw [H.1] at this
      cases this
  | succ fuel ih =>
    intro listed a w hfree hc hd hr hy hS H
    refine ⟨fun h => (by rw [h] at hr; cases hr), fun j hj => ?_⟩
    by_cases hji : j = i
    · subst hji; exact hy.wpOp hi hS ⟨fun _ h => h, H⟩
    · have h1 := H.2 j (ready_mono hj hji)
      obtain ⟨hjun, oj, hoj, hall⟩ := mem_ready.1 hj
      have hiun := (mem_ready.1 hr).1
      have hnot : ∀ e ∈ oj.after, Region.binds md e = true → e.on ≠ i := fun e he hb heq => by
        have h1 := hall e he hb
        rw [heq] at h1
        rcases Nat.lt_or_ge i listed.size with h' | h'
        · simp [h'] at hiun h1; rw [hiun] at h1; cases h1
        · simp [Array.getElem?_eq_none h'] at h1
      have hjd : j ∉ ds := fun hm => Region.reach_not_ready hc (hd j hm hjun) hiun hj
      have h2 := wpOp_putIf hoj (hfree j oj hoj hji hjun hnot) (fun cs b => hsel i oi cs b hi) (fun cs b => hsel j oj cs b hoj) hQ hy h1
      have hfree' : ∀ k ok, ops[k]? = some ok → k ≠ i → (listed.setIfInBounds j true).getD k true = false →
          (∀ e ∈ ok.after, Region.binds md e = true → e.on ≠ i) → oi.apart ops ok = true := fun k ok hk hki hun hno => by
        refine hfree k ok hk hki ?_ hno
        by_cases hjk : j = k
        · subst hjk; exact hjun
        · rw [getD_set_ne true hjk] at hun; exact hun
      have hd' : ∀ d ∈ ds, (listed.setIfInBounds j true).getD d true = false → Region.reachB md ops i n d = true := fun d hm hun => by
        refine hd d hm ?_
        by_cases hjk : j = d
        · subst hjk; exact hjun
        · rw [getD_set_ne true hjk] at hun; exact hun
      refine wpOp_mono (fun a' w' h3 => ⟨h3.2.1, ih (listed.setIfInBounds j true) a' w' hfree' (hc.set hj) hd' (ready_mono hr (Ne.symm hji)) h3.1 (h3.2.1 hjd hS) ?_⟩) h2
      rw [Array.setIfInBounds_comm _ _ hji]
      exact h3.2.2
/-- Take number 'i' first. -/
theorem wpAnyLast_take {i : Nat} {oi : Oper} {v : Value} {fuel : Nat} {listed : Array Bool} {a : Act} {w : World} (hi : ops[i]? = some oi)
    (hs : Region.noSelect ops = true) (hf : Region.free md ops listed i = true) (hr : (Region.ready md ops listed).contains i = true)
    (hc : Region.closedB md ops listed = true) (hl : Region.lastB md ops listed ds i = true)
    (hQ : ∀ c a w, Q (.panic c) (a.put oi.dst v) w → Q (.panic c) a w) (hy : YieldsIf P ops S oi v a) (hS : S w)
    (h : wpAnyLast P md ops Q S ds fuel (listed.setIfInBounds i true) (a.put oi.dst v) w) : wpAnyLast P md ops Q S ds (fuel + 1) listed a w :=
  wpAnyLast_first hi (Region.noSelect_spec hs) hQ ops.size fuel listed a w (Region.free_spec hi hf) (Region.closedB_spec hc)
    (fun d hm hun => by have := List.all_eq_true.1 hl d hm; rw [hun] at this; simpa using this) (by simpa using hr) hy hS h
theorem wp_region_last {id : Nat} {a : Act} {w : World} (hm : P.follows .mixedOrders = true)
    (h : wpAnyLast P .any ops Q S ds ops.size (Array.replicate ops.size false) a { w with drawn := w.drawn + 1 }) : (Code.region id ops true).wp P Q a w :=
  wp_region_any hm (wpAny_of_last _ _ _ _ h)
end
section
variable {P : Program} {ops : Array Oper} {Q : Exit → Act → World → Prop} {md : Region.Mode} {S : World → Prop} {ds : List Nat}
/-! ### Several operations that write or call may come up: each order is walked, what follows is shown once (join_) -/
end
end Go.Proofs.YtpjkohpiikcegaaDoorV.PrintLast
end
section
/- Tools for regions that draw and whose last store writes what their loads read; slices of own rows. -/
set_option linter.unusedSimpArgs false
set_option linter.unusedVariables false
set_option linter.unusedSectionVars false
namespace Go.Ev
open Go.RowKit Go.Proofs.YtpjkohpiikcegaaDoorV.PrintLast Go.Proofs.YtpjkohpiikcegaaDoor.PDescKinds
section
variable [XEnv] {P : Program} {ops : Array Oper} {N : Nat} {m : Nat → Nat} {S : World → Prop} {Q : Act → World → Prop} {ds : List Nat}
/-- Operations taken first, one behind the other. -/
def takesL (P : Program) (ops : Array Oper) (ds : List Nat) (N : Nat) : List Nat → (Nat → SV) → Array Bool → Option ((Nat → SV) × Array Bool)
  | [], t, l => some (t, l)
  | i :: r, t, l => match ops[i]? with
    | some o => bif o.guard.isNone && ((Region.free .any ops l i && (Region.ready .any ops l).contains i) && ((Go.Proofs.YtpjkohpiikcegaaDoorV.PrintLast.Region.closedB .any ops l && Go.Proofs.YtpjkohpiikcegaaDoorV.PrintLast.Region.lastB .any ops l ds i) && dstOk N o.dst)) then
        match evP P (look t) o with
        | some v => takesL P ops ds N r (putS t o.dst v) (l.setIfInBounds i true)
        | none => none
      else none
    | none => none
theorem takesL_sound (hS : ∀ w, S w → XOk w) (hns : Region.noSelect ops = true) : ∀ (is : List Nat) (t t' : Nat → SV) (l l' : Array Bool) (fuel : Nat) (a : Act) (w : World), takesL P ops ds N is t l = some (t', l') → AR N m t (fun _ => none) a → S w →
    (∀ a', AR N m t' (fun _ => none) a' → wpAnyLast P .any ops (onlyN Q) S ds fuel l' a' w) → wpAnyLast P .any ops (onlyN Q) S ds (is.length + fuel) l a w
  | [], t, t', l, l', fuel, a, w, h, har, hSw, k => by
    simp only [takesL, Option.some.injEq, Prod.mk.injEq] at h
    obtain ⟨rfl, rfl⟩ := h
    simpa using k a har
  | i :: r, t, t', l, l', fuel, a, w, h, har, hSw, k => by
    unfold takesL at h
    split at h
    · rename_i o ho
      cases hc : (o.guard.isNone && ((Region.free .any ops l i && (Region.ready .any ops l).contains i) && ((Go.Proofs.YtpjkohpiikcegaaDoorV.PrintLast.Region.closedB .any ops l && Go.Proofs.YtpjkohpiikcegaaDoorV.PrintLast.Region.lastB .any ops l ds i) && dstOk N o.dst))) with
      | false => rw [hc] at h; cases h
      | true =>
        rw [hc] at h
        simp only [cond_true] at h
        simp only [Bool.and_eq_true] at hc
        obtain ⟨hg, ⟨hf, hr⟩, ⟨hcl, hla⟩, hd⟩ := hc
        split at h
        · rename_i v hv
          have hgn : o.guard = none := by simpa using hg
          have hy : YieldsIf P ops S o (v.den m) a := .inl ⟨by simp [Region.wanted, hgn], fun w' hw' => (evP_run (m := m) (hS w' hw') (fun x => har.look_ok x) (fun x hk => har.eval x hk) hv).1⟩
          have hvok := (evP_run (m := m) (hS w hSw) (fun x => har.look_ok x) (fun x hk => har.eval x hk) hv).2
          rw [show (i :: r).length + fuel = (r.length + fuel) + 1 by simp only [List.length_cons]; omega]
          refine wpAnyLast_take ho hns hf hr hcl hla (fun c a w h => h.elim) hy hSw ?_
          exact takesL_sound hS hns r _ t' _ l' fuel _ w h (har.put (Agree.refl _ _) (Grows.refl _) hd hvok) hSw k
        · cases h
    · cases h
theorem takesL_cut (hS : ∀ w, S w → XOk w) (hns : Region.noSelect ops = true) {is : List Nat} {t : Nat → SV} {l l' : Array Bool} {ns : List Nat} {vs : List SV} {fuel : Nat} {a : Act} {w : World}
    (h : (takesL P ops ds N is t l).map (fun p => (ns.map p.1, p.2)) = some (vs, l')) (har : AR N m t (fun _ => none) a) (hw : S w)
    (k : ∀ a' t', AR N m t' (fun _ => none) a' → ns.map t' = vs → wpAnyLast P .any ops (onlyN Q) S ds fuel l' a' w) : wpAnyLast P .any ops (onlyN Q) S ds (is.length + fuel) l a w := by
  obtain ⟨⟨t', l2⟩, h1, h2⟩ := Option.map_eq_some_iff.1 h
  simp only [Prod.mk.injEq] at h2
  obtain ⟨h2, rfl⟩ := h2
  exact takesL_sound hS hns is t t' l l2 fuel a w h1 har hw fun a' har' => k a' t' har' h2
end
end Go.Ev
namespace Go.Proofs.YtpjkohpiikcegaaDoor.PDescKinds
open Go.RowKit Go.Ev Go.Proofs.YtpjkohpiikcegaaDoorV.PrintLast
/-- A region that draws, over its last stores. -/
theorem region_last {id : Nat} {ops : Array Oper} {Q : Exit → Act → World → Prop} (S : World → Prop) (ds : List Nat) {a : Act} {w : World}
    (h : wpAnyLast Tryd.prog .any ops (onlyN fun a w => Q .normal a w) S ds ops.size (Array.replicate ops.size false) a { w with drawn := w.drawn + 1 }) : (Code.region id ops true).wp Tryd.prog Q a w :=
  wp_mono (wp_region_last mixed h) fun e a w h => by cases e <;> first | exact h | exact h.elim
/-- What an act holds. -/
structure Kp (N : Nat) (ts : List (Nat × Value)) (a : Act) : Prop where
  size : a.tmps.size = N
  defers : a.defers = []
  vals : ∀ p ∈ ts, a.tmps.getD p.1 undef = p.2
section
variable {N : Nat} {ts us : List (Nat × Value)} {a : Act} {w w1 : World} {Q : Exit → Act → World → Prop}
theorem Kp.put (h : Kp N ts a) {d : Nat} {v : Value} (hd : (decide (d < N) && ts.all fun p => d != p.1) = true) : Kp N ((d, v) :: ts) (a.put (some d) v) := by
  simp only [Bool.and_eq_true, decide_eq_true_eq, List.all_eq_true, bne_iff_ne] at hd
  obtain ⟨h1, h2, h3, h4⟩ := put_all a N d v h.size hd.1
  refine ⟨h1, h2.trans h.defers, fun p hp => ?_⟩
  rcases List.mem_cons.1 hp with rfl | hp
  · exact h3
  · exact (h4 p.1 (hd.2 p hp)).trans (h.vals p hp)
theorem Kp.get (h : Kp N ts a) {d : Nat} {v : Value} (hm : (d, v) ∈ ts) : a.eval (.tmp d) = v := h.vals _ hm
theorem Kp.sub (h : Kp N ts a) (hs : ∀ p ∈ us, p ∈ ts) : Kp N us a := ⟨h.size, h.defers, fun p hp => h.vals p (hs p hp)⟩
theorem Kp.join (h : Kp N ts a) (h2 : Kp N us a) : Kp N (ts ++ us) a := ⟨h.size, h.defers, fun p hp => (List.mem_append.1 hp).elim (h.vals p) (h2.vals p)⟩
theorem Kp.moved {a' : Act} (h : Kp N ts a) (hs : a'.tmps.size = N) (hd : a'.defers = []) (hk : ∀ p ∈ ts, a'.tmps.getD p.1 undef = a.tmps.getD p.1 undef) : Kp N ts a' := ⟨hs, hd, fun p hp => (hk p hp).trans (h.vals p hp)⟩
theorem Kp.ar [XEnv] {m : Nat → Nat} {ss : List (Nat × SV)} (h : Kp N ts a) (w : World) (hs : ∀ p ∈ ss, (p.1, p.2.den m) ∈ ts ∧ p.2.ok fun _ => none) : AR N m (pickT ss) (fun _ => none) a :=
  ar_of w h.size h.defers (fun p hp => h.vals (p.1, p.2.den m) (hs p hp).1) fun p hp => (hs p hp).2
end
/-- One operation that yields. -/
theorem wpList_val {os : Array Oper} {rest : List Oper} {o : Oper} {a : Act} {w : World} {Q : Exit → Act → World → Prop} {v : Value} (hg : o.guard = none) (hr : (execOp a.eval o).run Tryd.prog w = .ok (.value v) w) (k : wpList Tryd.prog os Q rest (a.put o.dst v) w) : wpList Tryd.prog os Q (o :: rest) a w := by
  refine wpList_plain hg fun K hK => ?_
  unfold Oper.wp
  rw [hr, Oper.upon_value]
  exact hK _ _ k
theorem run_sl_h {o : Oper} {a : Act} {w : World} {t x y : Nat} {A : Option Addr} {n c j s : Nat} (ho : o.op = .slice t (.tmp x) none (some (.tmp y)) none) (ht : Tryd.prog.underlying t = some (.slice (Tryd.prog.elem t))) (hz : pureRun Tryd.prog (sizeOf (Tryd.prog.elem t)) = some s)
    (hx : a.eval (.tmp x) = .slice A n c) (hy : a.eval (.tmp y) = .int .i64 (j : Int)) (hj : j ≤ c) : (execOp a.eval o).run Tryd.prog w = .ok (.value (sliced A 0 j c s)) w := by
  have hs := pureRun_run _ hz w
  unfold execOp
  simp only [ho, Option.map_none, Option.map_some, hx, hy, Sem.run_bind, run_sliceAt_slice (h := ht), run_slice_h (ht := ht) (h0 := (by omega : (0 : Int) ≤ (j : Int))) (h2 := (by omega : (j : Int) ≤ (c : Int))), hs, Result.andThen_ok, Int.toNat_natCast, Sem.run_pure]
theorem run_sl_l {o : Oper} {a : Act} {w : World} {t x y : Nat} {A : Option Addr} {n c j s : Nat} (ho : o.op = .slice t (.tmp x) (some (.tmp y)) none none) (ht : Tryd.prog.underlying t = some (.slice (Tryd.prog.elem t))) (hz : pureRun Tryd.prog (sizeOf (Tryd.prog.elem t)) = some s)
    (hx : a.eval (.tmp x) = .slice A n c) (hy : a.eval (.tmp y) = .int .i64 (j : Int)) (hj : j ≤ n) : (execOp a.eval o).run Tryd.prog w = .ok (.value (sliced A j n c s)) w := by
  have hs := pureRun_run _ hz w
  unfold execOp
  simp only [ho, Option.map_none, Option.map_some, hx, hy, Sem.run_bind, run_sliceAt_slice (h := ht), run_slice_l (ht := ht) (h0 := (by omega : (0 : Int) ≤ (j : Int))) (h1 := (by omega : (j : Int) ≤ (n : Int))), hs, Result.andThen_ok, Int.toNat_natCast, Sem.run_pure]
end Go.Proofs.YtpjkohpiikcegaaDoor.PDescKinds
end
section
/- cameoref10.Patch: the regions that write, those that draw apart. -/
set_option linter.unusedSimpArgs false
set_option linter.unusedVariables false
set_option linter.unusedSectionVars false
namespace Go.Proofs.YtpjkohpiikcegaaDoor.PDescKinds
open Go.RowKit Go.Ev
namespace RP
set_option maxRecDepth 100000
section
theorem ar_none {a : Act} {N : Nat} {ts us : List (Nat × Value)} (h : Kp N ts a) (hu : ∀ p ∈ us, p ∈ ts) (w : World) : @AR row0 N (fun _ => 0) (pickT (us.map fun p => (p.1, .val p.2))) (fun _ => none) a := by
  letI := row0
  refine h.ar w fun p hp => ?_
  obtain ⟨q, hq, rfl⟩ := List.mem_map.1 hp
  refine ⟨?_, ok_val _ _⟩
  rw [den_val]
  exact hu q hq
end
end RP
end Go.Proofs.YtpjkohpiikcegaaDoor.PDescKinds
end
section
/- cameoref10.Patch: its contract. -/
set_option linter.unusedSimpArgs false
set_option linter.unusedVariables false
set_option linter.unusedSectionVars false
namespace Go.Proofs.YtpjkohpiikcegaaDoor.PDescKinds
open Go.RowKit Go.Ev
theorem wpL_one {P : Program} {c : Code} {Q : Exit → Act → World → Prop} {a : Act} {w : World} : wpL P [c] Q a w = c.wp P Q a w := by
  show c.wp P (Exit.then (wpL P [] Q) Q) a w = _
  rw [then_nil]
/-- A piece that looks at no row. -/
theorem pieceZ {N k : Nat} {l : List Code} {fn : Func} {st : St} {ts bs : List Nat} {next : Nat} {r : Res} {m : Nat → Nat} {a : Act} {w : World} {Q : Exit → Act → World → Prop} (h : @evK row0 _ Tryd.prog ext (tab []) k N (seqL l) st (grab Tryd.prog fn ts bs next) = some r) (hr : @SR row0 w N m st a w)
    (hret : ∀ v, r = .ret v → ∀ m' a' w', a'.defers = [] → (results fn a'.tmps).run Tryd.prog w' = .ok (@SV.den row0 m' v) w' → Below w.heap.size w w' → Q .ret a' w')
    (hcut : ∀ ex d, r = .cut ex d → ∀ m' a' w', @SR row0 w N m' (d.st next) a' w' → Q ex.out a' w') : wpL Tryd.prog l Q a w := by
  letI := row0
  exact piece Ap.ctx0.mix Ap.ctx0.hX Ap.ctx0.hs Ap.ctx0.hXO Ap.ctx0.hG h (w0 := w) trivial hr hret hcut
namespace RP
set_option maxRecDepth 100000
section
end
end RP
end Go.Proofs.YtpjkohpiikcegaaDoor.PDescKinds
end
section
/- cameolaw10.spoil: its pieces, by computing. -/
set_option linter.unusedSimpArgs false
set_option linter.unusedVariables false
set_option linter.unusedSectionVars false
namespace Go.Proofs.YtpjkohpiikcegaaDoor.PDescKinds
open Go.RowKit Go.Ev
namespace Sp
set_option maxRecDepth 100000
end Sp
end Go.Proofs.YtpjkohpiikcegaaDoor.PDescKinds
end
section
/- cameolaw10.spoil: it writes into its own moment alone. -/
set_option linter.unusedSimpArgs false
set_option linter.unusedVariables false
set_option linter.unusedSectionVars false
namespace Go.Proofs.YtpjkohpiikcegaaDoor.PDescKinds
open Go.RowKit Go.Ev
/-- What stands below B, and from hi on, is as_ it was. -/
structure Mid (B hi : Nat) (w w' : World) : Prop where
  os : w'.os = w.os
  tape : w'.tape = w.tape
  output : w'.output = w.output
  size : w.heap.size ≤ w'.heap.size
  block : ∀ k, k < w.heap.size → (k < B ∨ hi ≤ k) → w'.heap[k]? = w.heap[k]?
section
variable {B hi : Nat} {w0 w w' : World}
theorem Mid.refl (B hi : Nat) (w : World) : Mid B hi w w := ⟨rfl, rfl, rfl, Nat.le_refl _, fun _ _ _ => rfl⟩
theorem Mid.then (h : Mid B hi w0 w) (hb : Below w.heap.size w w') : Mid B hi w0 w' :=
  ⟨hb.os.trans h.os, hb.tape.trans h.tape, hb.output.trans h.output, Nat.le_trans h.size hb.size, fun k hk hc => (hb.block k (Nat.lt_of_lt_of_le hk h.size)).trans (h.block k hk hc)⟩
theorem Mid.grown {row : Option Nat} (h : Mid B hi w0 w) (hg : w.grownBy w' row) (hr : ∀ g, row = some g → (B ≤ g ∧ g < hi) ∨ w0.heap.size ≤ g) : Mid B hi w0 w' :=
  ⟨hg.os.trans h.os, hg.tape.trans h.tape, hg.output.trans h.output, Nat.le_trans h.size hg.size, fun k hk hc => (hg.block k (Nat.lt_of_lt_of_le hk h.size) (fun e => by
    rcases hr k e.symm with h1 | h1 <;> omega)).trans (h.block k hk hc)⟩
theorem Mid.below (h : Mid B hi w0 w) {C : Nat} (hC : C ≤ B) (hs : C ≤ w0.heap.size) : Below C w0 w :=
  ⟨h.os, h.tape, h.output, h.size, fun k hk => h.block k (by omega) (.inl (by omega))⟩
end
namespace Sp
section
end
end Sp
end Go.Proofs.YtpjkohpiikcegaaDoor.PDescKinds
end
section
/- cameolaw10.InvariantPatches: pieces of its regions, by computing. -/
set_option linter.unusedSimpArgs false
set_option linter.unusedVariables false
set_option linter.unusedSectionVars false
namespace Go.Ev
open Go.RowKit
section
variable [XEnv] {P : Program} {X : ExtFn} {G : GFn} {I : World → Prop} {w0 : World} {N : Nat} {call : CallFn} {os : Array Oper} {rest : List Oper} {Q : Exit → Act → World → Prop}
theorem opsR_sound (hX : ExtSound P X) (hI : I w0) (hs : Stable I) (hXO : ∀ w, I w → XOk w) (hcall : CallSound P I call) : ∀ (l : List Oper) (st st' : St) (m : Nat → Nat) (a : Act) (w : World), evOps P X call os N l st = some st' → SR w0 N m st a w →
    (∀ m' a' w', SR w0 N m' st' a' w' → wpList P os Q rest a' w') → wpList P os Q (l ++ rest) a w
  | [], st, st', m, a, w, h, hr, k => by
    simp only [evOps, Option.some.injEq] at h
    subst h
    exact k m a w hr
  | o :: r, st, st', m, a, w, h, hr, k => by
    unfold evOps at h
    cases hdg : dstOk N o.dst && knownG os st.tmps o with
    | false => rw [hdg] at h; cases h
    | true =>
      rw [hdg] at h
      rw [Bool.and_eq_true] at hdg
      obtain ⟨hd, hgk⟩ := hdg
      simp only [cond_true] at h
      show wpList P os Q (o :: (r ++ rest)) a w
      unfold wpList
      rw [want_eq hr.ar.tm o hgk]
      cases hw : wantS os st.tmps o with
      | true =>
        rw [hw] at h
        simp only [cond_true] at h
        simp only [if_true]
        split at h
        · rename_i v e he
          refine .inl (op_sound hX hI hs hXO hcall he (fun _ => hr.fresh _ (Nat.le_refl _)) (fun _ => hr.fresh) hr.ar.look_ok hr.ar.eval hr.mr ?_)
          intro m' w' hag hmr hv hg hall
          have hf := hall hr.fresh
          exact opsR_sound hX hI hs hXO hcall r _ st' m' _ w' h ⟨hmr, hr.ar.put hag hg hd hv, hf.1⟩ k
        · cases h
      | false =>
        rw [hw] at h
        simp only [cond_false] at h
        simp only [Bool.false_eq_true, if_false]
        exact opsR_sound hX hI hs hXO hcall r _ st' m _ w h ⟨hr.mr, (den_val m undef) ▸ hr.ar.put (v := .val undef) (Agree.refl _ _) (Grows.refl _) hd (ok_val _ _), hr.fresh⟩ k
/-- Operations of a region, by computing. -/
theorem opsPiece {m : Nat → Nat} {st : St} {a : Act} {w : World} (hmix : P.follows .mixedOrders = true) (hX : ExtSound P X) (hs : Stable I) (hXO : ∀ w, I w → XOk w) (hG : GivenSound P I G) {k : Nat} {l : List Oper} {ts bs : List Nat} {next : Nat} {c : Cut}
    (h : evOpsK P X (callWithK P G (evK P X G k)) os N l st (fun st => cutS ts bs next st) = some c) (hI : I w0) (hr : SR w0 N m st a w)
    (hk : ∀ m' a' w', SR w0 N m' (c.st next) a' w' → wpList P os Q rest a' w') : wpList P os Q (l ++ rest) a w := by
  rw [evOpsK_eq (callWithK_eq (fun N c st κ => evK_eq k N c st κ))] at h
  obtain ⟨st', h1, h2⟩ := Option.bind_eq_some_iff.1 h
  exact opsR_sound hX hI hs hXO (call_sound hs hG (ev_sound hmix hX hs hXO hG k).1) l st st' m a w h1 hr fun m' a' w' hr' => hk m' a' w' (cut_sound h2 hr')
end
end Go.Ev
end
section
/- cameolaw10.InvariantPatches: its regions. -/
set_option linter.unusedSimpArgs false
set_option linter.unusedVariables false
set_option linter.unusedSectionVars false
namespace Go.Proofs.YtpjkohpiikcegaaDoor.PDescKinds
open Go.RowKit Go.Ev
theorem ownsRow_same {w w' : World} {B n z : Nat} {e : TypeId} {v : Value} {xs : List Value} (h : w.ownsRow B e z v n xs) (hs : ∀ g, v.ownBlock = some g → w'.heap[g]? = w.heap[g]?) : w'.ownsRow B e z v n xs := by
  refine ⟨h.1, ?_⟩
  rcases h.2 with h | ⟨g, cap, cur, rfl, h2, h3, h4⟩
  · exact .inl h
  · exact .inr ⟨g, cap, cur, rfl, h2, (hs g rfl).trans h3, h4⟩
namespace Lw
set_option maxRecDepth 100000
section
end
end Lw
end Go.Proofs.YtpjkohpiikcegaaDoor.PDescKinds
end
section
/- cameolaw10.InvariantPatches: the questions, and what spoil leaves. -/
set_option linter.unusedSimpArgs false
set_option linter.unusedVariables false
set_option linter.unusedSectionVars false
namespace Go.Proofs.YtpjkohpiikcegaaDoor.PDescKinds
open Go.RowKit Go.Ev
/-! Moments that read alike -/
namespace Lw
set_option maxRecDepth 100000
section
theorem wanted_false {os : Array Oper} {o : Oper} {j t : Nat} {a : Act} (hg : o.guard = some (j, false)) (hj : (os[j]?).bind (·.dst) = some t) (hs : t < a.tmps.size) (hv : a.tmps.getD t undef = .bool false) : Region.wanted o (yielded os a.tmps) = true := by
  have e : a.tmps[t]? = some (.bool false) := by
    rw [Array.getElem?_eq_getElem hs]
    simp only [Array.getD, hs, dite_true] at hv
    rw [← hv]
    rfl
  have hy : yielded os a.tmps j = some false := by
    unfold yielded
    rw [hj, Option.bind_some, e]
  unfold Region.wanted
  rw [hg]
  simp [hy]
theorem wpList_wanted {a : Act} {w : World} {Q : Exit → Act → World → Prop} {P : Program} {os : Array Oper} {rest : List Oper} {o : Oper} (hw : Region.wanted o (yielded os a.tmps) = true) (h : ∀ K : Act → World → Prop, (∀ a w, wpList P os Q rest a w → K a w) → o.wp P a w K Q) : wpList P os Q (o :: rest) a w :=
  wpList_step fun K hK => by
    simp only [hw, if_true]
    exact h K hK
end
end Lw
end Go.Proofs.YtpjkohpiikcegaaDoor.PDescKinds
end
