-- Printed by a program of this session over the translation; Lean checks it.
import Derived.Test.YtaojjpdlfnphiaaProg
import Derived.Below
import Derived.Deep.Draws
import Derived.Deep.AppendLies
import Derived.Maps.AppendAt
import Derived.OwnWalk
import Derived.Laws.BytesArg
import Derived.Laws.MakeOwn
import Derived.Laws.OwnMore
import Derived.Deep.OwnRows
import Derived.Tactics
import Derived.Lib.ConvBytes
import Derived.Laws.Slices
import Derived.WalkKit
import Derived.KernelRfl
import Derived.RowKit3
import Derived.Deep.LoopGhost
import Derived.Deep.QuietTactic
import Derived.BigQuiet
import Derived.WideLaws
import Derived.Deep.DeepCutAuto
import Derived.Deep.CutBlock
import Derived.Deep.RegionHeld3
import Derived.Laws.Rows
import Derived.Lib.AppendStr
import Derived.ArgAppend
import Derived.Laws.IdiomCopy
import Derived.OrdersHeld
import Derived.Laws.BitsLemmas
import Derived.RowKit
import Derived.Maps.OwnOps
import Derived.Maps.Views
import Derived.DeepKeys4
import Derived.Carry
import Derived.LoopTactic
import Derived.Outline
import Derived.Test.YtaojjpdlfnphiaaVWords
import Derived.Test.YtaojjpdlfnphiaaVLast
import Derived.Test.YtaojjpdlfnphiaaVTab
import Derived.Test.YtaojjpdlfnphiaaVFour
import Derived.Test.YtaojjpdlfnphiaaVQPut
import Derived.Test.YtaojjpdlfnphiaaVApart
import Derived.Test.YtaojjpdlfnphiaaVArr
import Derived.Test.YtaojjpdlfnphiaaVZeros
import Derived.Test.YtaojjpdlfnphiaaVFoot
import Derived.Test.YtaojjpdlfnphiaaVKept
import Derived.Test.YtaojjpdlfnphiaaVShare
import Derived.Test.YtaojjpdlfnphiaaVN
import Derived.Test.YtaojjpdlfnphiaaVFootNe
import Derived.Test.YtaojjpdlfnphiaaVAt
import Derived.Test.YtaojjpdlfnphiaaVEqStruct
import Derived.Test.YtaojjpdlfnphiaaVRepsOne
import Derived.Test.YtaojjpdlfnphiaaVInv
import Derived.Test.YtaojjpdlfnphiaaVInvWords
import Derived.Test.YtaojjpdlfnphiaaVGuard
import Derived.Test.YtaojjpdlfnphiaaVNEv
import Derived.Test.YtaojjpdlfnphiaaVMore
import Derived.Test.YtaojjpdlfnphiaaVF64
namespace Go.Proofs.Ytaojjpdlfnphiaa.PInvariantDiffs
open Go.RowKit Go.Proofs.YtaojjpdlfnphiaaW.PrintWords Go.Proofs.YtaojjpdlfnphiaaW.PrintLast Go.Proofs.YtaojjpdlfnphiaaW.PrintMore
class Peel (v w : World) : Prop where
  blk : ∀ {g : Nat} {o : Obj}, v.heap[g]? = some o → w.heap[g]? = some o
  bel : ∀ {u : World}, Below u.heap.size u v → Below u.heap.size u w
instance (priority := high) peel_rfl (w : World) : Peel w w := ⟨fun h => h, fun h => h⟩
instance peel_drew (v w : World) [h : Peel v w] : Peel v w.drew := ⟨fun k => blk_drew (h.blk k), fun k => below_drew1 (h.bel k)⟩
instance peel_drewN (v w : World) (n : Nat) [h : Peel v w] : Peel v (w.drewN n) := ⟨fun k => blk_drewN (h.blk k) n, fun k => pw_below_drewN (h.bel k) n⟩
instance peel_alloc (v w : World) (o : Obj) [h : Peel v w] : Peel v (w.alloc o) := ⟨fun k => blk_alloc (h.blk k) o, fun k => below_alloc (h.bel k) o⟩
theorem blk_b {v w w1 : World} {g : Nat} {o : Obj} [p : Peel v w] (h : v.heap[g]? = some o) (hb : Below w.heap.size w w1) : w1.heap[g]? = some o := blk_below (p.blk h) hb
theorem blk_l {v w : World} {g : Nat} {o : Obj} [p : Peel v w] (h : v.heap[g]? = some o) : g < w.heap.size := blk_lt (p.blk h)
theorem blk_c {v w : World} {g : Nat} {arr : Array Value} {t : TypeId} {fr : Nat × Nat} {cs : List Value} [p : Peel v w] (off n : Nat) (h : v.heap[g]? = some (.cells arr t fr)) (hs : (arr.toList.drop off).take n = cs) :
    ∀ j u, cs[j]? = some u → w.cell? ((⟨g, off, none⟩ : Addr).add j) = some u := blk_cells (p.blk h) hs
theorem bel_s {u v w w2 : World} [p : Peel v w] (h : Below u.heap.size u v) (k : Below w.heap.size w w2) : Below u.heap.size u w2 := below_step (p.bel h) k
theorem below_setCells {w W : World} {g o : Nat} {vs : List Value} (h : Below w.heap.size w W) (hg : w.heap.size ≤ g) : Below w.heap.size w (W.setCells g o vs) := by
  induction vs generalizing W o with
  | nil => exact h
  | cons v r ih => exact ih (below_set h hg)
theorem storewhole_event {P : Program} {ops : Array Oper} {rest : List Oper} {op : Oper} {a : Act} {Q : Exit → Act → World → Prop} {W : World} (hgd : op.guard = none) {t : TypeId} {p : Tmp} {x : Operand} (ho : op.op = .store t (.tmp p) x) (hN : op.dst = none)
    {b off : Nat} {cells : Array Value} (hx : a.eval (.tmp p) = .pointer (some ⟨b, off, none⟩)) (hy : a.eval x = .agg cells) (ht : W.there b off cells.size) (hi : (P.info? t).map (·.size) = some cells.size)
    (h1 : cells.all (·.oneCell') = true) (h : ∀ w', w' = W.setCells b off cells.toList → wpList P ops Q rest a w') : wpList P ops Q (op :: rest) a W :=
  wpList_store_mid hgd t (.tmp p) x ho b off cells hx hy ht hi h1 (by rw [hN]; exact h _ rfl)
theorem bel_z {u v w : World} [p : Peel v w] (h : Below u.heap.size u v) : u.heap.size ≤ w.heap.size := below_size (p.bel h)
attribute [local go_sem] max2_int min2_int max_two min_two max_three min_three max_four min_four   -- for this text's walks alone
set_option linter.unusedVariables false
set_option linter.unusedSimpArgs false



def errW : Option Int → Value
 | none => .nilIface
 | some c => .iface 0 (.int .i64 c)
theorem errW_none : errW none = .nilIface := rfl
theorem errW_some (c : Int) : errW (some c) = .iface 0 (.int .i64 c) := rfl

theorem info35 : (Try.prog.info? 35).map (fun i => (i.zero, i.size, i.bytes)) = some (some (.agg #[(.int .i64 0), (.int .i64 0), (.int .i64 0), (.bool false), (.int .i64 0), (.bool false), (.float .f64 0), (.string ⟨#[]⟩), (.int .i64 0), (.string ⟨#[]⟩), (.int .i64 0), (.int .i64 0), (.bool false), (.float .f64 0), (.string ⟨#[]⟩), (.int .i64 0), (.int .i64 0), (.bool false), (.float .f64 0), (.string ⟨#[]⟩), (.int .i64 0), (.int .i64 0), (.bool false), (.float .f64 0), (.string ⟨#[]⟩), (.int .i64 0), (.int .i64 0), (.int .i64 0), (.int .i64 0)]), 29, 272) := by kernel_rfl
theorem info52 : (Try.prog.info? 52).map (fun i => (i.zero, i.size, i.bytes)) = some (some (.agg #[(.int .i64 0), (.int .i64 0), (.bool false), (.float .f64 0), (.string ⟨#[]⟩), (.int .i64 0), (.bool false), (.slice none 0 0)]), 8, 88) := by kernel_rfl
theorem info55 : (Try.prog.info? 55).map (fun i => (i.zero, i.size, i.bytes)) = some (some (.agg #[(.string ⟨#[]⟩), (.int .i64 0), (.int .i64 0), (.bool false), (.float .f64 0), (.string ⟨#[]⟩), (.int .i64 0), (.int .i64 0), (.bool false), (.float .f64 0), (.string ⟨#[]⟩), (.int .i64 0), (.int .i64 0), (.bool false), (.float .f64 0), (.string ⟨#[]⟩), (.int .i64 0), (.int .i64 0), (.int .i64 0), (.int .i64 0)]), 20, 192) := by kernel_rfl
-- the values' own types
/-! #### struct type 28 -/
structure S28 where
 f0 : Int
 f1 : Bool
 f2 : Nat
 f3 : ByteArray
 f4 : Int
def z28 : S28 := ⟨(0 : Int), false, (0 : Nat), (⟨#[]⟩ : ByteArray), (0 : Int)⟩
def k28 : Kd S28 := Kd.iso (Kd.pair (Kd.int .i64) (Kd.pair Kd.bool (Kd.pair Kd.f64 (Kd.pair Kd.string (Kd.int .i64))))) (fun x : S28 => (x.f0, x.f1, x.f2, x.f3, x.f4))
theorem k28_open {w : World} {x : S28} {cs : List Value} (h : k28.K w x cs) : cs = [.int .i64 x.f0, .bool x.f1, .float .f64 x.f2, .string x.f3, .int .i64 x.f4] := by
 obtain ⟨_, _, rfl, rfl, ⟨_, _, rfl, rfl, ⟨_, _, rfl, rfl, ⟨_, _, rfl, rfl, rfl⟩⟩⟩⟩ := h
 exact rfl
theorem k28_openM {w : World} {base : Nat} {ok : Nat → Prop} {x : S28} {cs : List Value} (h : k28.M w base ok x cs) : cs = [.int .i64 x.f0, .bool x.f1, .float .f64 x.f2, .string x.f3, .int .i64 x.f4] := by
 obtain ⟨_, _, rfl, rfl, ⟨_, _, rfl, rfl, ⟨_, _, rfl, rfl, ⟨_, _, rfl, rfl, rfl⟩⟩⟩⟩ := h
 exact rfl
theorem k28_mk (w : World) (x : S28)  : k28.K w x [.int .i64 x.f0, .bool x.f1, .float .f64 x.f2, .string x.f3, .int .i64 x.f4] := ⟨[.int .i64 x.f0], [.bool x.f1, .float .f64 x.f2, .string x.f3, .int .i64 x.f4], rfl, rfl, ⟨[.bool x.f1], [.float .f64 x.f2, .string x.f3, .int .i64 x.f4], rfl, rfl, ⟨[.float .f64 x.f2], [.string x.f3, .int .i64 x.f4], rfl, rfl, ⟨[.string x.f3], [.int .i64 x.f4], rfl, rfl, rfl⟩⟩⟩⟩
theorem k28_mkM (w : World) (base : Nat) (ok : Nat → Prop) (x : S28)  : k28.M w base ok x [.int .i64 x.f0, .bool x.f1, .float .f64 x.f2, .string x.f3, .int .i64 x.f4] := ⟨[.int .i64 x.f0], [.bool x.f1, .float .f64 x.f2, .string x.f3, .int .i64 x.f4], rfl, rfl, ⟨[.bool x.f1], [.float .f64 x.f2, .string x.f3, .int .i64 x.f4], rfl, rfl, ⟨[.float .f64 x.f2], [.string x.f3, .int .i64 x.f4], rfl, rfl, ⟨[.string x.f3], [.int .i64 x.f4], rfl, rfl, rfl⟩⟩⟩⟩
def rd_T28 (xs : List S28) (i : Int) : S28 := xs.getD i.toNat z28
theorem ats_T28 {w : World} {A : Option Addr} {n : Nat} {xs : List S28} (h : Kd.C k28 w A n xs) (i : Int) (h0 : 0 ≤ i) (h1 : i < n) : ∃ ad , A = some ad ∧ (∀ j u, ([.int .i64 (rd_T28 xs i).f0, .bool (rd_T28 xs i).f1, .float .f64 (rd_T28 xs i).f2, .string (rd_T28 xs i).f3, .int .i64 (rd_T28 xs i).f4] : List Value)[j]? = some u → w.cell? ((ad.add (i.toNat * 5)).add j) = some u) := by
 obtain ⟨ad, c, e, _, hK, hc0⟩ := Kd.C_get h z28 i h0 h1
 have hc : ∀ j u, c[j]? = some u → w.cell? (ad.add (i.toNat * 5 + j)) = some u := hc0
 obtain rfl := k28_open hK
 exact ⟨ad, e, fun j u hj => by rw [f_add_add]; exact hc j u hj⟩
theorem at_T28 {w : World} {A : Option Addr} {n : Nat} {xs : List S28} (h : Kd.C k28 w A n xs) (i : Int) (h0 : 0 ≤ i) (h1 : i < n) : ∃ ad , A = some ad ∧ w.cell? (ad.add (i.toNat * 5)) = some (.int .i64 (rd_T28 xs i).f0) ∧ w.cell? ⟨(ad.add (i.toNat * 5)).block, (ad.add (i.toNat * 5)).off + 1, none⟩ = some (.bool (rd_T28 xs i).f1) ∧ w.cell? ⟨(ad.add (i.toNat * 5)).block, (ad.add (i.toNat * 5)).off + 2, none⟩ = some (.float .f64 (rd_T28 xs i).f2) ∧ w.cell? ⟨(ad.add (i.toNat * 5)).block, (ad.add (i.toNat * 5)).off + 3, none⟩ = some (.string (rd_T28 xs i).f3) ∧ w.cell? ⟨(ad.add (i.toNat * 5)).block, (ad.add (i.toNat * 5)).off + 4, none⟩ = some (.int .i64 (rd_T28 xs i).f4) := by
 obtain ⟨ad, c, e, _, hK, hc0⟩ := Kd.C_get h z28 i h0 h1
 have hc : ∀ j u, c[j]? = some u → w.cell? (ad.add (i.toNat * 5 + j)) = some u := hc0
 obtain rfl := k28_open hK
 exact ⟨ad, e, hc 0 _ rfl, by rw [← add_field _ _ 1 (by omega)]; exact hc 1 _ rfl, by rw [← add_field _ _ 2 (by omega)]; exact hc 2 _ rfl, by rw [← add_field _ _ 3 (by omega)]; exact hc 3 _ rfl, by rw [← add_field _ _ 4 (by omega)]; exact hc 4 _ rfl⟩

/-! #### struct type 30 -/
structure S30 where
 f0 : ByteArray
 f1 : Int
def z30 : S30 := ⟨(⟨#[]⟩ : ByteArray), (0 : Int)⟩
def k30 : Kd S30 := Kd.iso (Kd.pair Kd.string (Kd.int .i64)) (fun x : S30 => (x.f0, x.f1))
theorem k30_open {w : World} {x : S30} {cs : List Value} (h : k30.K w x cs) : cs = [.string x.f0, .int .i64 x.f1] := by
 obtain ⟨_, _, rfl, rfl, rfl⟩ := h
 exact rfl
theorem k30_openM {w : World} {base : Nat} {ok : Nat → Prop} {x : S30} {cs : List Value} (h : k30.M w base ok x cs) : cs = [.string x.f0, .int .i64 x.f1] := by
 obtain ⟨_, _, rfl, rfl, rfl⟩ := h
 exact rfl
theorem k30_mk (w : World) (x : S30)  : k30.K w x [.string x.f0, .int .i64 x.f1] := ⟨[.string x.f0], [.int .i64 x.f1], rfl, rfl, rfl⟩
theorem k30_mkM (w : World) (base : Nat) (ok : Nat → Prop) (x : S30)  : k30.M w base ok x [.string x.f0, .int .i64 x.f1] := ⟨[.string x.f0], [.int .i64 x.f1], rfl, rfl, rfl⟩
def rd_T30 (xs : List S30) (i : Int) : S30 := xs.getD i.toNat z30
theorem ats_T30 {w : World} {A : Option Addr} {n : Nat} {xs : List S30} (h : Kd.C k30 w A n xs) (i : Int) (h0 : 0 ≤ i) (h1 : i < n) : ∃ ad , A = some ad ∧ (∀ j u, ([.string (rd_T30 xs i).f0, .int .i64 (rd_T30 xs i).f1] : List Value)[j]? = some u → w.cell? ((ad.add (i.toNat * 2)).add j) = some u) := by
 obtain ⟨ad, c, e, _, hK, hc0⟩ := Kd.C_get h z30 i h0 h1
 have hc : ∀ j u, c[j]? = some u → w.cell? (ad.add (i.toNat * 2 + j)) = some u := hc0
 obtain rfl := k30_open hK
 exact ⟨ad, e, fun j u hj => by rw [f_add_add]; exact hc j u hj⟩
theorem at_T30 {w : World} {A : Option Addr} {n : Nat} {xs : List S30} (h : Kd.C k30 w A n xs) (i : Int) (h0 : 0 ≤ i) (h1 : i < n) : ∃ ad , A = some ad ∧ w.cell? (ad.add (i.toNat * 2)) = some (.string (rd_T30 xs i).f0) ∧ w.cell? ⟨(ad.add (i.toNat * 2)).block, (ad.add (i.toNat * 2)).off + 1, none⟩ = some (.int .i64 (rd_T30 xs i).f1) := by
 obtain ⟨ad, c, e, _, hK, hc0⟩ := Kd.C_get h z30 i h0 h1
 have hc : ∀ j u, c[j]? = some u → w.cell? (ad.add (i.toNat * 2 + j)) = some u := hc0
 obtain rfl := k30_open hK
 exact ⟨ad, e, hc 0 _ rfl, by rw [← add_field _ _ 1 (by omega)]; exact hc 1 _ rfl⟩

/-! #### struct type 33 -/
structure S33 where
 f0 : S28
 f1 : S28
 f2 : S28
 f3 : Int
 f4 : Int
 f5 : Int
def z33 : S33 := ⟨z28, z28, z28, (0 : Int), (0 : Int), (0 : Int)⟩
def k33 : Kd S33 := Kd.iso (Kd.pair k28 (Kd.pair k28 (Kd.pair k28 (Kd.pair (Kd.int .i64) (Kd.pair (Kd.int .i64) (Kd.int .i64)))))) (fun x : S33 => (x.f0, x.f1, x.f2, x.f3, x.f4, x.f5))
theorem k33_open {w : World} {x : S33} {cs : List Value} (h : k33.K w x cs) : cs = [.int .i64 x.f0.f0, .bool x.f0.f1, .float .f64 x.f0.f2, .string x.f0.f3, .int .i64 x.f0.f4, .int .i64 x.f1.f0, .bool x.f1.f1, .float .f64 x.f1.f2, .string x.f1.f3, .int .i64 x.f1.f4, .int .i64 x.f2.f0, .bool x.f2.f1, .float .f64 x.f2.f2, .string x.f2.f3, .int .i64 x.f2.f4, .int .i64 x.f3, .int .i64 x.f4, .int .i64 x.f5] := by
 obtain ⟨_, _, rfl, s0, ⟨_, _, rfl, s5, ⟨_, _, rfl, s10, ⟨_, _, rfl, rfl, ⟨_, _, rfl, rfl, rfl⟩⟩⟩⟩⟩ := h
 obtain rfl := k28_open s0
 obtain rfl := k28_open s5
 obtain rfl := k28_open s10
 exact rfl
theorem k33_openM {w : World} {base : Nat} {ok : Nat → Prop} {x : S33} {cs : List Value} (h : k33.M w base ok x cs) : cs = [.int .i64 x.f0.f0, .bool x.f0.f1, .float .f64 x.f0.f2, .string x.f0.f3, .int .i64 x.f0.f4, .int .i64 x.f1.f0, .bool x.f1.f1, .float .f64 x.f1.f2, .string x.f1.f3, .int .i64 x.f1.f4, .int .i64 x.f2.f0, .bool x.f2.f1, .float .f64 x.f2.f2, .string x.f2.f3, .int .i64 x.f2.f4, .int .i64 x.f3, .int .i64 x.f4, .int .i64 x.f5] := by
 obtain ⟨_, _, rfl, s0, ⟨_, _, rfl, s5, ⟨_, _, rfl, s10, ⟨_, _, rfl, rfl, ⟨_, _, rfl, rfl, rfl⟩⟩⟩⟩⟩ := h
 obtain rfl := k28_openM s0
 obtain rfl := k28_openM s5
 obtain rfl := k28_openM s10
 exact rfl
theorem k33_mk (w : World) (x : S33)  : k33.K w x [.int .i64 x.f0.f0, .bool x.f0.f1, .float .f64 x.f0.f2, .string x.f0.f3, .int .i64 x.f0.f4, .int .i64 x.f1.f0, .bool x.f1.f1, .float .f64 x.f1.f2, .string x.f1.f3, .int .i64 x.f1.f4, .int .i64 x.f2.f0, .bool x.f2.f1, .float .f64 x.f2.f2, .string x.f2.f3, .int .i64 x.f2.f4, .int .i64 x.f3, .int .i64 x.f4, .int .i64 x.f5] := ⟨[.int .i64 x.f0.f0, .bool x.f0.f1, .float .f64 x.f0.f2, .string x.f0.f3, .int .i64 x.f0.f4], [.int .i64 x.f1.f0, .bool x.f1.f1, .float .f64 x.f1.f2, .string x.f1.f3, .int .i64 x.f1.f4, .int .i64 x.f2.f0, .bool x.f2.f1, .float .f64 x.f2.f2, .string x.f2.f3, .int .i64 x.f2.f4, .int .i64 x.f3, .int .i64 x.f4, .int .i64 x.f5], rfl, (k28_mk w x.f0 ), ⟨[.int .i64 x.f1.f0, .bool x.f1.f1, .float .f64 x.f1.f2, .string x.f1.f3, .int .i64 x.f1.f4], [.int .i64 x.f2.f0, .bool x.f2.f1, .float .f64 x.f2.f2, .string x.f2.f3, .int .i64 x.f2.f4, .int .i64 x.f3, .int .i64 x.f4, .int .i64 x.f5], rfl, (k28_mk w x.f1 ), ⟨[.int .i64 x.f2.f0, .bool x.f2.f1, .float .f64 x.f2.f2, .string x.f2.f3, .int .i64 x.f2.f4], [.int .i64 x.f3, .int .i64 x.f4, .int .i64 x.f5], rfl, (k28_mk w x.f2 ), ⟨[.int .i64 x.f3], [.int .i64 x.f4, .int .i64 x.f5], rfl, rfl, ⟨[.int .i64 x.f4], [.int .i64 x.f5], rfl, rfl, rfl⟩⟩⟩⟩⟩
theorem k33_mkM (w : World) (base : Nat) (ok : Nat → Prop) (x : S33)  : k33.M w base ok x [.int .i64 x.f0.f0, .bool x.f0.f1, .float .f64 x.f0.f2, .string x.f0.f3, .int .i64 x.f0.f4, .int .i64 x.f1.f0, .bool x.f1.f1, .float .f64 x.f1.f2, .string x.f1.f3, .int .i64 x.f1.f4, .int .i64 x.f2.f0, .bool x.f2.f1, .float .f64 x.f2.f2, .string x.f2.f3, .int .i64 x.f2.f4, .int .i64 x.f3, .int .i64 x.f4, .int .i64 x.f5] := ⟨[.int .i64 x.f0.f0, .bool x.f0.f1, .float .f64 x.f0.f2, .string x.f0.f3, .int .i64 x.f0.f4], [.int .i64 x.f1.f0, .bool x.f1.f1, .float .f64 x.f1.f2, .string x.f1.f3, .int .i64 x.f1.f4, .int .i64 x.f2.f0, .bool x.f2.f1, .float .f64 x.f2.f2, .string x.f2.f3, .int .i64 x.f2.f4, .int .i64 x.f3, .int .i64 x.f4, .int .i64 x.f5], rfl, (k28_mkM w base ok x.f0 ), ⟨[.int .i64 x.f1.f0, .bool x.f1.f1, .float .f64 x.f1.f2, .string x.f1.f3, .int .i64 x.f1.f4], [.int .i64 x.f2.f0, .bool x.f2.f1, .float .f64 x.f2.f2, .string x.f2.f3, .int .i64 x.f2.f4, .int .i64 x.f3, .int .i64 x.f4, .int .i64 x.f5], rfl, (k28_mkM w base ok x.f1 ), ⟨[.int .i64 x.f2.f0, .bool x.f2.f1, .float .f64 x.f2.f2, .string x.f2.f3, .int .i64 x.f2.f4], [.int .i64 x.f3, .int .i64 x.f4, .int .i64 x.f5], rfl, (k28_mkM w base ok x.f2 ), ⟨[.int .i64 x.f3], [.int .i64 x.f4, .int .i64 x.f5], rfl, rfl, ⟨[.int .i64 x.f4], [.int .i64 x.f5], rfl, rfl, rfl⟩⟩⟩⟩⟩
def rd_T33 (xs : List S33) (i : Int) : S33 := xs.getD i.toNat z33
theorem ats_T33 {w : World} {A : Option Addr} {n : Nat} {xs : List S33} (h : Kd.C k33 w A n xs) (i : Int) (h0 : 0 ≤ i) (h1 : i < n) : ∃ ad , A = some ad ∧ (∀ j u, ([.int .i64 (rd_T33 xs i).f0.f0, .bool (rd_T33 xs i).f0.f1, .float .f64 (rd_T33 xs i).f0.f2, .string (rd_T33 xs i).f0.f3, .int .i64 (rd_T33 xs i).f0.f4, .int .i64 (rd_T33 xs i).f1.f0, .bool (rd_T33 xs i).f1.f1, .float .f64 (rd_T33 xs i).f1.f2, .string (rd_T33 xs i).f1.f3, .int .i64 (rd_T33 xs i).f1.f4, .int .i64 (rd_T33 xs i).f2.f0, .bool (rd_T33 xs i).f2.f1, .float .f64 (rd_T33 xs i).f2.f2, .string (rd_T33 xs i).f2.f3, .int .i64 (rd_T33 xs i).f2.f4, .int .i64 (rd_T33 xs i).f3, .int .i64 (rd_T33 xs i).f4, .int .i64 (rd_T33 xs i).f5] : List Value)[j]? = some u → w.cell? ((ad.add (i.toNat * 18)).add j) = some u) := by
 obtain ⟨ad, c, e, _, hK, hc0⟩ := Kd.C_get h z33 i h0 h1
 have hc : ∀ j u, c[j]? = some u → w.cell? (ad.add (i.toNat * 18 + j)) = some u := hc0
 obtain rfl := k33_open hK
 exact ⟨ad, e, fun j u hj => by rw [f_add_add]; exact hc j u hj⟩
theorem at_T33 {w : World} {A : Option Addr} {n : Nat} {xs : List S33} (h : Kd.C k33 w A n xs) (i : Int) (h0 : 0 ≤ i) (h1 : i < n) : ∃ ad , A = some ad ∧ w.cell? (ad.add (i.toNat * 18)) = some (.int .i64 (rd_T33 xs i).f0.f0) ∧ w.cell? ⟨(ad.add (i.toNat * 18)).block, (ad.add (i.toNat * 18)).off + 1, none⟩ = some (.bool (rd_T33 xs i).f0.f1) ∧ w.cell? ⟨(ad.add (i.toNat * 18)).block, (ad.add (i.toNat * 18)).off + 2, none⟩ = some (.float .f64 (rd_T33 xs i).f0.f2) ∧ w.cell? ⟨(ad.add (i.toNat * 18)).block, (ad.add (i.toNat * 18)).off + 3, none⟩ = some (.string (rd_T33 xs i).f0.f3) ∧ w.cell? ⟨(ad.add (i.toNat * 18)).block, (ad.add (i.toNat * 18)).off + 4, none⟩ = some (.int .i64 (rd_T33 xs i).f0.f4) ∧ w.cell? ⟨(ad.add (i.toNat * 18)).block, (ad.add (i.toNat * 18)).off + 5, none⟩ = some (.int .i64 (rd_T33 xs i).f1.f0) ∧ w.cell? ⟨(ad.add (i.toNat * 18)).block, (ad.add (i.toNat * 18)).off + 6, none⟩ = some (.bool (rd_T33 xs i).f1.f1) ∧ w.cell? ⟨(ad.add (i.toNat * 18)).block, (ad.add (i.toNat * 18)).off + 7, none⟩ = some (.float .f64 (rd_T33 xs i).f1.f2) ∧ w.cell? ⟨(ad.add (i.toNat * 18)).block, (ad.add (i.toNat * 18)).off + 8, none⟩ = some (.string (rd_T33 xs i).f1.f3) ∧ w.cell? ⟨(ad.add (i.toNat * 18)).block, (ad.add (i.toNat * 18)).off + 9, none⟩ = some (.int .i64 (rd_T33 xs i).f1.f4) ∧ w.cell? ⟨(ad.add (i.toNat * 18)).block, (ad.add (i.toNat * 18)).off + 10, none⟩ = some (.int .i64 (rd_T33 xs i).f2.f0) ∧ w.cell? ⟨(ad.add (i.toNat * 18)).block, (ad.add (i.toNat * 18)).off + 11, none⟩ = some (.bool (rd_T33 xs i).f2.f1) ∧ w.cell? ⟨(ad.add (i.toNat * 18)).block, (ad.add (i.toNat * 18)).off + 12, none⟩ = some (.float .f64 (rd_T33 xs i).f2.f2) ∧ w.cell? ⟨(ad.add (i.toNat * 18)).block, (ad.add (i.toNat * 18)).off + 13, none⟩ = some (.string (rd_T33 xs i).f2.f3) ∧ w.cell? ⟨(ad.add (i.toNat * 18)).block, (ad.add (i.toNat * 18)).off + 14, none⟩ = some (.int .i64 (rd_T33 xs i).f2.f4) ∧ w.cell? ⟨(ad.add (i.toNat * 18)).block, (ad.add (i.toNat * 18)).off + 15, none⟩ = some (.int .i64 (rd_T33 xs i).f3) ∧ w.cell? ⟨(ad.add (i.toNat * 18)).block, (ad.add (i.toNat * 18)).off + 16, none⟩ = some (.int .i64 (rd_T33 xs i).f4) ∧ w.cell? ⟨(ad.add (i.toNat * 18)).block, (ad.add (i.toNat * 18)).off + 17, none⟩ = some (.int .i64 (rd_T33 xs i).f5) := by
 obtain ⟨ad, c, e, _, hK, hc0⟩ := Kd.C_get h z33 i h0 h1
 have hc : ∀ j u, c[j]? = some u → w.cell? (ad.add (i.toNat * 18 + j)) = some u := hc0
 obtain rfl := k33_open hK
 exact ⟨ad, e, hc 0 _ rfl, by rw [← add_field _ _ 1 (by omega)]; exact hc 1 _ rfl, by rw [← add_field _ _ 2 (by omega)]; exact hc 2 _ rfl, by rw [← add_field _ _ 3 (by omega)]; exact hc 3 _ rfl, by rw [← add_field _ _ 4 (by omega)]; exact hc 4 _ rfl, by rw [← add_field _ _ 5 (by omega)]; exact hc 5 _ rfl, by rw [← add_field _ _ 6 (by omega)]; exact hc 6 _ rfl, by rw [← add_field _ _ 7 (by omega)]; exact hc 7 _ rfl, by rw [← add_field _ _ 8 (by omega)]; exact hc 8 _ rfl, by rw [← add_field _ _ 9 (by omega)]; exact hc 9 _ rfl, by rw [← add_field _ _ 10 (by omega)]; exact hc 10 _ rfl, by rw [← add_field _ _ 11 (by omega)]; exact hc 11 _ rfl, by rw [← add_field _ _ 12 (by omega)]; exact hc 12 _ rfl, by rw [← add_field _ _ 13 (by omega)]; exact hc 13 _ rfl, by rw [← add_field _ _ 14 (by omega)]; exact hc 14 _ rfl, by rw [← add_field _ _ 15 (by omega)]; exact hc 15 _ rfl, by rw [← add_field _ _ 16 (by omega)]; exact hc 16 _ rfl, by rw [← add_field _ _ 17 (by omega)]; exact hc 17 _ rfl⟩

/-! #### struct type 55 -/
structure S55 where
 f0 : S30
 f1 : S33
def z55 : S55 := ⟨z30, z33⟩
def k55 : Kd S55 := Kd.iso (Kd.pair k30 k33) (fun x : S55 => (x.f0, x.f1))
theorem k55_open {w : World} {x : S55} {cs : List Value} (h : k55.K w x cs) : cs = [.string x.f0.f0, .int .i64 x.f0.f1, .int .i64 x.f1.f0.f0, .bool x.f1.f0.f1, .float .f64 x.f1.f0.f2, .string x.f1.f0.f3, .int .i64 x.f1.f0.f4, .int .i64 x.f1.f1.f0, .bool x.f1.f1.f1, .float .f64 x.f1.f1.f2, .string x.f1.f1.f3, .int .i64 x.f1.f1.f4, .int .i64 x.f1.f2.f0, .bool x.f1.f2.f1, .float .f64 x.f1.f2.f2, .string x.f1.f2.f3, .int .i64 x.f1.f2.f4, .int .i64 x.f1.f3, .int .i64 x.f1.f4, .int .i64 x.f1.f5] := by
 obtain ⟨_, _, rfl, s0, s2⟩ := h
 obtain rfl := k30_open s0
 obtain rfl := k33_open s2
 exact rfl
theorem k55_openM {w : World} {base : Nat} {ok : Nat → Prop} {x : S55} {cs : List Value} (h : k55.M w base ok x cs) : cs = [.string x.f0.f0, .int .i64 x.f0.f1, .int .i64 x.f1.f0.f0, .bool x.f1.f0.f1, .float .f64 x.f1.f0.f2, .string x.f1.f0.f3, .int .i64 x.f1.f0.f4, .int .i64 x.f1.f1.f0, .bool x.f1.f1.f1, .float .f64 x.f1.f1.f2, .string x.f1.f1.f3, .int .i64 x.f1.f1.f4, .int .i64 x.f1.f2.f0, .bool x.f1.f2.f1, .float .f64 x.f1.f2.f2, .string x.f1.f2.f3, .int .i64 x.f1.f2.f4, .int .i64 x.f1.f3, .int .i64 x.f1.f4, .int .i64 x.f1.f5] := by
 obtain ⟨_, _, rfl, s0, s2⟩ := h
 obtain rfl := k30_openM s0
 obtain rfl := k33_openM s2
 exact rfl
theorem k55_mk (w : World) (x : S55)  : k55.K w x [.string x.f0.f0, .int .i64 x.f0.f1, .int .i64 x.f1.f0.f0, .bool x.f1.f0.f1, .float .f64 x.f1.f0.f2, .string x.f1.f0.f3, .int .i64 x.f1.f0.f4, .int .i64 x.f1.f1.f0, .bool x.f1.f1.f1, .float .f64 x.f1.f1.f2, .string x.f1.f1.f3, .int .i64 x.f1.f1.f4, .int .i64 x.f1.f2.f0, .bool x.f1.f2.f1, .float .f64 x.f1.f2.f2, .string x.f1.f2.f3, .int .i64 x.f1.f2.f4, .int .i64 x.f1.f3, .int .i64 x.f1.f4, .int .i64 x.f1.f5] := ⟨[.string x.f0.f0, .int .i64 x.f0.f1], [.int .i64 x.f1.f0.f0, .bool x.f1.f0.f1, .float .f64 x.f1.f0.f2, .string x.f1.f0.f3, .int .i64 x.f1.f0.f4, .int .i64 x.f1.f1.f0, .bool x.f1.f1.f1, .float .f64 x.f1.f1.f2, .string x.f1.f1.f3, .int .i64 x.f1.f1.f4, .int .i64 x.f1.f2.f0, .bool x.f1.f2.f1, .float .f64 x.f1.f2.f2, .string x.f1.f2.f3, .int .i64 x.f1.f2.f4, .int .i64 x.f1.f3, .int .i64 x.f1.f4, .int .i64 x.f1.f5], rfl, (k30_mk w x.f0 ), (k33_mk w x.f1 )⟩
theorem k55_mkM (w : World) (base : Nat) (ok : Nat → Prop) (x : S55)  : k55.M w base ok x [.string x.f0.f0, .int .i64 x.f0.f1, .int .i64 x.f1.f0.f0, .bool x.f1.f0.f1, .float .f64 x.f1.f0.f2, .string x.f1.f0.f3, .int .i64 x.f1.f0.f4, .int .i64 x.f1.f1.f0, .bool x.f1.f1.f1, .float .f64 x.f1.f1.f2, .string x.f1.f1.f3, .int .i64 x.f1.f1.f4, .int .i64 x.f1.f2.f0, .bool x.f1.f2.f1, .float .f64 x.f1.f2.f2, .string x.f1.f2.f3, .int .i64 x.f1.f2.f4, .int .i64 x.f1.f3, .int .i64 x.f1.f4, .int .i64 x.f1.f5] := ⟨[.string x.f0.f0, .int .i64 x.f0.f1], [.int .i64 x.f1.f0.f0, .bool x.f1.f0.f1, .float .f64 x.f1.f0.f2, .string x.f1.f0.f3, .int .i64 x.f1.f0.f4, .int .i64 x.f1.f1.f0, .bool x.f1.f1.f1, .float .f64 x.f1.f1.f2, .string x.f1.f1.f3, .int .i64 x.f1.f1.f4, .int .i64 x.f1.f2.f0, .bool x.f1.f2.f1, .float .f64 x.f1.f2.f2, .string x.f1.f2.f3, .int .i64 x.f1.f2.f4, .int .i64 x.f1.f3, .int .i64 x.f1.f4, .int .i64 x.f1.f5], rfl, (k30_mkM w base ok x.f0 ), (k33_mkM w base ok x.f1 )⟩
def rd_T55 (xs : List S55) (i : Int) : S55 := xs.getD i.toNat z55
theorem ats_T55 {w : World} {A : Option Addr} {n : Nat} {xs : List S55} (h : Kd.C k55 w A n xs) (i : Int) (h0 : 0 ≤ i) (h1 : i < n) : ∃ ad , A = some ad ∧ (∀ j u, ([.string (rd_T55 xs i).f0.f0, .int .i64 (rd_T55 xs i).f0.f1, .int .i64 (rd_T55 xs i).f1.f0.f0, .bool (rd_T55 xs i).f1.f0.f1, .float .f64 (rd_T55 xs i).f1.f0.f2, .string (rd_T55 xs i).f1.f0.f3, .int .i64 (rd_T55 xs i).f1.f0.f4, .int .i64 (rd_T55 xs i).f1.f1.f0, .bool (rd_T55 xs i).f1.f1.f1, .float .f64 (rd_T55 xs i).f1.f1.f2, .string (rd_T55 xs i).f1.f1.f3, .int .i64 (rd_T55 xs i).f1.f1.f4, .int .i64 (rd_T55 xs i).f1.f2.f0, .bool (rd_T55 xs i).f1.f2.f1, .float .f64 (rd_T55 xs i).f1.f2.f2, .string (rd_T55 xs i).f1.f2.f3, .int .i64 (rd_T55 xs i).f1.f2.f4, .int .i64 (rd_T55 xs i).f1.f3, .int .i64 (rd_T55 xs i).f1.f4, .int .i64 (rd_T55 xs i).f1.f5] : List Value)[j]? = some u → w.cell? ((ad.add (i.toNat * 20)).add j) = some u) := by
 obtain ⟨ad, c, e, _, hK, hc0⟩ := Kd.C_get h z55 i h0 h1
 have hc : ∀ j u, c[j]? = some u → w.cell? (ad.add (i.toNat * 20 + j)) = some u := hc0
 obtain rfl := k55_open hK
 exact ⟨ad, e, fun j u hj => by rw [f_add_add]; exact hc j u hj⟩
theorem at_T55 {w : World} {A : Option Addr} {n : Nat} {xs : List S55} (h : Kd.C k55 w A n xs) (i : Int) (h0 : 0 ≤ i) (h1 : i < n) : ∃ ad , A = some ad ∧ w.cell? (ad.add (i.toNat * 20)) = some (.string (rd_T55 xs i).f0.f0) ∧ w.cell? ⟨(ad.add (i.toNat * 20)).block, (ad.add (i.toNat * 20)).off + 1, none⟩ = some (.int .i64 (rd_T55 xs i).f0.f1) ∧ w.cell? ⟨(ad.add (i.toNat * 20)).block, (ad.add (i.toNat * 20)).off + 2, none⟩ = some (.int .i64 (rd_T55 xs i).f1.f0.f0) ∧ w.cell? ⟨(ad.add (i.toNat * 20)).block, (ad.add (i.toNat * 20)).off + 3, none⟩ = some (.bool (rd_T55 xs i).f1.f0.f1) ∧ w.cell? ⟨(ad.add (i.toNat * 20)).block, (ad.add (i.toNat * 20)).off + 4, none⟩ = some (.float .f64 (rd_T55 xs i).f1.f0.f2) ∧ w.cell? ⟨(ad.add (i.toNat * 20)).block, (ad.add (i.toNat * 20)).off + 5, none⟩ = some (.string (rd_T55 xs i).f1.f0.f3) ∧ w.cell? ⟨(ad.add (i.toNat * 20)).block, (ad.add (i.toNat * 20)).off + 6, none⟩ = some (.int .i64 (rd_T55 xs i).f1.f0.f4) ∧ w.cell? ⟨(ad.add (i.toNat * 20)).block, (ad.add (i.toNat * 20)).off + 7, none⟩ = some (.int .i64 (rd_T55 xs i).f1.f1.f0) ∧ w.cell? ⟨(ad.add (i.toNat * 20)).block, (ad.add (i.toNat * 20)).off + 8, none⟩ = some (.bool (rd_T55 xs i).f1.f1.f1) ∧ w.cell? ⟨(ad.add (i.toNat * 20)).block, (ad.add (i.toNat * 20)).off + 9, none⟩ = some (.float .f64 (rd_T55 xs i).f1.f1.f2) ∧ w.cell? ⟨(ad.add (i.toNat * 20)).block, (ad.add (i.toNat * 20)).off + 10, none⟩ = some (.string (rd_T55 xs i).f1.f1.f3) ∧ w.cell? ⟨(ad.add (i.toNat * 20)).block, (ad.add (i.toNat * 20)).off + 11, none⟩ = some (.int .i64 (rd_T55 xs i).f1.f1.f4) ∧ w.cell? ⟨(ad.add (i.toNat * 20)).block, (ad.add (i.toNat * 20)).off + 12, none⟩ = some (.int .i64 (rd_T55 xs i).f1.f2.f0) ∧ w.cell? ⟨(ad.add (i.toNat * 20)).block, (ad.add (i.toNat * 20)).off + 13, none⟩ = some (.bool (rd_T55 xs i).f1.f2.f1) ∧ w.cell? ⟨(ad.add (i.toNat * 20)).block, (ad.add (i.toNat * 20)).off + 14, none⟩ = some (.float .f64 (rd_T55 xs i).f1.f2.f2) ∧ w.cell? ⟨(ad.add (i.toNat * 20)).block, (ad.add (i.toNat * 20)).off + 15, none⟩ = some (.string (rd_T55 xs i).f1.f2.f3) ∧ w.cell? ⟨(ad.add (i.toNat * 20)).block, (ad.add (i.toNat * 20)).off + 16, none⟩ = some (.int .i64 (rd_T55 xs i).f1.f2.f4) ∧ w.cell? ⟨(ad.add (i.toNat * 20)).block, (ad.add (i.toNat * 20)).off + 17, none⟩ = some (.int .i64 (rd_T55 xs i).f1.f3) ∧ w.cell? ⟨(ad.add (i.toNat * 20)).block, (ad.add (i.toNat * 20)).off + 18, none⟩ = some (.int .i64 (rd_T55 xs i).f1.f4) ∧ w.cell? ⟨(ad.add (i.toNat * 20)).block, (ad.add (i.toNat * 20)).off + 19, none⟩ = some (.int .i64 (rd_T55 xs i).f1.f5) := by
 obtain ⟨ad, c, e, _, hK, hc0⟩ := Kd.C_get h z55 i h0 h1
 have hc : ∀ j u, c[j]? = some u → w.cell? (ad.add (i.toNat * 20 + j)) = some u := hc0
 obtain rfl := k55_open hK
 exact ⟨ad, e, hc 0 _ rfl, by rw [← add_field _ _ 1 (by omega)]; exact hc 1 _ rfl, by rw [← add_field _ _ 2 (by omega)]; exact hc 2 _ rfl, by rw [← add_field _ _ 3 (by omega)]; exact hc 3 _ rfl, by rw [← add_field _ _ 4 (by omega)]; exact hc 4 _ rfl, by rw [← add_field _ _ 5 (by omega)]; exact hc 5 _ rfl, by rw [← add_field _ _ 6 (by omega)]; exact hc 6 _ rfl, by rw [← add_field _ _ 7 (by omega)]; exact hc 7 _ rfl, by rw [← add_field _ _ 8 (by omega)]; exact hc 8 _ rfl, by rw [← add_field _ _ 9 (by omega)]; exact hc 9 _ rfl, by rw [← add_field _ _ 10 (by omega)]; exact hc 10 _ rfl, by rw [← add_field _ _ 11 (by omega)]; exact hc 11 _ rfl, by rw [← add_field _ _ 12 (by omega)]; exact hc 12 _ rfl, by rw [← add_field _ _ 13 (by omega)]; exact hc 13 _ rfl, by rw [← add_field _ _ 14 (by omega)]; exact hc 14 _ rfl, by rw [← add_field _ _ 15 (by omega)]; exact hc 15 _ rfl, by rw [← add_field _ _ 16 (by omega)]; exact hc 16 _ rfl, by rw [← add_field _ _ 17 (by omega)]; exact hc 17 _ rfl, by rw [← add_field _ _ 18 (by omega)]; exact hc 18 _ rfl, by rw [← add_field _ _ 19 (by omega)]; exact hc 19 _ rfl⟩

def rd_L8 (xs : List (List S55)) (i : Int) : (List S55) := xs.getD i.toNat ([] : List S55)
theorem at_L8 {w : World} {A : Option Addr} {n : Nat} {xs : List (List S55)} (h : Kd.C (Kd.slice 55 k55) w A n xs) (i : Int) (h0 : 0 ≤ i) (h1 : i < n) : ∃ ad A0 c0, A = some ad ∧ w.cell? (ad.add i.toNat) = some (.slice A0 (rd_L8 xs i).length c0) ∧ (rd_L8 xs i).length ≤ c0 ∧ k55.C w A0 (rd_L8 xs i).length (rd_L8 xs i) := by
 obtain ⟨ad, c, e, _, hK, hc0⟩ := Kd.C_get h ([] : List S55) i h0 h1
 have hc : ∀ j u, c[j]? = some u → w.cell? (ad.add (i.toNat * 1 + j)) = some u := hc0
 obtain ⟨A0, c0, rfl, l0, g0⟩ := hK
 exact ⟨ad, A0, c0, e, by have hq := hc 0 _ rfl; rwa [Nat.mul_one, Nat.add_zero] at hq, l0, g0⟩

/-! #### struct type 52 -/
structure S52 where
 f0 : Int
 f1 : S28
 f2 : Bool
 f3 : (List S55)
def z52 : S52 := ⟨(0 : Int), z28, false, ([] : List S55)⟩
def k52 : Kd S52 := Kd.iso (Kd.pair (Kd.int .i64) (Kd.pair k28 (Kd.pair Kd.bool (Kd.slice 55 k55)))) (fun x : S52 => (x.f0, x.f1, x.f2, x.f3))
theorem k52_open {w : World} {x : S52} {cs : List Value} (h : k52.K w x cs) : ∃ A7 c7, cs = [.int .i64 x.f0, .int .i64 x.f1.f0, .bool x.f1.f1, .float .f64 x.f1.f2, .string x.f1.f3, .int .i64 x.f1.f4, .bool x.f2, .slice A7 x.f3.length c7] ∧ x.f3.length ≤ c7 ∧ k55.C w A7 x.f3.length x.f3 := by
 obtain ⟨_, _, rfl, rfl, ⟨_, _, rfl, s1, ⟨_, _, rfl, rfl, ⟨A7, c7, rfl, l7, g7⟩⟩⟩⟩ := h
 obtain rfl := k28_open s1
 exact ⟨A7, c7, rfl, l7, g7⟩
theorem k52_openM {w : World} {base : Nat} {ok : Nat → Prop} {x : S52} {cs : List Value} (h : k52.M w base ok x cs) : ∃ v7, cs = [.int .i64 x.f0, .int .i64 x.f1.f0, .bool x.f1.f1, .float .f64 x.f1.f2, .string x.f1.f3, .int .i64 x.f1.f4, .bool x.f2, v7] ∧ k55.R 55 w base ok v7 x.f3 := by
 obtain ⟨_, _, rfl, rfl, ⟨_, _, rfl, s1, ⟨_, _, rfl, rfl, ⟨v7, rfl, g7⟩⟩⟩⟩ := h
 obtain rfl := k28_openM s1
 exact ⟨v7, rfl, g7⟩
theorem k52_mk (w : World) (x : S52) {A7 : Option Addr} {c7 : Nat} (l7 : x.f3.length ≤ c7) (g7 : k55.C w A7 x.f3.length x.f3) : k52.K w x [.int .i64 x.f0, .int .i64 x.f1.f0, .bool x.f1.f1, .float .f64 x.f1.f2, .string x.f1.f3, .int .i64 x.f1.f4, .bool x.f2, .slice A7 x.f3.length c7] := ⟨[.int .i64 x.f0], [.int .i64 x.f1.f0, .bool x.f1.f1, .float .f64 x.f1.f2, .string x.f1.f3, .int .i64 x.f1.f4, .bool x.f2, .slice A7 x.f3.length c7], rfl, rfl, ⟨[.int .i64 x.f1.f0, .bool x.f1.f1, .float .f64 x.f1.f2, .string x.f1.f3, .int .i64 x.f1.f4], [.bool x.f2, .slice A7 x.f3.length c7], rfl, (k28_mk w x.f1 ), ⟨[.bool x.f2], [.slice A7 x.f3.length c7], rfl, rfl, ⟨A7, c7, rfl, l7, g7⟩⟩⟩⟩
theorem k52_mkM (w : World) (base : Nat) (ok : Nat → Prop) (x : S52) {v7 : Value} (g7 : k55.R 55 w base ok v7 x.f3) : k52.M w base ok x [.int .i64 x.f0, .int .i64 x.f1.f0, .bool x.f1.f1, .float .f64 x.f1.f2, .string x.f1.f3, .int .i64 x.f1.f4, .bool x.f2, v7] := ⟨[.int .i64 x.f0], [.int .i64 x.f1.f0, .bool x.f1.f1, .float .f64 x.f1.f2, .string x.f1.f3, .int .i64 x.f1.f4, .bool x.f2, v7], rfl, rfl, ⟨[.int .i64 x.f1.f0, .bool x.f1.f1, .float .f64 x.f1.f2, .string x.f1.f3, .int .i64 x.f1.f4], [.bool x.f2, v7], rfl, (k28_mkM w base ok x.f1 ), ⟨[.bool x.f2], [v7], rfl, rfl, ⟨v7, rfl, g7⟩⟩⟩⟩
def rd_T52 (xs : List S52) (i : Int) : S52 := xs.getD i.toNat z52
theorem ats_T52 {w : World} {A : Option Addr} {n : Nat} {xs : List S52} (h : Kd.C k52 w A n xs) (i : Int) (h0 : 0 ≤ i) (h1 : i < n) : ∃ ad A7 c7, A = some ad ∧ (∀ j u, ([.int .i64 (rd_T52 xs i).f0, .int .i64 (rd_T52 xs i).f1.f0, .bool (rd_T52 xs i).f1.f1, .float .f64 (rd_T52 xs i).f1.f2, .string (rd_T52 xs i).f1.f3, .int .i64 (rd_T52 xs i).f1.f4, .bool (rd_T52 xs i).f2, .slice A7 (rd_T52 xs i).f3.length c7] : List Value)[j]? = some u → w.cell? ((ad.add (i.toNat * 8)).add j) = some u) ∧ (rd_T52 xs i).f3.length ≤ c7 ∧ k55.C w A7 (rd_T52 xs i).f3.length (rd_T52 xs i).f3 := by
 obtain ⟨ad, c, e, _, hK, hc0⟩ := Kd.C_get h z52 i h0 h1
 have hc : ∀ j u, c[j]? = some u → w.cell? (ad.add (i.toNat * 8 + j)) = some u := hc0
 obtain ⟨A7, c7, rfl, l7, g7⟩ := k52_open hK
 exact ⟨ad, A7, c7, e, fun j u hj => by rw [f_add_add]; exact hc j u hj, l7, g7⟩
theorem at_T52 {w : World} {A : Option Addr} {n : Nat} {xs : List S52} (h : Kd.C k52 w A n xs) (i : Int) (h0 : 0 ≤ i) (h1 : i < n) : ∃ ad A7 c7, A = some ad ∧ w.cell? (ad.add (i.toNat * 8)) = some (.int .i64 (rd_T52 xs i).f0) ∧ w.cell? ⟨(ad.add (i.toNat * 8)).block, (ad.add (i.toNat * 8)).off + 1, none⟩ = some (.int .i64 (rd_T52 xs i).f1.f0) ∧ w.cell? ⟨(ad.add (i.toNat * 8)).block, (ad.add (i.toNat * 8)).off + 2, none⟩ = some (.bool (rd_T52 xs i).f1.f1) ∧ w.cell? ⟨(ad.add (i.toNat * 8)).block, (ad.add (i.toNat * 8)).off + 3, none⟩ = some (.float .f64 (rd_T52 xs i).f1.f2) ∧ w.cell? ⟨(ad.add (i.toNat * 8)).block, (ad.add (i.toNat * 8)).off + 4, none⟩ = some (.string (rd_T52 xs i).f1.f3) ∧ w.cell? ⟨(ad.add (i.toNat * 8)).block, (ad.add (i.toNat * 8)).off + 5, none⟩ = some (.int .i64 (rd_T52 xs i).f1.f4) ∧ w.cell? ⟨(ad.add (i.toNat * 8)).block, (ad.add (i.toNat * 8)).off + 6, none⟩ = some (.bool (rd_T52 xs i).f2) ∧ w.cell? ⟨(ad.add (i.toNat * 8)).block, (ad.add (i.toNat * 8)).off + 7, none⟩ = some (.slice A7 (rd_T52 xs i).f3.length c7) ∧ (rd_T52 xs i).f3.length ≤ c7 ∧ k55.C w A7 (rd_T52 xs i).f3.length (rd_T52 xs i).f3 := by
 obtain ⟨ad, c, e, _, hK, hc0⟩ := Kd.C_get h z52 i h0 h1
 have hc : ∀ j u, c[j]? = some u → w.cell? (ad.add (i.toNat * 8 + j)) = some u := hc0
 obtain ⟨A7, c7, rfl, l7, g7⟩ := k52_open hK
 exact ⟨ad, A7, c7, e, hc 0 _ rfl, by rw [← add_field _ _ 1 (by omega)]; exact hc 1 _ rfl, by rw [← add_field _ _ 2 (by omega)]; exact hc 2 _ rfl, by rw [← add_field _ _ 3 (by omega)]; exact hc 3 _ rfl, by rw [← add_field _ _ 4 (by omega)]; exact hc 4 _ rfl, by rw [← add_field _ _ 5 (by omega)]; exact hc 5 _ rfl, by rw [← add_field _ _ 6 (by omega)]; exact hc 6 _ rfl, by rw [← add_field _ _ 7 (by omega)]; exact hc 7 _ rfl, l7, g7⟩

/-! #### struct type 35 -/
structure S35 where
 f0 : Int
 f1 : Int
 f2 : Int
 f3 : Bool
 f4 : S28
 f5 : S30
 f6 : S33
def z35 : S35 := ⟨(0 : Int), (0 : Int), (0 : Int), false, z28, z30, z33⟩
def k35 : Kd S35 := Kd.iso (Kd.pair (Kd.int .i64) (Kd.pair (Kd.int .i64) (Kd.pair (Kd.int .i64) (Kd.pair Kd.bool (Kd.pair k28 (Kd.pair k30 k33)))))) (fun x : S35 => (x.f0, x.f1, x.f2, x.f3, x.f4, x.f5, x.f6))
theorem k35_open {w : World} {x : S35} {cs : List Value} (h : k35.K w x cs) : cs = [.int .i64 x.f0, .int .i64 x.f1, .int .i64 x.f2, .bool x.f3, .int .i64 x.f4.f0, .bool x.f4.f1, .float .f64 x.f4.f2, .string x.f4.f3, .int .i64 x.f4.f4, .string x.f5.f0, .int .i64 x.f5.f1, .int .i64 x.f6.f0.f0, .bool x.f6.f0.f1, .float .f64 x.f6.f0.f2, .string x.f6.f0.f3, .int .i64 x.f6.f0.f4, .int .i64 x.f6.f1.f0, .bool x.f6.f1.f1, .float .f64 x.f6.f1.f2, .string x.f6.f1.f3, .int .i64 x.f6.f1.f4, .int .i64 x.f6.f2.f0, .bool x.f6.f2.f1, .float .f64 x.f6.f2.f2, .string x.f6.f2.f3, .int .i64 x.f6.f2.f4, .int .i64 x.f6.f3, .int .i64 x.f6.f4, .int .i64 x.f6.f5] := by
 obtain ⟨_, _, rfl, rfl, ⟨_, _, rfl, rfl, ⟨_, _, rfl, rfl, ⟨_, _, rfl, rfl, ⟨_, _, rfl, s4, ⟨_, _, rfl, s9, s11⟩⟩⟩⟩⟩⟩ := h
 obtain rfl := k28_open s4
 obtain rfl := k30_open s9
 obtain rfl := k33_open s11
 exact rfl
theorem k35_openM {w : World} {base : Nat} {ok : Nat → Prop} {x : S35} {cs : List Value} (h : k35.M w base ok x cs) : cs = [.int .i64 x.f0, .int .i64 x.f1, .int .i64 x.f2, .bool x.f3, .int .i64 x.f4.f0, .bool x.f4.f1, .float .f64 x.f4.f2, .string x.f4.f3, .int .i64 x.f4.f4, .string x.f5.f0, .int .i64 x.f5.f1, .int .i64 x.f6.f0.f0, .bool x.f6.f0.f1, .float .f64 x.f6.f0.f2, .string x.f6.f0.f3, .int .i64 x.f6.f0.f4, .int .i64 x.f6.f1.f0, .bool x.f6.f1.f1, .float .f64 x.f6.f1.f2, .string x.f6.f1.f3, .int .i64 x.f6.f1.f4, .int .i64 x.f6.f2.f0, .bool x.f6.f2.f1, .float .f64 x.f6.f2.f2, .string x.f6.f2.f3, .int .i64 x.f6.f2.f4, .int .i64 x.f6.f3, .int .i64 x.f6.f4, .int .i64 x.f6.f5] := by
 obtain ⟨_, _, rfl, rfl, ⟨_, _, rfl, rfl, ⟨_, _, rfl, rfl, ⟨_, _, rfl, rfl, ⟨_, _, rfl, s4, ⟨_, _, rfl, s9, s11⟩⟩⟩⟩⟩⟩ := h
 obtain rfl := k28_openM s4
 obtain rfl := k30_openM s9
 obtain rfl := k33_openM s11
 exact rfl
theorem k35_mk (w : World) (x : S35)  : k35.K w x [.int .i64 x.f0, .int .i64 x.f1, .int .i64 x.f2, .bool x.f3, .int .i64 x.f4.f0, .bool x.f4.f1, .float .f64 x.f4.f2, .string x.f4.f3, .int .i64 x.f4.f4, .string x.f5.f0, .int .i64 x.f5.f1, .int .i64 x.f6.f0.f0, .bool x.f6.f0.f1, .float .f64 x.f6.f0.f2, .string x.f6.f0.f3, .int .i64 x.f6.f0.f4, .int .i64 x.f6.f1.f0, .bool x.f6.f1.f1, .float .f64 x.f6.f1.f2, .string x.f6.f1.f3, .int .i64 x.f6.f1.f4, .int .i64 x.f6.f2.f0, .bool x.f6.f2.f1, .float .f64 x.f6.f2.f2, .string x.f6.f2.f3, .int .i64 x.f6.f2.f4, .int .i64 x.f6.f3, .int .i64 x.f6.f4, .int .i64 x.f6.f5] := ⟨[.int .i64 x.f0], [.int .i64 x.f1, .int .i64 x.f2, .bool x.f3, .int .i64 x.f4.f0, .bool x.f4.f1, .float .f64 x.f4.f2, .string x.f4.f3, .int .i64 x.f4.f4, .string x.f5.f0, .int .i64 x.f5.f1, .int .i64 x.f6.f0.f0, .bool x.f6.f0.f1, .float .f64 x.f6.f0.f2, .string x.f6.f0.f3, .int .i64 x.f6.f0.f4, .int .i64 x.f6.f1.f0, .bool x.f6.f1.f1, .float .f64 x.f6.f1.f2, .string x.f6.f1.f3, .int .i64 x.f6.f1.f4, .int .i64 x.f6.f2.f0, .bool x.f6.f2.f1, .float .f64 x.f6.f2.f2, .string x.f6.f2.f3, .int .i64 x.f6.f2.f4, .int .i64 x.f6.f3, .int .i64 x.f6.f4, .int .i64 x.f6.f5], rfl, rfl, ⟨[.int .i64 x.f1], [.int .i64 x.f2, .bool x.f3, .int .i64 x.f4.f0, .bool x.f4.f1, .float .f64 x.f4.f2, .string x.f4.f3, .int .i64 x.f4.f4, .string x.f5.f0, .int .i64 x.f5.f1, .int .i64 x.f6.f0.f0, .bool x.f6.f0.f1, .float .f64 x.f6.f0.f2, .string x.f6.f0.f3, .int .i64 x.f6.f0.f4, .int .i64 x.f6.f1.f0, .bool x.f6.f1.f1, .float .f64 x.f6.f1.f2, .string x.f6.f1.f3, .int .i64 x.f6.f1.f4, .int .i64 x.f6.f2.f0, .bool x.f6.f2.f1, .float .f64 x.f6.f2.f2, .string x.f6.f2.f3, .int .i64 x.f6.f2.f4, .int .i64 x.f6.f3, .int .i64 x.f6.f4, .int .i64 x.f6.f5], rfl, rfl, ⟨[.int .i64 x.f2], [.bool x.f3, .int .i64 x.f4.f0, .bool x.f4.f1, .float .f64 x.f4.f2, .string x.f4.f3, .int .i64 x.f4.f4, .string x.f5.f0, .int .i64 x.f5.f1, .int .i64 x.f6.f0.f0, .bool x.f6.f0.f1, .float .f64 x.f6.f0.f2, .string x.f6.f0.f3, .int .i64 x.f6.f0.f4, .int .i64 x.f6.f1.f0, .bool x.f6.f1.f1, .float .f64 x.f6.f1.f2, .string x.f6.f1.f3, .int .i64 x.f6.f1.f4, .int .i64 x.f6.f2.f0, .bool x.f6.f2.f1, .float .f64 x.f6.f2.f2, .string x.f6.f2.f3, .int .i64 x.f6.f2.f4, .int .i64 x.f6.f3, .int .i64 x.f6.f4, .int .i64 x.f6.f5], rfl, rfl, ⟨[.bool x.f3], [.int .i64 x.f4.f0, .bool x.f4.f1, .float .f64 x.f4.f2, .string x.f4.f3, .int .i64 x.f4.f4, .string x.f5.f0, .int .i64 x.f5.f1, .int .i64 x.f6.f0.f0, .bool x.f6.f0.f1, .float .f64 x.f6.f0.f2, .string x.f6.f0.f3, .int .i64 x.f6.f0.f4, .int .i64 x.f6.f1.f0, .bool x.f6.f1.f1, .float .f64 x.f6.f1.f2, .string x.f6.f1.f3, .int .i64 x.f6.f1.f4, .int .i64 x.f6.f2.f0, .bool x.f6.f2.f1, .float .f64 x.f6.f2.f2, .string x.f6.f2.f3, .int .i64 x.f6.f2.f4, .int .i64 x.f6.f3, .int .i64 x.f6.f4, .int .i64 x.f6.f5], rfl, rfl, ⟨[.int .i64 x.f4.f0, .bool x.f4.f1, .float .f64 x.f4.f2, .string x.f4.f3, .int .i64 x.f4.f4], [.string x.f5.f0, .int .i64 x.f5.f1, .int .i64 x.f6.f0.f0, .bool x.f6.f0.f1, .float .f64 x.f6.f0.f2, .string x.f6.f0.f3, .int .i64 x.f6.f0.f4, .int .i64 x.f6.f1.f0, .bool x.f6.f1.f1, .float .f64 x.f6.f1.f2, .string x.f6.f1.f3, .int .i64 x.f6.f1.f4, .int .i64 x.f6.f2.f0, .bool x.f6.f2.f1, .float .f64 x.f6.f2.f2, .string x.f6.f2.f3, .int .i64 x.f6.f2.f4, .int .i64 x.f6.f3, .int .i64 x.f6.f4, .int .i64 x.f6.f5], rfl, (k28_mk w x.f4 ), ⟨[.string x.f5.f0, .int .i64 x.f5.f1], [.int .i64 x.f6.f0.f0, .bool x.f6.f0.f1, .float .f64 x.f6.f0.f2, .string x.f6.f0.f3, .int .i64 x.f6.f0.f4, .int .i64 x.f6.f1.f0, .bool x.f6.f1.f1, .float .f64 x.f6.f1.f2, .string x.f6.f1.f3, .int .i64 x.f6.f1.f4, .int .i64 x.f6.f2.f0, .bool x.f6.f2.f1, .float .f64 x.f6.f2.f2, .string x.f6.f2.f3, .int .i64 x.f6.f2.f4, .int .i64 x.f6.f3, .int .i64 x.f6.f4, .int .i64 x.f6.f5], rfl, (k30_mk w x.f5 ), (k33_mk w x.f6 )⟩⟩⟩⟩⟩⟩
theorem k35_mkM (w : World) (base : Nat) (ok : Nat → Prop) (x : S35)  : k35.M w base ok x [.int .i64 x.f0, .int .i64 x.f1, .int .i64 x.f2, .bool x.f3, .int .i64 x.f4.f0, .bool x.f4.f1, .float .f64 x.f4.f2, .string x.f4.f3, .int .i64 x.f4.f4, .string x.f5.f0, .int .i64 x.f5.f1, .int .i64 x.f6.f0.f0, .bool x.f6.f0.f1, .float .f64 x.f6.f0.f2, .string x.f6.f0.f3, .int .i64 x.f6.f0.f4, .int .i64 x.f6.f1.f0, .bool x.f6.f1.f1, .float .f64 x.f6.f1.f2, .string x.f6.f1.f3, .int .i64 x.f6.f1.f4, .int .i64 x.f6.f2.f0, .bool x.f6.f2.f1, .float .f64 x.f6.f2.f2, .string x.f6.f2.f3, .int .i64 x.f6.f2.f4, .int .i64 x.f6.f3, .int .i64 x.f6.f4, .int .i64 x.f6.f5] := ⟨[.int .i64 x.f0], [.int .i64 x.f1, .int .i64 x.f2, .bool x.f3, .int .i64 x.f4.f0, .bool x.f4.f1, .float .f64 x.f4.f2, .string x.f4.f3, .int .i64 x.f4.f4, .string x.f5.f0, .int .i64 x.f5.f1, .int .i64 x.f6.f0.f0, .bool x.f6.f0.f1, .float .f64 x.f6.f0.f2, .string x.f6.f0.f3, .int .i64 x.f6.f0.f4, .int .i64 x.f6.f1.f0, .bool x.f6.f1.f1, .float .f64 x.f6.f1.f2, .string x.f6.f1.f3, .int .i64 x.f6.f1.f4, .int .i64 x.f6.f2.f0, .bool x.f6.f2.f1, .float .f64 x.f6.f2.f2, .string x.f6.f2.f3, .int .i64 x.f6.f2.f4, .int .i64 x.f6.f3, .int .i64 x.f6.f4, .int .i64 x.f6.f5], rfl, rfl, ⟨[.int .i64 x.f1], [.int .i64 x.f2, .bool x.f3, .int .i64 x.f4.f0, .bool x.f4.f1, .float .f64 x.f4.f2, .string x.f4.f3, .int .i64 x.f4.f4, .string x.f5.f0, .int .i64 x.f5.f1, .int .i64 x.f6.f0.f0, .bool x.f6.f0.f1, .float .f64 x.f6.f0.f2, .string x.f6.f0.f3, .int .i64 x.f6.f0.f4, .int .i64 x.f6.f1.f0, .bool x.f6.f1.f1, .float .f64 x.f6.f1.f2, .string x.f6.f1.f3, .int .i64 x.f6.f1.f4, .int .i64 x.f6.f2.f0, .bool x.f6.f2.f1, .float .f64 x.f6.f2.f2, .string x.f6.f2.f3, .int .i64 x.f6.f2.f4, .int .i64 x.f6.f3, .int .i64 x.f6.f4, .int .i64 x.f6.f5], rfl, rfl, ⟨[.int .i64 x.f2], [.bool x.f3, .int .i64 x.f4.f0, .bool x.f4.f1, .float .f64 x.f4.f2, .string x.f4.f3, .int .i64 x.f4.f4, .string x.f5.f0, .int .i64 x.f5.f1, .int .i64 x.f6.f0.f0, .bool x.f6.f0.f1, .float .f64 x.f6.f0.f2, .string x.f6.f0.f3, .int .i64 x.f6.f0.f4, .int .i64 x.f6.f1.f0, .bool x.f6.f1.f1, .float .f64 x.f6.f1.f2, .string x.f6.f1.f3, .int .i64 x.f6.f1.f4, .int .i64 x.f6.f2.f0, .bool x.f6.f2.f1, .float .f64 x.f6.f2.f2, .string x.f6.f2.f3, .int .i64 x.f6.f2.f4, .int .i64 x.f6.f3, .int .i64 x.f6.f4, .int .i64 x.f6.f5], rfl, rfl, ⟨[.bool x.f3], [.int .i64 x.f4.f0, .bool x.f4.f1, .float .f64 x.f4.f2, .string x.f4.f3, .int .i64 x.f4.f4, .string x.f5.f0, .int .i64 x.f5.f1, .int .i64 x.f6.f0.f0, .bool x.f6.f0.f1, .float .f64 x.f6.f0.f2, .string x.f6.f0.f3, .int .i64 x.f6.f0.f4, .int .i64 x.f6.f1.f0, .bool x.f6.f1.f1, .float .f64 x.f6.f1.f2, .string x.f6.f1.f3, .int .i64 x.f6.f1.f4, .int .i64 x.f6.f2.f0, .bool x.f6.f2.f1, .float .f64 x.f6.f2.f2, .string x.f6.f2.f3, .int .i64 x.f6.f2.f4, .int .i64 x.f6.f3, .int .i64 x.f6.f4, .int .i64 x.f6.f5], rfl, rfl, ⟨[.int .i64 x.f4.f0, .bool x.f4.f1, .float .f64 x.f4.f2, .string x.f4.f3, .int .i64 x.f4.f4], [.string x.f5.f0, .int .i64 x.f5.f1, .int .i64 x.f6.f0.f0, .bool x.f6.f0.f1, .float .f64 x.f6.f0.f2, .string x.f6.f0.f3, .int .i64 x.f6.f0.f4, .int .i64 x.f6.f1.f0, .bool x.f6.f1.f1, .float .f64 x.f6.f1.f2, .string x.f6.f1.f3, .int .i64 x.f6.f1.f4, .int .i64 x.f6.f2.f0, .bool x.f6.f2.f1, .float .f64 x.f6.f2.f2, .string x.f6.f2.f3, .int .i64 x.f6.f2.f4, .int .i64 x.f6.f3, .int .i64 x.f6.f4, .int .i64 x.f6.f5], rfl, (k28_mkM w base ok x.f4 ), ⟨[.string x.f5.f0, .int .i64 x.f5.f1], [.int .i64 x.f6.f0.f0, .bool x.f6.f0.f1, .float .f64 x.f6.f0.f2, .string x.f6.f0.f3, .int .i64 x.f6.f0.f4, .int .i64 x.f6.f1.f0, .bool x.f6.f1.f1, .float .f64 x.f6.f1.f2, .string x.f6.f1.f3, .int .i64 x.f6.f1.f4, .int .i64 x.f6.f2.f0, .bool x.f6.f2.f1, .float .f64 x.f6.f2.f2, .string x.f6.f2.f3, .int .i64 x.f6.f2.f4, .int .i64 x.f6.f3, .int .i64 x.f6.f4, .int .i64 x.f6.f5], rfl, (k30_mkM w base ok x.f5 ), (k33_mkM w base ok x.f6 )⟩⟩⟩⟩⟩⟩
def rd_T35 (xs : List S35) (i : Int) : S35 := xs.getD i.toNat z35
theorem ats_T35 {w : World} {A : Option Addr} {n : Nat} {xs : List S35} (h : Kd.C k35 w A n xs) (i : Int) (h0 : 0 ≤ i) (h1 : i < n) : ∃ ad , A = some ad ∧ (∀ j u, ([.int .i64 (rd_T35 xs i).f0, .int .i64 (rd_T35 xs i).f1, .int .i64 (rd_T35 xs i).f2, .bool (rd_T35 xs i).f3, .int .i64 (rd_T35 xs i).f4.f0, .bool (rd_T35 xs i).f4.f1, .float .f64 (rd_T35 xs i).f4.f2, .string (rd_T35 xs i).f4.f3, .int .i64 (rd_T35 xs i).f4.f4, .string (rd_T35 xs i).f5.f0, .int .i64 (rd_T35 xs i).f5.f1, .int .i64 (rd_T35 xs i).f6.f0.f0, .bool (rd_T35 xs i).f6.f0.f1, .float .f64 (rd_T35 xs i).f6.f0.f2, .string (rd_T35 xs i).f6.f0.f3, .int .i64 (rd_T35 xs i).f6.f0.f4, .int .i64 (rd_T35 xs i).f6.f1.f0, .bool (rd_T35 xs i).f6.f1.f1, .float .f64 (rd_T35 xs i).f6.f1.f2, .string (rd_T35 xs i).f6.f1.f3, .int .i64 (rd_T35 xs i).f6.f1.f4, .int .i64 (rd_T35 xs i).f6.f2.f0, .bool (rd_T35 xs i).f6.f2.f1, .float .f64 (rd_T35 xs i).f6.f2.f2, .string (rd_T35 xs i).f6.f2.f3, .int .i64 (rd_T35 xs i).f6.f2.f4, .int .i64 (rd_T35 xs i).f6.f3, .int .i64 (rd_T35 xs i).f6.f4, .int .i64 (rd_T35 xs i).f6.f5] : List Value)[j]? = some u → w.cell? ((ad.add (i.toNat * 29)).add j) = some u) := by
 obtain ⟨ad, c, e, _, hK, hc0⟩ := Kd.C_get h z35 i h0 h1
 have hc : ∀ j u, c[j]? = some u → w.cell? (ad.add (i.toNat * 29 + j)) = some u := hc0
 obtain rfl := k35_open hK
 exact ⟨ad, e, fun j u hj => by rw [f_add_add]; exact hc j u hj⟩
theorem at_T35 {w : World} {A : Option Addr} {n : Nat} {xs : List S35} (h : Kd.C k35 w A n xs) (i : Int) (h0 : 0 ≤ i) (h1 : i < n) : ∃ ad , A = some ad ∧ w.cell? (ad.add (i.toNat * 29)) = some (.int .i64 (rd_T35 xs i).f0) ∧ w.cell? ⟨(ad.add (i.toNat * 29)).block, (ad.add (i.toNat * 29)).off + 1, none⟩ = some (.int .i64 (rd_T35 xs i).f1) ∧ w.cell? ⟨(ad.add (i.toNat * 29)).block, (ad.add (i.toNat * 29)).off + 2, none⟩ = some (.int .i64 (rd_T35 xs i).f2) ∧ w.cell? ⟨(ad.add (i.toNat * 29)).block, (ad.add (i.toNat * 29)).off + 3, none⟩ = some (.bool (rd_T35 xs i).f3) ∧ w.cell? ⟨(ad.add (i.toNat * 29)).block, (ad.add (i.toNat * 29)).off + 4, none⟩ = some (.int .i64 (rd_T35 xs i).f4.f0) ∧ w.cell? ⟨(ad.add (i.toNat * 29)).block, (ad.add (i.toNat * 29)).off + 5, none⟩ = some (.bool (rd_T35 xs i).f4.f1) ∧ w.cell? ⟨(ad.add (i.toNat * 29)).block, (ad.add (i.toNat * 29)).off + 6, none⟩ = some (.float .f64 (rd_T35 xs i).f4.f2) ∧ w.cell? ⟨(ad.add (i.toNat * 29)).block, (ad.add (i.toNat * 29)).off + 7, none⟩ = some (.string (rd_T35 xs i).f4.f3) ∧ w.cell? ⟨(ad.add (i.toNat * 29)).block, (ad.add (i.toNat * 29)).off + 8, none⟩ = some (.int .i64 (rd_T35 xs i).f4.f4) ∧ w.cell? ⟨(ad.add (i.toNat * 29)).block, (ad.add (i.toNat * 29)).off + 9, none⟩ = some (.string (rd_T35 xs i).f5.f0) ∧ w.cell? ⟨(ad.add (i.toNat * 29)).block, (ad.add (i.toNat * 29)).off + 10, none⟩ = some (.int .i64 (rd_T35 xs i).f5.f1) ∧ w.cell? ⟨(ad.add (i.toNat * 29)).block, (ad.add (i.toNat * 29)).off + 11, none⟩ = some (.int .i64 (rd_T35 xs i).f6.f0.f0) ∧ w.cell? ⟨(ad.add (i.toNat * 29)).block, (ad.add (i.toNat * 29)).off + 12, none⟩ = some (.bool (rd_T35 xs i).f6.f0.f1) ∧ w.cell? ⟨(ad.add (i.toNat * 29)).block, (ad.add (i.toNat * 29)).off + 13, none⟩ = some (.float .f64 (rd_T35 xs i).f6.f0.f2) ∧ w.cell? ⟨(ad.add (i.toNat * 29)).block, (ad.add (i.toNat * 29)).off + 14, none⟩ = some (.string (rd_T35 xs i).f6.f0.f3) ∧ w.cell? ⟨(ad.add (i.toNat * 29)).block, (ad.add (i.toNat * 29)).off + 15, none⟩ = some (.int .i64 (rd_T35 xs i).f6.f0.f4) ∧ w.cell? ⟨(ad.add (i.toNat * 29)).block, (ad.add (i.toNat * 29)).off + 16, none⟩ = some (.int .i64 (rd_T35 xs i).f6.f1.f0) ∧ w.cell? ⟨(ad.add (i.toNat * 29)).block, (ad.add (i.toNat * 29)).off + 17, none⟩ = some (.bool (rd_T35 xs i).f6.f1.f1) ∧ w.cell? ⟨(ad.add (i.toNat * 29)).block, (ad.add (i.toNat * 29)).off + 18, none⟩ = some (.float .f64 (rd_T35 xs i).f6.f1.f2) ∧ w.cell? ⟨(ad.add (i.toNat * 29)).block, (ad.add (i.toNat * 29)).off + 19, none⟩ = some (.string (rd_T35 xs i).f6.f1.f3) ∧ w.cell? ⟨(ad.add (i.toNat * 29)).block, (ad.add (i.toNat * 29)).off + 20, none⟩ = some (.int .i64 (rd_T35 xs i).f6.f1.f4) ∧ w.cell? ⟨(ad.add (i.toNat * 29)).block, (ad.add (i.toNat * 29)).off + 21, none⟩ = some (.int .i64 (rd_T35 xs i).f6.f2.f0) ∧ w.cell? ⟨(ad.add (i.toNat * 29)).block, (ad.add (i.toNat * 29)).off + 22, none⟩ = some (.bool (rd_T35 xs i).f6.f2.f1) ∧ w.cell? ⟨(ad.add (i.toNat * 29)).block, (ad.add (i.toNat * 29)).off + 23, none⟩ = some (.float .f64 (rd_T35 xs i).f6.f2.f2) ∧ w.cell? ⟨(ad.add (i.toNat * 29)).block, (ad.add (i.toNat * 29)).off + 24, none⟩ = some (.string (rd_T35 xs i).f6.f2.f3) ∧ w.cell? ⟨(ad.add (i.toNat * 29)).block, (ad.add (i.toNat * 29)).off + 25, none⟩ = some (.int .i64 (rd_T35 xs i).f6.f2.f4) ∧ w.cell? ⟨(ad.add (i.toNat * 29)).block, (ad.add (i.toNat * 29)).off + 26, none⟩ = some (.int .i64 (rd_T35 xs i).f6.f3) ∧ w.cell? ⟨(ad.add (i.toNat * 29)).block, (ad.add (i.toNat * 29)).off + 27, none⟩ = some (.int .i64 (rd_T35 xs i).f6.f4) ∧ w.cell? ⟨(ad.add (i.toNat * 29)).block, (ad.add (i.toNat * 29)).off + 28, none⟩ = some (.int .i64 (rd_T35 xs i).f6.f5) := by
 obtain ⟨ad, c, e, _, hK, hc0⟩ := Kd.C_get h z35 i h0 h1
 have hc : ∀ j u, c[j]? = some u → w.cell? (ad.add (i.toNat * 29 + j)) = some u := hc0
 obtain rfl := k35_open hK
 exact ⟨ad, e, hc 0 _ rfl, by rw [← add_field _ _ 1 (by omega)]; exact hc 1 _ rfl, by rw [← add_field _ _ 2 (by omega)]; exact hc 2 _ rfl, by rw [← add_field _ _ 3 (by omega)]; exact hc 3 _ rfl, by rw [← add_field _ _ 4 (by omega)]; exact hc 4 _ rfl, by rw [← add_field _ _ 5 (by omega)]; exact hc 5 _ rfl, by rw [← add_field _ _ 6 (by omega)]; exact hc 6 _ rfl, by rw [← add_field _ _ 7 (by omega)]; exact hc 7 _ rfl, by rw [← add_field _ _ 8 (by omega)]; exact hc 8 _ rfl, by rw [← add_field _ _ 9 (by omega)]; exact hc 9 _ rfl, by rw [← add_field _ _ 10 (by omega)]; exact hc 10 _ rfl, by rw [← add_field _ _ 11 (by omega)]; exact hc 11 _ rfl, by rw [← add_field _ _ 12 (by omega)]; exact hc 12 _ rfl, by rw [← add_field _ _ 13 (by omega)]; exact hc 13 _ rfl, by rw [← add_field _ _ 14 (by omega)]; exact hc 14 _ rfl, by rw [← add_field _ _ 15 (by omega)]; exact hc 15 _ rfl, by rw [← add_field _ _ 16 (by omega)]; exact hc 16 _ rfl, by rw [← add_field _ _ 17 (by omega)]; exact hc 17 _ rfl, by rw [← add_field _ _ 18 (by omega)]; exact hc 18 _ rfl, by rw [← add_field _ _ 19 (by omega)]; exact hc 19 _ rfl, by rw [← add_field _ _ 20 (by omega)]; exact hc 20 _ rfl, by rw [← add_field _ _ 21 (by omega)]; exact hc 21 _ rfl, by rw [← add_field _ _ 22 (by omega)]; exact hc 22 _ rfl, by rw [← add_field _ _ 23 (by omega)]; exact hc 23 _ rfl, by rw [← add_field _ _ 24 (by omega)]; exact hc 24 _ rfl, by rw [← add_field _ _ 25 (by omega)]; exact hc 25 _ rfl, by rw [← add_field _ _ 26 (by omega)]; exact hc 26 _ rfl, by rw [← add_field _ _ 27 (by omega)]; exact hc 27 _ rfl, by rw [← add_field _ _ 28 (by omega)]; exact hc 28 _ rfl⟩

def rd_L11 (xs : List (List S52)) (i : Int) : (List S52) := xs.getD i.toNat ([] : List S52)
theorem at_L11 {w : World} {A : Option Addr} {n : Nat} {xs : List (List S52)} (h : Kd.C (Kd.slice 52 k52) w A n xs) (i : Int) (h0 : 0 ≤ i) (h1 : i < n) : ∃ ad A0 c0, A = some ad ∧ w.cell? (ad.add i.toNat) = some (.slice A0 (rd_L11 xs i).length c0) ∧ (rd_L11 xs i).length ≤ c0 ∧ k52.C w A0 (rd_L11 xs i).length (rd_L11 xs i) := by
 obtain ⟨ad, c, e, _, hK, hc0⟩ := Kd.C_get h ([] : List S52) i h0 h1
 have hc : ∀ j u, c[j]? = some u → w.cell? (ad.add (i.toNat * 1 + j)) = some u := hc0
 obtain ⟨A0, c0, rfl, l0, g0⟩ := hK
 exact ⟨ad, A0, c0, e, by have hq := hc 0 _ rfl; rwa [Nat.mul_one, Nat.add_zero] at hq, l0, g0⟩

theorem bc {w W : World} {a : Addr} {u : Value} (hb : Below w.heap.size w W) (h : w.cell? a = some u) : W.cell? a = some u := (hb.cell (World.block_lt_of_cell? w _ h)).trans h
theorem ca {w : World} {o : Obj} {a : Addr} {u : Value} (h : w.cell? a = some u) : (w.alloc o).cell? a = some u := (World.cell?_alloc_lt _ _ _ (World.block_lt_of_cell? _ _ h)).trans h
theorem sA {α : Type} (l : List α) (i : Nat) (a : α) : l.toArray.setIfInBounds i a = (l.set i a).toArray := List.setIfInBounds_toArray ..
theorem s0 {α : Type} (x : α) (xs : List α) (a : α) : (x :: xs).set 0 a = a :: xs := List.set_cons_zero ..
theorem sS {α : Type} (x : α) (xs : List α) (n : Nat) (a : α) : (x :: xs).set (n + 1) a = x :: xs.set n a := List.set_cons_succ ..
abbrev o1 : Bool := true
abbrev o0 : Bool := false
abbrev c28A (x : S28) : Array Value := #[.int .i64 x.f0, .bool x.f1, .float .f64 x.f2, .string x.f3, .int .i64 x.f4]
abbrev c28L (x : S28) : List Value := [.int .i64 x.f0, .bool x.f1, .float .f64 x.f2, .string x.f3, .int .i64 x.f4]
abbrev z28A : Array Value := #[.int .i64 0, .bool false, .float .f64 0, .string (⟨#[]⟩ : ByteArray), .int .i64 0]
abbrev c52A (x : S52) (v : Value) : Array Value := #[.int .i64 x.f0, .int .i64 x.f1.f0, .bool x.f1.f1, .float .f64 x.f1.f2, .string x.f1.f3, .int .i64 x.f1.f4, .bool x.f2, v]
abbrev c52L (x : S52) (v : Value) : List Value := [.int .i64 x.f0, .int .i64 x.f1.f0, .bool x.f1.f1, .float .f64 x.f1.f2, .string x.f1.f3, .int .i64 x.f1.f4, .bool x.f2, v]
abbrev z52A : Array Value := #[.int .i64 0, .int .i64 0, .bool false, .float .f64 0, .string (⟨#[]⟩ : ByteArray), .int .i64 0, .bool false, .slice none 0 0]
abbrev c33A (x : S33) : Array Value := #[.int .i64 x.f0.f0, .bool x.f0.f1, .float .f64 x.f0.f2, .string x.f0.f3, .int .i64 x.f0.f4, .int .i64 x.f1.f0, .bool x.f1.f1, .float .f64 x.f1.f2, .string x.f1.f3, .int .i64 x.f1.f4, .int .i64 x.f2.f0, .bool x.f2.f1, .float .f64 x.f2.f2, .string x.f2.f3, .int .i64 x.f2.f4, .int .i64 x.f3, .int .i64 x.f4, .int .i64 x.f5]
abbrev c33L (x : S33) : List Value := [.int .i64 x.f0.f0, .bool x.f0.f1, .float .f64 x.f0.f2, .string x.f0.f3, .int .i64 x.f0.f4, .int .i64 x.f1.f0, .bool x.f1.f1, .float .f64 x.f1.f2, .string x.f1.f3, .int .i64 x.f1.f4, .int .i64 x.f2.f0, .bool x.f2.f1, .float .f64 x.f2.f2, .string x.f2.f3, .int .i64 x.f2.f4, .int .i64 x.f3, .int .i64 x.f4, .int .i64 x.f5]
abbrev z33A : Array Value := #[.int .i64 0, .bool false, .float .f64 0, .string (⟨#[]⟩ : ByteArray), .int .i64 0, .int .i64 0, .bool false, .float .f64 0, .string (⟨#[]⟩ : ByteArray), .int .i64 0, .int .i64 0, .bool false, .float .f64 0, .string (⟨#[]⟩ : ByteArray), .int .i64 0, .int .i64 0, .int .i64 0, .int .i64 0]
abbrev c55A (x : S55) : Array Value := #[.string x.f0.f0, .int .i64 x.f0.f1, .int .i64 x.f1.f0.f0, .bool x.f1.f0.f1, .float .f64 x.f1.f0.f2, .string x.f1.f0.f3, .int .i64 x.f1.f0.f4, .int .i64 x.f1.f1.f0, .bool x.f1.f1.f1, .float .f64 x.f1.f1.f2, .string x.f1.f1.f3, .int .i64 x.f1.f1.f4, .int .i64 x.f1.f2.f0, .bool x.f1.f2.f1, .float .f64 x.f1.f2.f2, .string x.f1.f2.f3, .int .i64 x.f1.f2.f4, .int .i64 x.f1.f3, .int .i64 x.f1.f4, .int .i64 x.f1.f5]
abbrev c55L (x : S55) : List Value := [.string x.f0.f0, .int .i64 x.f0.f1, .int .i64 x.f1.f0.f0, .bool x.f1.f0.f1, .float .f64 x.f1.f0.f2, .string x.f1.f0.f3, .int .i64 x.f1.f0.f4, .int .i64 x.f1.f1.f0, .bool x.f1.f1.f1, .float .f64 x.f1.f1.f2, .string x.f1.f1.f3, .int .i64 x.f1.f1.f4, .int .i64 x.f1.f2.f0, .bool x.f1.f2.f1, .float .f64 x.f1.f2.f2, .string x.f1.f2.f3, .int .i64 x.f1.f2.f4, .int .i64 x.f1.f3, .int .i64 x.f1.f4, .int .i64 x.f1.f5]
abbrev z55A : Array Value := #[.string (⟨#[]⟩ : ByteArray), .int .i64 0, .int .i64 0, .bool false, .float .f64 0, .string (⟨#[]⟩ : ByteArray), .int .i64 0, .int .i64 0, .bool false, .float .f64 0, .string (⟨#[]⟩ : ByteArray), .int .i64 0, .int .i64 0, .bool false, .float .f64 0, .string (⟨#[]⟩ : ByteArray), .int .i64 0, .int .i64 0, .int .i64 0, .int .i64 0]
abbrev c35A (x : S35) : Array Value := #[.int .i64 x.f0, .int .i64 x.f1, .int .i64 x.f2, .bool x.f3, .int .i64 x.f4.f0, .bool x.f4.f1, .float .f64 x.f4.f2, .string x.f4.f3, .int .i64 x.f4.f4, .string x.f5.f0, .int .i64 x.f5.f1, .int .i64 x.f6.f0.f0, .bool x.f6.f0.f1, .float .f64 x.f6.f0.f2, .string x.f6.f0.f3, .int .i64 x.f6.f0.f4, .int .i64 x.f6.f1.f0, .bool x.f6.f1.f1, .float .f64 x.f6.f1.f2, .string x.f6.f1.f3, .int .i64 x.f6.f1.f4, .int .i64 x.f6.f2.f0, .bool x.f6.f2.f1, .float .f64 x.f6.f2.f2, .string x.f6.f2.f3, .int .i64 x.f6.f2.f4, .int .i64 x.f6.f3, .int .i64 x.f6.f4, .int .i64 x.f6.f5]
abbrev c35L (x : S35) : List Value := [.int .i64 x.f0, .int .i64 x.f1, .int .i64 x.f2, .bool x.f3, .int .i64 x.f4.f0, .bool x.f4.f1, .float .f64 x.f4.f2, .string x.f4.f3, .int .i64 x.f4.f4, .string x.f5.f0, .int .i64 x.f5.f1, .int .i64 x.f6.f0.f0, .bool x.f6.f0.f1, .float .f64 x.f6.f0.f2, .string x.f6.f0.f3, .int .i64 x.f6.f0.f4, .int .i64 x.f6.f1.f0, .bool x.f6.f1.f1, .float .f64 x.f6.f1.f2, .string x.f6.f1.f3, .int .i64 x.f6.f1.f4, .int .i64 x.f6.f2.f0, .bool x.f6.f2.f1, .float .f64 x.f6.f2.f2, .string x.f6.f2.f3, .int .i64 x.f6.f2.f4, .int .i64 x.f6.f3, .int .i64 x.f6.f4, .int .i64 x.f6.f5]
abbrev z35A : Array Value := #[.int .i64 0, .int .i64 0, .int .i64 0, .bool false, .int .i64 0, .bool false, .float .f64 0, .string (⟨#[]⟩ : ByteArray), .int .i64 0, .string (⟨#[]⟩ : ByteArray), .int .i64 0, .int .i64 0, .bool false, .float .f64 0, .string (⟨#[]⟩ : ByteArray), .int .i64 0, .int .i64 0, .bool false, .float .f64 0, .string (⟨#[]⟩ : ByteArray), .int .i64 0, .int .i64 0, .bool false, .float .f64 0, .string (⟨#[]⟩ : ByteArray), .int .i64 0, .int .i64 0, .int .i64 0, .int .i64 0]
end Go.Proofs.Ytaojjpdlfnphiaa.PInvariantDiffs
