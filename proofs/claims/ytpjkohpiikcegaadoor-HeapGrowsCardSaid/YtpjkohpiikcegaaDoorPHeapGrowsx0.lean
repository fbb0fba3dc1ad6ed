-- Printed by a program of this session over the translation; Lean checks it.
import Derived.Test.YtpjkohpiikcegaaDoorProg
import Derived.Below
import Derived.Deep.Draws
import Derived.Deep.AppendLies
import Derived.Maps.AppendAt
import Derived.OwnWalk
import Derived.Laws.BytesArg
import Derived.Laws.MakeOwn
import Derived.Laws.OwnMore
import Derived.Deep.OwnRows
import Derived.Tactics
import Derived.Lib.ConvBytes
import Derived.Laws.Slices
import Derived.WalkKit
import Derived.KernelRfl
import Derived.RowKit3
import Derived.Deep.LoopGhost
import Derived.Deep.QuietTactic
import Derived.BigQuiet
import Derived.WideLaws
import Derived.Deep.DeepCutAuto
import Derived.Deep.CutBlock
import Derived.Deep.RegionHeld3
import Derived.Laws.Rows
import Derived.Lib.AppendStr
import Derived.ArgAppend
import Derived.Laws.IdiomCopy
import Derived.OrdersHeld
import Derived.Laws.BitsLemmas
import Derived.RowKit
import Derived.Maps.OwnOps
import Derived.Maps.Views
import Derived.DeepKeys4
import Derived.Carry
import Derived.LoopTactic
import Derived.Outline
import Derived.Test.YtpjkohpiikcegaaDoorWWords
import Derived.Test.YtpjkohpiikcegaaDoorWLast
import Derived.Test.YtpjkohpiikcegaaDoorWTab
import Derived.Test.YtpjkohpiikcegaaDoorWFour
import Derived.Test.YtpjkohpiikcegaaDoorWQPut
import Derived.Test.YtpjkohpiikcegaaDoorWApart
import Derived.Test.YtpjkohpiikcegaaDoorWArr
import Derived.Test.YtpjkohpiikcegaaDoorWZeros
import Derived.Test.YtpjkohpiikcegaaDoorWFoot
import Derived.Test.YtpjkohpiikcegaaDoorWKept
import Derived.Test.YtpjkohpiikcegaaDoorWShare
import Derived.Test.YtpjkohpiikcegaaDoorWN
import Derived.Test.YtpjkohpiikcegaaDoorWFootNe
import Derived.Test.YtpjkohpiikcegaaDoorWAt
import Derived.Test.YtpjkohpiikcegaaDoorWEqStruct
import Derived.Test.YtpjkohpiikcegaaDoorWRepsOne
import Derived.Test.YtpjkohpiikcegaaDoorWInv
import Derived.Test.YtpjkohpiikcegaaDoorWInvWords
import Derived.Test.YtpjkohpiikcegaaDoorWGuard
import Derived.Test.YtpjkohpiikcegaaDoorWNEv
import Derived.Test.YtpjkohpiikcegaaDoorWMore
import Derived.Test.YtpjkohpiikcegaaDoorWF64
namespace Go.Proofs.YtpjkohpiikcegaaDoor.PHeapGrows
open Go.RowKit Go.Proofs.YtpjkohpiikcegaaDoorW.PrintWords Go.Proofs.YtpjkohpiikcegaaDoorW.PrintLast Go.Proofs.YtpjkohpiikcegaaDoorW.PrintMore
attribute [local go_sem] max2_int min2_int max_two min_two max_three min_three max_four min_four   -- for this text's walks alone
set_option linter.unusedVariables false
set_option linter.unusedSimpArgs false



def errW : Option Int → Value
  | none => .nilIface
  | some c => .iface 0 (.int .i64 c)
theorem errW_none : errW none = .nilIface := rfl
theorem errW_some (c : Int) : errW (some c) = .iface 0 (.int .i64 c) := rfl

-- the values' own types
/-! #### struct type 35 -/
structure S35 where
  f0 : Int
  f1 : Bool
  f2 : Nat
  f3 : ByteArray
  f4 : Int
def z35 : S35 := ⟨(0 : Int), false, (0 : Nat), (⟨#[]⟩ : ByteArray), (0 : Int)⟩
def k35 : Kd S35 := Kd.iso (Kd.pair (Kd.int .i64) (Kd.pair Kd.bool (Kd.pair Kd.f64 (Kd.pair Kd.string (Kd.int .i64))))) (fun x : S35 => (x.f0, x.f1, x.f2, x.f3, x.f4))
theorem k35_open {w : World} {x : S35} {cs : List Value} (h : k35.K w x cs) : cs = [.int .i64 x.f0, .bool x.f1, .float .f64 x.f2, .string x.f3, .int .i64 x.f4] := by
  obtain ⟨_, _, rfl, rfl, ⟨_, _, rfl, rfl, ⟨_, _, rfl, rfl, ⟨_, _, rfl, rfl, rfl⟩⟩⟩⟩ := h
  exact rfl
theorem k35_openM {w : World} {base : Nat} {ok : Nat → Prop} {x : S35} {cs : List Value} (h : k35.M w base ok x cs) : cs = [.int .i64 x.f0, .bool x.f1, .float .f64 x.f2, .string x.f3, .int .i64 x.f4] := by
  obtain ⟨_, _, rfl, rfl, ⟨_, _, rfl, rfl, ⟨_, _, rfl, rfl, ⟨_, _, rfl, rfl, rfl⟩⟩⟩⟩ := h
  exact rfl
theorem k35_mk (w : World) (x : S35)  : k35.K w x [.int .i64 x.f0, .bool x.f1, .float .f64 x.f2, .string x.f3, .int .i64 x.f4] := ⟨[.int .i64 x.f0], [.bool x.f1, .float .f64 x.f2, .string x.f3, .int .i64 x.f4], rfl, rfl, ⟨[.bool x.f1], [.float .f64 x.f2, .string x.f3, .int .i64 x.f4], rfl, rfl, ⟨[.float .f64 x.f2], [.string x.f3, .int .i64 x.f4], rfl, rfl, ⟨[.string x.f3], [.int .i64 x.f4], rfl, rfl, rfl⟩⟩⟩⟩
theorem k35_mkM (w : World) (base : Nat) (ok : Nat → Prop) (x : S35)  : k35.M w base ok x [.int .i64 x.f0, .bool x.f1, .float .f64 x.f2, .string x.f3, .int .i64 x.f4] := ⟨[.int .i64 x.f0], [.bool x.f1, .float .f64 x.f2, .string x.f3, .int .i64 x.f4], rfl, rfl, ⟨[.bool x.f1], [.float .f64 x.f2, .string x.f3, .int .i64 x.f4], rfl, rfl, ⟨[.float .f64 x.f2], [.string x.f3, .int .i64 x.f4], rfl, rfl, ⟨[.string x.f3], [.int .i64 x.f4], rfl, rfl, rfl⟩⟩⟩⟩
def rd_T35 (xs : List S35) (i : Int) : S35 := xs.getD i.toNat z35
theorem ats_T35 {w : World} {A : Option Addr} {n : Nat} {xs : List S35} (h : Kd.C k35 w A n xs) (i : Int) (h0 : 0 ≤ i) (h1 : i < n) : ∃ ad , A = some ad ∧ (∀ j u, ([.int .i64 (rd_T35 xs i).f0, .bool (rd_T35 xs i).f1, .float .f64 (rd_T35 xs i).f2, .string (rd_T35 xs i).f3, .int .i64 (rd_T35 xs i).f4] : List Value)[j]? = some u → w.cell? ((ad.add (i.toNat * 5)).add j) = some u) := by
  obtain ⟨ad, c, e, _, hK, hc0⟩ := Kd.C_get h z35 i h0 h1
  have hc : ∀ j u, c[j]? = some u → w.cell? (ad.add (i.toNat * 5 + j)) = some u := hc0
  obtain rfl := k35_open hK
  exact ⟨ad, e, fun j u hj => by rw [f_add_add]; exact hc j u hj⟩
theorem at_T35 {w : World} {A : Option Addr} {n : Nat} {xs : List S35} (h : Kd.C k35 w A n xs) (i : Int) (h0 : 0 ≤ i) (h1 : i < n) : ∃ ad , A = some ad ∧ w.cell? (ad.add (i.toNat * 5)) = some (.int .i64 (rd_T35 xs i).f0) ∧ w.cell? ⟨(ad.add (i.toNat * 5)).block, (ad.add (i.toNat * 5)).off + 1, none⟩ = some (.bool (rd_T35 xs i).f1) ∧ w.cell? ⟨(ad.add (i.toNat * 5)).block, (ad.add (i.toNat * 5)).off + 2, none⟩ = some (.float .f64 (rd_T35 xs i).f2) ∧ w.cell? ⟨(ad.add (i.toNat * 5)).block, (ad.add (i.toNat * 5)).off + 3, none⟩ = some (.string (rd_T35 xs i).f3) ∧ w.cell? ⟨(ad.add (i.toNat * 5)).block, (ad.add (i.toNat * 5)).off + 4, none⟩ = some (.int .i64 (rd_T35 xs i).f4) := by
  obtain ⟨ad, c, e, _, hK, hc0⟩ := Kd.C_get h z35 i h0 h1
  have hc : ∀ j u, c[j]? = some u → w.cell? (ad.add (i.toNat * 5 + j)) = some u := hc0
  obtain rfl := k35_open hK
  exact ⟨ad, e, hc 0 _ rfl, by rw [← add_field _ _ 1 (by omega)]; exact hc 1 _ rfl, by rw [← add_field _ _ 2 (by omega)]; exact hc 2 _ rfl, by rw [← add_field _ _ 3 (by omega)]; exact hc 3 _ rfl, by rw [← add_field _ _ 4 (by omega)]; exact hc 4 _ rfl⟩

/-! #### struct type 58 -/
structure S58 where
  f0 : ByteArray
  f1 : Int
def z58 : S58 := ⟨(⟨#[]⟩ : ByteArray), (0 : Int)⟩
def k58 : Kd S58 := Kd.iso (Kd.pair Kd.string (Kd.int .i64)) (fun x : S58 => (x.f0, x.f1))
theorem k58_open {w : World} {x : S58} {cs : List Value} (h : k58.K w x cs) : cs = [.string x.f0, .int .i64 x.f1] := by
  obtain ⟨_, _, rfl, rfl, rfl⟩ := h
  exact rfl
theorem k58_openM {w : World} {base : Nat} {ok : Nat → Prop} {x : S58} {cs : List Value} (h : k58.M w base ok x cs) : cs = [.string x.f0, .int .i64 x.f1] := by
  obtain ⟨_, _, rfl, rfl, rfl⟩ := h
  exact rfl
theorem k58_mk (w : World) (x : S58)  : k58.K w x [.string x.f0, .int .i64 x.f1] := ⟨[.string x.f0], [.int .i64 x.f1], rfl, rfl, rfl⟩
theorem k58_mkM (w : World) (base : Nat) (ok : Nat → Prop) (x : S58)  : k58.M w base ok x [.string x.f0, .int .i64 x.f1] := ⟨[.string x.f0], [.int .i64 x.f1], rfl, rfl, rfl⟩
def rd_T58 (xs : List S58) (i : Int) : S58 := xs.getD i.toNat z58
theorem ats_T58 {w : World} {A : Option Addr} {n : Nat} {xs : List S58} (h : Kd.C k58 w A n xs) (i : Int) (h0 : 0 ≤ i) (h1 : i < n) : ∃ ad , A = some ad ∧ (∀ j u, ([.string (rd_T58 xs i).f0, .int .i64 (rd_T58 xs i).f1] : List Value)[j]? = some u → w.cell? ((ad.add (i.toNat * 2)).add j) = some u) := by
  obtain ⟨ad, c, e, _, hK, hc0⟩ := Kd.C_get h z58 i h0 h1
  have hc : ∀ j u, c[j]? = some u → w.cell? (ad.add (i.toNat * 2 + j)) = some u := hc0
  obtain rfl := k58_open hK
  exact ⟨ad, e, fun j u hj => by rw [f_add_add]; exact hc j u hj⟩
theorem at_T58 {w : World} {A : Option Addr} {n : Nat} {xs : List S58} (h : Kd.C k58 w A n xs) (i : Int) (h0 : 0 ≤ i) (h1 : i < n) : ∃ ad , A = some ad ∧ w.cell? (ad.add (i.toNat * 2)) = some (.string (rd_T58 xs i).f0) ∧ w.cell? ⟨(ad.add (i.toNat * 2)).block, (ad.add (i.toNat * 2)).off + 1, none⟩ = some (.int .i64 (rd_T58 xs i).f1) := by
  obtain ⟨ad, c, e, _, hK, hc0⟩ := Kd.C_get h z58 i h0 h1
  have hc : ∀ j u, c[j]? = some u → w.cell? (ad.add (i.toNat * 2 + j)) = some u := hc0
  obtain rfl := k58_open hK
  exact ⟨ad, e, hc 0 _ rfl, by rw [← add_field _ _ 1 (by omega)]; exact hc 1 _ rfl⟩

/-! #### struct type 61 -/
structure S61 where
  f0 : S35
  f1 : S35
  f2 : S35
  f3 : Int
  f4 : Int
  f5 : Int
def z61 : S61 := ⟨z35, z35, z35, (0 : Int), (0 : Int), (0 : Int)⟩
def k61 : Kd S61 := Kd.iso (Kd.pair k35 (Kd.pair k35 (Kd.pair k35 (Kd.pair (Kd.int .i64) (Kd.pair (Kd.int .i64) (Kd.int .i64)))))) (fun x : S61 => (x.f0, x.f1, x.f2, x.f3, x.f4, x.f5))
theorem k61_open {w : World} {x : S61} {cs : List Value} (h : k61.K w x cs) : cs = [.int .i64 x.f0.f0, .bool x.f0.f1, .float .f64 x.f0.f2, .string x.f0.f3, .int .i64 x.f0.f4, .int .i64 x.f1.f0, .bool x.f1.f1, .float .f64 x.f1.f2, .string x.f1.f3, .int .i64 x.f1.f4, .int .i64 x.f2.f0, .bool x.f2.f1, .float .f64 x.f2.f2, .string x.f2.f3, .int .i64 x.f2.f4, .int .i64 x.f3, .int .i64 x.f4, .int .i64 x.f5] := by
  obtain ⟨_, _, rfl, s0, ⟨_, _, rfl, s5, ⟨_, _, rfl, s10, ⟨_, _, rfl, rfl, ⟨_, _, rfl, rfl, rfl⟩⟩⟩⟩⟩ := h
  obtain rfl := k35_open s0
  obtain rfl := k35_open s5
  obtain rfl := k35_open s10
  exact rfl
theorem k61_openM {w : World} {base : Nat} {ok : Nat → Prop} {x : S61} {cs : List Value} (h : k61.M w base ok x cs) : cs = [.int .i64 x.f0.f0, .bool x.f0.f1, .float .f64 x.f0.f2, .string x.f0.f3, .int .i64 x.f0.f4, .int .i64 x.f1.f0, .bool x.f1.f1, .float .f64 x.f1.f2, .string x.f1.f3, .int .i64 x.f1.f4, .int .i64 x.f2.f0, .bool x.f2.f1, .float .f64 x.f2.f2, .string x.f2.f3, .int .i64 x.f2.f4, .int .i64 x.f3, .int .i64 x.f4, .int .i64 x.f5] := by
  obtain ⟨_, _, rfl, s0, ⟨_, _, rfl, s5, ⟨_, _, rfl, s10, ⟨_, _, rfl, rfl, ⟨_, _, rfl, rfl, rfl⟩⟩⟩⟩⟩ := h
  obtain rfl := k35_openM s0
  obtain rfl := k35_openM s5
  obtain rfl := k35_openM s10
  exact rfl
theorem k61_mk (w : World) (x : S61)  : k61.K w x [.int .i64 x.f0.f0, .bool x.f0.f1, .float .f64 x.f0.f2, .string x.f0.f3, .int .i64 x.f0.f4, .int .i64 x.f1.f0, .bool x.f1.f1, .float .f64 x.f1.f2, .string x.f1.f3, .int .i64 x.f1.f4, .int .i64 x.f2.f0, .bool x.f2.f1, .float .f64 x.f2.f2, .string x.f2.f3, .int .i64 x.f2.f4, .int .i64 x.f3, .int .i64 x.f4, .int .i64 x.f5] := ⟨[.int .i64 x.f0.f0, .bool x.f0.f1, .float .f64 x.f0.f2, .string x.f0.f3, .int .i64 x.f0.f4], [.int .i64 x.f1.f0, .bool x.f1.f1, .float .f64 x.f1.f2, .string x.f1.f3, .int .i64 x.f1.f4, .int .i64 x.f2.f0, .bool x.f2.f1, .float .f64 x.f2.f2, .string x.f2.f3, .int .i64 x.f2.f4, .int .i64 x.f3, .int .i64 x.f4, .int .i64 x.f5], rfl, (k35_mk w x.f0 ), ⟨[.int .i64 x.f1.f0, .bool x.f1.f1, .float .f64 x.f1.f2, .string x.f1.f3, .int .i64 x.f1.f4], [.int .i64 x.f2.f0, .bool x.f2.f1, .float .f64 x.f2.f2, .string x.f2.f3, .int .i64 x.f2.f4, .int .i64 x.f3, .int .i64 x.f4, .int .i64 x.f5], rfl, (k35_mk w x.f1 ), ⟨[.int .i64 x.f2.f0, .bool x.f2.f1, .float .f64 x.f2.f2, .string x.f2.f3, .int .i64 x.f2.f4], [.int .i64 x.f3, .int .i64 x.f4, .int .i64 x.f5], rfl, (k35_mk w x.f2 ), ⟨[.int .i64 x.f3], [.int .i64 x.f4, .int .i64 x.f5], rfl, rfl, ⟨[.int .i64 x.f4], [.int .i64 x.f5], rfl, rfl, rfl⟩⟩⟩⟩⟩
theorem k61_mkM (w : World) (base : Nat) (ok : Nat → Prop) (x : S61)  : k61.M w base ok x [.int .i64 x.f0.f0, .bool x.f0.f1, .float .f64 x.f0.f2, .string x.f0.f3, .int .i64 x.f0.f4, .int .i64 x.f1.f0, .bool x.f1.f1, .float .f64 x.f1.f2, .string x.f1.f3, .int .i64 x.f1.f4, .int .i64 x.f2.f0, .bool x.f2.f1, .float .f64 x.f2.f2, .string x.f2.f3, .int .i64 x.f2.f4, .int .i64 x.f3, .int .i64 x.f4, .int .i64 x.f5] := ⟨[.int .i64 x.f0.f0, .bool x.f0.f1, .float .f64 x.f0.f2, .string x.f0.f3, .int .i64 x.f0.f4], [.int .i64 x.f1.f0, .bool x.f1.f1, .float .f64 x.f1.f2, .string x.f1.f3, .int .i64 x.f1.f4, .int .i64 x.f2.f0, .bool x.f2.f1, .float .f64 x.f2.f2, .string x.f2.f3, .int .i64 x.f2.f4, .int .i64 x.f3, .int .i64 x.f4, .int .i64 x.f5], rfl, (k35_mkM w base ok x.f0 ), ⟨[.int .i64 x.f1.f0, .bool x.f1.f1, .float .f64 x.f1.f2, .string x.f1.f3, .int .i64 x.f1.f4], [.int .i64 x.f2.f0, .bool x.f2.f1, .float .f64 x.f2.f2, .string x.f2.f3, .int .i64 x.f2.f4, .int .i64 x.f3, .int .i64 x.f4, .int .i64 x.f5], rfl, (k35_mkM w base ok x.f1 ), ⟨[.int .i64 x.f2.f0, .bool x.f2.f1, .float .f64 x.f2.f2, .string x.f2.f3, .int .i64 x.f2.f4], [.int .i64 x.f3, .int .i64 x.f4, .int .i64 x.f5], rfl, (k35_mkM w base ok x.f2 ), ⟨[.int .i64 x.f3], [.int .i64 x.f4, .int .i64 x.f5], rfl, rfl, ⟨[.int .i64 x.f4], [.int .i64 x.f5], rfl, rfl, rfl⟩⟩⟩⟩⟩
def rd_T61 (xs : List S61) (i : Int) : S61 := xs.getD i.toNat z61
theorem ats_T61 {w : World} {A : Option Addr} {n : Nat} {xs : List S61} (h : Kd.C k61 w A n xs) (i : Int) (h0 : 0 ≤ i) (h1 : i < n) : ∃ ad , A = some ad ∧ (∀ j u, ([.int .i64 (rd_T61 xs i).f0.f0, .bool (rd_T61 xs i).f0.f1, .float .f64 (rd_T61 xs i).f0.f2, .string (rd_T61 xs i).f0.f3, .int .i64 (rd_T61 xs i).f0.f4, .int .i64 (rd_T61 xs i).f1.f0, .bool (rd_T61 xs i).f1.f1, .float .f64 (rd_T61 xs i).f1.f2, .string (rd_T61 xs i).f1.f3, .int .i64 (rd_T61 xs i).f1.f4, .int .i64 (rd_T61 xs i).f2.f0, .bool (rd_T61 xs i).f2.f1, .float .f64 (rd_T61 xs i).f2.f2, .string (rd_T61 xs i).f2.f3, .int .i64 (rd_T61 xs i).f2.f4, .int .i64 (rd_T61 xs i).f3, .int .i64 (rd_T61 xs i).f4, .int .i64 (rd_T61 xs i).f5] : List Value)[j]? = some u → w.cell? ((ad.add (i.toNat * 18)).add j) = some u) := by
  obtain ⟨ad, c, e, _, hK, hc0⟩ := Kd.C_get h z61 i h0 h1
  have hc : ∀ j u, c[j]? = some u → w.cell? (ad.add (i.toNat * 18 + j)) = some u := hc0
  obtain rfl := k61_open hK
  exact ⟨ad, e, fun j u hj => by rw [f_add_add]; exact hc j u hj⟩
theorem at_T61 {w : World} {A : Option Addr} {n : Nat} {xs : List S61} (h : Kd.C k61 w A n xs) (i : Int) (h0 : 0 ≤ i) (h1 : i < n) : ∃ ad , A = some ad ∧ w.cell? (ad.add (i.toNat * 18)) = some (.int .i64 (rd_T61 xs i).f0.f0) ∧ w.cell? ⟨(ad.add (i.toNat * 18)).block, (ad.add (i.toNat * 18)).off + 1, none⟩ = some (.bool (rd_T61 xs i).f0.f1) ∧ w.cell? ⟨(ad.add (i.toNat * 18)).block, (ad.add (i.toNat * 18)).off + 2, none⟩ = some (.float .f64 (rd_T61 xs i).f0.f2) ∧ w.cell? ⟨(ad.add (i.toNat * 18)).block, (ad.add (i.toNat * 18)).off + 3, none⟩ = some (.string (rd_T61 xs i).f0.f3) ∧ w.cell? ⟨(ad.add (i.toNat * 18)).block, (ad.add (i.toNat * 18)).off + 4, none⟩ = some (.int .i64 (rd_T61 xs i).f0.f4) ∧ w.cell? ⟨(ad.add (i.toNat * 18)).block, (ad.add (i.toNat * 18)).off + 5, none⟩ = some (.int .i64 (rd_T61 xs i).f1.f0) ∧ w.cell? ⟨(ad.add (i.toNat * 18)).block, (ad.add (i.toNat * 18)).off + 6, none⟩ = some (.bool (rd_T61 xs i).f1.f1) ∧ w.cell? ⟨(ad.add (i.toNat * 18)).block, (ad.add (i.toNat * 18)).off + 7, none⟩ = some (.float .f64 (rd_T61 xs i).f1.f2) ∧ w.cell? ⟨(ad.add (i.toNat * 18)).block, (ad.add (i.toNat * 18)).off + 8, none⟩ = some (.string (rd_T61 xs i).f1.f3) ∧ w.cell? ⟨(ad.add (i.toNat * 18)).block, (ad.add (i.toNat * 18)).off + 9, none⟩ = some (.int .i64 (rd_T61 xs i).f1.f4) ∧ w.cell? ⟨(ad.add (i.toNat * 18)).block, (ad.add (i.toNat * 18)).off + 10, none⟩ = some (.int .i64 (rd_T61 xs i).f2.f0) ∧ w.cell? ⟨(ad.add (i.toNat * 18)).block, (ad.add (i.toNat * 18)).off + 11, none⟩ = some (.bool (rd_T61 xs i).f2.f1) ∧ w.cell? ⟨(ad.add (i.toNat * 18)).block, (ad.add (i.toNat * 18)).off + 12, none⟩ = some (.float .f64 (rd_T61 xs i).f2.f2) ∧ w.cell? ⟨(ad.add (i.toNat * 18)).block, (ad.add (i.toNat * 18)).off + 13, none⟩ = some (.string (rd_T61 xs i).f2.f3) ∧ w.cell? ⟨(ad.add (i.toNat * 18)).block, (ad.add (i.toNat * 18)).off + 14, none⟩ = some (.int .i64 (rd_T61 xs i).f2.f4) ∧ w.cell? ⟨(ad.add (i.toNat * 18)).block, (ad.add (i.toNat * 18)).off + 15, none⟩ = some (.int .i64 (rd_T61 xs i).f3) ∧ w.cell? ⟨(ad.add (i.toNat * 18)).block, (ad.add (i.toNat * 18)).off + 16, none⟩ = some (.int .i64 (rd_T61 xs i).f4) ∧ w.cell? ⟨(ad.add (i.toNat * 18)).block, (ad.add (i.toNat * 18)).off + 17, none⟩ = some (.int .i64 (rd_T61 xs i).f5) := by
  obtain ⟨ad, c, e, _, hK, hc0⟩ := Kd.C_get h z61 i h0 h1
  have hc : ∀ j u, c[j]? = some u → w.cell? (ad.add (i.toNat * 18 + j)) = some u := hc0
  obtain rfl := k61_open hK
  exact ⟨ad, e, hc 0 _ rfl, by rw [← add_field _ _ 1 (by omega)]; exact hc 1 _ rfl, by rw [← add_field _ _ 2 (by omega)]; exact hc 2 _ rfl, by rw [← add_field _ _ 3 (by omega)]; exact hc 3 _ rfl, by rw [← add_field _ _ 4 (by omega)]; exact hc 4 _ rfl, by rw [← add_field _ _ 5 (by omega)]; exact hc 5 _ rfl, by rw [← add_field _ _ 6 (by omega)]; exact hc 6 _ rfl, by rw [← add_field _ _ 7 (by omega)]; exact hc 7 _ rfl, by rw [← add_field _ _ 8 (by omega)]; exact hc 8 _ rfl, by rw [← add_field _ _ 9 (by omega)]; exact hc 9 _ rfl, by rw [← add_field _ _ 10 (by omega)]; exact hc 10 _ rfl, by rw [← add_field _ _ 11 (by omega)]; exact hc 11 _ rfl, by rw [← add_field _ _ 12 (by omega)]; exact hc 12 _ rfl, by rw [← add_field _ _ 13 (by omega)]; exact hc 13 _ rfl, by rw [← add_field _ _ 14 (by omega)]; exact hc 14 _ rfl, by rw [← add_field _ _ 15 (by omega)]; exact hc 15 _ rfl, by rw [← add_field _ _ 16 (by omega)]; exact hc 16 _ rfl, by rw [← add_field _ _ 17 (by omega)]; exact hc 17 _ rfl⟩

/-! #### struct type 63 -/
structure S63 where
  f0 : S58
  f1 : S61
def z63 : S63 := ⟨z58, z61⟩
def k63 : Kd S63 := Kd.iso (Kd.pair k58 k61) (fun x : S63 => (x.f0, x.f1))
theorem k63_open {w : World} {x : S63} {cs : List Value} (h : k63.K w x cs) : cs = [.string x.f0.f0, .int .i64 x.f0.f1, .int .i64 x.f1.f0.f0, .bool x.f1.f0.f1, .float .f64 x.f1.f0.f2, .string x.f1.f0.f3, .int .i64 x.f1.f0.f4, .int .i64 x.f1.f1.f0, .bool x.f1.f1.f1, .float .f64 x.f1.f1.f2, .string x.f1.f1.f3, .int .i64 x.f1.f1.f4, .int .i64 x.f1.f2.f0, .bool x.f1.f2.f1, .float .f64 x.f1.f2.f2, .string x.f1.f2.f3, .int .i64 x.f1.f2.f4, .int .i64 x.f1.f3, .int .i64 x.f1.f4, .int .i64 x.f1.f5] := by
  obtain ⟨_, _, rfl, s0, s2⟩ := h
  obtain rfl := k58_open s0
  obtain rfl := k61_open s2
  exact rfl
theorem k63_openM {w : World} {base : Nat} {ok : Nat → Prop} {x : S63} {cs : List Value} (h : k63.M w base ok x cs) : cs = [.string x.f0.f0, .int .i64 x.f0.f1, .int .i64 x.f1.f0.f0, .bool x.f1.f0.f1, .float .f64 x.f1.f0.f2, .string x.f1.f0.f3, .int .i64 x.f1.f0.f4, .int .i64 x.f1.f1.f0, .bool x.f1.f1.f1, .float .f64 x.f1.f1.f2, .string x.f1.f1.f3, .int .i64 x.f1.f1.f4, .int .i64 x.f1.f2.f0, .bool x.f1.f2.f1, .float .f64 x.f1.f2.f2, .string x.f1.f2.f3, .int .i64 x.f1.f2.f4, .int .i64 x.f1.f3, .int .i64 x.f1.f4, .int .i64 x.f1.f5] := by
  obtain ⟨_, _, rfl, s0, s2⟩ := h
  obtain rfl := k58_openM s0
  obtain rfl := k61_openM s2
  exact rfl
theorem k63_mk (w : World) (x : S63)  : k63.K w x [.string x.f0.f0, .int .i64 x.f0.f1, .int .i64 x.f1.f0.f0, .bool x.f1.f0.f1, .float .f64 x.f1.f0.f2, .string x.f1.f0.f3, .int .i64 x.f1.f0.f4, .int .i64 x.f1.f1.f0, .bool x.f1.f1.f1, .float .f64 x.f1.f1.f2, .string x.f1.f1.f3, .int .i64 x.f1.f1.f4, .int .i64 x.f1.f2.f0, .bool x.f1.f2.f1, .float .f64 x.f1.f2.f2, .string x.f1.f2.f3, .int .i64 x.f1.f2.f4, .int .i64 x.f1.f3, .int .i64 x.f1.f4, .int .i64 x.f1.f5] := ⟨[.string x.f0.f0, .int .i64 x.f0.f1], [.int .i64 x.f1.f0.f0, .bool x.f1.f0.f1, .float .f64 x.f1.f0.f2, .string x.f1.f0.f3, .int .i64 x.f1.f0.f4, .int .i64 x.f1.f1.f0, .bool x.f1.f1.f1, .float .f64 x.f1.f1.f2, .string x.f1.f1.f3, .int .i64 x.f1.f1.f4, .int .i64 x.f1.f2.f0, .bool x.f1.f2.f1, .float .f64 x.f1.f2.f2, .string x.f1.f2.f3, .int .i64 x.f1.f2.f4, .int .i64 x.f1.f3, .int .i64 x.f1.f4, .int .i64 x.f1.f5], rfl, (k58_mk w x.f0 ), (k61_mk w x.f1 )⟩
theorem k63_mkM (w : World) (base : Nat) (ok : Nat → Prop) (x : S63)  : k63.M w base ok x [.string x.f0.f0, .int .i64 x.f0.f1, .int .i64 x.f1.f0.f0, .bool x.f1.f0.f1, .float .f64 x.f1.f0.f2, .string x.f1.f0.f3, .int .i64 x.f1.f0.f4, .int .i64 x.f1.f1.f0, .bool x.f1.f1.f1, .float .f64 x.f1.f1.f2, .string x.f1.f1.f3, .int .i64 x.f1.f1.f4, .int .i64 x.f1.f2.f0, .bool x.f1.f2.f1, .float .f64 x.f1.f2.f2, .string x.f1.f2.f3, .int .i64 x.f1.f2.f4, .int .i64 x.f1.f3, .int .i64 x.f1.f4, .int .i64 x.f1.f5] := ⟨[.string x.f0.f0, .int .i64 x.f0.f1], [.int .i64 x.f1.f0.f0, .bool x.f1.f0.f1, .float .f64 x.f1.f0.f2, .string x.f1.f0.f3, .int .i64 x.f1.f0.f4, .int .i64 x.f1.f1.f0, .bool x.f1.f1.f1, .float .f64 x.f1.f1.f2, .string x.f1.f1.f3, .int .i64 x.f1.f1.f4, .int .i64 x.f1.f2.f0, .bool x.f1.f2.f1, .float .f64 x.f1.f2.f2, .string x.f1.f2.f3, .int .i64 x.f1.f2.f4, .int .i64 x.f1.f3, .int .i64 x.f1.f4, .int .i64 x.f1.f5], rfl, (k58_mkM w base ok x.f0 ), (k61_mkM w base ok x.f1 )⟩
def rd_T63 (xs : List S63) (i : Int) : S63 := xs.getD i.toNat z63
theorem ats_T63 {w : World} {A : Option Addr} {n : Nat} {xs : List S63} (h : Kd.C k63 w A n xs) (i : Int) (h0 : 0 ≤ i) (h1 : i < n) : ∃ ad , A = some ad ∧ (∀ j u, ([.string (rd_T63 xs i).f0.f0, .int .i64 (rd_T63 xs i).f0.f1, .int .i64 (rd_T63 xs i).f1.f0.f0, .bool (rd_T63 xs i).f1.f0.f1, .float .f64 (rd_T63 xs i).f1.f0.f2, .string (rd_T63 xs i).f1.f0.f3, .int .i64 (rd_T63 xs i).f1.f0.f4, .int .i64 (rd_T63 xs i).f1.f1.f0, .bool (rd_T63 xs i).f1.f1.f1, .float .f64 (rd_T63 xs i).f1.f1.f2, .string (rd_T63 xs i).f1.f1.f3, .int .i64 (rd_T63 xs i).f1.f1.f4, .int .i64 (rd_T63 xs i).f1.f2.f0, .bool (rd_T63 xs i).f1.f2.f1, .float .f64 (rd_T63 xs i).f1.f2.f2, .string (rd_T63 xs i).f1.f2.f3, .int .i64 (rd_T63 xs i).f1.f2.f4, .int .i64 (rd_T63 xs i).f1.f3, .int .i64 (rd_T63 xs i).f1.f4, .int .i64 (rd_T63 xs i).f1.f5] : List Value)[j]? = some u → w.cell? ((ad.add (i.toNat * 20)).add j) = some u) := by
  obtain ⟨ad, c, e, _, hK, hc0⟩ := Kd.C_get h z63 i h0 h1
  have hc : ∀ j u, c[j]? = some u → w.cell? (ad.add (i.toNat * 20 + j)) = some u := hc0
  obtain rfl := k63_open hK
  exact ⟨ad, e, fun j u hj => by rw [f_add_add]; exact hc j u hj⟩
theorem at_T63 {w : World} {A : Option Addr} {n : Nat} {xs : List S63} (h : Kd.C k63 w A n xs) (i : Int) (h0 : 0 ≤ i) (h1 : i < n) : ∃ ad , A = some ad ∧ w.cell? (ad.add (i.toNat * 20)) = some (.string (rd_T63 xs i).f0.f0) ∧ w.cell? ⟨(ad.add (i.toNat * 20)).block, (ad.add (i.toNat * 20)).off + 1, none⟩ = some (.int .i64 (rd_T63 xs i).f0.f1) ∧ w.cell? ⟨(ad.add (i.toNat * 20)).block, (ad.add (i.toNat * 20)).off + 2, none⟩ = some (.int .i64 (rd_T63 xs i).f1.f0.f0) ∧ w.cell? ⟨(ad.add (i.toNat * 20)).block, (ad.add (i.toNat * 20)).off + 3, none⟩ = some (.bool (rd_T63 xs i).f1.f0.f1) ∧ w.cell? ⟨(ad.add (i.toNat * 20)).block, (ad.add (i.toNat * 20)).off + 4, none⟩ = some (.float .f64 (rd_T63 xs i).f1.f0.f2) ∧ w.cell? ⟨(ad.add (i.toNat * 20)).block, (ad.add (i.toNat * 20)).off + 5, none⟩ = some (.string (rd_T63 xs i).f1.f0.f3) ∧ w.cell? ⟨(ad.add (i.toNat * 20)).block, (ad.add (i.toNat * 20)).off + 6, none⟩ = some (.int .i64 (rd_T63 xs i).f1.f0.f4) ∧ w.cell? ⟨(ad.add (i.toNat * 20)).block, (ad.add (i.toNat * 20)).off + 7, none⟩ = some (.int .i64 (rd_T63 xs i).f1.f1.f0) ∧ w.cell? ⟨(ad.add (i.toNat * 20)).block, (ad.add (i.toNat * 20)).off + 8, none⟩ = some (.bool (rd_T63 xs i).f1.f1.f1) ∧ w.cell? ⟨(ad.add (i.toNat * 20)).block, (ad.add (i.toNat * 20)).off + 9, none⟩ = some (.float .f64 (rd_T63 xs i).f1.f1.f2) ∧ w.cell? ⟨(ad.add (i.toNat * 20)).block, (ad.add (i.toNat * 20)).off + 10, none⟩ = some (.string (rd_T63 xs i).f1.f1.f3) ∧ w.cell? ⟨(ad.add (i.toNat * 20)).block, (ad.add (i.toNat * 20)).off + 11, none⟩ = some (.int .i64 (rd_T63 xs i).f1.f1.f4) ∧ w.cell? ⟨(ad.add (i.toNat * 20)).block, (ad.add (i.toNat * 20)).off + 12, none⟩ = some (.int .i64 (rd_T63 xs i).f1.f2.f0) ∧ w.cell? ⟨(ad.add (i.toNat * 20)).block, (ad.add (i.toNat * 20)).off + 13, none⟩ = some (.bool (rd_T63 xs i).f1.f2.f1) ∧ w.cell? ⟨(ad.add (i.toNat * 20)).block, (ad.add (i.toNat * 20)).off + 14, none⟩ = some (.float .f64 (rd_T63 xs i).f1.f2.f2) ∧ w.cell? ⟨(ad.add (i.toNat * 20)).block, (ad.add (i.toNat * 20)).off + 15, none⟩ = some (.string (rd_T63 xs i).f1.f2.f3) ∧ w.cell? ⟨(ad.add (i.toNat * 20)).block, (ad.add (i.toNat * 20)).off + 16, none⟩ = some (.int .i64 (rd_T63 xs i).f1.f2.f4) ∧ w.cell? ⟨(ad.add (i.toNat * 20)).block, (ad.add (i.toNat * 20)).off + 17, none⟩ = some (.int .i64 (rd_T63 xs i).f1.f3) ∧ w.cell? ⟨(ad.add (i.toNat * 20)).block, (ad.add (i.toNat * 20)).off + 18, none⟩ = some (.int .i64 (rd_T63 xs i).f1.f4) ∧ w.cell? ⟨(ad.add (i.toNat * 20)).block, (ad.add (i.toNat * 20)).off + 19, none⟩ = some (.int .i64 (rd_T63 xs i).f1.f5) := by
  obtain ⟨ad, c, e, _, hK, hc0⟩ := Kd.C_get h z63 i h0 h1
  have hc : ∀ j u, c[j]? = some u → w.cell? (ad.add (i.toNat * 20 + j)) = some u := hc0
  obtain rfl := k63_open hK
  exact ⟨ad, e, hc 0 _ rfl, by rw [← add_field _ _ 1 (by omega)]; exact hc 1 _ rfl, by rw [← add_field _ _ 2 (by omega)]; exact hc 2 _ rfl, by rw [← add_field _ _ 3 (by omega)]; exact hc 3 _ rfl, by rw [← add_field _ _ 4 (by omega)]; exact hc 4 _ rfl, by rw [← add_field _ _ 5 (by omega)]; exact hc 5 _ rfl, by rw [← add_field _ _ 6 (by omega)]; exact hc 6 _ rfl, by rw [← add_field _ _ 7 (by omega)]; exact hc 7 _ rfl, by rw [← add_field _ _ 8 (by omega)]; exact hc 8 _ rfl, by rw [← add_field _ _ 9 (by omega)]; exact hc 9 _ rfl, by rw [← add_field _ _ 10 (by omega)]; exact hc 10 _ rfl, by rw [← add_field _ _ 11 (by omega)]; exact hc 11 _ rfl, by rw [← add_field _ _ 12 (by omega)]; exact hc 12 _ rfl, by rw [← add_field _ _ 13 (by omega)]; exact hc 13 _ rfl, by rw [← add_field _ _ 14 (by omega)]; exact hc 14 _ rfl, by rw [← add_field _ _ 15 (by omega)]; exact hc 15 _ rfl, by rw [← add_field _ _ 16 (by omega)]; exact hc 16 _ rfl, by rw [← add_field _ _ 17 (by omega)]; exact hc 17 _ rfl, by rw [← add_field _ _ 18 (by omega)]; exact hc 18 _ rfl, by rw [← add_field _ _ 19 (by omega)]; exact hc 19 _ rfl⟩

end Go.Proofs.YtpjkohpiikcegaaDoor.PHeapGrows
