-- Printed by a program of this session over the translation; Lean checks it.
import Derived.Test.YtaojjpdlfnphiaaTInvariantDiffsx0
import Derived.Test.YtaojjpdlfnphiaaTInvariantDiffsx2
import Derived.Test.YtaojjpdlfnphiaaTInvariantDiffsx8
namespace Go.Proofs.Ytaojjpdlfnphiaa.PInvariantDiffs
open Go.RowKit Go.Proofs.YtaojjpdlfnphiaaW.PrintWords Go.Proofs.YtaojjpdlfnphiaaW.PrintLast Go.Proofs.YtaojjpdlfnphiaaW.PrintMore
attribute [local go_sem] max2_int min2_int max_two min_two max_three min_three max_four min_four   -- for this text's walks alone
set_option linter.unusedVariables false
set_option linter.unusedSimpArgs false

/-! ### cameoref10_props: function 24 -/
mutual
def cameoref10_props.j1 : Nat → Int → List (S55) → List (S55) → Int → Option ((List (S35)))
 | 0, _, _, _, _ => none
 | k + 1, x0, x1, x2, x7 => cameoref10_props.l1 k x0 x1 x2 x7 ([] : List (S35)) 0
def cameoref10_props.l1 : Nat → Int → List (S55) → List (S55) → Int → List (S35) → Int → Option ((List (S35)))
 | 0, _, _, _, _, _, _ => none
 | k + 1, x0, x1, x2, x7, x9, x10 => if x10 < (x1.length : Int) then (if 0 ≤ x7 then (if x7 ≤ (x2.length : Int) then (if 0 ≤ x10 then ((cameoref10_Find.f k (x2.take (x7 : Int).toNat) ((rd_T55 x1 x10).f0.f0) ((rd_T55 x1 x10).f0.f1)).bind fun t428 => (if t428 < 0 then (if x9.length < 517417236600 then (cameoref10_props.l1 k x0 x1 x2 x7 (x9 ++ [(⟨x0, 5, 0, false, (⟨0, false, 0, (⟨#[]⟩ : ByteArray), 0⟩ : S28), (⟨(rd_T55 x1 x10).f0.f0, (rd_T55 x1 x10).f0.f1⟩ : S30), (⟨(⟨0, false, 0, (⟨#[]⟩ : ByteArray), 0⟩ : S28), (⟨0, false, 0, (⟨#[]⟩ : ByteArray), 0⟩ : S28), (⟨0, false, 0, (⟨#[]⟩ : ByteArray), 0⟩ : S28), 0, 0, 0⟩ : S33)⟩ : S35)]) (wrap64 (x10 + 1))) else (none)) else (cameoref10_props.l1 k x0 x1 x2 x7 x9 (wrap64 (x10 + 1))))) else (none)) else (none)) else (none)) else (cameoref10_props.l2 k x0 x1 x2 x7 x9 0)
def cameoref10_props.l2 : Nat → Int → List (S55) → List (S55) → Int → List (S35) → Int → Option ((List (S35)))
 | 0, _, _, _, _, _, _ => none
 | k + 1, x0, x1, x2, x7, x9, x11 => if x11 < (x2.length : Int) then (if x11 ≥ x7 then (if 0 ≤ x11 then (if x9.length < 517417236600 then (cameoref10_props.l2 k x0 x1 x2 x7 (x9 ++ [(⟨x0, 6, 0, false, (⟨0, false, 0, (⟨#[]⟩ : ByteArray), 0⟩ : S28), (⟨(rd_T55 x2 x11).f0.f0, (rd_T55 x2 x11).f0.f1⟩ : S30), (⟨(⟨(rd_T55 x2 x11).f1.f0.f0, (rd_T55 x2 x11).f1.f0.f1, (rd_T55 x2 x11).f1.f0.f2, (rd_T55 x2 x11).f1.f0.f3, (rd_T55 x2 x11).f1.f0.f4⟩ : S28), (⟨(rd_T55 x2 x11).f1.f1.f0, (rd_T55 x2 x11).f1.f1.f1, (rd_T55 x2 x11).f1.f1.f2, (rd_T55 x2 x11).f1.f1.f3, (rd_T55 x2 x11).f1.f1.f4⟩ : S28), (⟨(rd_T55 x2 x11).f1.f2.f0, (rd_T55 x2 x11).f1.f2.f1, (rd_T55 x2 x11).f1.f2.f2, (rd_T55 x2 x11).f1.f2.f3, (rd_T55 x2 x11).f1.f2.f4⟩ : S28), (rd_T55 x2 x11).f1.f3, (rd_T55 x2 x11).f1.f4, (rd_T55 x2 x11).f1.f5⟩ : S33)⟩ : S35)]) (wrap64 (x11 + 1))) else (none)) else (none)) else (if 0 ≤ x11 then ((cameoref10_Find.f k x1 ((rd_T55 x2 x11).f0.f0) ((rd_T55 x2 x11).f0.f1)).bind fun t440 => (if 0 ≤ t440 then (if t440 < (x1.length : Int) then ((cameoref10_EqDesc.f ((rd_T55 x2 x11).f1.f0.f0) ((rd_T55 x2 x11).f1.f0.f1) ((rd_T55 x2 x11).f1.f0.f2) ((rd_T55 x2 x11).f1.f0.f3) ((rd_T55 x2 x11).f1.f0.f4) ((rd_T55 x2 x11).f1.f1.f0) ((rd_T55 x2 x11).f1.f1.f1) ((rd_T55 x2 x11).f1.f1.f2) ((rd_T55 x2 x11).f1.f1.f3) ((rd_T55 x2 x11).f1.f1.f4) ((rd_T55 x2 x11).f1.f2.f0) ((rd_T55 x2 x11).f1.f2.f1) ((rd_T55 x2 x11).f1.f2.f2) ((rd_T55 x2 x11).f1.f2.f3) ((rd_T55 x2 x11).f1.f2.f4) ((rd_T55 x2 x11).f1.f3) ((rd_T55 x2 x11).f1.f4) ((rd_T55 x2 x11).f1.f5) ((rd_T55 x1 t440).f1.f0.f0) ((rd_T55 x1 t440).f1.f0.f1) ((rd_T55 x1 t440).f1.f0.f2) ((rd_T55 x1 t440).f1.f0.f3) ((rd_T55 x1 t440).f1.f0.f4) ((rd_T55 x1 t440).f1.f1.f0) ((rd_T55 x1 t440).f1.f1.f1) ((rd_T55 x1 t440).f1.f1.f2) ((rd_T55 x1 t440).f1.f1.f3) ((rd_T55 x1 t440).f1.f1.f4) ((rd_T55 x1 t440).f1.f2.f0) ((rd_T55 x1 t440).f1.f2.f1) ((rd_T55 x1 t440).f1.f2.f2) ((rd_T55 x1 t440).f1.f2.f3) ((rd_T55 x1 t440).f1.f2.f4) ((rd_T55 x1 t440).f1.f3) ((rd_T55 x1 t440).f1.f4) ((rd_T55 x1 t440).f1.f5)).bind fun t442 => (if t442 = true then (cameoref10_props.l2 k x0 x1 x2 x7 x9 (wrap64 (x11 + 1))) else (if x9.length < 517417236600 then (cameoref10_props.l2 k x0 x1 x2 x7 (x9 ++ [(⟨x0, 6, 0, false, (⟨0, false, 0, (⟨#[]⟩ : ByteArray), 0⟩ : S28), (⟨(rd_T55 x2 x11).f0.f0, (rd_T55 x2 x11).f0.f1⟩ : S30), (⟨(⟨(rd_T55 x2 x11).f1.f0.f0, (rd_T55 x2 x11).f1.f0.f1, (rd_T55 x2 x11).f1.f0.f2, (rd_T55 x2 x11).f1.f0.f3, (rd_T55 x2 x11).f1.f0.f4⟩ : S28), (⟨(rd_T55 x2 x11).f1.f1.f0, (rd_T55 x2 x11).f1.f1.f1, (rd_T55 x2 x11).f1.f1.f2, (rd_T55 x2 x11).f1.f1.f3, (rd_T55 x2 x11).f1.f1.f4⟩ : S28), (⟨(rd_T55 x2 x11).f1.f2.f0, (rd_T55 x2 x11).f1.f2.f1, (rd_T55 x2 x11).f1.f2.f2, (rd_T55 x2 x11).f1.f2.f3, (rd_T55 x2 x11).f1.f2.f4⟩ : S28), (rd_T55 x2 x11).f1.f3, (rd_T55 x2 x11).f1.f4, (rd_T55 x2 x11).f1.f5⟩ : S33)⟩ : S35)]) (wrap64 (x11 + 1))) else (none)))) else (none)) else (none))) else (none))) else (some x9)
def cameoref10_props.l0 : Nat → Int → List (S55) → List (S55) → Int → Int → Option ((List (S35)))
 | 0, _, _, _, _, _ => none
 | k + 1, x0, x1, x2, x7, x8 => if x7 < (x2.length : Int) then (if 0 ≤ x7 then ((cameoref10_Find.f k x1 ((rd_T55 x2 x7).f0.f0) ((rd_T55 x2 x7).f0.f1)).bind fun t420 => (if t420 > x8 then ((cameoref10_Find.f k x1 ((rd_T55 x2 x7).f0.f0) ((rd_T55 x2 x7).f0.f1)).bind fun t422 => (cameoref10_props.l0 k x0 x1 x2 (wrap64 (x7 + 1)) t422)) else (cameoref10_props.j1 k x0 x1 x2 x7))) else (none)) else (cameoref10_props.j1 k x0 x1 x2 x7)
end
def cameoref10_props.f (k : Nat) (a0 : Int) (l1 : List (S55)) (l2 : List (S55)) : Option ((List (S35))) := cameoref10_props.l0 k a0 l1 l2 0 (-1)
theorem cameoref10_props.mono_l : ∀ k, (∀ y0 y1 y2 y3, LeO (cameoref10_props.j1 k y0 y1 y2 y3) (cameoref10_props.j1 (k + 1) y0 y1 y2 y3)) ∧ (∀ y0 y1 y2 y3 y4 y5, LeO (cameoref10_props.l1 k y0 y1 y2 y3 y4 y5) (cameoref10_props.l1 (k + 1) y0 y1 y2 y3 y4 y5)) ∧ (∀ y0 y1 y2 y3 y4 y5, LeO (cameoref10_props.l2 k y0 y1 y2 y3 y4 y5) (cameoref10_props.l2 (k + 1) y0 y1 y2 y3 y4 y5)) ∧ (∀ y0 y1 y2 y3 y4, LeO (cameoref10_props.l0 k y0 y1 y2 y3 y4) (cameoref10_props.l0 (k + 1) y0 y1 y2 y3 y4))
 | 0 => ⟨fun _ _ _ _ r h => by simp [cameoref10_props.j1] at h, fun _ _ _ _ _ _ r h => by simp [cameoref10_props.l1] at h, fun _ _ _ _ _ _ r h => by simp [cameoref10_props.l2] at h, fun _ _ _ _ _ r h => by simp [cameoref10_props.l0] at h⟩
 | k + 1 => by
  obtain ⟨ih0, ih1, ih2, ih3⟩ := cameoref10_props.mono_l k
  refine ⟨?_, ?_, ?_, ?_⟩
  ·intro y0 y1 y2 y3
   unfold cameoref10_props.j1
   repeat' first
   | (with_reducible exact ih0 _ _ _ _)
   | (with_reducible exact ih1 _ _ _ _ _ _)
   | (with_reducible exact ih2 _ _ _ _ _ _)
   | (with_reducible exact ih3 _ _ _ _ _)
   | (with_reducible exact cameoref10_Find.mono _ _ _ _)
   | (with_reducible exact LeO.refl _)
   | (with_reducible exact LeO.none _)
   | (with_reducible refine LeO.ite ?_ ?_)
   | (with_reducible refine LeO.bind ?_ (fun _ => ?_))
   | exact ih0 _ _ _ _
   | exact ih1 _ _ _ _ _ _
   | exact ih2 _ _ _ _ _ _
   | exact ih3 _ _ _ _ _
   | exact cameoref10_Find.mono _ _ _ _
   | exact LeO.none _
   | refine LeO.ite ?_ ?_
   | refine LeO.bind ?_ (fun _ => ?_)
  ·intro y0 y1 y2 y3 y4 y5
   unfold cameoref10_props.l1
   repeat' first
   | (with_reducible exact ih0 _ _ _ _)
   | (with_reducible exact ih1 _ _ _ _ _ _)
   | (with_reducible exact ih2 _ _ _ _ _ _)
   | (with_reducible exact ih3 _ _ _ _ _)
   | (with_reducible exact cameoref10_Find.mono _ _ _ _)
   | (with_reducible exact LeO.refl _)
   | (with_reducible exact LeO.none _)
   | (with_reducible refine LeO.ite ?_ ?_)
   | (with_reducible refine LeO.bind ?_ (fun _ => ?_))
   | exact ih0 _ _ _ _
   | exact ih1 _ _ _ _ _ _
   | exact ih2 _ _ _ _ _ _
   | exact ih3 _ _ _ _ _
   | exact cameoref10_Find.mono _ _ _ _
   | exact LeO.none _
   | refine LeO.ite ?_ ?_
   | refine LeO.bind ?_ (fun _ => ?_)
  ·intro y0 y1 y2 y3 y4 y5
   unfold cameoref10_props.l2
   repeat' first
   | (with_reducible exact ih0 _ _ _ _)
   | (with_reducible exact ih1 _ _ _ _ _ _)
   | (with_reducible exact ih2 _ _ _ _ _ _)
   | (with_reducible exact ih3 _ _ _ _ _)
   | (with_reducible exact cameoref10_Find.mono _ _ _ _)
   | (with_reducible exact LeO.refl _)
   | (with_reducible exact LeO.none _)
   | (with_reducible refine LeO.ite ?_ ?_)
   | (with_reducible refine LeO.bind ?_ (fun _ => ?_))
   | exact ih0 _ _ _ _
   | exact ih1 _ _ _ _ _ _
   | exact ih2 _ _ _ _ _ _
   | exact ih3 _ _ _ _ _
   | exact cameoref10_Find.mono _ _ _ _
   | exact LeO.none _
   | refine LeO.ite ?_ ?_
   | refine LeO.bind ?_ (fun _ => ?_)
  ·intro y0 y1 y2 y3 y4
   unfold cameoref10_props.l0
   repeat' first
   | (with_reducible exact ih0 _ _ _ _)
   | (with_reducible exact ih1 _ _ _ _ _ _)
   | (with_reducible exact ih2 _ _ _ _ _ _)
   | (with_reducible exact ih3 _ _ _ _ _)
   | (with_reducible exact cameoref10_Find.mono _ _ _ _)
   | (with_reducible exact LeO.refl _)
   | (with_reducible exact LeO.none _)
   | (with_reducible refine LeO.ite ?_ ?_)
   | (with_reducible refine LeO.bind ?_ (fun _ => ?_))
   | exact ih0 _ _ _ _
   | exact ih1 _ _ _ _ _ _
   | exact ih2 _ _ _ _ _ _
   | exact ih3 _ _ _ _ _
   | exact cameoref10_Find.mono _ _ _ _
   | exact LeO.none _
   | refine LeO.ite ?_ ?_
   | refine LeO.bind ?_ (fun _ => ?_)
theorem cameoref10_props.mono : ∀ a0 a1 a2 k, LeO (cameoref10_props.f k a0 a1 a2) (cameoref10_props.f (k + 1) a0 a1 a2) := by
 intro a0 a1 a2 k
 obtain ⟨ih0, ih1, ih2, ih3⟩ := cameoref10_props.mono_l k
 unfold cameoref10_props.f
 repeat' first
   | (with_reducible exact ih0 _ _ _ _)
   | (with_reducible exact ih1 _ _ _ _ _ _)
   | (with_reducible exact ih2 _ _ _ _ _ _)
   | (with_reducible exact ih3 _ _ _ _ _)
   | (with_reducible exact cameoref10_Find.mono _ _ _ _)
   | (with_reducible exact LeO.refl _)
   | (with_reducible exact LeO.none _)
   | (with_reducible refine LeO.ite ?_ ?_)
   | (with_reducible refine LeO.bind ?_ (fun _ => ?_))
   | exact ih0 _ _ _ _
   | exact ih1 _ _ _ _ _ _
   | exact ih2 _ _ _ _ _ _
   | exact ih3 _ _ _ _ _
   | exact cameoref10_Find.mono _ _ _ _
   | exact LeO.none _
   | refine LeO.ite ?_ ?_
   | refine LeO.bind ?_ (fun _ => ?_)
def cameoref10_props.T10 : Bool × List (List Nat × List Nat) := (true, [([], []), ([], []), ([0, 1], [0, 1]), ([], []), ([], []), ([3, 4], [3, 4]), ([5], [5]), ([6], [6]), ([2, 7], [2, 7]), ([8], [8])])
def cameoref10_props.B10 : List Nat := [0, 0, 3, 0, 0, 24, 56, 120, 255, 511]
theorem cameoref10_props.tab10 : rtab .any (opsOf Try.f24 10) = cameoref10_props.T10 := by kernel_rfl
theorem cameoref10_props.bits10 : waitsOk cameoref10_props.T10.2 cameoref10_props.B10 = true := by kernel_rfl
def cameoref10_props.T15 : Bool × List (List Nat × List Nat) := (true, [([], []), ([], []), ([0, 1], [0, 1]), ([2], [2]), ([3], [3]), ([3], [3]), ([4, 5, 3], [3, 4, 5]), ([6, 3], [3, 6]), ([7, 3], [3, 7]), ([3], [3]), ([3], [3]), ([3], [3]), ([3], [3]), ([11, 12, 3], [3, 11, 12]), ([13, 3], [3, 13]), ([14, 3], [3, 14]), ([10, 15, 3, 3], [3, 10, 15]), ([9, 16, 3], [3, 9, 16]), ([17, 3], [3, 17]), ([18, 3], [3, 18]), ([8, 19, 16, 3], [3, 8, 19]), ([20, 3], [3, 20]), ([3, 21], [3, 21])])
def cameoref10_props.B15 : List Nat := [0, 0, 3, 7, 15, 15, 63, 127, 255, 15, 15, 15, 15, 6159, 14351, 30735, 64527, 130575, 261647, 523791, 1048575, 2097151, 4194303]
theorem cameoref10_props.tab15 : rtab .any (opsOf Try.f24 15) = cameoref10_props.T15 := by kernel_rfl
theorem cameoref10_props.bits15 : waitsOk cameoref10_props.T15.2 cameoref10_props.B15 = true := by kernel_rfl
def cameoref10_props.T16 : Bool × List (List Nat × List Nat) := (true, [([], []), ([], []), ([], []), ([], []), ([2, 3], [2, 3]), ([4], [4]), ([5], [5]), ([], []), ([], []), ([7, 8], [7, 8]), ([9], [9]), ([10], [10]), ([1, 6, 11], [1, 6, 11]), ([12], [12]), ([0, 13], [0, 13]), ([14, 14, 0, 1, 2, 3, 4, 5, 6, 7, 8, 9, 10, 11, 12, 13, 14], [0, 14])])
def cameoref10_props.B16 : List Nat := [0, 0, 0, 0, 12, 28, 60, 0, 0, 384, 896, 1920, 4094, 8190, 16383, 32767]
theorem cameoref10_props.tab16 : rtab .any (opsOf Try.f24 16) = cameoref10_props.T16 := by kernel_rfl
theorem cameoref10_props.bits16 : waitsOk cameoref10_props.T16.2 cameoref10_props.B16 = true := by kernel_rfl
set_option maxHeartbeats 8000000 in
set_option maxRecDepth 100000 in
theorem cameoref10_props.calls (k : Nat) (a0 : Int) (A1 : Option Addr) (c1 : Nat) (l1 : List (S55)) (A2 : Option Addr) (c2 : Nat) (l2 : List (S55)) (r : List (S35)) (w : World) (hr1 : Kd.C k55 w A1 l1.length l1) (hc1 : l1.length ≤ c1) (hr2 : Kd.C k55 w A2 l2.length l2) (hc2 : l2.length ≤ c2) (h : cameoref10_props.f k a0 l1 l2 = some r) :
  Calls Try.prog 24 #[.int .i64 a0, .slice A1 l1.length c1, .slice A2 l2.length c2] w fun e w' => ∃ v0_ : Value, e = .returned (v0_) ∧ Kd.R k35 35 w' w.heap.size (fun _ => True) v0_ r ∧ Below w.heap.size w w' := by
 have hu30 := Try.underlying30; have hu35 := Try.underlying35; have hu33 := Try.underlying33; have HR1 := Aside0.mk hr1; have HC1 := Aside0.mk hc1; clear hr1 hc1; have HR2 := Aside0.mk hr2; have HC2 := Aside0.mk hc2; clear hr2 hc2; have HB := Aside0.mk (Below.refl w.heap.size w); have H : (cameoref10_props.l0 k a0 l1 l2 0 (-1)) = some r := h; clear h; have HC4 := Aside0.mk H; clear H
 go_enter Try.func24, Try.ntmps24
 go_upto_block 0 with (fail)
 go_cut [7] (fun v7 wc => ∃ (kq : Nat) (x7_3 : Int), v7 = .int .i64 x7_3 ∧ Aside0 (cameoref10_props.j1 kq a0 l1 l2 x7_3 = some r) ∧ Aside0 (kq ≤ k) ∧ Aside0 (Below w.heap.size w wc))
 case first =>
  have H := HC4.out; clear HC4; have H' := Aside0.mk H; clear H
  go_wp2
  go_loopg [7, 8] k (fun kq v7 v8 w' => ∃ (x7_1 : Int) (x8_1 : Int), v7 = .int .i64 x7_1 ∧ v8 = .int .i64 x8_1 ∧ Aside0 (cameoref10_props.l0 kq a0 l1 l2 x7_1 x8_1 = some r) ∧ Aside0 (kq ≤ k) ∧ Aside0 (Below w.heap.size w w'))
  case atStart => exact ⟨(0), ((-1)), (by first | rfl | (simp; done) | (simp [*]; done)), (by first | rfl | (simp; done) | (simp [*]; done)), H', ⟨Nat.le_refl _⟩, ⟨by repeat (first | (with_reducible first | exact HB.out | apply below_alloc | apply pw_below_drewN | apply below_drew1) | exact HB.out)⟩⟩
  case round =>
   clear H'; (try clear c1); (try clear c2); (try clear p2); obtain ⟨x7_1, x8_1, rfl, rfl, HA, HK1, HB⟩ := hrel
   cases gk with
   | zero => exact absurd HA.out (by simp [cameoref10_props.l0])
   | succ k1 =>
    have H := HA.out; clear HA; simp only [cameoref10_props.l0] at H
    by_cases c5 : x7_1 < (l2.length : Int)
    ·rw [if_pos c5] at H; have c5b0 : decide (x7_1 < (l2.length : Int)) = true := decide_eq_true c5; clear c5
     (first | rw [c5b0] | (simp only [i64_w, i32_w]; rw [c5b0]) | rw [c5b2] | skip)
     by_cases c6 : 0 ≤ x7_1
     ·rw [if_pos c6] at H; have c6b0 : decide (0 ≤ x7_1) = true := decide_eq_true c6; clear c6; replace H := Option.bind_eq_some_iff.mp H; obtain ⟨t420, A70, H⟩ := H; replace H : (if t420 > x8_1 then ((cameoref10_Find.f k1 l1 ((rd_T55 l2 x7_1).f0.f0) ((rd_T55 l2 x7_1).f0.f1)).bind fun t422 => (cameoref10_props.l0 k1 a0 l1 l2 (wrap64 (x7_1 + 1)) t422)) else (cameoref10_props.j1 k1 a0 l1 l2 x7_1)) = some r := H; have A7 := Aside0.mk A70; clear A70
      by_cases c8 : t420 > x8_1
      ·rw [if_pos c8] at H; have c8b0 : decide (x8_1 < t420) = true := decide_eq_true c8; clear c8; replace H := Option.bind_eq_some_iff.mp H; obtain ⟨t422, A90, H⟩ := H; replace H : (cameoref10_props.l0 k1 a0 l1 l2 (wrap64 (x7_1 + 1)) t422) = some r := H; have A9 := Aside0.mk A90; clear A90; have H' := Aside0.mk H; clear H; have p419 : 0 ≤ (x7_1 : Int) := of_decide_eq_true (by first | (with_reducible assumption) | assumption); have q419 : x7_1 < (l2.length : Int) := of_decide_eq_true (by first | (with_reducible assumption) | assumption); obtain ⟨ad419, e419, hx419_0, hx419_1, _, _, _, _, _, _, _, _, _, _, _, _, _, _, _, _, _, _⟩ := at_T55 HR2.out x7_1 p419 q419
       cases e419
       replace hx419_0 := bc HB.out hx419_0; replace hx419_1 := bc HB.out hx419_1; replace p419 := eq_true p419; replace q419 := eq_true q419
       go_wp2_with (first | (go_at_call 17; (with_reducible refine (cameoref10_Find.calls k1 _ _ l1 ((rd_T55 l2 x7_1).f0.f0) ((rd_T55 l2 x7_1).f0.f1) t420 _ ?side1 ?side2 A7.out).mono ?_); (case side1 => repeat (first | exact (Kd.C_below HR1.out HB.out) | (with_reducible refine Kd.C_alloc ?_ _) | (with_reducible refine Kd.C_drewN ?_ _) | (with_reducible refine Kd.C_drew ?_))); (case side2 => exact HC1.out); rintro e w10 ⟨rfl, hb⟩; replace HB := Aside0.mk (bel_s HB.out hb); (try clear hb); (try clear hb2); (try clear hk); (try clear hi); have p421 : 0 ≤ (x7_1 : Int) := of_decide_eq_true (by first | (with_reducible assumption) | assumption); have q421 : x7_1 < (l2.length : Int) := of_decide_eq_true (by first | (with_reducible assumption) | assumption); obtain ⟨ad421, e421, hx421_0, hx421_1, _, _, _, _, _, _, _, _, _, _, _, _, _, _, _, _, _, _⟩ := at_T55 HR2.out x7_1 p421 q421; obtain rfl : ad419 = ad421 := (by injection e421); replace hx421_0 := bc HB.out hx421_0; replace hx421_1 := bc HB.out hx421_1; replace p421 := eq_true p421; replace q421 := eq_true q421) | ((with_reducible refine gate_callee (f := 17) rfl ?_); refine goesL_ (some 33) rfl rfl Try.func17 (by kernel_rfl) rfl #[.slice A1 l1.length c1, .agg #[.string ((rd_T55 l2 x7_1).f0.f0), .int .i64 ((rd_T55 l2 x7_1).f0.f1)]] rfl (by (try simp only [List.map_toArray, List.map_cons, List.map_nil]); first | done | rfl | (simp only [List.length_drop, List.length_take]; rfl)) ?_; (with_reducible refine (cameoref10_Find.calls k1 _ _ l1 ((rd_T55 l2 x7_1).f0.f0) ((rd_T55 l2 x7_1).f0.f1) t422 _ ?side1 ?side2 A9.out).mono ?_); (case side1 => repeat (first | exact (Kd.C_below HR1.out HB.out) | (with_reducible refine Kd.C_alloc ?_ _) | (with_reducible refine Kd.C_drewN ?_ _) | (with_reducible refine Kd.C_drew ?_))); (case side2 => exact HC1.out); rintro e w11 ⟨rfl, hb⟩; refine ⟨_, rfl, ?_⟩; replace HB := Aside0.mk (bel_s HB.out hb); (try clear hb); (try clear hb2); (try clear hk); (try clear hi)))
       go_roundg k1
       case measure => have := HK1.out; omega
       case rel => exact ⟨(wrap64 (x7_1 + 1)), (t422), (by first | rfl | (simp; done) | (simp [*]; done)), (by first | rfl | (simp; done) | (simp [*]; done)), H', ⟨by have := HK1.out; omega⟩, ⟨by repeat (first | (with_reducible first | exact HB.out | apply below_alloc | apply pw_below_drewN | apply below_drew1) | exact HB.out)⟩⟩
      ·rw [if_neg c8] at H; have c8b0 : decide (x8_1 < t420) = false := decide_eq_false c8; clear c8; have H' := Aside0.mk H; clear H; have p419 : 0 ≤ (x7_1 : Int) := of_decide_eq_true (by first | (with_reducible assumption) | assumption); have q419 : x7_1 < (l2.length : Int) := of_decide_eq_true (by first | (with_reducible assumption) | assumption); obtain ⟨ad419, e419, hx419_0, hx419_1, _, _, _, _, _, _, _, _, _, _, _, _, _, _, _, _, _, _⟩ := at_T55 HR2.out x7_1 p419 q419
       cases e419
       replace hx419_0 := bc HB.out hx419_0; replace hx419_1 := bc HB.out hx419_1; replace p419 := eq_true p419; replace q419 := eq_true q419
       go_wp2_with (first | (go_at_call 17; (with_reducible refine (cameoref10_Find.calls k1 _ _ l1 ((rd_T55 l2 x7_1).f0.f0) ((rd_T55 l2 x7_1).f0.f1) t420 _ ?side1 ?side2 A7.out).mono ?_); (case side1 => repeat (first | exact (Kd.C_below HR1.out HB.out) | (with_reducible refine Kd.C_alloc ?_ _) | (with_reducible refine Kd.C_drewN ?_ _) | (with_reducible refine Kd.C_drew ?_))); (case side2 => exact HC1.out); rintro e w12 ⟨rfl, hb⟩; replace HB := Aside0.mk (bel_s HB.out hb); (try clear hb); (try clear hb2); (try clear hk); (try clear hi)))
       go_meet
       case rel => exact ⟨_, (x7_1), (by first | rfl | (simp; done) | (simp [*]; done)), H', ⟨by have := HK1.out; first | omega | exact Nat.le_refl _⟩, ⟨by repeat (first | (with_reducible first | exact HB.out | apply below_alloc | apply pw_below_drewN | apply below_drew1) | exact HB.out)⟩⟩
     ·rw [if_neg c6] at H; exact absurd H (by simp)
    ·rw [if_neg c5] at H; have c5b0 : decide (x7_1 < (l2.length : Int)) = false := decide_eq_false c5; clear c5
     (first | rw [c5b0] | (simp only [i64_w, i32_w]; rw [c5b0]) | rw [c5b2] | skip)
     have H' := Aside0.mk H; clear H
     go_wp2
     go_meet
     case rel => exact ⟨_, (x7_1), (by first | rfl | (simp; done) | (simp [*]; done)), H', ⟨by have := HK1.out; first | omega | exact Nat.le_refl _⟩, ⟨by repeat (first | (with_reducible first | exact HB.out | apply below_alloc | apply pw_below_drewN | apply below_drew1) | exact HB.out)⟩⟩
 case rest =>
  clear HC4; (try clear c1); (try clear c2); (try clear p2); (try clear p4); (try clear q4); (try clear hx4); (try clear c5); (try clear c5b0); (try clear c5b2); (try clear c6); (try clear c6b0); (try clear p6); (try clear c8); (try clear c8b0); (try clear hx419_0); (try clear hx419_1); (try clear hx421_0); (try clear hx421_1); (try clear p2); (try clear p419); (try clear p421); (try clear q419); (try clear q421); obtain ⟨kq, x7_3, rfl, HA, HJ3, HB⟩ := hcut
  cases kq with
  | zero => exact absurd HA.out (by simp [cameoref10_props.j1])
  | succ kj3 =>
   have H := HA.out; clear HA; simp only [cameoref10_props.j1] at H; have H' := Aside0.mk H; clear H
   go_wp2
   go_loopg [9, 10] kj3 (fun kq v9 v10 w' => ∃ (x9_2 : List (S35)) (x10_2 : Int), v10 = .int .i64 x10_2 ∧ Aside0 (cameoref10_props.l1 kq a0 l1 l2 x7_3 x9_2 x10_2 = some r) ∧ Aside0 (kq ≤ kj3) ∧ Aside0 (Kd.R k35 35 w' w.heap.size (fun _ => True) v9 x9_2) ∧ Aside0 (Below w.heap.size w w'))
   case atStart => exact ⟨(([] : List (S35))), (0), (by first | rfl | (simp; done) | (simp [*]; done)), H', ⟨Nat.le_refl _⟩, ⟨by first | exact Kd.R_nil _ _ _ _ _ | exact Kd.N_nil _ _ _ _ _ | exact Kd.V_nil _ _ _ _ _ | exact Kd.Q_nil _ _ _ _ _ | exact Kd.S_nil _ _ _ _ _⟩, ⟨by repeat (first | (with_reducible first | exact HB.out | apply below_alloc | apply pw_below_drewN | apply below_drew1) | exact HB.out)⟩⟩
   case round =>
    clear H'; (try clear c1); (try clear c2); (try clear p2); (try clear p4); (try clear q4); (try clear hx4); (try clear c5); (try clear c5b0); (try clear c5b2); (try clear c6); (try clear c6b0); (try clear p6); (try clear c8); (try clear c8b0); (try clear hx419_0); (try clear hx419_1); (try clear hx421_0); (try clear hx421_1); (try clear p2); (try clear p4); (try clear p419); (try clear p421); (try clear p6); (try clear q4); (try clear q419); (try clear q421); obtain ⟨x9_2, x10_2, rfl, HA, HK2, HO_9, HB⟩ := hrel
    cases gk with
    | zero => exact absurd HA.out (by simp [cameoref10_props.l1])
    | succ k2 =>
     have H := HA.out; clear HA; simp only [cameoref10_props.l1] at H
     by_cases c13 : x10_2 < (l1.length : Int)
     ·rw [if_pos c13] at H; have c13b0 : decide (x10_2 < (l1.length : Int)) = true := decide_eq_true c13; clear c13
      by_cases c14 : 0 ≤ x7_3
      ·rw [if_pos c14] at H; have c14b0 := eq_true c14; have c14b1 : decide (0 ≤ x7_3) = true := decide_eq_true c14; clear c14
       by_cases c15 : x7_3 ≤ (l2.length : Int)
       ·rw [if_pos c15] at H; have c15b0 := eq_true c15; have c15b1 : decide (x7_3 ≤ (l2.length : Int)) = true := decide_eq_true c15; clear c15
        obtain ⟨y423, hy423⟩ : ∃ y_ : List (S55), y_ = (l2.take (x7_3 : Int).toNat) := ⟨_, rfl⟩
        replace H : (if 0 ≤ x10_2 then ((cameoref10_Find.f k2 y423 ((rd_T55 l1 x10_2).f0.f0) ((rd_T55 l1 x10_2).f0.f1)).bind fun t428 => (if t428 < 0 then (if x9_2.length < 517417236600 then (cameoref10_props.l1 k2 a0 l1 l2 x7_3 (x9_2 ++ [(⟨a0, 5, 0, false, (⟨0, false, 0, (⟨#[]⟩ : ByteArray), 0⟩ : S28), (⟨(rd_T55 l1 x10_2).f0.f0, (rd_T55 l1 x10_2).f0.f1⟩ : S30), (⟨(⟨0, false, 0, (⟨#[]⟩ : ByteArray), 0⟩ : S28), (⟨0, false, 0, (⟨#[]⟩ : ByteArray), 0⟩ : S28), (⟨0, false, 0, (⟨#[]⟩ : ByteArray), 0⟩ : S28), 0, 0, 0⟩ : S33)⟩ : S35)]) (wrap64 (x10_2 + 1))) else (none)) else (cameoref10_props.l1 k2 a0 l1 l2 x7_3 x9_2 (wrap64 (x10_2 + 1))))) else (none)) = some r := by first | (rw [hy423]; with_reducible exact H) | (have H2_ := (Option.bind_some _ _).symm.trans H; rw [hy423]; with_reducible exact H2_) | (have H2_ := (Option.bind_some _ _).symm.trans H; with_reducible exact H2_) | with_reducible exact H | (rw [hy423]; exact H) | exact H
        have Ny423 := Aside0.mk hy423; clear hy423
        by_cases c16 : 0 ≤ x10_2
        ·rw [if_pos c16] at H; have c16b0 : decide (0 ≤ x10_2) = true := decide_eq_true c16; clear c16; replace H := Option.bind_eq_some_iff.mp H; obtain ⟨t428, A170, H⟩ := H; replace H : (if t428 < 0 then (if x9_2.length < 517417236600 then (cameoref10_props.l1 k2 a0 l1 l2 x7_3 (x9_2 ++ [(⟨a0, 5, 0, false, (⟨0, false, 0, (⟨#[]⟩ : ByteArray), 0⟩ : S28), (⟨(rd_T55 l1 x10_2).f0.f0, (rd_T55 l1 x10_2).f0.f1⟩ : S30), (⟨(⟨0, false, 0, (⟨#[]⟩ : ByteArray), 0⟩ : S28), (⟨0, false, 0, (⟨#[]⟩ : ByteArray), 0⟩ : S28), (⟨0, false, 0, (⟨#[]⟩ : ByteArray), 0⟩ : S28), 0, 0, 0⟩ : S33)⟩ : S35)]) (wrap64 (x10_2 + 1))) else (none)) else (cameoref10_props.l1 k2 a0 l1 l2 x7_3 x9_2 (wrap64 (x10_2 + 1)))) = some r := H; have A17 := Aside0.mk A170; clear A170
         by_cases c18 : t428 < 0
         ·rw [if_pos c18] at H; have c18b0 : decide (t428 < 0) = true := decide_eq_true c18; clear c18
          by_cases c19 : x9_2.length < 517417236600
          ·rw [if_pos c19] at H; have LMc19 := Aside0.mk c19; clear c19
           obtain ⟨y430, hy430⟩ : ∃ y_ : List (S35), y_ = (x9_2 ++ [(⟨a0, 5, 0, false, (⟨0, false, 0, (⟨#[]⟩ : ByteArray), 0⟩ : S28), (⟨(rd_T55 l1 x10_2).f0.f0, (rd_T55 l1 x10_2).f0.f1⟩ : S30), (⟨(⟨0, false, 0, (⟨#[]⟩ : ByteArray), 0⟩ : S28), (⟨0, false, 0, (⟨#[]⟩ : ByteArray), 0⟩ : S28), (⟨0, false, 0, (⟨#[]⟩ : ByteArray), 0⟩ : S28), 0, 0, 0⟩ : S33)⟩ : S35)]) := ⟨_, rfl⟩
           replace H : (cameoref10_props.l1 k2 a0 l1 l2 x7_3 y430 (wrap64 (x10_2 + 1))) = some r := by first | (rw [hy430]; with_reducible exact H) | (have H2_ := (Option.bind_some _ _).symm.trans H; rw [hy430]; with_reducible exact H2_) | (have H2_ := (Option.bind_some _ _).symm.trans H; with_reducible exact H2_) | with_reducible exact H | (rw [hy430]; exact H) | exact H
           have Ny430 := Aside0.mk hy430; clear hy430; have H' := Aside0.mk H; clear H
           try go_wp2
           replace HO_9 := Aside0.mk (Kd.R_drew HO_9.out); replace HB := Aside0.mk (below_drew1 HB.out); have q21 : (x7_3 : Int) ≤ ((l2.length : Int) : Int) := of_decide_eq_true (by first | (with_reducible assumption) | assumption); obtain ⟨i021, hi021, _, hsz21, _⟩ := info_parts info55; have hroom21 : l2.length ≤ c2 := HC2.out; have hC21 : Kd.C k55 _ A2 l2.length l2 := HR2.out; have hcut21 := cut_to (P := Try.prog) 50 55 .i64 Try.underlying50 hi021 A2 l2.length c2 x7_3 (of_decide_eq_true (by first | (with_reducible assumption) | assumption)) q21 hroom21; have hr21 := Kd.C_take (m := (x7_3 : Int).toNat) hC21 (by omega); have hy21 : y423.length = (x7_3 : Int).toNat := (by rw [Ny423.out, List.length_take]; omega); rw [← Ny423.out] at hr21; rw [← hy21] at hcut21; have HR426 := Aside0.mk hr21; have HC426 := Aside0.mk (show y423.length ≤ c2 from by omega); clear hr21 hC21 hroom21 hi021 hsz21; have KY21 := Aside0.mk hy21; clear hy21; replace q21 := eq_true q21; have p427 : 0 ≤ (x10_2 : Int) := of_decide_eq_true (by first | (with_reducible assumption) | assumption); have q427 : x10_2 < (l1.length : Int) := of_decide_eq_true (by first | (with_reducible assumption) | assumption); obtain ⟨ad427, e427, hx427_0, hx427_1, _, _, _, _, _, _, _, _, _, _, _, _, _, _, _, _, _, _⟩ := at_T55 HR1.out x10_2 p427 q427; have hw427_1 := hx427_1; have hw427_0 := hx427_0
           cases e427
           replace hx427_0 := bc HB.out hx427_0; replace hx427_1 := bc HB.out hx427_1; replace p427 := eq_true p427; replace q427 := eq_true q427; refine start_ (n := 10) (S := fun w' => w'.cell? (ad427.add ((x10_2).toNat * 20)) = some (.string ((rd_T55 l1 x10_2).f0.f0)) ∧ w'.cell? ⟨(ad427.add ((x10_2).toNat * 20)).block, (ad427.add ((x10_2).toNat * 20)).off + 1, none⟩ = some (.int .i64 ((rd_T55 l1 x10_2).f0.f1))) (ds := []) #[o0, o0, o0, o0, o0, o0, o0, o0, o0, o0] (by kernel_rfl) rfl rfl ⟨(bc HB.out hw427_0), (bc HB.out hw427_1)⟩ (fun hHeld => ?_); refine with_tabW cameoref10_props.tab10 cameoref10_props.bits10 (fun HT_ HW_ => ?_); generalize wr.drew = w20 at HO_9 HB HR426 hx427_0 hx427_1 hHeld ⊢; refine pure_ (i := 0) (N := some 42) (v := ?_) (a' := ?_) #[o1, o0, o0, o0, o0, o0, o0, o0, o0, o0] rfl rfl (any_of HT_.out (by kernel_rfl)) (fun _ _ _ h => h) (Or.inl ⟨by rfl, ?_⟩) ?_ ?_; rotate_left
           ·intro w'; go_simp; with_reducible rfl
           rotate_left
           ·simp only [Act.put, sA, s0, sS, i64_w, i32_w]; rfl
           refine pure_ (i := 1) (N := some 43) (v := ?_) (a' := ?_) #[o1, o1, o0, o0, o0, o0, o0, o0, o0, o0] rfl rfl (any_of HT_.out (by kernel_rfl)) (fun _ _ _ h => h) (Or.inl ⟨by rfl, ?_⟩) ?_ ?_; rotate_left
           ·intro w'; go_simp; with_reducible rfl
           rotate_left
           ·simp only [Act.put, sA, s0, sS, i64_w, i32_w]; rfl
           refine pure_ (i := 2) (N := some 44) (v := ?_) (a' := ?_) #[o1, o1, o1, o0, o0, o0, o0, o0, o0, o0] rfl rfl (any_of HT_.out (by kernel_rfl)) (fun _ _ _ h => h) (Or.inl ⟨by rfl, ?_⟩) ?_ ?_; rotate_left
           ·intro w'; go_simp; with_reducible rfl
           rotate_left
           ·simp only [Act.put, sA, s0, sS, i64_w, i32_w]; rfl
           refine pure_ (i := 3) (N := some 45) (v := ?_) (a' := ?_) #[o1, o1, o1, o1, o0, o0, o0, o0, o0, o0] rfl rfl (any_of HT_.out (by kernel_rfl)) (fun _ _ _ h => h) (Or.inl ⟨by rfl, ?_⟩) ?_ ?_; rotate_left
           ·intro w'; go_simp; with_reducible rfl
           rotate_left
           ·simp only [Act.put, sA, s0, sS, i64_w, i32_w]; rfl
           refine pure_ (i := 4) (N := some 46) (v := ?_) (a' := ?_) #[o1, o1, o1, o1, o1, o0, o0, o0, o0, o0] rfl rfl (any_of HT_.out (by kernel_rfl)) (fun _ _ _ h => h) (Or.inl ⟨by rfl, ?_⟩) ?_ ?_; rotate_left
           ·intro w'; go_simp; with_reducible rfl
           rotate_left
           ·simp only [Act.put, sA, s0, sS, i64_w, i32_w]; rfl
           refine pure_ (i := 5) (N := some 47) (v := ?_) (a' := ?_) #[o1, o1, o1, o1, o1, o1, o0, o0, o0, o0] rfl rfl (any_of HT_.out (by kernel_rfl)) (fun _ _ _ h => h) (Or.inl ⟨by rfl, ?_⟩) ?_ ?_; rotate_left
           ·intro w'; go_simp; with_reducible rfl
           rotate_left
           ·simp only [Act.put, sA, s0, sS, i64_w, i32_w]; rfl
           refine pure_ (i := 6) (N := some 48) (v := ?_) (a' := ?_) #[o1, o1, o1, o1, o1, o1, o1, o0, o0, o0] rfl rfl (any_of HT_.out (by kernel_rfl)) (fun _ _ _ h => h) (Or.inl ⟨by rfl, ?_⟩) ?_ ?_; rotate_left
           ·intro w'; go_simp; with_reducible rfl
           rotate_left
           ·simp only [Act.put, sA, s0, sS, i64_w, i32_w]; rfl
           refine take_ (i := 7) (N := some 49) (v := .agg #[.string ((rd_T55 l1 x10_2).f0.f0), .int .i64 ((rd_T55 l1 x10_2).f0.f1)]) (a' := ?_) #[o1, o1, o1, o1, o1, o1, o1, o1, o0, o0] rfl rfl (take_ofW HT_.out HW_.out (by kernel_rfl)) (fun _ _ _ h => h) (Or.inl ⟨by rfl, ?_⟩) hHeld ?_ ?_
           ·rintro w' ⟨s0, s1⟩
            apply exec_load_cells Try.underlying30 2
            case ho => rfl
            case hx => rfl
            case hc => exact CellsAt.cons s0 (CellsAt.cons s1 (CellsAt.nil))
            case hn => rfl
            case hi => kernel_rfl
           rotate_left
           ·simp only [Act.put, sA, s0, sS, i64_w, i32_w]; rfl
           refine one_ (i := 8) (N := some 50) #[o1, o1, o1, o1, o1, o1, o1, o1, o1, o0] rfl rfl (one_of HT_.out (by kernel_rfl)) (by decide) (fun K hK => ?_); refine goes_ Try.func17 (by kernel_rfl) rfl #[.slice A2 y423.length c2, .agg #[.string ((rd_T55 l1 x10_2).f0.f0), .int .i64 ((rd_T55 l1 x10_2).f0.f1)]] (by rfl) rfl rfl (by (try simp only [List.map_toArray, List.map_cons, List.map_nil]); first | done | rfl | (simp only [List.length_drop, List.length_take]; rfl)) ?_
           with_reducible refine (cameoref10_Find.calls k2 _ _ y423 ((rd_T55 l1 x10_2).f0.f0) ((rd_T55 l1 x10_2).f0.f1) t428 _ ?side1 ?side2 A17.out).mono ?_
           (case side1 => repeat (first | exact (Kd.C_below HR426.out HB.out) | (with_reducible refine Kd.C_alloc ?_ _) | (with_reducible refine Kd.C_drewN ?_ _) | (with_reducible refine Kd.C_drew ?_)))
           (case side2 => exact HC426.out)
           rintro e w22 ⟨rfl, hb⟩
           refine ⟨_, rfl, ?_⟩; replace HO_9 := Aside0.mk (Kd.R_below (by (with_reducible repeat (first | apply Kd.R_alloc | apply Kd.R_drewN | apply Kd.R_drew)); exact HO_9.out) hb); replace HB := Aside0.mk (bel_s HB.out hb); (try clear hb); (try clear hb2); (try clear hk); (try clear hi); refine hK.out _ _ ⟨(bc HB.out hw427_0), (bc HB.out hw427_1)⟩ (fun hHeld => ?_); clear hK K; refine norm_ (a' := ?_) ?_ ?_; rotate_left
           ·show Act.put _ (some 50) _ = _
            simp only [Act.put, sA, s0, sS, i64_w, i32_w]; rfl
           refine pure_ (i := 9) (N := some 51) (v := ?_) (a' := ?_) #[o1, o1, o1, o1, o1, o1, o1, o1, o1, o1] rfl rfl (any_of HT_.out (by kernel_rfl)) (fun _ _ _ h => h) (Or.inl ⟨by rfl, ?_⟩) ?_ ?_; rotate_left
           ·intro w'; go_simp; with_reducible rfl
           rotate_left
           ·simp only [Act.put, sA, s0, sS, i64_w, i32_w]; rfl
           refine done_ (done_of HT_.out (by kernel_rfl)) ?_; have p429 : 0 ≤ (x10_2 : Int) := of_decide_eq_true (by first | (with_reducible assumption) | assumption); have q429 : x10_2 < (l1.length : Int) := of_decide_eq_true (by first | (with_reducible assumption) | assumption); obtain ⟨ad429, e429, hx429_0, hx429_1, _, _, _, _, _, _, _, _, _, _, _, _, _, _, _, _, _, _⟩ := at_T55 HR1.out x10_2 p429 q429; obtain rfl : ad427 = ad429 := (by injection e429); replace hx429_0 := bc HB.out hx429_0; replace hx429_1 := bc HB.out hx429_1; replace p429 := eq_true p429; replace q429 := eq_true q429
           try go_wp2_with (first | ((with_reducible refine gate_builtin (b := .append) (xs := #[.tmp 52, .tmp 60]) rfl ?_); at_builtin; refine Kd.R_append k35 (w0 := w) w.heap.size rfl (.tmp 52) (.tmp 60) 23 35 (.agg z35A) 272 rfl Try.underlying23 info35 rfl (by decide) (by omega) u9 x9_2 (⟨a0, 5, 0, false, (⟨0, false, 0, (⟨#[]⟩ : ByteArray), 0⟩ : S28), (⟨(rd_T55 l1 x10_2).f0.f0, (rd_T55 l1 x10_2).f0.f1⟩ : S30), (⟨(⟨0, false, 0, (⟨#[]⟩ : ByteArray), 0⟩ : S28), (⟨0, false, 0, (⟨#[]⟩ : ByteArray), 0⟩ : S28), (⟨0, false, 0, (⟨#[]⟩ : ByteArray), 0⟩ : S28), 0, 0, 0⟩ : S33)⟩ : S35) [.int .i64 a0, .int .i64 5, .int .i64 0, .bool false, .int .i64 0, .bool false, .float .f64 0, .string (⟨#[]⟩ : ByteArray), .int .i64 0, .string ((rd_T55 l1 x10_2).f0.f0), .int .i64 ((rd_T55 l1 x10_2).f0.f1), .int .i64 0, .bool false, .float .f64 0, .string (⟨#[]⟩ : ByteArray), .int .i64 0, .int .i64 0, .bool false, .float .f64 0, .string (⟨#[]⟩ : ByteArray), .int .i64 0, .int .i64 0, .bool false, .float .f64 0, .string (⟨#[]⟩ : ByteArray), .int .i64 0, .int .i64 0, .int .i64 0, .int .i64 0] (fun _ => True) (fun _ => False) rfl rfl ?aP (fun _ hk => hk.elim) ?aF ?aO ?aB ?aS ?aL ?_; (case aP => exact k35_mkM _ _ _ (⟨a0, 5, 0, false, (⟨0, false, 0, (⟨#[]⟩ : ByteArray), 0⟩ : S28), (⟨(rd_T55 l1 x10_2).f0.f0, (rd_T55 l1 x10_2).f0.f1⟩ : S30), (⟨(⟨0, false, 0, (⟨#[]⟩ : ByteArray), 0⟩ : S28), (⟨0, false, 0, (⟨#[]⟩ : ByteArray), 0⟩ : S28), (⟨0, false, 0, (⟨#[]⟩ : ByteArray), 0⟩ : S28), 0, 0, 0⟩ : S33)⟩ : S35)); (case aB => exact (by repeat (first | (with_reducible first | exact HB.out | apply below_alloc | apply pw_below_drewN | apply below_drew1) | exact HB.out))); (case aF => exact (fun _ _ => trivial)); (case aO => exact (by (with_reducible repeat (first | apply Kd.R_alloc | apply Kd.R_drewN | apply Kd.R_drew)); exact HO_9.out)); (case aS => exact (bel_z HB.out)); (case aL => have := LMc19.out; omega); intro v431 w23 ho hb hg hat; rw [← Ny430.out] at ho; replace HB := Aside0.mk (hb); have HO432 := Aside0.mk (ho); clear HO_9; clear ho hb hg hat))
           go_roundg k2
           case measure => have := HJ3.out; have := HK2.out; omega
           case rel => exact ⟨(y430), (wrap64 (x10_2 + 1)), (by first | rfl | (simp; done) | (simp [*]; done)), H', ⟨by have := HJ3.out; have := HK2.out; omega⟩, ⟨by (with_reducible repeat (first | apply Kd.R_alloc | apply Kd.R_drewN | apply Kd.R_drew)); exact HO432.out⟩, ⟨by repeat (first | (with_reducible first | exact HB.out | apply below_alloc | apply pw_below_drewN | apply below_drew1) | exact HB.out)⟩⟩
          ·rw [if_neg c19] at H; exact absurd H (by simp)
         ·rw [if_neg c18] at H; have c18b0 : decide (t428 < 0) = false := decide_eq_false c18; clear c18; have H' := Aside0.mk H; clear H
          try go_wp2
          replace HO_9 := Aside0.mk (Kd.R_drew HO_9.out); replace HB := Aside0.mk (below_drew1 HB.out); have q25 : (x7_3 : Int) ≤ ((l2.length : Int) : Int) := of_decide_eq_true (by first | (with_reducible assumption) | assumption); obtain ⟨i025, hi025, _, hsz25, _⟩ := info_parts info55; have hroom25 : l2.length ≤ c2 := HC2.out; have hC25 : Kd.C k55 _ A2 l2.length l2 := HR2.out; have hcut25 := cut_to (P := Try.prog) 50 55 .i64 Try.underlying50 hi025 A2 l2.length c2 x7_3 (of_decide_eq_true (by first | (with_reducible assumption) | assumption)) q25 hroom25; have hr25 := Kd.C_take (m := (x7_3 : Int).toNat) hC25 (by omega); have hy25 : y423.length = (x7_3 : Int).toNat := (by rw [Ny423.out, List.length_take]; omega); rw [← Ny423.out] at hr25; rw [← hy25] at hcut25; have HR426 := Aside0.mk hr25; have HC426 := Aside0.mk (show y423.length ≤ c2 from by omega); clear hr25 hC25 hroom25 hi025 hsz25; have KY25 := Aside0.mk hy25; clear hy25; replace q25 := eq_true q25; have p427 : 0 ≤ (x10_2 : Int) := of_decide_eq_true (by first | (with_reducible assumption) | assumption); have q427 : x10_2 < (l1.length : Int) := of_decide_eq_true (by first | (with_reducible assumption) | assumption); obtain ⟨ad427, e427, hx427_0, hx427_1, _, _, _, _, _, _, _, _, _, _, _, _, _, _, _, _, _, _⟩ := at_T55 HR1.out x10_2 p427 q427; have hw427_1 := hx427_1; have hw427_0 := hx427_0
          cases e427
          replace hx427_0 := bc HB.out hx427_0; replace hx427_1 := bc HB.out hx427_1; replace p427 := eq_true p427; replace q427 := eq_true q427; refine start_ (n := 10) (S := fun w' => w'.cell? (ad427.add ((x10_2).toNat * 20)) = some (.string ((rd_T55 l1 x10_2).f0.f0)) ∧ w'.cell? ⟨(ad427.add ((x10_2).toNat * 20)).block, (ad427.add ((x10_2).toNat * 20)).off + 1, none⟩ = some (.int .i64 ((rd_T55 l1 x10_2).f0.f1))) (ds := []) #[o0, o0, o0, o0, o0, o0, o0, o0, o0, o0] (by kernel_rfl) rfl rfl ⟨(bc HB.out hw427_0), (bc HB.out hw427_1)⟩ (fun hHeld => ?_); refine with_tabW cameoref10_props.tab10 cameoref10_props.bits10 (fun HT_ HW_ => ?_); generalize wr.drew = w24 at HO_9 HB HR426 hx427_0 hx427_1 hHeld ⊢; refine pure_ (i := 0) (N := some 42) (v := ?_) (a' := ?_) #[o1, o0, o0, o0, o0, o0, o0, o0, o0, o0] rfl rfl (any_of HT_.out (by kernel_rfl)) (fun _ _ _ h => h) (Or.inl ⟨by rfl, ?_⟩) ?_ ?_; rotate_left
          ·intro w'; go_simp; with_reducible rfl
          rotate_left
          ·simp only [Act.put, sA, s0, sS, i64_w, i32_w]; rfl
          refine pure_ (i := 1) (N := some 43) (v := ?_) (a' := ?_) #[o1, o1, o0, o0, o0, o0, o0, o0, o0, o0] rfl rfl (any_of HT_.out (by kernel_rfl)) (fun _ _ _ h => h) (Or.inl ⟨by rfl, ?_⟩) ?_ ?_; rotate_left
          ·intro w'; go_simp; with_reducible rfl
          rotate_left
          ·simp only [Act.put, sA, s0, sS, i64_w, i32_w]; rfl
          refine pure_ (i := 2) (N := some 44) (v := ?_) (a' := ?_) #[o1, o1, o1, o0, o0, o0, o0, o0, o0, o0] rfl rfl (any_of HT_.out (by kernel_rfl)) (fun _ _ _ h => h) (Or.inl ⟨by rfl, ?_⟩) ?_ ?_; rotate_left
          ·intro w'; go_simp; with_reducible rfl
          rotate_left
          ·simp only [Act.put, sA, s0, sS, i64_w, i32_w]; rfl
          refine pure_ (i := 3) (N := some 45) (v := ?_) (a' := ?_) #[o1, o1, o1, o1, o0, o0, o0, o0, o0, o0] rfl rfl (any_of HT_.out (by kernel_rfl)) (fun _ _ _ h => h) (Or.inl ⟨by rfl, ?_⟩) ?_ ?_; rotate_left
          ·intro w'; go_simp; with_reducible rfl
          rotate_left
          ·simp only [Act.put, sA, s0, sS, i64_w, i32_w]; rfl
          refine pure_ (i := 4) (N := some 46) (v := ?_) (a' := ?_) #[o1, o1, o1, o1, o1, o0, o0, o0, o0, o0] rfl rfl (any_of HT_.out (by kernel_rfl)) (fun _ _ _ h => h) (Or.inl ⟨by rfl, ?_⟩) ?_ ?_; rotate_left
          ·intro w'; go_simp; with_reducible rfl
          rotate_left
          ·simp only [Act.put, sA, s0, sS, i64_w, i32_w]; rfl
          refine pure_ (i := 5) (N := some 47) (v := ?_) (a' := ?_) #[o1, o1, o1, o1, o1, o1, o0, o0, o0, o0] rfl rfl (any_of HT_.out (by kernel_rfl)) (fun _ _ _ h => h) (Or.inl ⟨by rfl, ?_⟩) ?_ ?_; rotate_left
          ·intro w'; go_simp; with_reducible rfl
          rotate_left
          ·simp only [Act.put, sA, s0, sS, i64_w, i32_w]; rfl
          refine pure_ (i := 6) (N := some 48) (v := ?_) (a' := ?_) #[o1, o1, o1, o1, o1, o1, o1, o0, o0, o0] rfl rfl (any_of HT_.out (by kernel_rfl)) (fun _ _ _ h => h) (Or.inl ⟨by rfl, ?_⟩) ?_ ?_; rotate_left
          ·intro w'; go_simp; with_reducible rfl
          rotate_left
          ·simp only [Act.put, sA, s0, sS, i64_w, i32_w]; rfl
          refine take_ (i := 7) (N := some 49) (v := .agg #[.string ((rd_T55 l1 x10_2).f0.f0), .int .i64 ((rd_T55 l1 x10_2).f0.f1)]) (a' := ?_) #[o1, o1, o1, o1, o1, o1, o1, o1, o0, o0] rfl rfl (take_ofW HT_.out HW_.out (by kernel_rfl)) (fun _ _ _ h => h) (Or.inl ⟨by rfl, ?_⟩) hHeld ?_ ?_
          ·rintro w' ⟨s0, s1⟩
           apply exec_load_cells Try.underlying30 2
           case ho => rfl
           case hx => rfl
           case hc => exact CellsAt.cons s0 (CellsAt.cons s1 (CellsAt.nil))
           case hn => rfl
           case hi => kernel_rfl
          rotate_left
          ·simp only [Act.put, sA, s0, sS, i64_w, i32_w]; rfl
          refine one_ (i := 8) (N := some 50) #[o1, o1, o1, o1, o1, o1, o1, o1, o1, o0] rfl rfl (one_of HT_.out (by kernel_rfl)) (by decide) (fun K hK => ?_); refine goes_ Try.func17 (by kernel_rfl) rfl #[.slice A2 y423.length c2, .agg #[.string ((rd_T55 l1 x10_2).f0.f0), .int .i64 ((rd_T55 l1 x10_2).f0.f1)]] (by rfl) rfl rfl (by (try simp only [List.map_toArray, List.map_cons, List.map_nil]); first | done | rfl | (simp only [List.length_drop, List.length_take]; rfl)) ?_
          with_reducible refine (cameoref10_Find.calls k2 _ _ y423 ((rd_T55 l1 x10_2).f0.f0) ((rd_T55 l1 x10_2).f0.f1) t428 _ ?side1 ?side2 A17.out).mono ?_
          (case side1 => repeat (first | exact (Kd.C_below HR426.out HB.out) | (with_reducible refine Kd.C_alloc ?_ _) | (with_reducible refine Kd.C_drewN ?_ _) | (with_reducible refine Kd.C_drew ?_)))
          (case side2 => exact HC426.out)
          rintro e w26 ⟨rfl, hb⟩
          refine ⟨_, rfl, ?_⟩; replace HO_9 := Aside0.mk (Kd.R_below (by (with_reducible repeat (first | apply Kd.R_alloc | apply Kd.R_drewN | apply Kd.R_drew)); exact HO_9.out) hb); replace HB := Aside0.mk (bel_s HB.out hb); (try clear hb); (try clear hb2); (try clear hk); (try clear hi); refine hK.out _ _ ⟨(bc HB.out hw427_0), (bc HB.out hw427_1)⟩ (fun hHeld => ?_); clear hK K; refine norm_ (a' := ?_) ?_ ?_; rotate_left
          ·show Act.put _ (some 50) _ = _
           simp only [Act.put, sA, s0, sS, i64_w, i32_w]; rfl
          refine pure_ (i := 9) (N := some 51) (v := ?_) (a' := ?_) #[o1, o1, o1, o1, o1, o1, o1, o1, o1, o1] rfl rfl (any_of HT_.out (by kernel_rfl)) (fun _ _ _ h => h) (Or.inl ⟨by rfl, ?_⟩) ?_ ?_; rotate_left
          ·intro w'; go_simp; with_reducible rfl
          rotate_left
          ·simp only [Act.put, sA, s0, sS, i64_w, i32_w]; rfl
          refine done_ (done_of HT_.out (by kernel_rfl)) ?_
          try go_wp2
          go_roundg k2
          case measure => have := HJ3.out; have := HK2.out; omega
          case rel => exact ⟨(x9_2), (wrap64 (x10_2 + 1)), (by first | rfl | (simp; done) | (simp [*]; done)), H', ⟨by have := HJ3.out; have := HK2.out; omega⟩, ⟨by (with_reducible repeat (first | apply Kd.R_alloc | apply Kd.R_drewN | apply Kd.R_drew)); exact HO_9.out⟩, ⟨by repeat (first | (with_reducible first | exact HB.out | apply below_alloc | apply pw_below_drewN | apply below_drew1) | exact HB.out)⟩⟩
        ·rw [if_neg c16] at H; exact absurd H (by simp)
       ·rw [if_neg c15] at H; exact absurd H (by simp)
      ·rw [if_neg c14] at H; exact absurd H (by simp)
     ·rw [if_neg c13] at H; have c13b0 : decide (x10_2 < (l1.length : Int)) = false := decide_eq_false c13; clear c13; have H' := Aside0.mk H; clear H
      go_wp2
      go_loopg [9, 11] k2 (fun kq v9 v11 w' => ∃ (x9_3 : List (S35)) (x11_3 : Int), v11 = .int .i64 x11_3 ∧ Aside0 (cameoref10_props.l2 kq a0 l1 l2 x7_3 x9_3 x11_3 = some r) ∧ Aside0 (kq ≤ k2) ∧ Aside0 (Kd.R k35 35 w' w.heap.size (fun _ => True) v9 x9_3) ∧ Aside0 (Below w.heap.size w w'))
      case atStart => exact ⟨(x9_2), (0), (by first | rfl | (simp; done) | (simp [*]; done)), H', ⟨Nat.le_refl _⟩, ⟨by (with_reducible repeat (first | apply Kd.R_alloc | apply Kd.R_drewN | apply Kd.R_drew)); exact HO_9.out⟩, ⟨by repeat (first | (with_reducible first | exact HB.out | apply below_alloc | apply pw_below_drewN | apply below_drew1) | exact HB.out)⟩⟩
      case round =>
       clear H'; (try clear c1); (try clear c2); (try clear p2); (try clear q2); (try clear p4); (try clear q4); (try clear hx4); (try clear c5); (try clear c5b0); (try clear c5b2); (try clear c6); (try clear c6b0); (try clear p6); (try clear c8); (try clear c8b0); (try clear c13); (try clear c13b0); (try clear c14); (try clear c14b0); (try clear c14b1); (try clear c15); (try clear c15b0); (try clear c15b1); (try clear c16); (try clear c16b0); (try clear c17); (try clear c18); (try clear c18b0); (try clear c19); (try clear q21); (try clear c24); (try clear q25); (try clear hx419_0); (try clear hx419_1); (try clear hx421_0); (try clear hx421_1); (try clear hx427_0); (try clear hx427_1); (try clear hx429_0); (try clear hx429_1); (try clear p2); (try clear p4); (try clear p419); (try clear p421); (try clear p427); (try clear p429); (try clear p6); (try clear q21); (try clear q25); (try clear q4); (try clear q419); (try clear q421); (try clear q427); (try clear q429); obtain ⟨x9_3, x11_3, rfl, HA, HK3, HO_9, HB⟩ := hrel
       cases gk with
       | zero => exact absurd HA.out (by simp [cameoref10_props.l2])
       | succ k3 =>
        have H := HA.out; clear HA; simp only [cameoref10_props.l2] at H
        by_cases c27 : x11_3 < (l2.length : Int)
        ·rw [if_pos c27] at H; have c27b0 : decide (x11_3 < (l2.length : Int)) = true := decide_eq_true c27; clear c27
         by_cases c28 : x11_3 ≥ x7_3
         ·rw [if_pos c28] at H; have c28b0 : decide (x7_3 ≤ x11_3) = true := decide_eq_true c28; clear c28
          by_cases c29 : 0 ≤ x11_3
          ·rw [if_pos c29] at H; have c29b0 : decide (0 ≤ x11_3) = true := decide_eq_true c29; clear c29
           by_cases c30 : x9_3.length < 517417236600
           ·rw [if_pos c30] at H; have LMc30 := Aside0.mk c30; clear c30
            obtain ⟨y435, hy435⟩ : ∃ y_ : List (S35), y_ = (x9_3 ++ [(⟨a0, 6, 0, false, (⟨0, false, 0, (⟨#[]⟩ : ByteArray), 0⟩ : S28), (⟨(rd_T55 l2 x11_3).f0.f0, (rd_T55 l2 x11_3).f0.f1⟩ : S30), (⟨(⟨(rd_T55 l2 x11_3).f1.f0.f0, (rd_T55 l2 x11_3).f1.f0.f1, (rd_T55 l2 x11_3).f1.f0.f2, (rd_T55 l2 x11_3).f1.f0.f3, (rd_T55 l2 x11_3).f1.f0.f4⟩ : S28), (⟨(rd_T55 l2 x11_3).f1.f1.f0, (rd_T55 l2 x11_3).f1.f1.f1, (rd_T55 l2 x11_3).f1.f1.f2, (rd_T55 l2 x11_3).f1.f1.f3, (rd_T55 l2 x11_3).f1.f1.f4⟩ : S28), (⟨(rd_T55 l2 x11_3).f1.f2.f0, (rd_T55 l2 x11_3).f1.f2.f1, (rd_T55 l2 x11_3).f1.f2.f2, (rd_T55 l2 x11_3).f1.f2.f3, (rd_T55 l2 x11_3).f1.f2.f4⟩ : S28), (rd_T55 l2 x11_3).f1.f3, (rd_T55 l2 x11_3).f1.f4, (rd_T55 l2 x11_3).f1.f5⟩ : S33)⟩ : S35)]) := ⟨_, rfl⟩
            replace H : (cameoref10_props.l2 k3 a0 l1 l2 x7_3 y435 (wrap64 (x11_3 + 1))) = some r := by first | (rw [hy435]; with_reducible exact H) | (have H2_ := (Option.bind_some _ _).symm.trans H; rw [hy435]; with_reducible exact H2_) | (have H2_ := (Option.bind_some _ _).symm.trans H; with_reducible exact H2_) | with_reducible exact H | (rw [hy435]; exact H) | exact H
            have Ny435 := Aside0.mk hy435; clear hy435; have H' := Aside0.mk H; clear H
            try go_wp2
            replace HO_9 := Aside0.mk (Kd.R_drew HO_9.out); replace HB := Aside0.mk (below_drew1 HB.out); refine start_ (n := 23) (S := fun w' => True) (ds := []) #[o0, o0, o0, o0, o0, o0, o0, o0, o0, o0, o0, o0, o0, o0, o0, o0, o0, o0, o0, o0, o0, o0, o0] (by kernel_rfl) rfl rfl trivial (fun hHeld => ?_); refine with_tabW cameoref10_props.tab15 cameoref10_props.bits15 (fun HT_ HW_ => ?_); generalize wr.drew = w31 at HO_9 HB hHeld ⊢; refine pure_ (i := 0) (N := some 68) (v := ?_) (a' := ?_) #[o1, o0, o0, o0, o0, o0, o0, o0, o0, o0, o0, o0, o0, o0, o0, o0, o0, o0, o0, o0, o0, o0, o0] rfl rfl (any_of HT_.out (by kernel_rfl)) (fun _ _ _ h => h) (Or.inl ⟨by rfl, ?_⟩) ?_ ?_; rotate_left
            ·intro w'; go_simp; with_reducible rfl
            rotate_left
            ·simp only [Act.put, sA, s0, sS, i64_w, i32_w]; rfl
            refine pure_ (i := 1) (N := some 69) (v := ?_) (a' := ?_) #[o1, o1, o0, o0, o0, o0, o0, o0, o0, o0, o0, o0, o0, o0, o0, o0, o0, o0, o0, o0, o0, o0, o0] rfl rfl (any_of HT_.out (by kernel_rfl)) (fun _ _ _ h => h) (Or.inl ⟨by rfl, ?_⟩) ?_ ?_; rotate_left
            ·intro w'; go_simp; with_reducible rfl
            rotate_left
            ·simp only [Act.put, sA, s0, sS, i64_w, i32_w]; rfl
            refine pure_ (i := 2) (N := some 70) (v := ?_) (a' := ?_) #[o1, o1, o1, o0, o0, o0, o0, o0, o0, o0, o0, o0, o0, o0, o0, o0, o0, o0, o0, o0, o0, o0, o0] rfl rfl (any_of HT_.out (by kernel_rfl)) (fun _ _ _ h => h) (Or.inl ⟨by rfl, ?_⟩) ?_ ?_; rotate_left
            ·intro w'; go_simp; with_reducible rfl
            rotate_left
            ·simp only [Act.put, sA, s0, sS, i64_w, i32_w]; rfl
            refine pure_ (i := 3) (N := some 71) (v := ?_) (a' := ?_) #[o1, o1, o1, o1, o0, o0, o0, o0, o0, o0, o0, o0, o0, o0, o0, o0, o0, o0, o0, o0, o0, o0, o0] rfl rfl (any_of HT_.out (by kernel_rfl)) (fun _ _ _ h => h) (Or.inl ⟨by rfl, ?_⟩) ?_ ?_; rotate_left
            ·intro w'; go_simp; with_reducible rfl
            rotate_left
            ·simp only [Act.put, sA, s0, sS, i64_w, i32_w]; rfl
            refine pure_ (i := 4) (N := some 72) (v := undef) (a' := ?_) #[o1, o1, o1, o1, o1, o0, o0, o0, o0, o0, o0, o0, o0, o0, o0, o0, o0, o0, o0, o0, o0, o0, o0] rfl rfl (any_of HT_.out (by kernel_rfl)) (fun _ _ _ h => h) (Or.inr ⟨by rfl, rfl⟩) ?_ ?_; rotate_left
            ·simp only [Act.put, sA, s0, sS, i64_w, i32_w]; rfl
            refine pure_ (i := 5) (N := some 73) (v := undef) (a' := ?_) #[o1, o1, o1, o1, o1, o1, o0, o0, o0, o0, o0, o0, o0, o0, o0, o0, o0, o0, o0, o0, o0, o0, o0] rfl rfl (any_of HT_.out (by kernel_rfl)) (fun _ _ _ h => h) (Or.inr ⟨by rfl, rfl⟩) ?_ ?_; rotate_left
            ·simp only [Act.put, sA, s0, sS, i64_w, i32_w]; rfl
            refine pure_ (i := 6) (N := some 74) (v := undef) (a' := ?_) #[o1, o1, o1, o1, o1, o1, o1, o0, o0, o0, o0, o0, o0, o0, o0, o0, o0, o0, o0, o0, o0, o0, o0] rfl rfl (any_of HT_.out (by kernel_rfl)) (fun _ _ _ h => h) (Or.inr ⟨by rfl, rfl⟩) ?_ ?_; rotate_left
            ·simp only [Act.put, sA, s0, sS, i64_w, i32_w]; rfl
            refine pure_ (i := 7) (N := some 75) (v := undef) (a' := ?_) #[o1, o1, o1, o1, o1, o1, o1, o1, o0, o0, o0, o0, o0, o0, o0, o0, o0, o0, o0, o0, o0, o0, o0] rfl rfl (any_of HT_.out (by kernel_rfl)) (fun _ _ _ h => h) (Or.inr ⟨by rfl, rfl⟩) ?_ ?_; rotate_left
            ·simp only [Act.put, sA, s0, sS, i64_w, i32_w]; rfl
            refine pure_ (i := 8) (N := some 76) (v := undef) (a' := ?_) #[o1, o1, o1, o1, o1, o1, o1, o1, o1, o0, o0, o0, o0, o0, o0, o0, o0, o0, o0, o0, o0, o0, o0] rfl rfl (any_of HT_.out (by kernel_rfl)) (fun _ _ _ h => h) (Or.inr ⟨by rfl, rfl⟩) ?_ ?_; rotate_left
            ·simp only [Act.put, sA, s0, sS, i64_w, i32_w]; rfl
            refine pure_ (i := 9) (N := some 77) (v := undef) (a' := ?_) #[o1, o1, o1, o1, o1, o1, o1, o1, o1, o1, o0, o0, o0, o0, o0, o0, o0, o0, o0, o0, o0, o0, o0] rfl rfl (any_of HT_.out (by kernel_rfl)) (fun _ _ _ h => h) (Or.inr ⟨by rfl, rfl⟩) ?_ ?_; rotate_left
            ·simp only [Act.put, sA, s0, sS, i64_w, i32_w]; rfl
            refine pure_ (i := 10) (N := some 78) (v := undef) (a' := ?_) #[o1, o1, o1, o1, o1, o1, o1, o1, o1, o1, o1, o0, o0, o0, o0, o0, o0, o0, o0, o0, o0, o0, o0] rfl rfl (any_of HT_.out (by kernel_rfl)) (fun _ _ _ h => h) (Or.inr ⟨by rfl, rfl⟩) ?_ ?_; rotate_left
            ·simp only [Act.put, sA, s0, sS, i64_w, i32_w]; rfl
            refine pure_ (i := 11) (N := some 79) (v := undef) (a' := ?_) #[o1, o1, o1, o1, o1, o1, o1, o1, o1, o1, o1, o1, o0, o0, o0, o0, o0, o0, o0, o0, o0, o0, o0] rfl rfl (any_of HT_.out (by kernel_rfl)) (fun _ _ _ h => h) (Or.inr ⟨by rfl, rfl⟩) ?_ ?_; rotate_left
            ·simp only [Act.put, sA, s0, sS, i64_w, i32_w]; rfl
            refine pure_ (i := 12) (N := some 80) (v := undef) (a' := ?_) #[o1, o1, o1, o1, o1, o1, o1, o1, o1, o1, o1, o1, o1, o0, o0, o0, o0, o0, o0, o0, o0, o0, o0] rfl rfl (any_of HT_.out (by kernel_rfl)) (fun _ _ _ h => h) (Or.inr ⟨by rfl, rfl⟩) ?_ ?_; rotate_left
            ·simp only [Act.put, sA, s0, sS, i64_w, i32_w]; rfl
            refine pure_ (i := 13) (N := some 81) (v := undef) (a' := ?_) #[o1, o1, o1, o1, o1, o1, o1, o1, o1, o1, o1, o1, o1, o1, o0, o0, o0, o0, o0, o0, o0, o0, o0] rfl rfl (any_of HT_.out (by kernel_rfl)) (fun _ _ _ h => h) (Or.inr ⟨by rfl, rfl⟩) ?_ ?_; rotate_left
            ·simp only [Act.put, sA, s0, sS, i64_w, i32_w]; rfl
            refine pure_ (i := 14) (N := some 82) (v := undef) (a' := ?_) #[o1, o1, o1, o1, o1, o1, o1, o1, o1, o1, o1, o1, o1, o1, o1, o0, o0, o0, o0, o0, o0, o0, o0] rfl rfl (any_of HT_.out (by kernel_rfl)) (fun _ _ _ h => h) (Or.inr ⟨by rfl, rfl⟩) ?_ ?_; rotate_left
            ·simp only [Act.put, sA, s0, sS, i64_w, i32_w]; rfl
            refine pure_ (i := 15) (N := some 83) (v := undef) (a' := ?_) #[o1, o1, o1, o1, o1, o1, o1, o1, o1, o1, o1, o1, o1, o1, o1, o1, o0, o0, o0, o0, o0, o0, o0] rfl rfl (any_of HT_.out (by kernel_rfl)) (fun _ _ _ h => h) (Or.inr ⟨by rfl, rfl⟩) ?_ ?_; rotate_left
            ·simp only [Act.put, sA, s0, sS, i64_w, i32_w]; rfl
            refine pure_ (i := 16) (N := some 84) (v := undef) (a' := ?_) #[o1, o1, o1, o1, o1, o1, o1, o1, o1, o1, o1, o1, o1, o1, o1, o1, o1, o0, o0, o0, o0, o0, o0] rfl rfl (any_of HT_.out (by kernel_rfl)) (fun _ _ _ h => h) (Or.inr ⟨by rfl, rfl⟩) ?_ ?_; rotate_left
            ·simp only [Act.put, sA, s0, sS, i64_w, i32_w]; rfl
            refine pure_ (i := 17) (N := some 85) (v := undef) (a' := ?_) #[o1, o1, o1, o1, o1, o1, o1, o1, o1, o1, o1, o1, o1, o1, o1, o1, o1, o1, o0, o0, o0, o0, o0] rfl rfl (any_of HT_.out (by kernel_rfl)) (fun _ _ _ h => h) (Or.inr ⟨by rfl, rfl⟩) ?_ ?_; rotate_left
            ·simp only [Act.put, sA, s0, sS, i64_w, i32_w]; rfl
            refine pure_ (i := 18) (N := some 86) (v := undef) (a' := ?_) #[o1, o1, o1, o1, o1, o1, o1, o1, o1, o1, o1, o1, o1, o1, o1, o1, o1, o1, o1, o0, o0, o0, o0] rfl rfl (any_of HT_.out (by kernel_rfl)) (fun _ _ _ h => h) (Or.inr ⟨by rfl, rfl⟩) ?_ ?_; rotate_left
            ·simp only [Act.put, sA, s0, sS, i64_w, i32_w]; rfl
            refine pure_ (i := 19) (N := some 87) (v := undef) (a' := ?_) #[o1, o1, o1, o1, o1, o1, o1, o1, o1, o1, o1, o1, o1, o1, o1, o1, o1, o1, o1, o1, o0, o0, o0] rfl rfl (any_of HT_.out (by kernel_rfl)) (fun _ _ _ h => h) (Or.inr ⟨by rfl, rfl⟩) ?_ ?_; rotate_left
            ·simp only [Act.put, sA, s0, sS, i64_w, i32_w]; rfl
            refine pure_ (i := 20) (N := some 88) (v := undef) (a' := ?_) #[o1, o1, o1, o1, o1, o1, o1, o1, o1, o1, o1, o1, o1, o1, o1, o1, o1, o1, o1, o1, o1, o0, o0] rfl rfl (any_of HT_.out (by kernel_rfl)) (fun _ _ _ h => h) (Or.inr ⟨by rfl, rfl⟩) ?_ ?_; rotate_left
            ·simp only [Act.put, sA, s0, sS, i64_w, i32_w]; rfl
            refine pure_ (i := 21) (N := some 89) (v := undef) (a' := ?_) #[o1, o1, o1, o1, o1, o1, o1, o1, o1, o1, o1, o1, o1, o1, o1, o1, o1, o1, o1, o1, o1, o1, o0] rfl rfl (any_of HT_.out (by kernel_rfl)) (fun _ _ _ h => h) (Or.inr ⟨by rfl, rfl⟩) ?_ ?_; rotate_left
            ·simp only [Act.put, sA, s0, sS, i64_w, i32_w]; rfl
            refine pure_ (i := 22) (N := some 90) (v := ?_) (a' := ?_) #[o1, o1, o1, o1, o1, o1, o1, o1, o1, o1, o1, o1, o1, o1, o1, o1, o1, o1, o1, o1, o1, o1, o1] rfl rfl (any_of HT_.out (by kernel_rfl)) (fun _ _ _ h => h) (Or.inl ⟨by rfl, ?_⟩) ?_ ?_; rotate_left
            ·intro w'; go_simp; with_reducible rfl
            rotate_left
            ·simp only [Act.put, sA, s0, sS, i64_w, i32_w]; rfl
            refine done_ (done_of HT_.out (by kernel_rfl)) ?_
            try go_wp2
            replace HO_9 := Aside0.mk (Kd.R_drew HO_9.out); replace HB := Aside0.mk (below_drew1 HB.out); have p433 : 0 ≤ (x11_3 : Int) := of_decide_eq_true (by first | (with_reducible assumption) | assumption); have q433 : x11_3 < (l2.length : Int) := of_decide_eq_true (by first | (with_reducible assumption) | assumption); obtain ⟨ad433, e433, hx433_0, hx433_1, _, _, _, _, _, _, _, _, _, _, _, _, _, _, _, _, _, _⟩ := at_T55 HR2.out x11_3 p433 q433; have hw433_1 := hx433_1; have hw433_0 := hx433_0
            cases e433
            replace hx433_0 := bc HB.out hx433_0; replace hx433_1 := bc HB.out hx433_1; replace p433 := eq_true p433; replace q433 := eq_true q433; have p434 : 0 ≤ (x11_3 : Int) := of_decide_eq_true (by first | (with_reducible assumption) | assumption); have q434 : x11_3 < (l2.length : Int) := of_decide_eq_true (by first | (with_reducible assumption) | assumption); obtain ⟨ad434, e434, _, _, hx434_2, hx434_3, hx434_4, hx434_5, hx434_6, hx434_7, hx434_8, hx434_9, hx434_10, hx434_11, hx434_12, hx434_13, hx434_14, hx434_15, hx434_16, hx434_17, hx434_18, hx434_19⟩ := at_T55 HR2.out x11_3 p434 q434; have hw434_19 := hx434_19; have hw434_18 := hx434_18; have hw434_17 := hx434_17; have hw434_16 := hx434_16; have hw434_15 := hx434_15; have hw434_14 := hx434_14; have hw434_13 := hx434_13; have hw434_12 := hx434_12; have hw434_11 := hx434_11; have hw434_10 := hx434_10; have hw434_9 := hx434_9; have hw434_8 := hx434_8; have hw434_7 := hx434_7; have hw434_6 := hx434_6; have hw434_5 := hx434_5; have hw434_4 := hx434_4; have hw434_3 := hx434_3; have hw434_2 := hx434_2; obtain rfl : ad433 = ad434 := (by injection e434); replace hx434_2 := bc HB.out hx434_2; replace hx434_3 := bc HB.out hx434_3; replace hx434_4 := bc HB.out hx434_4; replace hx434_5 := bc HB.out hx434_5; replace hx434_6 := bc HB.out hx434_6; replace hx434_7 := bc HB.out hx434_7; replace hx434_8 := bc HB.out hx434_8; replace hx434_9 := bc HB.out hx434_9; replace hx434_10 := bc HB.out hx434_10; replace hx434_11 := bc HB.out hx434_11; replace hx434_12 := bc HB.out hx434_12; replace hx434_13 := bc HB.out hx434_13; replace hx434_14 := bc HB.out hx434_14; replace hx434_15 := bc HB.out hx434_15; replace hx434_16 := bc HB.out hx434_16; replace hx434_17 := bc HB.out hx434_17; replace hx434_18 := bc HB.out hx434_18; replace hx434_19 := bc HB.out hx434_19; replace p434 := eq_true p434; replace q434 := eq_true q434; refine start_ (n := 16) (S := fun w' => w'.cell? (ad433.add ((x11_3).toNat * 20)) = some (.string ((rd_T55 l2 x11_3).f0.f0)) ∧ w'.cell? ⟨(ad433.add ((x11_3).toNat * 20)).block, (ad433.add ((x11_3).toNat * 20)).off + 1, none⟩ = some (.int .i64 ((rd_T55 l2 x11_3).f0.f1)) ∧ w'.cell? ⟨(ad433.add ((x11_3).toNat * 20)).block, (ad433.add ((x11_3).toNat * 20)).off + 2, none⟩ = some (.int .i64 ((rd_T55 l2 x11_3).f1.f0.f0)) ∧ w'.cell? ⟨(ad433.add ((x11_3).toNat * 20)).block, (ad433.add ((x11_3).toNat * 20)).off + 3, none⟩ = some (.bool ((rd_T55 l2 x11_3).f1.f0.f1)) ∧ w'.cell? ⟨(ad433.add ((x11_3).toNat * 20)).block, (ad433.add ((x11_3).toNat * 20)).off + 4, none⟩ = some (.float .f64 ((rd_T55 l2 x11_3).f1.f0.f2)) ∧ w'.cell? ⟨(ad433.add ((x11_3).toNat * 20)).block, (ad433.add ((x11_3).toNat * 20)).off + 5, none⟩ = some (.string ((rd_T55 l2 x11_3).f1.f0.f3)) ∧ w'.cell? ⟨(ad433.add ((x11_3).toNat * 20)).block, (ad433.add ((x11_3).toNat * 20)).off + 6, none⟩ = some (.int .i64 ((rd_T55 l2 x11_3).f1.f0.f4)) ∧ w'.cell? ⟨(ad433.add ((x11_3).toNat * 20)).block, (ad433.add ((x11_3).toNat * 20)).off + 7, none⟩ = some (.int .i64 ((rd_T55 l2 x11_3).f1.f1.f0)) ∧ w'.cell? ⟨(ad433.add ((x11_3).toNat * 20)).block, (ad433.add ((x11_3).toNat * 20)).off + 8, none⟩ = some (.bool ((rd_T55 l2 x11_3).f1.f1.f1)) ∧ w'.cell? ⟨(ad433.add ((x11_3).toNat * 20)).block, (ad433.add ((x11_3).toNat * 20)).off + 9, none⟩ = some (.float .f64 ((rd_T55 l2 x11_3).f1.f1.f2)) ∧ w'.cell? ⟨(ad433.add ((x11_3).toNat * 20)).block, (ad433.add ((x11_3).toNat * 20)).off + 10, none⟩ = some (.string ((rd_T55 l2 x11_3).f1.f1.f3)) ∧ w'.cell? ⟨(ad433.add ((x11_3).toNat * 20)).block, (ad433.add ((x11_3).toNat * 20)).off + 11, none⟩ = some (.int .i64 ((rd_T55 l2 x11_3).f1.f1.f4)) ∧ w'.cell? ⟨(ad433.add ((x11_3).toNat * 20)).block, (ad433.add ((x11_3).toNat * 20)).off + 12, none⟩ = some (.int .i64 ((rd_T55 l2 x11_3).f1.f2.f0)) ∧ w'.cell? ⟨(ad433.add ((x11_3).toNat * 20)).block, (ad433.add ((x11_3).toNat * 20)).off + 13, none⟩ = some (.bool ((rd_T55 l2 x11_3).f1.f2.f1)) ∧ w'.cell? ⟨(ad433.add ((x11_3).toNat * 20)).block, (ad433.add ((x11_3).toNat * 20)).off + 14, none⟩ = some (.float .f64 ((rd_T55 l2 x11_3).f1.f2.f2)) ∧ w'.cell? ⟨(ad433.add ((x11_3).toNat * 20)).block, (ad433.add ((x11_3).toNat * 20)).off + 15, none⟩ = some (.string ((rd_T55 l2 x11_3).f1.f2.f3)) ∧ w'.cell? ⟨(ad433.add ((x11_3).toNat * 20)).block, (ad433.add ((x11_3).toNat * 20)).off + 16, none⟩ = some (.int .i64 ((rd_T55 l2 x11_3).f1.f2.f4)) ∧ w'.cell? ⟨(ad433.add ((x11_3).toNat * 20)).block, (ad433.add ((x11_3).toNat * 20)).off + 17, none⟩ = some (.int .i64 ((rd_T55 l2 x11_3).f1.f3)) ∧ w'.cell? ⟨(ad433.add ((x11_3).toNat * 20)).block, (ad433.add ((x11_3).toNat * 20)).off + 18, none⟩ = some (.int .i64 ((rd_T55 l2 x11_3).f1.f4)) ∧ w'.cell? ⟨(ad433.add ((x11_3).toNat * 20)).block, (ad433.add ((x11_3).toNat * 20)).off + 19, none⟩ = some (.int .i64 ((rd_T55 l2 x11_3).f1.f5))) (ds := []) #[o0, o0, o0, o0, o0, o0, o0, o0, o0, o0, o0, o0, o0, o0, o0, o0] (by kernel_rfl) rfl rfl ⟨(bc HB.out hw433_0), (bc HB.out hw433_1), (bc HB.out hw434_2), (bc HB.out hw434_3), (bc HB.out hw434_4), (bc HB.out hw434_5), (bc HB.out hw434_6), (bc HB.out hw434_7), (bc HB.out hw434_8), (bc HB.out hw434_9), (bc HB.out hw434_10), (bc HB.out hw434_11), (bc HB.out hw434_12), (bc HB.out hw434_13), (bc HB.out hw434_14), (bc HB.out hw434_15), (bc HB.out hw434_16), (bc HB.out hw434_17), (bc HB.out hw434_18), (bc HB.out hw434_19)⟩ (fun hHeld => ?_); refine with_tabW cameoref10_props.tab16 cameoref10_props.bits16 (fun HT_ HW_ => ?_)
            generalize w31.drew = w32 at HO_9 HB hx433_0 hx433_1 hx434_10 hx434_11 hx434_12 hx434_13 hx434_14 hx434_15 hx434_16 hx434_17 hx434_18 hx434_19 hx434_2 hx434_3 hx434_4 hx434_5 hx434_6 hx434_7 hx434_8 hx434_9 hHeld ⊢; refine pure_ (i := 0) (N := some 91) (v := ?_) (a' := ?_) #[o1, o0, o0, o0, o0, o0, o0, o0, o0, o0, o0, o0, o0, o0, o0, o0] rfl rfl (any_of HT_.out (by kernel_rfl)) (fun _ _ _ h => h) (Or.inl ⟨by rfl, ?_⟩) ?_ ?_; rotate_left
            ·intro w'; go_simp; with_reducible rfl
            rotate_left
            ·simp only [Act.put, sA, s0, sS, i64_w, i32_w]; rfl
            refine pure_ (i := 1) (N := some 92) (v := ?_) (a' := ?_) #[o1, o1, o0, o0, o0, o0, o0, o0, o0, o0, o0, o0, o0, o0, o0, o0] rfl rfl (any_of HT_.out (by kernel_rfl)) (fun _ _ _ h => h) (Or.inl ⟨by rfl, ?_⟩) ?_ ?_; rotate_left
            ·intro w'; go_simp; with_reducible rfl
            rotate_left
            ·simp only [Act.put, sA, s0, sS, i64_w, i32_w]; rfl
            refine pure_ (i := 2) (N := some 93) (v := ?_) (a' := ?_) #[o1, o1, o1, o0, o0, o0, o0, o0, o0, o0, o0, o0, o0, o0, o0, o0] rfl rfl (any_of HT_.out (by kernel_rfl)) (fun _ _ _ h => h) (Or.inl ⟨by rfl, ?_⟩) ?_ ?_; rotate_left
            ·intro w'; go_simp; with_reducible rfl
            rotate_left
            ·simp only [Act.put, sA, s0, sS, i64_w, i32_w]; rfl
            refine pure_ (i := 3) (N := some 94) (v := ?_) (a' := ?_) #[o1, o1, o1, o1, o0, o0, o0, o0, o0, o0, o0, o0, o0, o0, o0, o0] rfl rfl (any_of HT_.out (by kernel_rfl)) (fun _ _ _ h => h) (Or.inl ⟨by rfl, ?_⟩) ?_ ?_; rotate_left
            ·intro w'; go_simp; with_reducible rfl
            rotate_left
            ·simp only [Act.put, sA, s0, sS, i64_w, i32_w]; rfl
            refine pure_ (i := 4) (N := some 95) (v := ?_) (a' := ?_) #[o1, o1, o1, o1, o1, o0, o0, o0, o0, o0, o0, o0, o0, o0, o0, o0] rfl rfl (any_of HT_.out (by kernel_rfl)) (fun _ _ _ h => h) (Or.inl ⟨by rfl, ?_⟩) ?_ ?_; rotate_left
            ·intro w'; go_simp; with_reducible rfl
            rotate_left
            ·simp only [Act.put, sA, s0, sS, i64_w, i32_w]; rfl
            refine pure_ (i := 5) (N := some 96) (v := ?_) (a' := ?_) #[o1, o1, o1, o1, o1, o1, o0, o0, o0, o0, o0, o0, o0, o0, o0, o0] rfl rfl (any_of HT_.out (by kernel_rfl)) (fun _ _ _ h => h) (Or.inl ⟨by rfl, ?_⟩) ?_ ?_; rotate_left
            ·intro w'; go_simp; with_reducible rfl
            rotate_left
            ·simp only [Act.put, sA, s0, sS, i64_w, i32_w]; rfl
            refine pure_ (i := 7) (N := some 98) (v := ?_) (a' := ?_) #[o1, o1, o1, o1, o1, o1, o0, o1, o0, o0, o0, o0, o0, o0, o0, o0] rfl rfl (any_of HT_.out (by kernel_rfl)) (fun _ _ _ h => h) (Or.inl ⟨by rfl, ?_⟩) ?_ ?_; rotate_left
            ·intro w'; go_simp; with_reducible rfl
            rotate_left
            ·simp only [Act.put, sA, s0, sS, i64_w, i32_w]; rfl
            refine pure_ (i := 8) (N := some 99) (v := ?_) (a' := ?_) #[o1, o1, o1, o1, o1, o1, o0, o1, o1, o0, o0, o0, o0, o0, o0, o0] rfl rfl (any_of HT_.out (by kernel_rfl)) (fun _ _ _ h => h) (Or.inl ⟨by rfl, ?_⟩) ?_ ?_; rotate_left
            ·intro w'; go_simp; with_reducible rfl
            rotate_left
            ·simp only [Act.put, sA, s0, sS, i64_w, i32_w]; rfl
            refine pure_ (i := 9) (N := some 100) (v := ?_) (a' := ?_) #[o1, o1, o1, o1, o1, o1, o0, o1, o1, o1, o0, o0, o0, o0, o0, o0] rfl rfl (any_of HT_.out (by kernel_rfl)) (fun _ _ _ h => h) (Or.inl ⟨by rfl, ?_⟩) ?_ ?_; rotate_left
            ·intro w'; go_simp; with_reducible rfl
            rotate_left
            ·simp only [Act.put, sA, s0, sS, i64_w, i32_w]; rfl
            refine pure_ (i := 10) (N := some 101) (v := ?_) (a' := ?_) #[o1, o1, o1, o1, o1, o1, o0, o1, o1, o1, o1, o0, o0, o0, o0, o0] rfl rfl (any_of HT_.out (by kernel_rfl)) (fun _ _ _ h => h) (Or.inl ⟨by rfl, ?_⟩) ?_ ?_; rotate_left
            ·intro w'; go_simp; with_reducible rfl
            rotate_left
            ·simp only [Act.put, sA, s0, sS, i64_w, i32_w]; rfl
            refine take_ (i := 6) (N := some 97) (v := .agg #[.string ((rd_T55 l2 x11_3).f0.f0), .int .i64 ((rd_T55 l2 x11_3).f0.f1)]) (a' := ?_) #[o1, o1, o1, o1, o1, o1, o1, o1, o1, o1, o1, o0, o0, o0, o0, o0] rfl rfl (take_ofW HT_.out HW_.out (by kernel_rfl)) (fun _ _ _ h => h) (Or.inl ⟨by rfl, ?_⟩) hHeld ?_ ?_
            ·rintro w' ⟨s0, s1, s2, s3, s4, s5, s6, s7, s8, s9, s10, s11, s12, s13, s14, s15, s16, s17, s18, s19⟩
             apply exec_load_cells Try.underlying30 2
             case ho => rfl
             case hx => rfl
             case hc => exact CellsAt.cons s0 (CellsAt.cons s1 (CellsAt.nil))
             case hn => rfl
             case hi => kernel_rfl
            rotate_left
            ·simp only [Act.put, sA, s0, sS, i64_w, i32_w]; rfl
            refine take_ (i := 11) (N := some 102) (v := .agg (c33A ((rd_T55 l2 x11_3).f1))) (a' := ?_) #[o1, o1, o1, o1, o1, o1, o1, o1, o1, o1, o1, o1, o0, o0, o0, o0] rfl rfl (take_ofW HT_.out HW_.out (by kernel_rfl)) (fun _ _ _ h => h) (Or.inl ⟨by rfl, ?_⟩) hHeld ?_ ?_
            ·rintro w' ⟨s0, s1, s2, s3, s4, s5, s6, s7, s8, s9, s10, s11, s12, s13, s14, s15, s16, s17, s18, s19⟩
             apply exec_load_cells Try.underlying33 18
             case ho => rfl
             case hx => rfl
             case hc => exact CellsAt.cons s2 (CellsAt.cons s3 (CellsAt.cons s4 (CellsAt.cons s5 (CellsAt.cons s6 (CellsAt.cons s7 (CellsAt.cons s8 (CellsAt.cons s9 (CellsAt.cons s10 (CellsAt.cons s11 (CellsAt.cons s12 (CellsAt.cons s13 (CellsAt.cons s14 (CellsAt.cons s15 (CellsAt.cons s16 (CellsAt.cons s17 (CellsAt.cons s18 (CellsAt.cons s19 (CellsAt.nil))))))))))))))))))
             case hn => rfl
             case hi => kernel_rfl
            rotate_left
            ·simp only [Act.put, sA, s0, sS, i64_w, i32_w]; rfl
            refine pure_ (i := 12) (N := some 103) (v := ?_) (a' := ?_) #[o1, o1, o1, o1, o1, o1, o1, o1, o1, o1, o1, o1, o1, o0, o0, o0] rfl rfl (any_of HT_.out (by kernel_rfl)) (fun _ _ _ h => h) (Or.inl ⟨by rfl, ?_⟩) ?_ ?_; rotate_left
            ·intro w'; go_simp; with_reducible rfl
            rotate_left
            ·simp only [Act.put, sA, s0, sS, i64_w, i32_w]; rfl
            refine one_ (i := 13) (N := some 104) #[o1, o1, o1, o1, o1, o1, o1, o1, o1, o1, o1, o1, o1, o1, o0, o0] rfl rfl (one_of HT_.out (by kernel_rfl)) (by decide) (fun K hK => ?_); refine value_ (w1 := ?_) (v := ?_) (by rfl) rfl ?_ ?_
            rotate_left 2
            ·go_simp
             constructor
             ·rfl
             ·rfl
            refine hK.out _ _ ⟨ca ((bc HB.out hw433_0)), ca ((bc HB.out hw433_1)), ca ((bc HB.out hw434_2)), ca ((bc HB.out hw434_3)), ca ((bc HB.out hw434_4)), ca ((bc HB.out hw434_5)), ca ((bc HB.out hw434_6)), ca ((bc HB.out hw434_7)), ca ((bc HB.out hw434_8)), ca ((bc HB.out hw434_9)), ca ((bc HB.out hw434_10)), ca ((bc HB.out hw434_11)), ca ((bc HB.out hw434_12)), ca ((bc HB.out hw434_13)), ca ((bc HB.out hw434_14)), ca ((bc HB.out hw434_15)), ca ((bc HB.out hw434_16)), ca ((bc HB.out hw434_17)), ca ((bc HB.out hw434_18)), ca ((bc HB.out hw434_19))⟩ (fun hHeld => ?_); clear hK K; refine norm_ (a' := ?_) ?_ ?_; rotate_left
            ·show Act.put _ (some 104) _ = _
             simp only [Act.put, sA, s0, sS, i64_w, i32_w]; rfl
            refine one_ (i := 14) (N := some 105) #[o1, o1, o1, o1, o1, o1, o1, o1, o1, o1, o1, o1, o1, o1, o1, o0] rfl rfl (one_of HT_.out (by kernel_rfl)) (by decide) (fun K hK => ?_); refine Kd.R_append_step k35 (w0 := w) w.heap.size (by rfl) (.tmp 91) (.tmp 104) 23 35 (.agg z35A) 272 rfl Try.underlying23 info35 rfl (by decide) (by omega) u9 x9_3 (⟨a0, 6, 0, false, (⟨0, false, 0, (⟨#[]⟩ : ByteArray), 0⟩ : S28), (⟨(rd_T55 l2 x11_3).f0.f0, (rd_T55 l2 x11_3).f0.f1⟩ : S30), (⟨(⟨(rd_T55 l2 x11_3).f1.f0.f0, (rd_T55 l2 x11_3).f1.f0.f1, (rd_T55 l2 x11_3).f1.f0.f2, (rd_T55 l2 x11_3).f1.f0.f3, (rd_T55 l2 x11_3).f1.f0.f4⟩ : S28), (⟨(rd_T55 l2 x11_3).f1.f1.f0, (rd_T55 l2 x11_3).f1.f1.f1, (rd_T55 l2 x11_3).f1.f1.f2, (rd_T55 l2 x11_3).f1.f1.f3, (rd_T55 l2 x11_3).f1.f1.f4⟩ : S28), (⟨(rd_T55 l2 x11_3).f1.f2.f0, (rd_T55 l2 x11_3).f1.f2.f1, (rd_T55 l2 x11_3).f1.f2.f2, (rd_T55 l2 x11_3).f1.f2.f3, (rd_T55 l2 x11_3).f1.f2.f4⟩ : S28), (rd_T55 l2 x11_3).f1.f3, (rd_T55 l2 x11_3).f1.f4, (rd_T55 l2 x11_3).f1.f5⟩ : S33)⟩ : S35) [.int .i64 a0, .int .i64 6, .int .i64 0, .bool false, .int .i64 0, .bool false, .float .f64 0, .string (⟨#[]⟩ : ByteArray), .int .i64 0, .string ((rd_T55 l2 x11_3).f0.f0), .int .i64 ((rd_T55 l2 x11_3).f0.f1), .int .i64 ((rd_T55 l2 x11_3).f1.f0.f0), .bool ((rd_T55 l2 x11_3).f1.f0.f1), .float .f64 ((rd_T55 l2 x11_3).f1.f0.f2), .string ((rd_T55 l2 x11_3).f1.f0.f3), .int .i64 ((rd_T55 l2 x11_3).f1.f0.f4), .int .i64 ((rd_T55 l2 x11_3).f1.f1.f0), .bool ((rd_T55 l2 x11_3).f1.f1.f1), .float .f64 ((rd_T55 l2 x11_3).f1.f1.f2), .string ((rd_T55 l2 x11_3).f1.f1.f3), .int .i64 ((rd_T55 l2 x11_3).f1.f1.f4), .int .i64 ((rd_T55 l2 x11_3).f1.f2.f0), .bool ((rd_T55 l2 x11_3).f1.f2.f1), .float .f64 ((rd_T55 l2 x11_3).f1.f2.f2), .string ((rd_T55 l2 x11_3).f1.f2.f3), .int .i64 ((rd_T55 l2 x11_3).f1.f2.f4), .int .i64 ((rd_T55 l2 x11_3).f1.f3), .int .i64 ((rd_T55 l2 x11_3).f1.f4), .int .i64 ((rd_T55 l2 x11_3).f1.f5)] (fun _ => True) (fun _ => False) rfl rfl ?aP (fun _ hk => hk.elim) ?aF ?aO ?aB ?aS ?aL ?_
            (case aP => exact k35_mkM _ _ _ (⟨a0, 6, 0, false, (⟨0, false, 0, (⟨#[]⟩ : ByteArray), 0⟩ : S28), (⟨(rd_T55 l2 x11_3).f0.f0, (rd_T55 l2 x11_3).f0.f1⟩ : S30), (⟨(⟨(rd_T55 l2 x11_3).f1.f0.f0, (rd_T55 l2 x11_3).f1.f0.f1, (rd_T55 l2 x11_3).f1.f0.f2, (rd_T55 l2 x11_3).f1.f0.f3, (rd_T55 l2 x11_3).f1.f0.f4⟩ : S28), (⟨(rd_T55 l2 x11_3).f1.f1.f0, (rd_T55 l2 x11_3).f1.f1.f1, (rd_T55 l2 x11_3).f1.f1.f2, (rd_T55 l2 x11_3).f1.f1.f3, (rd_T55 l2 x11_3).f1.f1.f4⟩ : S28), (⟨(rd_T55 l2 x11_3).f1.f2.f0, (rd_T55 l2 x11_3).f1.f2.f1, (rd_T55 l2 x11_3).f1.f2.f2, (rd_T55 l2 x11_3).f1.f2.f3, (rd_T55 l2 x11_3).f1.f2.f4⟩ : S28), (rd_T55 l2 x11_3).f1.f3, (rd_T55 l2 x11_3).f1.f4, (rd_T55 l2 x11_3).f1.f5⟩ : S33)⟩ : S35))
            (case aB => exact (by repeat (first | (with_reducible first | exact HB.out | apply below_alloc | apply pw_below_drewN | apply below_drew1) | exact HB.out)))
            (case aF => exact (fun _ _ => trivial))
            (case aO => exact (by (with_reducible repeat (first | apply Kd.R_alloc | apply Kd.R_drewN | apply Kd.R_drew)); exact HO_9.out))
            (case aS => exact (bel_z HB.out))
            (case aL => have := LMc30.out; omega)
            intro v436 w33 ho hb hg hat; rw [← Ny435.out] at ho; replace HB := Aside0.mk (hb); have HO437 := Aside0.mk (ho); clear HO_9; clear ho hb hg hat; refine hK.out _ _ ⟨(bc HB.out hw433_0), (bc HB.out hw433_1), (bc HB.out hw434_2), (bc HB.out hw434_3), (bc HB.out hw434_4), (bc HB.out hw434_5), (bc HB.out hw434_6), (bc HB.out hw434_7), (bc HB.out hw434_8), (bc HB.out hw434_9), (bc HB.out hw434_10), (bc HB.out hw434_11), (bc HB.out hw434_12), (bc HB.out hw434_13), (bc HB.out hw434_14), (bc HB.out hw434_15), (bc HB.out hw434_16), (bc HB.out hw434_17), (bc HB.out hw434_18), (bc HB.out hw434_19)⟩ (fun hHeld => ?_); clear hK K; refine norm_ (a' := ?_) ?_ ?_; rotate_left
            ·show Act.put _ (some 105) _ = _
             simp only [Act.put, sA, s0, sS, i64_w, i32_w]; rfl
            refine pure_ (i := 15) (N := some 9) (v := ?_) (a' := ?_) #[o1, o1, o1, o1, o1, o1, o1, o1, o1, o1, o1, o1, o1, o1, o1, o1] rfl rfl (any_of HT_.out (by kernel_rfl)) (fun _ _ _ h => h) (Or.inl ⟨by rfl, ?_⟩) ?_ ?_; rotate_left
            ·intro w'; go_simp; with_reducible rfl
            rotate_left
            ·simp only [Act.put, sA, s0, sS, i64_w, i32_w]; rfl
            refine done_ (done_of HT_.out (by kernel_rfl)) ?_
            try go_wp2
            go_roundg k3
            case measure => have := HJ3.out; have := HK2.out; have := HK3.out; omega
            case rel => exact ⟨(y435), (wrap64 (x11_3 + 1)), (by first | rfl | (simp; done) | (simp [*]; done)), H', ⟨by have := HJ3.out; have := HK2.out; have := HK3.out; omega⟩, ⟨by (with_reducible repeat (first | apply Kd.R_alloc | apply Kd.R_drewN | apply Kd.R_drew)); exact HO437.out⟩, ⟨by repeat (first | (with_reducible first | exact HB.out | apply below_alloc | apply pw_below_drewN | apply below_drew1) | exact HB.out)⟩⟩
           ·rw [if_neg c30] at H; exact absurd H (by simp)
          ·rw [if_neg c29] at H; exact absurd H (by simp)
         ·rw [if_neg c28] at H; have c28b0 : decide (x7_3 ≤ x11_3) = false := decide_eq_false c28; clear c28
          by_cases c34 : 0 ≤ x11_3
          ·rw [if_pos c34] at H; have c34b0 : decide (0 ≤ x11_3) = true := decide_eq_true c34; clear c34; replace H := Option.bind_eq_some_iff.mp H; obtain ⟨t440, A350, H⟩ := H; replace H : (if 0 ≤ t440 then (if t440 < (l1.length : Int) then ((cameoref10_EqDesc.f ((rd_T55 l2 x11_3).f1.f0.f0) ((rd_T55 l2 x11_3).f1.f0.f1) ((rd_T55 l2 x11_3).f1.f0.f2) ((rd_T55 l2 x11_3).f1.f0.f3) ((rd_T55 l2 x11_3).f1.f0.f4) ((rd_T55 l2 x11_3).f1.f1.f0) ((rd_T55 l2 x11_3).f1.f1.f1) ((rd_T55 l2 x11_3).f1.f1.f2) ((rd_T55 l2 x11_3).f1.f1.f3) ((rd_T55 l2 x11_3).f1.f1.f4) ((rd_T55 l2 x11_3).f1.f2.f0) ((rd_T55 l2 x11_3).f1.f2.f1) ((rd_T55 l2 x11_3).f1.f2.f2) ((rd_T55 l2 x11_3).f1.f2.f3) ((rd_T55 l2 x11_3).f1.f2.f4) ((rd_T55 l2 x11_3).f1.f3) ((rd_T55 l2 x11_3).f1.f4) ((rd_T55 l2 x11_3).f1.f5) ((rd_T55 l1 t440).f1.f0.f0) ((rd_T55 l1 t440).f1.f0.f1) ((rd_T55 l1 t440).f1.f0.f2) ((rd_T55 l1 t440).f1.f0.f3) ((rd_T55 l1 t440).f1.f0.f4) ((rd_T55 l1 t440).f1.f1.f0) ((rd_T55 l1 t440).f1.f1.f1) ((rd_T55 l1 t440).f1.f1.f2) ((rd_T55 l1 t440).f1.f1.f3) ((rd_T55 l1 t440).f1.f1.f4) ((rd_T55 l1 t440).f1.f2.f0) ((rd_T55 l1 t440).f1.f2.f1) ((rd_T55 l1 t440).f1.f2.f2) ((rd_T55 l1 t440).f1.f2.f3) ((rd_T55 l1 t440).f1.f2.f4) ((rd_T55 l1 t440).f1.f3) ((rd_T55 l1 t440).f1.f4) ((rd_T55 l1 t440).f1.f5)).bind fun t442 => (if t442 = true then (cameoref10_props.l2 k3 a0 l1 l2 x7_3 x9_3 (wrap64 (x11_3 + 1))) else (if x9_3.length < 517417236600 then (cameoref10_props.l2 k3 a0 l1 l2 x7_3 (x9_3 ++ [(⟨a0, 6, 0, false, (⟨0, false, 0, (⟨#[]⟩ : ByteArray), 0⟩ : S28), (⟨(rd_T55 l2 x11_3).f0.f0, (rd_T55 l2 x11_3).f0.f1⟩ : S30), (⟨(⟨(rd_T55 l2 x11_3).f1.f0.f0, (rd_T55 l2 x11_3).f1.f0.f1, (rd_T55 l2 x11_3).f1.f0.f2, (rd_T55 l2 x11_3).f1.f0.f3, (rd_T55 l2 x11_3).f1.f0.f4⟩ : S28), (⟨(rd_T55 l2 x11_3).f1.f1.f0, (rd_T55 l2 x11_3).f1.f1.f1, (rd_T55 l2 x11_3).f1.f1.f2, (rd_T55 l2 x11_3).f1.f1.f3, (rd_T55 l2 x11_3).f1.f1.f4⟩ : S28), (⟨(rd_T55 l2 x11_3).f1.f2.f0, (rd_T55 l2 x11_3).f1.f2.f1, (rd_T55 l2 x11_3).f1.f2.f2, (rd_T55 l2 x11_3).f1.f2.f3, (rd_T55 l2 x11_3).f1.f2.f4⟩ : S28), (rd_T55 l2 x11_3).f1.f3, (rd_T55 l2 x11_3).f1.f4, (rd_T55 l2 x11_3).f1.f5⟩ : S33)⟩ : S35)]) (wrap64 (x11_3 + 1))) else (none)))) else (none)) else (none)) = some r := H; have A35 := Aside0.mk A350; clear A350
           by_cases c36 : 0 ≤ t440
           ·rw [if_pos c36] at H; have c36b0 : decide (0 ≤ t440) = true := decide_eq_true c36; clear c36
            by_cases c37 : t440 < (l1.length : Int)
            ·rw [if_pos c37] at H; have c37b0 : decide (t440 < (l1.length : Int)) = true := decide_eq_true c37; clear c37; replace H := Option.bind_eq_some_iff.mp H; obtain ⟨t442, A380, H⟩ := H; replace H : (if t442 = true then (cameoref10_props.l2 k3 a0 l1 l2 x7_3 x9_3 (wrap64 (x11_3 + 1))) else (if x9_3.length < 517417236600 then (cameoref10_props.l2 k3 a0 l1 l2 x7_3 (x9_3 ++ [(⟨a0, 6, 0, false, (⟨0, false, 0, (⟨#[]⟩ : ByteArray), 0⟩ : S28), (⟨(rd_T55 l2 x11_3).f0.f0, (rd_T55 l2 x11_3).f0.f1⟩ : S30), (⟨(⟨(rd_T55 l2 x11_3).f1.f0.f0, (rd_T55 l2 x11_3).f1.f0.f1, (rd_T55 l2 x11_3).f1.f0.f2, (rd_T55 l2 x11_3).f1.f0.f3, (rd_T55 l2 x11_3).f1.f0.f4⟩ : S28), (⟨(rd_T55 l2 x11_3).f1.f1.f0, (rd_T55 l2 x11_3).f1.f1.f1, (rd_T55 l2 x11_3).f1.f1.f2, (rd_T55 l2 x11_3).f1.f1.f3, (rd_T55 l2 x11_3).f1.f1.f4⟩ : S28), (⟨(rd_T55 l2 x11_3).f1.f2.f0, (rd_T55 l2 x11_3).f1.f2.f1, (rd_T55 l2 x11_3).f1.f2.f2, (rd_T55 l2 x11_3).f1.f2.f3, (rd_T55 l2 x11_3).f1.f2.f4⟩ : S28), (rd_T55 l2 x11_3).f1.f3, (rd_T55 l2 x11_3).f1.f4, (rd_T55 l2 x11_3).f1.f5⟩ : S33)⟩ : S35)]) (wrap64 (x11_3 + 1))) else (none))) = some r := H; have A38 := Aside0.mk A380; clear A380
             by_cases c39 : t442 = true
             ·subst c39
              have H1 : (cameoref10_props.l2 k3 a0 l1 l2 x7_3 x9_3 (wrap64 (x11_3 + 1))) = some r := by rw [if_pos rfl] at H; exact H
              clear H; have H := H1; clear H1; have H' := Aside0.mk H; clear H
              try go_wp2
              replace HO_9 := Aside0.mk (Kd.R_drew HO_9.out); replace HB := Aside0.mk (below_drew1 HB.out); have p438 : 0 ≤ (x11_3 : Int) := of_decide_eq_true (by first | (with_reducible assumption) | assumption); have q438 : x11_3 < (l2.length : Int) := of_decide_eq_true (by first | (with_reducible assumption) | assumption); obtain ⟨ad438, e438, _, _, hx438_2, hx438_3, hx438_4, hx438_5, hx438_6, hx438_7, hx438_8, hx438_9, hx438_10, hx438_11, hx438_12, hx438_13, hx438_14, hx438_15, hx438_16, hx438_17, hx438_18, hx438_19⟩ := at_T55 HR2.out x11_3 p438 q438; have hw438_19 := hx438_19; have hw438_18 := hx438_18; have hw438_17 := hx438_17; have hw438_16 := hx438_16; have hw438_15 := hx438_15; have hw438_14 := hx438_14; have hw438_13 := hx438_13; have hw438_12 := hx438_12; have hw438_11 := hx438_11; have hw438_10 := hx438_10; have hw438_9 := hx438_9; have hw438_8 := hx438_8; have hw438_7 := hx438_7; have hw438_6 := hx438_6; have hw438_5 := hx438_5; have hw438_4 := hx438_4; have hw438_3 := hx438_3; have hw438_2 := hx438_2
              cases e438
              replace hx438_2 := bc HB.out hx438_2; replace hx438_3 := bc HB.out hx438_3; replace hx438_4 := bc HB.out hx438_4; replace hx438_5 := bc HB.out hx438_5; replace hx438_6 := bc HB.out hx438_6; replace hx438_7 := bc HB.out hx438_7; replace hx438_8 := bc HB.out hx438_8; replace hx438_9 := bc HB.out hx438_9; replace hx438_10 := bc HB.out hx438_10; replace hx438_11 := bc HB.out hx438_11; replace hx438_12 := bc HB.out hx438_12; replace hx438_13 := bc HB.out hx438_13; replace hx438_14 := bc HB.out hx438_14; replace hx438_15 := bc HB.out hx438_15; replace hx438_16 := bc HB.out hx438_16; replace hx438_17 := bc HB.out hx438_17; replace hx438_18 := bc HB.out hx438_18; replace hx438_19 := bc HB.out hx438_19; replace p438 := eq_true p438; replace q438 := eq_true q438; have p439 : 0 ≤ (x11_3 : Int) := of_decide_eq_true (by first | (with_reducible assumption) | assumption); have q439 : x11_3 < (l2.length : Int) := of_decide_eq_true (by first | (with_reducible assumption) | assumption); obtain ⟨ad439, e439, hx439_0, hx439_1, _, _, _, _, _, _, _, _, _, _, _, _, _, _, _, _, _, _⟩ := at_T55 HR2.out x11_3 p439 q439; have hw439_1 := hx439_1; have hw439_0 := hx439_0; obtain rfl : ad438 = ad439 := (by injection e439); replace hx439_0 := bc HB.out hx439_0; replace hx439_1 := bc HB.out hx439_1; replace p439 := eq_true p439; replace q439 := eq_true q439; have p441 : 0 ≤ (t440 : Int) := of_decide_eq_true (by first | (with_reducible assumption) | assumption); have q441 : t440 < (l1.length : Int) := of_decide_eq_true (by first | (with_reducible assumption) | assumption); obtain ⟨ad441, e441, _, _, hx441_2, hx441_3, hx441_4, hx441_5, hx441_6, hx441_7, hx441_8, hx441_9, hx441_10, hx441_11, hx441_12, hx441_13, hx441_14, hx441_15, hx441_16, hx441_17, hx441_18, hx441_19⟩ := at_T55 HR1.out t440 p441 q441; have hw441_19 := hx441_19; have hw441_18 := hx441_18; have hw441_17 := hx441_17; have hw441_16 := hx441_16; have hw441_15 := hx441_15; have hw441_14 := hx441_14; have hw441_13 := hx441_13; have hw441_12 := hx441_12; have hw441_11 := hx441_11; have hw441_10 := hx441_10; have hw441_9 := hx441_9; have hw441_8 := hx441_8; have hw441_7 := hx441_7; have hw441_6 := hx441_6; have hw441_5 := hx441_5; have hw441_4 := hx441_4; have hw441_3 := hx441_3; have hw441_2 := hx441_2
              cases e441
              replace hx441_2 := bc HB.out hx441_2; replace hx441_3 := bc HB.out hx441_3; replace hx441_4 := bc HB.out hx441_4; replace hx441_5 := bc HB.out hx441_5; replace hx441_6 := bc HB.out hx441_6; replace hx441_7 := bc HB.out hx441_7; replace hx441_8 := bc HB.out hx441_8; replace hx441_9 := bc HB.out hx441_9; replace hx441_10 := bc HB.out hx441_10; replace hx441_11 := bc HB.out hx441_11; replace hx441_12 := bc HB.out hx441_12; replace hx441_13 := bc HB.out hx441_13; replace hx441_14 := bc HB.out hx441_14; replace hx441_15 := bc HB.out hx441_15; replace hx441_16 := bc HB.out hx441_16; replace hx441_17 := bc HB.out hx441_17; replace hx441_18 := bc HB.out hx441_18; replace hx441_19 := bc HB.out hx441_19; replace p441 := eq_true p441; replace q441 := eq_true q441; refine start_ (n := 23) (S := fun w' => w'.cell? ⟨(ad438.add ((x11_3).toNat * 20)).block, (ad438.add ((x11_3).toNat * 20)).off + 2, none⟩ = some (.int .i64 ((rd_T55 l2 x11_3).f1.f0.f0)) ∧ w'.cell? ⟨(ad438.add ((x11_3).toNat * 20)).block, (ad438.add ((x11_3).toNat * 20)).off + 3, none⟩ = some (.bool ((rd_T55 l2 x11_3).f1.f0.f1)) ∧ w'.cell? ⟨(ad438.add ((x11_3).toNat * 20)).block, (ad438.add ((x11_3).toNat * 20)).off + 4, none⟩ = some (.float .f64 ((rd_T55 l2 x11_3).f1.f0.f2)) ∧ w'.cell? ⟨(ad438.add ((x11_3).toNat * 20)).block, (ad438.add ((x11_3).toNat * 20)).off + 5, none⟩ = some (.string ((rd_T55 l2 x11_3).f1.f0.f3)) ∧ w'.cell? ⟨(ad438.add ((x11_3).toNat * 20)).block, (ad438.add ((x11_3).toNat * 20)).off + 6, none⟩ = some (.int .i64 ((rd_T55 l2 x11_3).f1.f0.f4)) ∧ w'.cell? ⟨(ad438.add ((x11_3).toNat * 20)).block, (ad438.add ((x11_3).toNat * 20)).off + 7, none⟩ = some (.int .i64 ((rd_T55 l2 x11_3).f1.f1.f0)) ∧ w'.cell? ⟨(ad438.add ((x11_3).toNat * 20)).block, (ad438.add ((x11_3).toNat * 20)).off + 8, none⟩ = some (.bool ((rd_T55 l2 x11_3).f1.f1.f1)) ∧ w'.cell? ⟨(ad438.add ((x11_3).toNat * 20)).block, (ad438.add ((x11_3).toNat * 20)).off + 9, none⟩ = some (.float .f64 ((rd_T55 l2 x11_3).f1.f1.f2)) ∧ w'.cell? ⟨(ad438.add ((x11_3).toNat * 20)).block, (ad438.add ((x11_3).toNat * 20)).off + 10, none⟩ = some (.string ((rd_T55 l2 x11_3).f1.f1.f3)) ∧ w'.cell? ⟨(ad438.add ((x11_3).toNat * 20)).block, (ad438.add ((x11_3).toNat * 20)).off + 11, none⟩ = some (.int .i64 ((rd_T55 l2 x11_3).f1.f1.f4)) ∧ w'.cell? ⟨(ad438.add ((x11_3).toNat * 20)).block, (ad438.add ((x11_3).toNat * 20)).off + 12, none⟩ = some (.int .i64 ((rd_T55 l2 x11_3).f1.f2.f0)) ∧ w'.cell? ⟨(ad438.add ((x11_3).toNat * 20)).block, (ad438.add ((x11_3).toNat * 20)).off + 13, none⟩ = some (.bool ((rd_T55 l2 x11_3).f1.f2.f1)) ∧ w'.cell? ⟨(ad438.add ((x11_3).toNat * 20)).block, (ad438.add ((x11_3).toNat * 20)).off + 14, none⟩ = some (.float .f64 ((rd_T55 l2 x11_3).f1.f2.f2)) ∧ w'.cell? ⟨(ad438.add ((x11_3).toNat * 20)).block, (ad438.add ((x11_3).toNat * 20)).off + 15, none⟩ = some (.string ((rd_T55 l2 x11_3).f1.f2.f3)) ∧ w'.cell? ⟨(ad438.add ((x11_3).toNat * 20)).block, (ad438.add ((x11_3).toNat * 20)).off + 16, none⟩ = some (.int .i64 ((rd_T55 l2 x11_3).f1.f2.f4)) ∧ w'.cell? ⟨(ad438.add ((x11_3).toNat * 20)).block, (ad438.add ((x11_3).toNat * 20)).off + 17, none⟩ = some (.int .i64 ((rd_T55 l2 x11_3).f1.f3)) ∧ w'.cell? ⟨(ad438.add ((x11_3).toNat * 20)).block, (ad438.add ((x11_3).toNat * 20)).off + 18, none⟩ = some (.int .i64 ((rd_T55 l2 x11_3).f1.f4)) ∧ w'.cell? ⟨(ad438.add ((x11_3).toNat * 20)).block, (ad438.add ((x11_3).toNat * 20)).off + 19, none⟩ = some (.int .i64 ((rd_T55 l2 x11_3).f1.f5)) ∧ w'.cell? (ad438.add ((x11_3).toNat * 20)) = some (.string ((rd_T55 l2 x11_3).f0.f0)) ∧ w'.cell? ⟨(ad438.add ((x11_3).toNat * 20)).block, (ad438.add ((x11_3).toNat * 20)).off + 1, none⟩ = some (.int .i64 ((rd_T55 l2 x11_3).f0.f1)) ∧ w'.cell? ⟨(ad441.add ((t440).toNat * 20)).block, (ad441.add ((t440).toNat * 20)).off + 2, none⟩ = some (.int .i64 ((rd_T55 l1 t440).f1.f0.f0)) ∧ w'.cell? ⟨(ad441.add ((t440).toNat * 20)).block, (ad441.add ((t440).toNat * 20)).off + 3, none⟩ = some (.bool ((rd_T55 l1 t440).f1.f0.f1)) ∧ w'.cell? ⟨(ad441.add ((t440).toNat * 20)).block, (ad441.add ((t440).toNat * 20)).off + 4, none⟩ = some (.float .f64 ((rd_T55 l1 t440).f1.f0.f2)) ∧ w'.cell? ⟨(ad441.add ((t440).toNat * 20)).block, (ad441.add ((t440).toNat * 20)).off + 5, none⟩ = some (.string ((rd_T55 l1 t440).f1.f0.f3)) ∧ w'.cell? ⟨(ad441.add ((t440).toNat * 20)).block, (ad441.add ((t440).toNat * 20)).off + 6, none⟩ = some (.int .i64 ((rd_T55 l1 t440).f1.f0.f4)) ∧ w'.cell? ⟨(ad441.add ((t440).toNat * 20)).block, (ad441.add ((t440).toNat * 20)).off + 7, none⟩ = some (.int .i64 ((rd_T55 l1 t440).f1.f1.f0)) ∧ w'.cell? ⟨(ad441.add ((t440).toNat * 20)).block, (ad441.add ((t440).toNat * 20)).off + 8, none⟩ = some (.bool ((rd_T55 l1 t440).f1.f1.f1)) ∧ w'.cell? ⟨(ad441.add ((t440).toNat * 20)).block, (ad441.add ((t440).toNat * 20)).off + 9, none⟩ = some (.float .f64 ((rd_T55 l1 t440).f1.f1.f2)) ∧ w'.cell? ⟨(ad441.add ((t440).toNat * 20)).block, (ad441.add ((t440).toNat * 20)).off + 10, none⟩ = some (.string ((rd_T55 l1 t440).f1.f1.f3)) ∧ w'.cell? ⟨(ad441.add ((t440).toNat * 20)).block, (ad441.add ((t440).toNat * 20)).off + 11, none⟩ = some (.int .i64 ((rd_T55 l1 t440).f1.f1.f4)) ∧ w'.cell? ⟨(ad441.add ((t440).toNat * 20)).block, (ad441.add ((t440).toNat * 20)).off + 12, none⟩ = some (.int .i64 ((rd_T55 l1 t440).f1.f2.f0)) ∧ w'.cell? ⟨(ad441.add ((t440).toNat * 20)).block, (ad441.add ((t440).toNat * 20)).off + 13, none⟩ = some (.bool ((rd_T55 l1 t440).f1.f2.f1)) ∧ w'.cell? ⟨(ad441.add ((t440).toNat * 20)).block, (ad441.add ((t440).toNat * 20)).off + 14, none⟩ = some (.float .f64 ((rd_T55 l1 t440).f1.f2.f2)) ∧ w'.cell? ⟨(ad441.add ((t440).toNat * 20)).block, (ad441.add ((t440).toNat * 20)).off + 15, none⟩ = some (.string ((rd_T55 l1 t440).f1.f2.f3)) ∧ w'.cell? ⟨(ad441.add ((t440).toNat * 20)).block, (ad441.add ((t440).toNat * 20)).off + 16, none⟩ = some (.int .i64 ((rd_T55 l1 t440).f1.f2.f4)) ∧ w'.cell? ⟨(ad441.add ((t440).toNat * 20)).block, (ad441.add ((t440).toNat * 20)).off + 17, none⟩ = some (.int .i64 ((rd_T55 l1 t440).f1.f3)) ∧ w'.cell? ⟨(ad441.add ((t440).toNat * 20)).block, (ad441.add ((t440).toNat * 20)).off + 18, none⟩ = some (.int .i64 ((rd_T55 l1 t440).f1.f4)) ∧ w'.cell? ⟨(ad441.add ((t440).toNat * 20)).block, (ad441.add ((t440).toNat * 20)).off + 19, none⟩ = some (.int .i64 ((rd_T55 l1 t440).f1.f5))) (ds := []) #[o0, o0, o0, o0, o0, o0, o0, o0, o0, o0, o0, o0, o0, o0, o0, o0, o0, o0, o0, o0, o0, o0, o0] (by kernel_rfl) rfl rfl ⟨(bc HB.out hw438_2), (bc HB.out hw438_3), (bc HB.out hw438_4), (bc HB.out hw438_5), (bc HB.out hw438_6), (bc HB.out hw438_7), (bc HB.out hw438_8), (bc HB.out hw438_9), (bc HB.out hw438_10), (bc HB.out hw438_11), (bc HB.out hw438_12), (bc HB.out hw438_13), (bc HB.out hw438_14), (bc HB.out hw438_15), (bc HB.out hw438_16), (bc HB.out hw438_17), (bc HB.out hw438_18), (bc HB.out hw438_19), (bc HB.out hw439_0), (bc HB.out hw439_1), (bc HB.out hw441_2), (bc HB.out hw441_3), (bc HB.out hw441_4), (bc HB.out hw441_5), (bc HB.out hw441_6), (bc HB.out hw441_7), (bc HB.out hw441_8), (bc HB.out hw441_9), (bc HB.out hw441_10), (bc HB.out hw441_11), (bc HB.out hw441_12), (bc HB.out hw441_13), (bc HB.out hw441_14), (bc HB.out hw441_15), (bc HB.out hw441_16), (bc HB.out hw441_17), (bc HB.out hw441_18), (bc HB.out hw441_19)⟩ (fun hHeld => ?_); refine with_tabW cameoref10_props.tab15 cameoref10_props.bits15 (fun HT_ HW_ => ?_)
              generalize wr.drew = w40 at HO_9 HB hx438_10 hx438_11 hx438_12 hx438_13 hx438_14 hx438_15 hx438_16 hx438_17 hx438_18 hx438_19 hx438_2 hx438_3 hx438_4 hx438_5 hx438_6 hx438_7 hx438_8 hx438_9 hx439_0 hx439_1 hx441_10 hx441_11 hx441_12 hx441_13 hx441_14 hx441_15 hx441_16 hx441_17 hx441_18 hx441_19 hx441_2 hx441_3 hx441_4 hx441_5 hx441_6 hx441_7 hx441_8 hx441_9 hHeld ⊢; refine pure_ (i := 0) (N := some 68) (v := ?_) (a' := ?_) #[o1, o0, o0, o0, o0, o0, o0, o0, o0, o0, o0, o0, o0, o0, o0, o0, o0, o0, o0, o0, o0, o0, o0] rfl rfl (any_of HT_.out (by kernel_rfl)) (fun _ _ _ h => h) (Or.inl ⟨by rfl, ?_⟩) ?_ ?_; rotate_left
              ·intro w'; go_simp; with_reducible rfl
              rotate_left
              ·simp only [Act.put, sA, s0, sS, i64_w, i32_w]; rfl
              refine pure_ (i := 1) (N := some 69) (v := ?_) (a' := ?_) #[o1, o1, o0, o0, o0, o0, o0, o0, o0, o0, o0, o0, o0, o0, o0, o0, o0, o0, o0, o0, o0, o0, o0] rfl rfl (any_of HT_.out (by kernel_rfl)) (fun _ _ _ h => h) (Or.inl ⟨by rfl, ?_⟩) ?_ ?_; rotate_left
              ·intro w'; go_simp; with_reducible rfl
              rotate_left
              ·simp only [Act.put, sA, s0, sS, i64_w, i32_w]; rfl
              refine pure_ (i := 2) (N := some 70) (v := ?_) (a' := ?_) #[o1, o1, o1, o0, o0, o0, o0, o0, o0, o0, o0, o0, o0, o0, o0, o0, o0, o0, o0, o0, o0, o0, o0] rfl rfl (any_of HT_.out (by kernel_rfl)) (fun _ _ _ h => h) (Or.inl ⟨by rfl, ?_⟩) ?_ ?_; rotate_left
              ·intro w'; go_simp; with_reducible rfl
              rotate_left
              ·simp only [Act.put, sA, s0, sS, i64_w, i32_w]; rfl
              refine pure_ (i := 3) (N := some 71) (v := ?_) (a' := ?_) #[o1, o1, o1, o1, o0, o0, o0, o0, o0, o0, o0, o0, o0, o0, o0, o0, o0, o0, o0, o0, o0, o0, o0] rfl rfl (any_of HT_.out (by kernel_rfl)) (fun _ _ _ h => h) (Or.inl ⟨by rfl, ?_⟩) ?_ ?_; rotate_left
              ·intro w'; go_simp; with_reducible rfl
              rotate_left
              ·simp only [Act.put, sA, s0, sS, i64_w, i32_w]; rfl
              refine pure_ (i := 4) (N := some 72) (v := ?_) (a' := ?_) #[o1, o1, o1, o1, o1, o0, o0, o0, o0, o0, o0, o0, o0, o0, o0, o0, o0, o0, o0, o0, o0, o0, o0] rfl rfl (any_of HT_.out (by kernel_rfl)) (fun _ _ _ h => h) (Or.inl ⟨by rfl, ?_⟩) ?_ ?_; rotate_left
              ·intro w'; go_simp; with_reducible rfl
              rotate_left
              ·simp only [Act.put, sA, s0, sS, i64_w, i32_w]; rfl
              refine pure_ (i := 5) (N := some 73) (v := ?_) (a' := ?_) #[o1, o1, o1, o1, o1, o1, o0, o0, o0, o0, o0, o0, o0, o0, o0, o0, o0, o0, o0, o0, o0, o0, o0] rfl rfl (any_of HT_.out (by kernel_rfl)) (fun _ _ _ h => h) (Or.inl ⟨by rfl, ?_⟩) ?_ ?_; rotate_left
              ·intro w'; go_simp; with_reducible rfl
              rotate_left
              ·simp only [Act.put, sA, s0, sS, i64_w, i32_w]; rfl
              refine pure_ (i := 6) (N := some 74) (v := ?_) (a' := ?_) #[o1, o1, o1, o1, o1, o1, o1, o0, o0, o0, o0, o0, o0, o0, o0, o0, o0, o0, o0, o0, o0, o0, o0] rfl rfl (any_of HT_.out (by kernel_rfl)) (fun _ _ _ h => h) (Or.inl ⟨by rfl, ?_⟩) ?_ ?_; rotate_left
              ·intro w'; go_simp; with_reducible rfl
              rotate_left
              ·simp only [Act.put, sA, s0, sS, i64_w, i32_w]; rfl
              refine pure_ (i := 7) (N := some 75) (v := ?_) (a' := ?_) #[o1, o1, o1, o1, o1, o1, o1, o1, o0, o0, o0, o0, o0, o0, o0, o0, o0, o0, o0, o0, o0, o0, o0] rfl rfl (any_of HT_.out (by kernel_rfl)) (fun _ _ _ h => h) (Or.inl ⟨by rfl, ?_⟩) ?_ ?_; rotate_left
              ·intro w'; go_simp; with_reducible rfl
              rotate_left
              ·simp only [Act.put, sA, s0, sS, i64_w, i32_w]; rfl
              refine pure_ (i := 9) (N := some 77) (v := ?_) (a' := ?_) #[o1, o1, o1, o1, o1, o1, o1, o1, o0, o1, o0, o0, o0, o0, o0, o0, o0, o0, o0, o0, o0, o0, o0] rfl rfl (any_of HT_.out (by kernel_rfl)) (fun _ _ _ h => h) (Or.inl ⟨by rfl, ?_⟩) ?_ ?_; rotate_left
              ·intro w'; go_simp; with_reducible rfl
              rotate_left
              ·simp only [Act.put, sA, s0, sS, i64_w, i32_w]; rfl
              refine pure_ (i := 10) (N := some 78) (v := ?_) (a' := ?_) #[o1, o1, o1, o1, o1, o1, o1, o1, o0, o1, o1, o0, o0, o0, o0, o0, o0, o0, o0, o0, o0, o0, o0] rfl rfl (any_of HT_.out (by kernel_rfl)) (fun _ _ _ h => h) (Or.inl ⟨by rfl, ?_⟩) ?_ ?_; rotate_left
              ·intro w'; go_simp; with_reducible rfl
              rotate_left
              ·simp only [Act.put, sA, s0, sS, i64_w, i32_w]; rfl
              refine pure_ (i := 11) (N := some 79) (v := ?_) (a' := ?_) #[o1, o1, o1, o1, o1, o1, o1, o1, o0, o1, o1, o1, o0, o0, o0, o0, o0, o0, o0, o0, o0, o0, o0] rfl rfl (any_of HT_.out (by kernel_rfl)) (fun _ _ _ h => h) (Or.inl ⟨by rfl, ?_⟩) ?_ ?_; rotate_left
              ·intro w'; go_simp; with_reducible rfl
              rotate_left
              ·simp only [Act.put, sA, s0, sS, i64_w, i32_w]; rfl
              refine pure_ (i := 12) (N := some 80) (v := ?_) (a' := ?_) #[o1, o1, o1, o1, o1, o1, o1, o1, o0, o1, o1, o1, o1, o0, o0, o0, o0, o0, o0, o0, o0, o0, o0] rfl rfl (any_of HT_.out (by kernel_rfl)) (fun _ _ _ h => h) (Or.inl ⟨by rfl, ?_⟩) ?_ ?_; rotate_left
              ·intro w'; go_simp; with_reducible rfl
              rotate_left
              ·simp only [Act.put, sA, s0, sS, i64_w, i32_w]; rfl
              refine pure_ (i := 13) (N := some 81) (v := ?_) (a' := ?_) #[o1, o1, o1, o1, o1, o1, o1, o1, o0, o1, o1, o1, o1, o1, o0, o0, o0, o0, o0, o0, o0, o0, o0] rfl rfl (any_of HT_.out (by kernel_rfl)) (fun _ _ _ h => h) (Or.inl ⟨by rfl, ?_⟩) ?_ ?_; rotate_left
              ·intro w'; go_simp; with_reducible rfl
              rotate_left
              ·simp only [Act.put, sA, s0, sS, i64_w, i32_w]; rfl
              refine pure_ (i := 14) (N := some 82) (v := ?_) (a' := ?_) #[o1, o1, o1, o1, o1, o1, o1, o1, o0, o1, o1, o1, o1, o1, o1, o0, o0, o0, o0, o0, o0, o0, o0] rfl rfl (any_of HT_.out (by kernel_rfl)) (fun _ _ _ h => h) (Or.inl ⟨by rfl, ?_⟩) ?_ ?_; rotate_left
              ·intro w'; go_simp; with_reducible rfl
              rotate_left
              ·simp only [Act.put, sA, s0, sS, i64_w, i32_w]; rfl
              refine take_ (i := 8) (N := some 76) (v := .agg (c33A ((rd_T55 l2 x11_3).f1))) (a' := ?_) #[o1, o1, o1, o1, o1, o1, o1, o1, o1, o1, o1, o1, o1, o1, o1, o0, o0, o0, o0, o0, o0, o0, o0] rfl rfl (take_ofW HT_.out HW_.out (by kernel_rfl)) (fun _ _ _ h => h) (Or.inl ⟨by rfl, ?_⟩) hHeld ?_ ?_
              ·rintro w' ⟨s0, s1, s2, s3, s4, s5, s6, s7, s8, s9, s10, s11, s12, s13, s14, s15, s16, s17, s18, s19, s20, s21, s22, s23, s24, s25, s26, s27, s28, s29, s30, s31, s32, s33, s34, s35, s36, s37⟩
               apply exec_load_cells Try.underlying33 18
               case ho => rfl
               case hx => rfl
               case hc => exact CellsAt.cons s0 (CellsAt.cons s1 (CellsAt.cons s2 (CellsAt.cons s3 (CellsAt.cons s4 (CellsAt.cons s5 (CellsAt.cons s6 (CellsAt.cons s7 (CellsAt.cons s8 (CellsAt.cons s9 (CellsAt.cons s10 (CellsAt.cons s11 (CellsAt.cons s12 (CellsAt.cons s13 (CellsAt.cons s14 (CellsAt.cons s15 (CellsAt.cons s16 (CellsAt.cons s17 (CellsAt.nil))))))))))))))))))
               case hn => rfl
               case hi => kernel_rfl
              rotate_left
              ·simp only [Act.put, sA, s0, sS, i64_w, i32_w]; rfl
              refine take_ (i := 15) (N := some 83) (v := .agg #[.string ((rd_T55 l2 x11_3).f0.f0), .int .i64 ((rd_T55 l2 x11_3).f0.f1)]) (a' := ?_) #[o1, o1, o1, o1, o1, o1, o1, o1, o1, o1, o1, o1, o1, o1, o1, o1, o0, o0, o0, o0, o0, o0, o0] rfl rfl (take_ofW HT_.out HW_.out (by kernel_rfl)) (fun _ _ _ h => h) (Or.inl ⟨by rfl, ?_⟩) hHeld ?_ ?_
              ·rintro w' ⟨s0, s1, s2, s3, s4, s5, s6, s7, s8, s9, s10, s11, s12, s13, s14, s15, s16, s17, s18, s19, s20, s21, s22, s23, s24, s25, s26, s27, s28, s29, s30, s31, s32, s33, s34, s35, s36, s37⟩
               apply exec_load_cells Try.underlying30 2
               case ho => rfl
               case hx => rfl
               case hc => exact CellsAt.cons s18 (CellsAt.cons s19 (CellsAt.nil))
               case hn => rfl
               case hi => kernel_rfl
              rotate_left
              ·simp only [Act.put, sA, s0, sS, i64_w, i32_w]; rfl
              refine one_ (i := 16) (N := some 84) #[o1, o1, o1, o1, o1, o1, o1, o1, o1, o1, o1, o1, o1, o1, o1, o1, o1, o0, o0, o0, o0, o0, o0] rfl rfl (one_of HT_.out (by kernel_rfl)) (by decide) (fun K hK => ?_); refine goes_ Try.func17 (by kernel_rfl) rfl #[.slice (some ad441) l1.length c1, .agg #[.string ((rd_T55 l2 x11_3).f0.f0), .int .i64 ((rd_T55 l2 x11_3).f0.f1)]] (by rfl) rfl rfl (by (try simp only [List.map_toArray, List.map_cons, List.map_nil]); first | done | rfl | (simp only [List.length_drop, List.length_take]; rfl)) ?_
              with_reducible refine (cameoref10_Find.calls k3 _ _ l1 ((rd_T55 l2 x11_3).f0.f0) ((rd_T55 l2 x11_3).f0.f1) t440 _ ?side1 ?side2 A35.out).mono ?_
              (case side1 => repeat (first | exact (Kd.C_below HR1.out HB.out) | (with_reducible refine Kd.C_alloc ?_ _) | (with_reducible refine Kd.C_drewN ?_ _) | (with_reducible refine Kd.C_drew ?_)))
              (case side2 => exact HC1.out)
              rintro e w41 ⟨rfl, hb⟩
              refine ⟨_, rfl, ?_⟩; replace HO_9 := Aside0.mk (Kd.R_below (by (with_reducible repeat (first | apply Kd.R_alloc | apply Kd.R_drewN | apply Kd.R_drew)); exact HO_9.out) hb); replace HB := Aside0.mk (bel_s HB.out hb); (try clear hb); (try clear hb2); (try clear hk); (try clear hi); refine hK.out _ _ ⟨(bc HB.out hw438_2), (bc HB.out hw438_3), (bc HB.out hw438_4), (bc HB.out hw438_5), (bc HB.out hw438_6), (bc HB.out hw438_7), (bc HB.out hw438_8), (bc HB.out hw438_9), (bc HB.out hw438_10), (bc HB.out hw438_11), (bc HB.out hw438_12), (bc HB.out hw438_13), (bc HB.out hw438_14), (bc HB.out hw438_15), (bc HB.out hw438_16), (bc HB.out hw438_17), (bc HB.out hw438_18), (bc HB.out hw438_19), (bc HB.out hw439_0), (bc HB.out hw439_1), (bc HB.out hw441_2), (bc HB.out hw441_3), (bc HB.out hw441_4), (bc HB.out hw441_5), (bc HB.out hw441_6), (bc HB.out hw441_7), (bc HB.out hw441_8), (bc HB.out hw441_9), (bc HB.out hw441_10), (bc HB.out hw441_11), (bc HB.out hw441_12), (bc HB.out hw441_13), (bc HB.out hw441_14), (bc HB.out hw441_15), (bc HB.out hw441_16), (bc HB.out hw441_17), (bc HB.out hw441_18), (bc HB.out hw441_19)⟩ (fun hHeld => ?_); clear hK K; refine norm_ (a' := ?_) ?_ ?_; rotate_left
              ·show Act.put _ (some 84) _ = _
               simp only [Act.put, sA, s0, sS, i64_w, i32_w]; rfl
              refine pure_ (i := 17) (N := some 85) (v := ?_) (a' := ?_) #[o1, o1, o1, o1, o1, o1, o1, o1, o1, o1, o1, o1, o1, o1, o1, o1, o1, o1, o0, o0, o0, o0, o0] rfl rfl (any_of HT_.out (by kernel_rfl)) (fun _ _ _ h => h) (Or.inl ⟨by rfl, ?_⟩) ?_ ?_; rotate_left
              ·intro w'; go_simp; with_reducible rfl
              rotate_left
              ·simp only [Act.put, sA, s0, sS, i64_w, i32_w]; rfl
              refine pure_ (i := 18) (N := some 86) (v := ?_) (a' := ?_) #[o1, o1, o1, o1, o1, o1, o1, o1, o1, o1, o1, o1, o1, o1, o1, o1, o1, o1, o1, o0, o0, o0, o0] rfl rfl (any_of HT_.out (by kernel_rfl)) (fun _ _ _ h => h) (Or.inl ⟨by rfl, ?_⟩) ?_ ?_; rotate_left
              ·intro w'; go_simp; with_reducible rfl
              rotate_left
              ·simp only [Act.put, sA, s0, sS, i64_w, i32_w]; rfl
              refine take_ (i := 19) (N := some 87) (v := .agg (c33A ((rd_T55 l1 t440).f1))) (a' := ?_) #[o1, o1, o1, o1, o1, o1, o1, o1, o1, o1, o1, o1, o1, o1, o1, o1, o1, o1, o1, o1, o0, o0, o0] rfl rfl (take_ofW HT_.out HW_.out (by kernel_rfl)) (fun _ _ _ h => h) (Or.inl ⟨by rfl, ?_⟩) hHeld ?_ ?_
              ·rintro w' ⟨s0, s1, s2, s3, s4, s5, s6, s7, s8, s9, s10, s11, s12, s13, s14, s15, s16, s17, s18, s19, s20, s21, s22, s23, s24, s25, s26, s27, s28, s29, s30, s31, s32, s33, s34, s35, s36, s37⟩
               apply exec_load_cells Try.underlying33 18
               case ho => rfl
               case hx => rfl
               case hc => exact CellsAt.cons s20 (CellsAt.cons s21 (CellsAt.cons s22 (CellsAt.cons s23 (CellsAt.cons s24 (CellsAt.cons s25 (CellsAt.cons s26 (CellsAt.cons s27 (CellsAt.cons s28 (CellsAt.cons s29 (CellsAt.cons s30 (CellsAt.cons s31 (CellsAt.cons s32 (CellsAt.cons s33 (CellsAt.cons s34 (CellsAt.cons s35 (CellsAt.cons s36 (CellsAt.cons s37 (CellsAt.nil))))))))))))))))))
               case hn => rfl
               case hi => kernel_rfl
              rotate_left
              ·simp only [Act.put, sA, s0, sS, i64_w, i32_w]; rfl
              refine one_ (i := 20) (N := some 88) #[o1, o1, o1, o1, o1, o1, o1, o1, o1, o1, o1, o1, o1, o1, o1, o1, o1, o1, o1, o1, o1, o0, o0] rfl rfl (one_of HT_.out (by kernel_rfl)) (by decide) (fun K hK => ?_); refine goes_ Try.func20 (by kernel_rfl) rfl #[.agg (c33A ((rd_T55 l2 x11_3).f1)), .agg (c33A ((rd_T55 l1 t440).f1))] (by rfl) rfl rfl (by (try simp only [List.map_toArray, List.map_cons, List.map_nil]); first | done | rfl | (simp only [List.length_drop, List.length_take]; rfl)) ?_
              with_reducible refine (cameoref10_EqDesc.calls ((rd_T55 l2 x11_3).f1.f0.f0) ((rd_T55 l2 x11_3).f1.f0.f1) ((rd_T55 l2 x11_3).f1.f0.f2) ((rd_T55 l2 x11_3).f1.f0.f3) ((rd_T55 l2 x11_3).f1.f0.f4) ((rd_T55 l2 x11_3).f1.f1.f0) ((rd_T55 l2 x11_3).f1.f1.f1) ((rd_T55 l2 x11_3).f1.f1.f2) ((rd_T55 l2 x11_3).f1.f1.f3) ((rd_T55 l2 x11_3).f1.f1.f4) ((rd_T55 l2 x11_3).f1.f2.f0) ((rd_T55 l2 x11_3).f1.f2.f1) ((rd_T55 l2 x11_3).f1.f2.f2) ((rd_T55 l2 x11_3).f1.f2.f3) ((rd_T55 l2 x11_3).f1.f2.f4) ((rd_T55 l2 x11_3).f1.f3) ((rd_T55 l2 x11_3).f1.f4) ((rd_T55 l2 x11_3).f1.f5) ((rd_T55 l1 t440).f1.f0.f0) ((rd_T55 l1 t440).f1.f0.f1) ((rd_T55 l1 t440).f1.f0.f2) ((rd_T55 l1 t440).f1.f0.f3) ((rd_T55 l1 t440).f1.f0.f4) ((rd_T55 l1 t440).f1.f1.f0) ((rd_T55 l1 t440).f1.f1.f1) ((rd_T55 l1 t440).f1.f1.f2) ((rd_T55 l1 t440).f1.f1.f3) ((rd_T55 l1 t440).f1.f1.f4) ((rd_T55 l1 t440).f1.f2.f0) ((rd_T55 l1 t440).f1.f2.f1) ((rd_T55 l1 t440).f1.f2.f2) ((rd_T55 l1 t440).f1.f2.f3) ((rd_T55 l1 t440).f1.f2.f4) ((rd_T55 l1 t440).f1.f3) ((rd_T55 l1 t440).f1.f4) ((rd_T55 l1 t440).f1.f5) true _ A38.out).mono ?_
              rintro e w42 ⟨rfl, hb⟩
              refine ⟨_, rfl, ?_⟩; replace HO_9 := Aside0.mk (Kd.R_below (by (with_reducible repeat (first | apply Kd.R_alloc | apply Kd.R_drewN | apply Kd.R_drew)); exact HO_9.out) hb); replace HB := Aside0.mk (bel_s HB.out hb); (try clear hb); (try clear hb2); (try clear hk); (try clear hi); refine hK.out _ _ ⟨(bc HB.out hw438_2), (bc HB.out hw438_3), (bc HB.out hw438_4), (bc HB.out hw438_5), (bc HB.out hw438_6), (bc HB.out hw438_7), (bc HB.out hw438_8), (bc HB.out hw438_9), (bc HB.out hw438_10), (bc HB.out hw438_11), (bc HB.out hw438_12), (bc HB.out hw438_13), (bc HB.out hw438_14), (bc HB.out hw438_15), (bc HB.out hw438_16), (bc HB.out hw438_17), (bc HB.out hw438_18), (bc HB.out hw438_19), (bc HB.out hw439_0), (bc HB.out hw439_1), (bc HB.out hw441_2), (bc HB.out hw441_3), (bc HB.out hw441_4), (bc HB.out hw441_5), (bc HB.out hw441_6), (bc HB.out hw441_7), (bc HB.out hw441_8), (bc HB.out hw441_9), (bc HB.out hw441_10), (bc HB.out hw441_11), (bc HB.out hw441_12), (bc HB.out hw441_13), (bc HB.out hw441_14), (bc HB.out hw441_15), (bc HB.out hw441_16), (bc HB.out hw441_17), (bc HB.out hw441_18), (bc HB.out hw441_19)⟩ (fun hHeld => ?_); clear hK K; refine norm_ (a' := ?_) ?_ ?_; rotate_left
              ·show Act.put _ (some 88) _ = _
               simp only [Act.put, sA, s0, sS, i64_w, i32_w]; rfl
              refine pure_ (i := 21) (N := some 89) (v := ?_) (a' := ?_) #[o1, o1, o1, o1, o1, o1, o1, o1, o1, o1, o1, o1, o1, o1, o1, o1, o1, o1, o1, o1, o1, o1, o0] rfl rfl (any_of HT_.out (by kernel_rfl)) (fun _ _ _ h => h) (Or.inl ⟨by rfl, ?_⟩) ?_ ?_; rotate_left
              ·intro w'; go_simp; with_reducible rfl
              rotate_left
              ·simp only [Act.put, sA, s0, sS, i64_w, i32_w]; rfl
              refine pure_ (i := 22) (N := some 90) (v := ?_) (a' := ?_) #[o1, o1, o1, o1, o1, o1, o1, o1, o1, o1, o1, o1, o1, o1, o1, o1, o1, o1, o1, o1, o1, o1, o1] rfl rfl (any_of HT_.out (by kernel_rfl)) (fun _ _ _ h => h) (Or.inl ⟨by rfl, ?_⟩) ?_ ?_; rotate_left
              ·intro w'; go_simp; with_reducible rfl
              rotate_left
              ·simp only [Act.put, sA, s0, sS, i64_w, i32_w]; rfl
              refine done_ (done_of HT_.out (by kernel_rfl)) ?_
              try go_wp2
              go_roundg k3
              case measure => have := HJ3.out; have := HK2.out; have := HK3.out; omega
              case rel => exact ⟨(x9_3), (wrap64 (x11_3 + 1)), (by first | rfl | (simp; done) | (simp [*]; done)), H', ⟨by have := HJ3.out; have := HK2.out; have := HK3.out; omega⟩, ⟨by (with_reducible repeat (first | apply Kd.R_alloc | apply Kd.R_drewN | apply Kd.R_drew)); exact HO_9.out⟩, ⟨by repeat (first | (with_reducible first | exact HB.out | apply below_alloc | apply pw_below_drewN | apply below_drew1) | exact HB.out)⟩⟩
             ·replace c39 := Bool.eq_false_iff.mpr c39; subst c39
              have H1 : (if x9_3.length < 517417236600 then (cameoref10_props.l2 k3 a0 l1 l2 x7_3 (x9_3 ++ [(⟨a0, 6, 0, false, (⟨0, false, 0, (⟨#[]⟩ : ByteArray), 0⟩ : S28), (⟨(rd_T55 l2 x11_3).f0.f0, (rd_T55 l2 x11_3).f0.f1⟩ : S30), (⟨(⟨(rd_T55 l2 x11_3).f1.f0.f0, (rd_T55 l2 x11_3).f1.f0.f1, (rd_T55 l2 x11_3).f1.f0.f2, (rd_T55 l2 x11_3).f1.f0.f3, (rd_T55 l2 x11_3).f1.f0.f4⟩ : S28), (⟨(rd_T55 l2 x11_3).f1.f1.f0, (rd_T55 l2 x11_3).f1.f1.f1, (rd_T55 l2 x11_3).f1.f1.f2, (rd_T55 l2 x11_3).f1.f1.f3, (rd_T55 l2 x11_3).f1.f1.f4⟩ : S28), (⟨(rd_T55 l2 x11_3).f1.f2.f0, (rd_T55 l2 x11_3).f1.f2.f1, (rd_T55 l2 x11_3).f1.f2.f2, (rd_T55 l2 x11_3).f1.f2.f3, (rd_T55 l2 x11_3).f1.f2.f4⟩ : S28), (rd_T55 l2 x11_3).f1.f3, (rd_T55 l2 x11_3).f1.f4, (rd_T55 l2 x11_3).f1.f5⟩ : S33)⟩ : S35)]) (wrap64 (x11_3 + 1))) else (none)) = some r := by rw [if_neg (show ¬ (false = true) by decide)] at H; exact H
              clear H; have H := H1; clear H1
              by_cases c43 : x9_3.length < 517417236600
              ·rw [if_pos c43] at H; have LMc43 := Aside0.mk c43; clear c43
               obtain ⟨y445, hy445⟩ : ∃ y_ : List (S35), y_ = (x9_3 ++ [(⟨a0, 6, 0, false, (⟨0, false, 0, (⟨#[]⟩ : ByteArray), 0⟩ : S28), (⟨(rd_T55 l2 x11_3).f0.f0, (rd_T55 l2 x11_3).f0.f1⟩ : S30), (⟨(⟨(rd_T55 l2 x11_3).f1.f0.f0, (rd_T55 l2 x11_3).f1.f0.f1, (rd_T55 l2 x11_3).f1.f0.f2, (rd_T55 l2 x11_3).f1.f0.f3, (rd_T55 l2 x11_3).f1.f0.f4⟩ : S28), (⟨(rd_T55 l2 x11_3).f1.f1.f0, (rd_T55 l2 x11_3).f1.f1.f1, (rd_T55 l2 x11_3).f1.f1.f2, (rd_T55 l2 x11_3).f1.f1.f3, (rd_T55 l2 x11_3).f1.f1.f4⟩ : S28), (⟨(rd_T55 l2 x11_3).f1.f2.f0, (rd_T55 l2 x11_3).f1.f2.f1, (rd_T55 l2 x11_3).f1.f2.f2, (rd_T55 l2 x11_3).f1.f2.f3, (rd_T55 l2 x11_3).f1.f2.f4⟩ : S28), (rd_T55 l2 x11_3).f1.f3, (rd_T55 l2 x11_3).f1.f4, (rd_T55 l2 x11_3).f1.f5⟩ : S33)⟩ : S35)]) := ⟨_, rfl⟩
               replace H : (cameoref10_props.l2 k3 a0 l1 l2 x7_3 y445 (wrap64 (x11_3 + 1))) = some r := by first | (rw [hy445]; with_reducible exact H) | (have H2_ := (Option.bind_some _ _).symm.trans H; rw [hy445]; with_reducible exact H2_) | (have H2_ := (Option.bind_some _ _).symm.trans H; with_reducible exact H2_) | with_reducible exact H | (rw [hy445]; exact H) | exact H
               have Ny445 := Aside0.mk hy445; clear hy445; have H' := Aside0.mk H; clear H
               try go_wp2
               replace HO_9 := Aside0.mk (Kd.R_drew HO_9.out); replace HB := Aside0.mk (below_drew1 HB.out); have p438 : 0 ≤ (x11_3 : Int) := of_decide_eq_true (by first | (with_reducible assumption) | assumption); have q438 : x11_3 < (l2.length : Int) := of_decide_eq_true (by first | (with_reducible assumption) | assumption); obtain ⟨ad438, e438, _, _, hx438_2, hx438_3, hx438_4, hx438_5, hx438_6, hx438_7, hx438_8, hx438_9, hx438_10, hx438_11, hx438_12, hx438_13, hx438_14, hx438_15, hx438_16, hx438_17, hx438_18, hx438_19⟩ := at_T55 HR2.out x11_3 p438 q438; have hw438_19 := hx438_19; have hw438_18 := hx438_18; have hw438_17 := hx438_17; have hw438_16 := hx438_16; have hw438_15 := hx438_15; have hw438_14 := hx438_14; have hw438_13 := hx438_13; have hw438_12 := hx438_12; have hw438_11 := hx438_11; have hw438_10 := hx438_10; have hw438_9 := hx438_9; have hw438_8 := hx438_8; have hw438_7 := hx438_7; have hw438_6 := hx438_6; have hw438_5 := hx438_5; have hw438_4 := hx438_4; have hw438_3 := hx438_3; have hw438_2 := hx438_2
               cases e438
               replace hx438_2 := bc HB.out hx438_2; replace hx438_3 := bc HB.out hx438_3; replace hx438_4 := bc HB.out hx438_4; replace hx438_5 := bc HB.out hx438_5; replace hx438_6 := bc HB.out hx438_6; replace hx438_7 := bc HB.out hx438_7; replace hx438_8 := bc HB.out hx438_8; replace hx438_9 := bc HB.out hx438_9; replace hx438_10 := bc HB.out hx438_10; replace hx438_11 := bc HB.out hx438_11; replace hx438_12 := bc HB.out hx438_12; replace hx438_13 := bc HB.out hx438_13; replace hx438_14 := bc HB.out hx438_14; replace hx438_15 := bc HB.out hx438_15; replace hx438_16 := bc HB.out hx438_16; replace hx438_17 := bc HB.out hx438_17; replace hx438_18 := bc HB.out hx438_18; replace hx438_19 := bc HB.out hx438_19; replace p438 := eq_true p438; replace q438 := eq_true q438; have p439 : 0 ≤ (x11_3 : Int) := of_decide_eq_true (by first | (with_reducible assumption) | assumption); have q439 : x11_3 < (l2.length : Int) := of_decide_eq_true (by first | (with_reducible assumption) | assumption); obtain ⟨ad439, e439, hx439_0, hx439_1, _, _, _, _, _, _, _, _, _, _, _, _, _, _, _, _, _, _⟩ := at_T55 HR2.out x11_3 p439 q439; have hw439_1 := hx439_1; have hw439_0 := hx439_0; obtain rfl : ad438 = ad439 := (by injection e439); replace hx439_0 := bc HB.out hx439_0; replace hx439_1 := bc HB.out hx439_1; replace p439 := eq_true p439; replace q439 := eq_true q439; have p441 : 0 ≤ (t440 : Int) := of_decide_eq_true (by first | (with_reducible assumption) | assumption); have q441 : t440 < (l1.length : Int) := of_decide_eq_true (by first | (with_reducible assumption) | assumption); obtain ⟨ad441, e441, _, _, hx441_2, hx441_3, hx441_4, hx441_5, hx441_6, hx441_7, hx441_8, hx441_9, hx441_10, hx441_11, hx441_12, hx441_13, hx441_14, hx441_15, hx441_16, hx441_17, hx441_18, hx441_19⟩ := at_T55 HR1.out t440 p441 q441; have hw441_19 := hx441_19; have hw441_18 := hx441_18; have hw441_17 := hx441_17; have hw441_16 := hx441_16; have hw441_15 := hx441_15; have hw441_14 := hx441_14; have hw441_13 := hx441_13; have hw441_12 := hx441_12; have hw441_11 := hx441_11; have hw441_10 := hx441_10; have hw441_9 := hx441_9; have hw441_8 := hx441_8; have hw441_7 := hx441_7; have hw441_6 := hx441_6; have hw441_5 := hx441_5; have hw441_4 := hx441_4; have hw441_3 := hx441_3; have hw441_2 := hx441_2
               cases e441
               replace hx441_2 := bc HB.out hx441_2; replace hx441_3 := bc HB.out hx441_3; replace hx441_4 := bc HB.out hx441_4; replace hx441_5 := bc HB.out hx441_5; replace hx441_6 := bc HB.out hx441_6; replace hx441_7 := bc HB.out hx441_7; replace hx441_8 := bc HB.out hx441_8; replace hx441_9 := bc HB.out hx441_9; replace hx441_10 := bc HB.out hx441_10; replace hx441_11 := bc HB.out hx441_11; replace hx441_12 := bc HB.out hx441_12; replace hx441_13 := bc HB.out hx441_13; replace hx441_14 := bc HB.out hx441_14; replace hx441_15 := bc HB.out hx441_15; replace hx441_16 := bc HB.out hx441_16; replace hx441_17 := bc HB.out hx441_17; replace hx441_18 := bc HB.out hx441_18; replace hx441_19 := bc HB.out hx441_19; replace p441 := eq_true p441; replace q441 := eq_true q441; refine start_ (n := 23) (S := fun w' => w'.cell? ⟨(ad438.add ((x11_3).toNat * 20)).block, (ad438.add ((x11_3).toNat * 20)).off + 2, none⟩ = some (.int .i64 ((rd_T55 l2 x11_3).f1.f0.f0)) ∧ w'.cell? ⟨(ad438.add ((x11_3).toNat * 20)).block, (ad438.add ((x11_3).toNat * 20)).off + 3, none⟩ = some (.bool ((rd_T55 l2 x11_3).f1.f0.f1)) ∧ w'.cell? ⟨(ad438.add ((x11_3).toNat * 20)).block, (ad438.add ((x11_3).toNat * 20)).off + 4, none⟩ = some (.float .f64 ((rd_T55 l2 x11_3).f1.f0.f2)) ∧ w'.cell? ⟨(ad438.add ((x11_3).toNat * 20)).block, (ad438.add ((x11_3).toNat * 20)).off + 5, none⟩ = some (.string ((rd_T55 l2 x11_3).f1.f0.f3)) ∧ w'.cell? ⟨(ad438.add ((x11_3).toNat * 20)).block, (ad438.add ((x11_3).toNat * 20)).off + 6, none⟩ = some (.int .i64 ((rd_T55 l2 x11_3).f1.f0.f4)) ∧ w'.cell? ⟨(ad438.add ((x11_3).toNat * 20)).block, (ad438.add ((x11_3).toNat * 20)).off + 7, none⟩ = some (.int .i64 ((rd_T55 l2 x11_3).f1.f1.f0)) ∧ w'.cell? ⟨(ad438.add ((x11_3).toNat * 20)).block, (ad438.add ((x11_3).toNat * 20)).off + 8, none⟩ = some (.bool ((rd_T55 l2 x11_3).f1.f1.f1)) ∧ w'.cell? ⟨(ad438.add ((x11_3).toNat * 20)).block, (ad438.add ((x11_3).toNat * 20)).off + 9, none⟩ = some (.float .f64 ((rd_T55 l2 x11_3).f1.f1.f2)) ∧ w'.cell? ⟨(ad438.add ((x11_3).toNat * 20)).block, (ad438.add ((x11_3).toNat * 20)).off + 10, none⟩ = some (.string ((rd_T55 l2 x11_3).f1.f1.f3)) ∧ w'.cell? ⟨(ad438.add ((x11_3).toNat * 20)).block, (ad438.add ((x11_3).toNat * 20)).off + 11, none⟩ = some (.int .i64 ((rd_T55 l2 x11_3).f1.f1.f4)) ∧ w'.cell? ⟨(ad438.add ((x11_3).toNat * 20)).block, (ad438.add ((x11_3).toNat * 20)).off + 12, none⟩ = some (.int .i64 ((rd_T55 l2 x11_3).f1.f2.f0)) ∧ w'.cell? ⟨(ad438.add ((x11_3).toNat * 20)).block, (ad438.add ((x11_3).toNat * 20)).off + 13, none⟩ = some (.bool ((rd_T55 l2 x11_3).f1.f2.f1)) ∧ w'.cell? ⟨(ad438.add ((x11_3).toNat * 20)).block, (ad438.add ((x11_3).toNat * 20)).off + 14, none⟩ = some (.float .f64 ((rd_T55 l2 x11_3).f1.f2.f2)) ∧ w'.cell? ⟨(ad438.add ((x11_3).toNat * 20)).block, (ad438.add ((x11_3).toNat * 20)).off + 15, none⟩ = some (.string ((rd_T55 l2 x11_3).f1.f2.f3)) ∧ w'.cell? ⟨(ad438.add ((x11_3).toNat * 20)).block, (ad438.add ((x11_3).toNat * 20)).off + 16, none⟩ = some (.int .i64 ((rd_T55 l2 x11_3).f1.f2.f4)) ∧ w'.cell? ⟨(ad438.add ((x11_3).toNat * 20)).block, (ad438.add ((x11_3).toNat * 20)).off + 17, none⟩ = some (.int .i64 ((rd_T55 l2 x11_3).f1.f3)) ∧ w'.cell? ⟨(ad438.add ((x11_3).toNat * 20)).block, (ad438.add ((x11_3).toNat * 20)).off + 18, none⟩ = some (.int .i64 ((rd_T55 l2 x11_3).f1.f4)) ∧ w'.cell? ⟨(ad438.add ((x11_3).toNat * 20)).block, (ad438.add ((x11_3).toNat * 20)).off + 19, none⟩ = some (.int .i64 ((rd_T55 l2 x11_3).f1.f5)) ∧ w'.cell? (ad438.add ((x11_3).toNat * 20)) = some (.string ((rd_T55 l2 x11_3).f0.f0)) ∧ w'.cell? ⟨(ad438.add ((x11_3).toNat * 20)).block, (ad438.add ((x11_3).toNat * 20)).off + 1, none⟩ = some (.int .i64 ((rd_T55 l2 x11_3).f0.f1)) ∧ w'.cell? ⟨(ad441.add ((t440).toNat * 20)).block, (ad441.add ((t440).toNat * 20)).off + 2, none⟩ = some (.int .i64 ((rd_T55 l1 t440).f1.f0.f0)) ∧ w'.cell? ⟨(ad441.add ((t440).toNat * 20)).block, (ad441.add ((t440).toNat * 20)).off + 3, none⟩ = some (.bool ((rd_T55 l1 t440).f1.f0.f1)) ∧ w'.cell? ⟨(ad441.add ((t440).toNat * 20)).block, (ad441.add ((t440).toNat * 20)).off + 4, none⟩ = some (.float .f64 ((rd_T55 l1 t440).f1.f0.f2)) ∧ w'.cell? ⟨(ad441.add ((t440).toNat * 20)).block, (ad441.add ((t440).toNat * 20)).off + 5, none⟩ = some (.string ((rd_T55 l1 t440).f1.f0.f3)) ∧ w'.cell? ⟨(ad441.add ((t440).toNat * 20)).block, (ad441.add ((t440).toNat * 20)).off + 6, none⟩ = some (.int .i64 ((rd_T55 l1 t440).f1.f0.f4)) ∧ w'.cell? ⟨(ad441.add ((t440).toNat * 20)).block, (ad441.add ((t440).toNat * 20)).off + 7, none⟩ = some (.int .i64 ((rd_T55 l1 t440).f1.f1.f0)) ∧ w'.cell? ⟨(ad441.add ((t440).toNat * 20)).block, (ad441.add ((t440).toNat * 20)).off + 8, none⟩ = some (.bool ((rd_T55 l1 t440).f1.f1.f1)) ∧ w'.cell? ⟨(ad441.add ((t440).toNat * 20)).block, (ad441.add ((t440).toNat * 20)).off + 9, none⟩ = some (.float .f64 ((rd_T55 l1 t440).f1.f1.f2)) ∧ w'.cell? ⟨(ad441.add ((t440).toNat * 20)).block, (ad441.add ((t440).toNat * 20)).off + 10, none⟩ = some (.string ((rd_T55 l1 t440).f1.f1.f3)) ∧ w'.cell? ⟨(ad441.add ((t440).toNat * 20)).block, (ad441.add ((t440).toNat * 20)).off + 11, none⟩ = some (.int .i64 ((rd_T55 l1 t440).f1.f1.f4)) ∧ w'.cell? ⟨(ad441.add ((t440).toNat * 20)).block, (ad441.add ((t440).toNat * 20)).off + 12, none⟩ = some (.int .i64 ((rd_T55 l1 t440).f1.f2.f0)) ∧ w'.cell? ⟨(ad441.add ((t440).toNat * 20)).block, (ad441.add ((t440).toNat * 20)).off + 13, none⟩ = some (.bool ((rd_T55 l1 t440).f1.f2.f1)) ∧ w'.cell? ⟨(ad441.add ((t440).toNat * 20)).block, (ad441.add ((t440).toNat * 20)).off + 14, none⟩ = some (.float .f64 ((rd_T55 l1 t440).f1.f2.f2)) ∧ w'.cell? ⟨(ad441.add ((t440).toNat * 20)).block, (ad441.add ((t440).toNat * 20)).off + 15, none⟩ = some (.string ((rd_T55 l1 t440).f1.f2.f3)) ∧ w'.cell? ⟨(ad441.add ((t440).toNat * 20)).block, (ad441.add ((t440).toNat * 20)).off + 16, none⟩ = some (.int .i64 ((rd_T55 l1 t440).f1.f2.f4)) ∧ w'.cell? ⟨(ad441.add ((t440).toNat * 20)).block, (ad441.add ((t440).toNat * 20)).off + 17, none⟩ = some (.int .i64 ((rd_T55 l1 t440).f1.f3)) ∧ w'.cell? ⟨(ad441.add ((t440).toNat * 20)).block, (ad441.add ((t440).toNat * 20)).off + 18, none⟩ = some (.int .i64 ((rd_T55 l1 t440).f1.f4)) ∧ w'.cell? ⟨(ad441.add ((t440).toNat * 20)).block, (ad441.add ((t440).toNat * 20)).off + 19, none⟩ = some (.int .i64 ((rd_T55 l1 t440).f1.f5))) (ds := []) #[o0, o0, o0, o0, o0, o0, o0, o0, o0, o0, o0, o0, o0, o0, o0, o0, o0, o0, o0, o0, o0, o0, o0] (by kernel_rfl) rfl rfl ⟨(bc HB.out hw438_2), (bc HB.out hw438_3), (bc HB.out hw438_4), (bc HB.out hw438_5), (bc HB.out hw438_6), (bc HB.out hw438_7), (bc HB.out hw438_8), (bc HB.out hw438_9), (bc HB.out hw438_10), (bc HB.out hw438_11), (bc HB.out hw438_12), (bc HB.out hw438_13), (bc HB.out hw438_14), (bc HB.out hw438_15), (bc HB.out hw438_16), (bc HB.out hw438_17), (bc HB.out hw438_18), (bc HB.out hw438_19), (bc HB.out hw439_0), (bc HB.out hw439_1), (bc HB.out hw441_2), (bc HB.out hw441_3), (bc HB.out hw441_4), (bc HB.out hw441_5), (bc HB.out hw441_6), (bc HB.out hw441_7), (bc HB.out hw441_8), (bc HB.out hw441_9), (bc HB.out hw441_10), (bc HB.out hw441_11), (bc HB.out hw441_12), (bc HB.out hw441_13), (bc HB.out hw441_14), (bc HB.out hw441_15), (bc HB.out hw441_16), (bc HB.out hw441_17), (bc HB.out hw441_18), (bc HB.out hw441_19)⟩ (fun hHeld => ?_); refine with_tabW cameoref10_props.tab15 cameoref10_props.bits15 (fun HT_ HW_ => ?_)
               generalize wr.drew = w44 at HO_9 HB hx438_10 hx438_11 hx438_12 hx438_13 hx438_14 hx438_15 hx438_16 hx438_17 hx438_18 hx438_19 hx438_2 hx438_3 hx438_4 hx438_5 hx438_6 hx438_7 hx438_8 hx438_9 hx439_0 hx439_1 hx441_10 hx441_11 hx441_12 hx441_13 hx441_14 hx441_15 hx441_16 hx441_17 hx441_18 hx441_19 hx441_2 hx441_3 hx441_4 hx441_5 hx441_6 hx441_7 hx441_8 hx441_9 hHeld ⊢; refine pure_ (i := 0) (N := some 68) (v := ?_) (a' := ?_) #[o1, o0, o0, o0, o0, o0, o0, o0, o0, o0, o0, o0, o0, o0, o0, o0, o0, o0, o0, o0, o0, o0, o0] rfl rfl (any_of HT_.out (by kernel_rfl)) (fun _ _ _ h => h) (Or.inl ⟨by rfl, ?_⟩) ?_ ?_; rotate_left
               ·intro w'; go_simp; with_reducible rfl
               rotate_left
               ·simp only [Act.put, sA, s0, sS, i64_w, i32_w]; rfl
               refine pure_ (i := 1) (N := some 69) (v := ?_) (a' := ?_) #[o1, o1, o0, o0, o0, o0, o0, o0, o0, o0, o0, o0, o0, o0, o0, o0, o0, o0, o0, o0, o0, o0, o0] rfl rfl (any_of HT_.out (by kernel_rfl)) (fun _ _ _ h => h) (Or.inl ⟨by rfl, ?_⟩) ?_ ?_; rotate_left
               ·intro w'; go_simp; with_reducible rfl
               rotate_left
               ·simp only [Act.put, sA, s0, sS, i64_w, i32_w]; rfl
               refine pure_ (i := 2) (N := some 70) (v := ?_) (a' := ?_) #[o1, o1, o1, o0, o0, o0, o0, o0, o0, o0, o0, o0, o0, o0, o0, o0, o0, o0, o0, o0, o0, o0, o0] rfl rfl (any_of HT_.out (by kernel_rfl)) (fun _ _ _ h => h) (Or.inl ⟨by rfl, ?_⟩) ?_ ?_; rotate_left
               ·intro w'; go_simp; with_reducible rfl
               rotate_left
               ·simp only [Act.put, sA, s0, sS, i64_w, i32_w]; rfl
               refine pure_ (i := 3) (N := some 71) (v := ?_) (a' := ?_) #[o1, o1, o1, o1, o0, o0, o0, o0, o0, o0, o0, o0, o0, o0, o0, o0, o0, o0, o0, o0, o0, o0, o0] rfl rfl (any_of HT_.out (by kernel_rfl)) (fun _ _ _ h => h) (Or.inl ⟨by rfl, ?_⟩) ?_ ?_; rotate_left
               ·intro w'; go_simp; with_reducible rfl
               rotate_left
               ·simp only [Act.put, sA, s0, sS, i64_w, i32_w]; rfl
               refine pure_ (i := 4) (N := some 72) (v := ?_) (a' := ?_) #[o1, o1, o1, o1, o1, o0, o0, o0, o0, o0, o0, o0, o0, o0, o0, o0, o0, o0, o0, o0, o0, o0, o0] rfl rfl (any_of HT_.out (by kernel_rfl)) (fun _ _ _ h => h) (Or.inl ⟨by rfl, ?_⟩) ?_ ?_; rotate_left
               ·intro w'; go_simp; with_reducible rfl
               rotate_left
               ·simp only [Act.put, sA, s0, sS, i64_w, i32_w]; rfl
               refine pure_ (i := 5) (N := some 73) (v := ?_) (a' := ?_) #[o1, o1, o1, o1, o1, o1, o0, o0, o0, o0, o0, o0, o0, o0, o0, o0, o0, o0, o0, o0, o0, o0, o0] rfl rfl (any_of HT_.out (by kernel_rfl)) (fun _ _ _ h => h) (Or.inl ⟨by rfl, ?_⟩) ?_ ?_; rotate_left
               ·intro w'; go_simp; with_reducible rfl
               rotate_left
               ·simp only [Act.put, sA, s0, sS, i64_w, i32_w]; rfl
               refine pure_ (i := 6) (N := some 74) (v := ?_) (a' := ?_) #[o1, o1, o1, o1, o1, o1, o1, o0, o0, o0, o0, o0, o0, o0, o0, o0, o0, o0, o0, o0, o0, o0, o0] rfl rfl (any_of HT_.out (by kernel_rfl)) (fun _ _ _ h => h) (Or.inl ⟨by rfl, ?_⟩) ?_ ?_; rotate_left
               ·intro w'; go_simp; with_reducible rfl
               rotate_left
               ·simp only [Act.put, sA, s0, sS, i64_w, i32_w]; rfl
               refine pure_ (i := 7) (N := some 75) (v := ?_) (a' := ?_) #[o1, o1, o1, o1, o1, o1, o1, o1, o0, o0, o0, o0, o0, o0, o0, o0, o0, o0, o0, o0, o0, o0, o0] rfl rfl (any_of HT_.out (by kernel_rfl)) (fun _ _ _ h => h) (Or.inl ⟨by rfl, ?_⟩) ?_ ?_; rotate_left
               ·intro w'; go_simp; with_reducible rfl
               rotate_left
               ·simp only [Act.put, sA, s0, sS, i64_w, i32_w]; rfl
               refine pure_ (i := 9) (N := some 77) (v := ?_) (a' := ?_) #[o1, o1, o1, o1, o1, o1, o1, o1, o0, o1, o0, o0, o0, o0, o0, o0, o0, o0, o0, o0, o0, o0, o0] rfl rfl (any_of HT_.out (by kernel_rfl)) (fun _ _ _ h => h) (Or.inl ⟨by rfl, ?_⟩) ?_ ?_; rotate_left
               ·intro w'; go_simp; with_reducible rfl
               rotate_left
               ·simp only [Act.put, sA, s0, sS, i64_w, i32_w]; rfl
               refine pure_ (i := 10) (N := some 78) (v := ?_) (a' := ?_) #[o1, o1, o1, o1, o1, o1, o1, o1, o0, o1, o1, o0, o0, o0, o0, o0, o0, o0, o0, o0, o0, o0, o0] rfl rfl (any_of HT_.out (by kernel_rfl)) (fun _ _ _ h => h) (Or.inl ⟨by rfl, ?_⟩) ?_ ?_; rotate_left
               ·intro w'; go_simp; with_reducible rfl
               rotate_left
               ·simp only [Act.put, sA, s0, sS, i64_w, i32_w]; rfl
               refine pure_ (i := 11) (N := some 79) (v := ?_) (a' := ?_) #[o1, o1, o1, o1, o1, o1, o1, o1, o0, o1, o1, o1, o0, o0, o0, o0, o0, o0, o0, o0, o0, o0, o0] rfl rfl (any_of HT_.out (by kernel_rfl)) (fun _ _ _ h => h) (Or.inl ⟨by rfl, ?_⟩) ?_ ?_; rotate_left
               ·intro w'; go_simp; with_reducible rfl
               rotate_left
               ·simp only [Act.put, sA, s0, sS, i64_w, i32_w]; rfl
               refine pure_ (i := 12) (N := some 80) (v := ?_) (a' := ?_) #[o1, o1, o1, o1, o1, o1, o1, o1, o0, o1, o1, o1, o1, o0, o0, o0, o0, o0, o0, o0, o0, o0, o0] rfl rfl (any_of HT_.out (by kernel_rfl)) (fun _ _ _ h => h) (Or.inl ⟨by rfl, ?_⟩) ?_ ?_; rotate_left
               ·intro w'; go_simp; with_reducible rfl
               rotate_left
               ·simp only [Act.put, sA, s0, sS, i64_w, i32_w]; rfl
               refine pure_ (i := 13) (N := some 81) (v := ?_) (a' := ?_) #[o1, o1, o1, o1, o1, o1, o1, o1, o0, o1, o1, o1, o1, o1, o0, o0, o0, o0, o0, o0, o0, o0, o0] rfl rfl (any_of HT_.out (by kernel_rfl)) (fun _ _ _ h => h) (Or.inl ⟨by rfl, ?_⟩) ?_ ?_; rotate_left
               ·intro w'; go_simp; with_reducible rfl
               rotate_left
               ·simp only [Act.put, sA, s0, sS, i64_w, i32_w]; rfl
               refine pure_ (i := 14) (N := some 82) (v := ?_) (a' := ?_) #[o1, o1, o1, o1, o1, o1, o1, o1, o0, o1, o1, o1, o1, o1, o1, o0, o0, o0, o0, o0, o0, o0, o0] rfl rfl (any_of HT_.out (by kernel_rfl)) (fun _ _ _ h => h) (Or.inl ⟨by rfl, ?_⟩) ?_ ?_; rotate_left
               ·intro w'; go_simp; with_reducible rfl
               rotate_left
               ·simp only [Act.put, sA, s0, sS, i64_w, i32_w]; rfl
               refine take_ (i := 8) (N := some 76) (v := .agg (c33A ((rd_T55 l2 x11_3).f1))) (a' := ?_) #[o1, o1, o1, o1, o1, o1, o1, o1, o1, o1, o1, o1, o1, o1, o1, o0, o0, o0, o0, o0, o0, o0, o0] rfl rfl (take_ofW HT_.out HW_.out (by kernel_rfl)) (fun _ _ _ h => h) (Or.inl ⟨by rfl, ?_⟩) hHeld ?_ ?_
               ·rintro w' ⟨s0, s1, s2, s3, s4, s5, s6, s7, s8, s9, s10, s11, s12, s13, s14, s15, s16, s17, s18, s19, s20, s21, s22, s23, s24, s25, s26, s27, s28, s29, s30, s31, s32, s33, s34, s35, s36, s37⟩
                apply exec_load_cells Try.underlying33 18
                case ho => rfl
                case hx => rfl
                case hc => exact CellsAt.cons s0 (CellsAt.cons s1 (CellsAt.cons s2 (CellsAt.cons s3 (CellsAt.cons s4 (CellsAt.cons s5 (CellsAt.cons s6 (CellsAt.cons s7 (CellsAt.cons s8 (CellsAt.cons s9 (CellsAt.cons s10 (CellsAt.cons s11 (CellsAt.cons s12 (CellsAt.cons s13 (CellsAt.cons s14 (CellsAt.cons s15 (CellsAt.cons s16 (CellsAt.cons s17 (CellsAt.nil))))))))))))))))))
                case hn => rfl
                case hi => kernel_rfl
               rotate_left
               ·simp only [Act.put, sA, s0, sS, i64_w, i32_w]; rfl
               refine take_ (i := 15) (N := some 83) (v := .agg #[.string ((rd_T55 l2 x11_3).f0.f0), .int .i64 ((rd_T55 l2 x11_3).f0.f1)]) (a' := ?_) #[o1, o1, o1, o1, o1, o1, o1, o1, o1, o1, o1, o1, o1, o1, o1, o1, o0, o0, o0, o0, o0, o0, o0] rfl rfl (take_ofW HT_.out HW_.out (by kernel_rfl)) (fun _ _ _ h => h) (Or.inl ⟨by rfl, ?_⟩) hHeld ?_ ?_
               ·rintro w' ⟨s0, s1, s2, s3, s4, s5, s6, s7, s8, s9, s10, s11, s12, s13, s14, s15, s16, s17, s18, s19, s20, s21, s22, s23, s24, s25, s26, s27, s28, s29, s30, s31, s32, s33, s34, s35, s36, s37⟩
                apply exec_load_cells Try.underlying30 2
                case ho => rfl
                case hx => rfl
                case hc => exact CellsAt.cons s18 (CellsAt.cons s19 (CellsAt.nil))
                case hn => rfl
                case hi => kernel_rfl
               rotate_left
               ·simp only [Act.put, sA, s0, sS, i64_w, i32_w]; rfl
               refine one_ (i := 16) (N := some 84) #[o1, o1, o1, o1, o1, o1, o1, o1, o1, o1, o1, o1, o1, o1, o1, o1, o1, o0, o0, o0, o0, o0, o0] rfl rfl (one_of HT_.out (by kernel_rfl)) (by decide) (fun K hK => ?_); refine goes_ Try.func17 (by kernel_rfl) rfl #[.slice (some ad441) l1.length c1, .agg #[.string ((rd_T55 l2 x11_3).f0.f0), .int .i64 ((rd_T55 l2 x11_3).f0.f1)]] (by rfl) rfl rfl (by (try simp only [List.map_toArray, List.map_cons, List.map_nil]); first | done | rfl | (simp only [List.length_drop, List.length_take]; rfl)) ?_
               with_reducible refine (cameoref10_Find.calls k3 _ _ l1 ((rd_T55 l2 x11_3).f0.f0) ((rd_T55 l2 x11_3).f0.f1) t440 _ ?side1 ?side2 A35.out).mono ?_
               (case side1 => repeat (first | exact (Kd.C_below HR1.out HB.out) | (with_reducible refine Kd.C_alloc ?_ _) | (with_reducible refine Kd.C_drewN ?_ _) | (with_reducible refine Kd.C_drew ?_)))
               (case side2 => exact HC1.out)
               rintro e w45 ⟨rfl, hb⟩
               refine ⟨_, rfl, ?_⟩; replace HO_9 := Aside0.mk (Kd.R_below (by (with_reducible repeat (first | apply Kd.R_alloc | apply Kd.R_drewN | apply Kd.R_drew)); exact HO_9.out) hb); replace HB := Aside0.mk (bel_s HB.out hb); (try clear hb); (try clear hb2); (try clear hk); (try clear hi); refine hK.out _ _ ⟨(bc HB.out hw438_2), (bc HB.out hw438_3), (bc HB.out hw438_4), (bc HB.out hw438_5), (bc HB.out hw438_6), (bc HB.out hw438_7), (bc HB.out hw438_8), (bc HB.out hw438_9), (bc HB.out hw438_10), (bc HB.out hw438_11), (bc HB.out hw438_12), (bc HB.out hw438_13), (bc HB.out hw438_14), (bc HB.out hw438_15), (bc HB.out hw438_16), (bc HB.out hw438_17), (bc HB.out hw438_18), (bc HB.out hw438_19), (bc HB.out hw439_0), (bc HB.out hw439_1), (bc HB.out hw441_2), (bc HB.out hw441_3), (bc HB.out hw441_4), (bc HB.out hw441_5), (bc HB.out hw441_6), (bc HB.out hw441_7), (bc HB.out hw441_8), (bc HB.out hw441_9), (bc HB.out hw441_10), (bc HB.out hw441_11), (bc HB.out hw441_12), (bc HB.out hw441_13), (bc HB.out hw441_14), (bc HB.out hw441_15), (bc HB.out hw441_16), (bc HB.out hw441_17), (bc HB.out hw441_18), (bc HB.out hw441_19)⟩ (fun hHeld => ?_); clear hK K; refine norm_ (a' := ?_) ?_ ?_; rotate_left
               ·show Act.put _ (some 84) _ = _
                simp only [Act.put, sA, s0, sS, i64_w, i32_w]; rfl
               refine pure_ (i := 17) (N := some 85) (v := ?_) (a' := ?_) #[o1, o1, o1, o1, o1, o1, o1, o1, o1, o1, o1, o1, o1, o1, o1, o1, o1, o1, o0, o0, o0, o0, o0] rfl rfl (any_of HT_.out (by kernel_rfl)) (fun _ _ _ h => h) (Or.inl ⟨by rfl, ?_⟩) ?_ ?_; rotate_left
               ·intro w'; go_simp; with_reducible rfl
               rotate_left
               ·simp only [Act.put, sA, s0, sS, i64_w, i32_w]; rfl
               refine pure_ (i := 18) (N := some 86) (v := ?_) (a' := ?_) #[o1, o1, o1, o1, o1, o1, o1, o1, o1, o1, o1, o1, o1, o1, o1, o1, o1, o1, o1, o0, o0, o0, o0] rfl rfl (any_of HT_.out (by kernel_rfl)) (fun _ _ _ h => h) (Or.inl ⟨by rfl, ?_⟩) ?_ ?_; rotate_left
               ·intro w'; go_simp; with_reducible rfl
               rotate_left
               ·simp only [Act.put, sA, s0, sS, i64_w, i32_w]; rfl
               refine take_ (i := 19) (N := some 87) (v := .agg (c33A ((rd_T55 l1 t440).f1))) (a' := ?_) #[o1, o1, o1, o1, o1, o1, o1, o1, o1, o1, o1, o1, o1, o1, o1, o1, o1, o1, o1, o1, o0, o0, o0] rfl rfl (take_ofW HT_.out HW_.out (by kernel_rfl)) (fun _ _ _ h => h) (Or.inl ⟨by rfl, ?_⟩) hHeld ?_ ?_
               ·rintro w' ⟨s0, s1, s2, s3, s4, s5, s6, s7, s8, s9, s10, s11, s12, s13, s14, s15, s16, s17, s18, s19, s20, s21, s22, s23, s24, s25, s26, s27, s28, s29, s30, s31, s32, s33, s34, s35, s36, s37⟩
                apply exec_load_cells Try.underlying33 18
                case ho => rfl
                case hx => rfl
                case hc => exact CellsAt.cons s20 (CellsAt.cons s21 (CellsAt.cons s22 (CellsAt.cons s23 (CellsAt.cons s24 (CellsAt.cons s25 (CellsAt.cons s26 (CellsAt.cons s27 (CellsAt.cons s28 (CellsAt.cons s29 (CellsAt.cons s30 (CellsAt.cons s31 (CellsAt.cons s32 (CellsAt.cons s33 (CellsAt.cons s34 (CellsAt.cons s35 (CellsAt.cons s36 (CellsAt.cons s37 (CellsAt.nil))))))))))))))))))
                case hn => rfl
                case hi => kernel_rfl
               rotate_left
               ·simp only [Act.put, sA, s0, sS, i64_w, i32_w]; rfl
               refine one_ (i := 20) (N := some 88) #[o1, o1, o1, o1, o1, o1, o1, o1, o1, o1, o1, o1, o1, o1, o1, o1, o1, o1, o1, o1, o1, o0, o0] rfl rfl (one_of HT_.out (by kernel_rfl)) (by decide) (fun K hK => ?_); refine goes_ Try.func20 (by kernel_rfl) rfl #[.agg (c33A ((rd_T55 l2 x11_3).f1)), .agg (c33A ((rd_T55 l1 t440).f1))] (by rfl) rfl rfl (by (try simp only [List.map_toArray, List.map_cons, List.map_nil]); first | done | rfl | (simp only [List.length_drop, List.length_take]; rfl)) ?_
               with_reducible refine (cameoref10_EqDesc.calls ((rd_T55 l2 x11_3).f1.f0.f0) ((rd_T55 l2 x11_3).f1.f0.f1) ((rd_T55 l2 x11_3).f1.f0.f2) ((rd_T55 l2 x11_3).f1.f0.f3) ((rd_T55 l2 x11_3).f1.f0.f4) ((rd_T55 l2 x11_3).f1.f1.f0) ((rd_T55 l2 x11_3).f1.f1.f1) ((rd_T55 l2 x11_3).f1.f1.f2) ((rd_T55 l2 x11_3).f1.f1.f3) ((rd_T55 l2 x11_3).f1.f1.f4) ((rd_T55 l2 x11_3).f1.f2.f0) ((rd_T55 l2 x11_3).f1.f2.f1) ((rd_T55 l2 x11_3).f1.f2.f2) ((rd_T55 l2 x11_3).f1.f2.f3) ((rd_T55 l2 x11_3).f1.f2.f4) ((rd_T55 l2 x11_3).f1.f3) ((rd_T55 l2 x11_3).f1.f4) ((rd_T55 l2 x11_3).f1.f5) ((rd_T55 l1 t440).f1.f0.f0) ((rd_T55 l1 t440).f1.f0.f1) ((rd_T55 l1 t440).f1.f0.f2) ((rd_T55 l1 t440).f1.f0.f3) ((rd_T55 l1 t440).f1.f0.f4) ((rd_T55 l1 t440).f1.f1.f0) ((rd_T55 l1 t440).f1.f1.f1) ((rd_T55 l1 t440).f1.f1.f2) ((rd_T55 l1 t440).f1.f1.f3) ((rd_T55 l1 t440).f1.f1.f4) ((rd_T55 l1 t440).f1.f2.f0) ((rd_T55 l1 t440).f1.f2.f1) ((rd_T55 l1 t440).f1.f2.f2) ((rd_T55 l1 t440).f1.f2.f3) ((rd_T55 l1 t440).f1.f2.f4) ((rd_T55 l1 t440).f1.f3) ((rd_T55 l1 t440).f1.f4) ((rd_T55 l1 t440).f1.f5) false _ A38.out).mono ?_
               rintro e w46 ⟨rfl, hb⟩
               refine ⟨_, rfl, ?_⟩; replace HO_9 := Aside0.mk (Kd.R_below (by (with_reducible repeat (first | apply Kd.R_alloc | apply Kd.R_drewN | apply Kd.R_drew)); exact HO_9.out) hb); replace HB := Aside0.mk (bel_s HB.out hb); (try clear hb); (try clear hb2); (try clear hk); (try clear hi); refine hK.out _ _ ⟨(bc HB.out hw438_2), (bc HB.out hw438_3), (bc HB.out hw438_4), (bc HB.out hw438_5), (bc HB.out hw438_6), (bc HB.out hw438_7), (bc HB.out hw438_8), (bc HB.out hw438_9), (bc HB.out hw438_10), (bc HB.out hw438_11), (bc HB.out hw438_12), (bc HB.out hw438_13), (bc HB.out hw438_14), (bc HB.out hw438_15), (bc HB.out hw438_16), (bc HB.out hw438_17), (bc HB.out hw438_18), (bc HB.out hw438_19), (bc HB.out hw439_0), (bc HB.out hw439_1), (bc HB.out hw441_2), (bc HB.out hw441_3), (bc HB.out hw441_4), (bc HB.out hw441_5), (bc HB.out hw441_6), (bc HB.out hw441_7), (bc HB.out hw441_8), (bc HB.out hw441_9), (bc HB.out hw441_10), (bc HB.out hw441_11), (bc HB.out hw441_12), (bc HB.out hw441_13), (bc HB.out hw441_14), (bc HB.out hw441_15), (bc HB.out hw441_16), (bc HB.out hw441_17), (bc HB.out hw441_18), (bc HB.out hw441_19)⟩ (fun hHeld => ?_); clear hK K; refine norm_ (a' := ?_) ?_ ?_; rotate_left
               ·show Act.put _ (some 88) _ = _
                simp only [Act.put, sA, s0, sS, i64_w, i32_w]; rfl
               refine pure_ (i := 21) (N := some 89) (v := ?_) (a' := ?_) #[o1, o1, o1, o1, o1, o1, o1, o1, o1, o1, o1, o1, o1, o1, o1, o1, o1, o1, o1, o1, o1, o1, o0] rfl rfl (any_of HT_.out (by kernel_rfl)) (fun _ _ _ h => h) (Or.inl ⟨by rfl, ?_⟩) ?_ ?_; rotate_left
               ·intro w'; go_simp; with_reducible rfl
               rotate_left
               ·simp only [Act.put, sA, s0, sS, i64_w, i32_w]; rfl
               refine pure_ (i := 22) (N := some 90) (v := ?_) (a' := ?_) #[o1, o1, o1, o1, o1, o1, o1, o1, o1, o1, o1, o1, o1, o1, o1, o1, o1, o1, o1, o1, o1, o1, o1] rfl rfl (any_of HT_.out (by kernel_rfl)) (fun _ _ _ h => h) (Or.inl ⟨by rfl, ?_⟩) ?_ ?_; rotate_left
               ·intro w'; go_simp; with_reducible rfl
               rotate_left
               ·simp only [Act.put, sA, s0, sS, i64_w, i32_w]; rfl
               refine done_ (done_of HT_.out (by kernel_rfl)) ?_
               try go_wp2
               replace HO_9 := Aside0.mk (Kd.R_drew HO_9.out); replace HB := Aside0.mk (below_drew1 HB.out); have p443 : 0 ≤ (x11_3 : Int) := of_decide_eq_true (by first | (with_reducible assumption) | assumption); have q443 : x11_3 < (l2.length : Int) := of_decide_eq_true (by first | (with_reducible assumption) | assumption); obtain ⟨ad443, e443, hx443_0, hx443_1, _, _, _, _, _, _, _, _, _, _, _, _, _, _, _, _, _, _⟩ := at_T55 HR2.out x11_3 p443 q443; have hw443_1 := hx443_1; have hw443_0 := hx443_0; obtain rfl : ad438 = ad443 := (by injection e443); replace hx443_0 := bc HB.out hx443_0; replace hx443_1 := bc HB.out hx443_1; replace p443 := eq_true p443; replace q443 := eq_true q443; have p444 : 0 ≤ (x11_3 : Int) := of_decide_eq_true (by first | (with_reducible assumption) | assumption); have q444 : x11_3 < (l2.length : Int) := of_decide_eq_true (by first | (with_reducible assumption) | assumption); obtain ⟨ad444, e444, _, _, hx444_2, hx444_3, hx444_4, hx444_5, hx444_6, hx444_7, hx444_8, hx444_9, hx444_10, hx444_11, hx444_12, hx444_13, hx444_14, hx444_15, hx444_16, hx444_17, hx444_18, hx444_19⟩ := at_T55 HR2.out x11_3 p444 q444; have hw444_19 := hx444_19; have hw444_18 := hx444_18; have hw444_17 := hx444_17; have hw444_16 := hx444_16; have hw444_15 := hx444_15; have hw444_14 := hx444_14; have hw444_13 := hx444_13; have hw444_12 := hx444_12; have hw444_11 := hx444_11; have hw444_10 := hx444_10; have hw444_9 := hx444_9; have hw444_8 := hx444_8; have hw444_7 := hx444_7; have hw444_6 := hx444_6; have hw444_5 := hx444_5; have hw444_4 := hx444_4; have hw444_3 := hx444_3; have hw444_2 := hx444_2; obtain rfl : ad438 = ad444 := (by injection e444); replace hx444_2 := bc HB.out hx444_2; replace hx444_3 := bc HB.out hx444_3; replace hx444_4 := bc HB.out hx444_4; replace hx444_5 := bc HB.out hx444_5; replace hx444_6 := bc HB.out hx444_6; replace hx444_7 := bc HB.out hx444_7; replace hx444_8 := bc HB.out hx444_8; replace hx444_9 := bc HB.out hx444_9; replace hx444_10 := bc HB.out hx444_10; replace hx444_11 := bc HB.out hx444_11; replace hx444_12 := bc HB.out hx444_12; replace hx444_13 := bc HB.out hx444_13; replace hx444_14 := bc HB.out hx444_14; replace hx444_15 := bc HB.out hx444_15; replace hx444_16 := bc HB.out hx444_16; replace hx444_17 := bc HB.out hx444_17; replace hx444_18 := bc HB.out hx444_18; replace hx444_19 := bc HB.out hx444_19; replace p444 := eq_true p444; replace q444 := eq_true q444; refine start_ (n := 16) (S := fun w' => w'.cell? (ad438.add ((x11_3).toNat * 20)) = some (.string ((rd_T55 l2 x11_3).f0.f0)) ∧ w'.cell? ⟨(ad438.add ((x11_3).toNat * 20)).block, (ad438.add ((x11_3).toNat * 20)).off + 1, none⟩ = some (.int .i64 ((rd_T55 l2 x11_3).f0.f1)) ∧ w'.cell? ⟨(ad438.add ((x11_3).toNat * 20)).block, (ad438.add ((x11_3).toNat * 20)).off + 2, none⟩ = some (.int .i64 ((rd_T55 l2 x11_3).f1.f0.f0)) ∧ w'.cell? ⟨(ad438.add ((x11_3).toNat * 20)).block, (ad438.add ((x11_3).toNat * 20)).off + 3, none⟩ = some (.bool ((rd_T55 l2 x11_3).f1.f0.f1)) ∧ w'.cell? ⟨(ad438.add ((x11_3).toNat * 20)).block, (ad438.add ((x11_3).toNat * 20)).off + 4, none⟩ = some (.float .f64 ((rd_T55 l2 x11_3).f1.f0.f2)) ∧ w'.cell? ⟨(ad438.add ((x11_3).toNat * 20)).block, (ad438.add ((x11_3).toNat * 20)).off + 5, none⟩ = some (.string ((rd_T55 l2 x11_3).f1.f0.f3)) ∧ w'.cell? ⟨(ad438.add ((x11_3).toNat * 20)).block, (ad438.add ((x11_3).toNat * 20)).off + 6, none⟩ = some (.int .i64 ((rd_T55 l2 x11_3).f1.f0.f4)) ∧ w'.cell? ⟨(ad438.add ((x11_3).toNat * 20)).block, (ad438.add ((x11_3).toNat * 20)).off + 7, none⟩ = some (.int .i64 ((rd_T55 l2 x11_3).f1.f1.f0)) ∧ w'.cell? ⟨(ad438.add ((x11_3).toNat * 20)).block, (ad438.add ((x11_3).toNat * 20)).off + 8, none⟩ = some (.bool ((rd_T55 l2 x11_3).f1.f1.f1)) ∧ w'.cell? ⟨(ad438.add ((x11_3).toNat * 20)).block, (ad438.add ((x11_3).toNat * 20)).off + 9, none⟩ = some (.float .f64 ((rd_T55 l2 x11_3).f1.f1.f2)) ∧ w'.cell? ⟨(ad438.add ((x11_3).toNat * 20)).block, (ad438.add ((x11_3).toNat * 20)).off + 10, none⟩ = some (.string ((rd_T55 l2 x11_3).f1.f1.f3)) ∧ w'.cell? ⟨(ad438.add ((x11_3).toNat * 20)).block, (ad438.add ((x11_3).toNat * 20)).off + 11, none⟩ = some (.int .i64 ((rd_T55 l2 x11_3).f1.f1.f4)) ∧ w'.cell? ⟨(ad438.add ((x11_3).toNat * 20)).block, (ad438.add ((x11_3).toNat * 20)).off + 12, none⟩ = some (.int .i64 ((rd_T55 l2 x11_3).f1.f2.f0)) ∧ w'.cell? ⟨(ad438.add ((x11_3).toNat * 20)).block, (ad438.add ((x11_3).toNat * 20)).off + 13, none⟩ = some (.bool ((rd_T55 l2 x11_3).f1.f2.f1)) ∧ w'.cell? ⟨(ad438.add ((x11_3).toNat * 20)).block, (ad438.add ((x11_3).toNat * 20)).off + 14, none⟩ = some (.float .f64 ((rd_T55 l2 x11_3).f1.f2.f2)) ∧ w'.cell? ⟨(ad438.add ((x11_3).toNat * 20)).block, (ad438.add ((x11_3).toNat * 20)).off + 15, none⟩ = some (.string ((rd_T55 l2 x11_3).f1.f2.f3)) ∧ w'.cell? ⟨(ad438.add ((x11_3).toNat * 20)).block, (ad438.add ((x11_3).toNat * 20)).off + 16, none⟩ = some (.int .i64 ((rd_T55 l2 x11_3).f1.f2.f4)) ∧ w'.cell? ⟨(ad438.add ((x11_3).toNat * 20)).block, (ad438.add ((x11_3).toNat * 20)).off + 17, none⟩ = some (.int .i64 ((rd_T55 l2 x11_3).f1.f3)) ∧ w'.cell? ⟨(ad438.add ((x11_3).toNat * 20)).block, (ad438.add ((x11_3).toNat * 20)).off + 18, none⟩ = some (.int .i64 ((rd_T55 l2 x11_3).f1.f4)) ∧ w'.cell? ⟨(ad438.add ((x11_3).toNat * 20)).block, (ad438.add ((x11_3).toNat * 20)).off + 19, none⟩ = some (.int .i64 ((rd_T55 l2 x11_3).f1.f5))) (ds := []) #[o0, o0, o0, o0, o0, o0, o0, o0, o0, o0, o0, o0, o0, o0, o0, o0] (by kernel_rfl) rfl rfl ⟨(bc HB.out hw443_0), (bc HB.out hw443_1), (bc HB.out hw444_2), (bc HB.out hw444_3), (bc HB.out hw444_4), (bc HB.out hw444_5), (bc HB.out hw444_6), (bc HB.out hw444_7), (bc HB.out hw444_8), (bc HB.out hw444_9), (bc HB.out hw444_10), (bc HB.out hw444_11), (bc HB.out hw444_12), (bc HB.out hw444_13), (bc HB.out hw444_14), (bc HB.out hw444_15), (bc HB.out hw444_16), (bc HB.out hw444_17), (bc HB.out hw444_18), (bc HB.out hw444_19)⟩ (fun hHeld => ?_); refine with_tabW cameoref10_props.tab16 cameoref10_props.bits16 (fun HT_ HW_ => ?_)
               generalize w46.drew = w47 at HO_9 HB hx443_0 hx443_1 hx444_10 hx444_11 hx444_12 hx444_13 hx444_14 hx444_15 hx444_16 hx444_17 hx444_18 hx444_19 hx444_2 hx444_3 hx444_4 hx444_5 hx444_6 hx444_7 hx444_8 hx444_9 hHeld ⊢; refine pure_ (i := 0) (N := some 91) (v := ?_) (a' := ?_) #[o1, o0, o0, o0, o0, o0, o0, o0, o0, o0, o0, o0, o0, o0, o0, o0] rfl rfl (any_of HT_.out (by kernel_rfl)) (fun _ _ _ h => h) (Or.inl ⟨by rfl, ?_⟩) ?_ ?_; rotate_left
               ·intro w'; go_simp; with_reducible rfl
               rotate_left
               ·simp only [Act.put, sA, s0, sS, i64_w, i32_w]; rfl
               refine pure_ (i := 1) (N := some 92) (v := ?_) (a' := ?_) #[o1, o1, o0, o0, o0, o0, o0, o0, o0, o0, o0, o0, o0, o0, o0, o0] rfl rfl (any_of HT_.out (by kernel_rfl)) (fun _ _ _ h => h) (Or.inl ⟨by rfl, ?_⟩) ?_ ?_; rotate_left
               ·intro w'; go_simp; with_reducible rfl
               rotate_left
               ·simp only [Act.put, sA, s0, sS, i64_w, i32_w]; rfl
               refine pure_ (i := 2) (N := some 93) (v := ?_) (a' := ?_) #[o1, o1, o1, o0, o0, o0, o0, o0, o0, o0, o0, o0, o0, o0, o0, o0] rfl rfl (any_of HT_.out (by kernel_rfl)) (fun _ _ _ h => h) (Or.inl ⟨by rfl, ?_⟩) ?_ ?_; rotate_left
               ·intro w'; go_simp; with_reducible rfl
               rotate_left
               ·simp only [Act.put, sA, s0, sS, i64_w, i32_w]; rfl
               refine pure_ (i := 3) (N := some 94) (v := ?_) (a' := ?_) #[o1, o1, o1, o1, o0, o0, o0, o0, o0, o0, o0, o0, o0, o0, o0, o0] rfl rfl (any_of HT_.out (by kernel_rfl)) (fun _ _ _ h => h) (Or.inl ⟨by rfl, ?_⟩) ?_ ?_; rotate_left
               ·intro w'; go_simp; with_reducible rfl
               rotate_left
               ·simp only [Act.put, sA, s0, sS, i64_w, i32_w]; rfl
               refine pure_ (i := 4) (N := some 95) (v := ?_) (a' := ?_) #[o1, o1, o1, o1, o1, o0, o0, o0, o0, o0, o0, o0, o0, o0, o0, o0] rfl rfl (any_of HT_.out (by kernel_rfl)) (fun _ _ _ h => h) (Or.inl ⟨by rfl, ?_⟩) ?_ ?_; rotate_left
               ·intro w'; go_simp; with_reducible rfl
               rotate_left
               ·simp only [Act.put, sA, s0, sS, i64_w, i32_w]; rfl
               refine pure_ (i := 5) (N := some 96) (v := ?_) (a' := ?_) #[o1, o1, o1, o1, o1, o1, o0, o0, o0, o0, o0, o0, o0, o0, o0, o0] rfl rfl (any_of HT_.out (by kernel_rfl)) (fun _ _ _ h => h) (Or.inl ⟨by rfl, ?_⟩) ?_ ?_; rotate_left
               ·intro w'; go_simp; with_reducible rfl
               rotate_left
               ·simp only [Act.put, sA, s0, sS, i64_w, i32_w]; rfl
               refine pure_ (i := 7) (N := some 98) (v := ?_) (a' := ?_) #[o1, o1, o1, o1, o1, o1, o0, o1, o0, o0, o0, o0, o0, o0, o0, o0] rfl rfl (any_of HT_.out (by kernel_rfl)) (fun _ _ _ h => h) (Or.inl ⟨by rfl, ?_⟩) ?_ ?_; rotate_left
               ·intro w'; go_simp; with_reducible rfl
               rotate_left
               ·simp only [Act.put, sA, s0, sS, i64_w, i32_w]; rfl
               refine pure_ (i := 8) (N := some 99) (v := ?_) (a' := ?_) #[o1, o1, o1, o1, o1, o1, o0, o1, o1, o0, o0, o0, o0, o0, o0, o0] rfl rfl (any_of HT_.out (by kernel_rfl)) (fun _ _ _ h => h) (Or.inl ⟨by rfl, ?_⟩) ?_ ?_; rotate_left
               ·intro w'; go_simp; with_reducible rfl
               rotate_left
               ·simp only [Act.put, sA, s0, sS, i64_w, i32_w]; rfl
               refine pure_ (i := 9) (N := some 100) (v := ?_) (a' := ?_) #[o1, o1, o1, o1, o1, o1, o0, o1, o1, o1, o0, o0, o0, o0, o0, o0] rfl rfl (any_of HT_.out (by kernel_rfl)) (fun _ _ _ h => h) (Or.inl ⟨by rfl, ?_⟩) ?_ ?_; rotate_left
               ·intro w'; go_simp; with_reducible rfl
               rotate_left
               ·simp only [Act.put, sA, s0, sS, i64_w, i32_w]; rfl
               refine pure_ (i := 10) (N := some 101) (v := ?_) (a' := ?_) #[o1, o1, o1, o1, o1, o1, o0, o1, o1, o1, o1, o0, o0, o0, o0, o0] rfl rfl (any_of HT_.out (by kernel_rfl)) (fun _ _ _ h => h) (Or.inl ⟨by rfl, ?_⟩) ?_ ?_; rotate_left
               ·intro w'; go_simp; with_reducible rfl
               rotate_left
               ·simp only [Act.put, sA, s0, sS, i64_w, i32_w]; rfl
               refine take_ (i := 6) (N := some 97) (v := .agg #[.string ((rd_T55 l2 x11_3).f0.f0), .int .i64 ((rd_T55 l2 x11_3).f0.f1)]) (a' := ?_) #[o1, o1, o1, o1, o1, o1, o1, o1, o1, o1, o1, o0, o0, o0, o0, o0] rfl rfl (take_ofW HT_.out HW_.out (by kernel_rfl)) (fun _ _ _ h => h) (Or.inl ⟨by rfl, ?_⟩) hHeld ?_ ?_
               ·rintro w' ⟨s0, s1, s2, s3, s4, s5, s6, s7, s8, s9, s10, s11, s12, s13, s14, s15, s16, s17, s18, s19⟩
                apply exec_load_cells Try.underlying30 2
                case ho => rfl
                case hx => rfl
                case hc => exact CellsAt.cons s0 (CellsAt.cons s1 (CellsAt.nil))
                case hn => rfl
                case hi => kernel_rfl
               rotate_left
               ·simp only [Act.put, sA, s0, sS, i64_w, i32_w]; rfl
               refine take_ (i := 11) (N := some 102) (v := .agg (c33A ((rd_T55 l2 x11_3).f1))) (a' := ?_) #[o1, o1, o1, o1, o1, o1, o1, o1, o1, o1, o1, o1, o0, o0, o0, o0] rfl rfl (take_ofW HT_.out HW_.out (by kernel_rfl)) (fun _ _ _ h => h) (Or.inl ⟨by rfl, ?_⟩) hHeld ?_ ?_
               ·rintro w' ⟨s0, s1, s2, s3, s4, s5, s6, s7, s8, s9, s10, s11, s12, s13, s14, s15, s16, s17, s18, s19⟩
                apply exec_load_cells Try.underlying33 18
                case ho => rfl
                case hx => rfl
                case hc => exact CellsAt.cons s2 (CellsAt.cons s3 (CellsAt.cons s4 (CellsAt.cons s5 (CellsAt.cons s6 (CellsAt.cons s7 (CellsAt.cons s8 (CellsAt.cons s9 (CellsAt.cons s10 (CellsAt.cons s11 (CellsAt.cons s12 (CellsAt.cons s13 (CellsAt.cons s14 (CellsAt.cons s15 (CellsAt.cons s16 (CellsAt.cons s17 (CellsAt.cons s18 (CellsAt.cons s19 (CellsAt.nil))))))))))))))))))
                case hn => rfl
                case hi => kernel_rfl
               rotate_left
               ·simp only [Act.put, sA, s0, sS, i64_w, i32_w]; rfl
               refine pure_ (i := 12) (N := some 103) (v := ?_) (a' := ?_) #[o1, o1, o1, o1, o1, o1, o1, o1, o1, o1, o1, o1, o1, o0, o0, o0] rfl rfl (any_of HT_.out (by kernel_rfl)) (fun _ _ _ h => h) (Or.inl ⟨by rfl, ?_⟩) ?_ ?_; rotate_left
               ·intro w'; go_simp; with_reducible rfl
               rotate_left
               ·simp only [Act.put, sA, s0, sS, i64_w, i32_w]; rfl
               refine one_ (i := 13) (N := some 104) #[o1, o1, o1, o1, o1, o1, o1, o1, o1, o1, o1, o1, o1, o1, o0, o0] rfl rfl (one_of HT_.out (by kernel_rfl)) (by decide) (fun K hK => ?_); refine value_ (w1 := ?_) (v := ?_) (by rfl) rfl ?_ ?_
               rotate_left 2
               ·go_simp
                constructor
                ·rfl
                ·rfl
               refine hK.out _ _ ⟨ca ((bc HB.out hw443_0)), ca ((bc HB.out hw443_1)), ca ((bc HB.out hw444_2)), ca ((bc HB.out hw444_3)), ca ((bc HB.out hw444_4)), ca ((bc HB.out hw444_5)), ca ((bc HB.out hw444_6)), ca ((bc HB.out hw444_7)), ca ((bc HB.out hw444_8)), ca ((bc HB.out hw444_9)), ca ((bc HB.out hw444_10)), ca ((bc HB.out hw444_11)), ca ((bc HB.out hw444_12)), ca ((bc HB.out hw444_13)), ca ((bc HB.out hw444_14)), ca ((bc HB.out hw444_15)), ca ((bc HB.out hw444_16)), ca ((bc HB.out hw444_17)), ca ((bc HB.out hw444_18)), ca ((bc HB.out hw444_19))⟩ (fun hHeld => ?_); clear hK K; refine norm_ (a' := ?_) ?_ ?_; rotate_left
               ·show Act.put _ (some 104) _ = _
                simp only [Act.put, sA, s0, sS, i64_w, i32_w]; rfl
               refine one_ (i := 14) (N := some 105) #[o1, o1, o1, o1, o1, o1, o1, o1, o1, o1, o1, o1, o1, o1, o1, o0] rfl rfl (one_of HT_.out (by kernel_rfl)) (by decide) (fun K hK => ?_); refine Kd.R_append_step k35 (w0 := w) w.heap.size (by rfl) (.tmp 91) (.tmp 104) 23 35 (.agg z35A) 272 rfl Try.underlying23 info35 rfl (by decide) (by omega) u9 x9_3 (⟨a0, 6, 0, false, (⟨0, false, 0, (⟨#[]⟩ : ByteArray), 0⟩ : S28), (⟨(rd_T55 l2 x11_3).f0.f0, (rd_T55 l2 x11_3).f0.f1⟩ : S30), (⟨(⟨(rd_T55 l2 x11_3).f1.f0.f0, (rd_T55 l2 x11_3).f1.f0.f1, (rd_T55 l2 x11_3).f1.f0.f2, (rd_T55 l2 x11_3).f1.f0.f3, (rd_T55 l2 x11_3).f1.f0.f4⟩ : S28), (⟨(rd_T55 l2 x11_3).f1.f1.f0, (rd_T55 l2 x11_3).f1.f1.f1, (rd_T55 l2 x11_3).f1.f1.f2, (rd_T55 l2 x11_3).f1.f1.f3, (rd_T55 l2 x11_3).f1.f1.f4⟩ : S28), (⟨(rd_T55 l2 x11_3).f1.f2.f0, (rd_T55 l2 x11_3).f1.f2.f1, (rd_T55 l2 x11_3).f1.f2.f2, (rd_T55 l2 x11_3).f1.f2.f3, (rd_T55 l2 x11_3).f1.f2.f4⟩ : S28), (rd_T55 l2 x11_3).f1.f3, (rd_T55 l2 x11_3).f1.f4, (rd_T55 l2 x11_3).f1.f5⟩ : S33)⟩ : S35) [.int .i64 a0, .int .i64 6, .int .i64 0, .bool false, .int .i64 0, .bool false, .float .f64 0, .string (⟨#[]⟩ : ByteArray), .int .i64 0, .string ((rd_T55 l2 x11_3).f0.f0), .int .i64 ((rd_T55 l2 x11_3).f0.f1), .int .i64 ((rd_T55 l2 x11_3).f1.f0.f0), .bool ((rd_T55 l2 x11_3).f1.f0.f1), .float .f64 ((rd_T55 l2 x11_3).f1.f0.f2), .string ((rd_T55 l2 x11_3).f1.f0.f3), .int .i64 ((rd_T55 l2 x11_3).f1.f0.f4), .int .i64 ((rd_T55 l2 x11_3).f1.f1.f0), .bool ((rd_T55 l2 x11_3).f1.f1.f1), .float .f64 ((rd_T55 l2 x11_3).f1.f1.f2), .string ((rd_T55 l2 x11_3).f1.f1.f3), .int .i64 ((rd_T55 l2 x11_3).f1.f1.f4), .int .i64 ((rd_T55 l2 x11_3).f1.f2.f0), .bool ((rd_T55 l2 x11_3).f1.f2.f1), .float .f64 ((rd_T55 l2 x11_3).f1.f2.f2), .string ((rd_T55 l2 x11_3).f1.f2.f3), .int .i64 ((rd_T55 l2 x11_3).f1.f2.f4), .int .i64 ((rd_T55 l2 x11_3).f1.f3), .int .i64 ((rd_T55 l2 x11_3).f1.f4), .int .i64 ((rd_T55 l2 x11_3).f1.f5)] (fun _ => True) (fun _ => False) rfl rfl ?aP (fun _ hk => hk.elim) ?aF ?aO ?aB ?aS ?aL ?_
               (case aP => exact k35_mkM _ _ _ (⟨a0, 6, 0, false, (⟨0, false, 0, (⟨#[]⟩ : ByteArray), 0⟩ : S28), (⟨(rd_T55 l2 x11_3).f0.f0, (rd_T55 l2 x11_3).f0.f1⟩ : S30), (⟨(⟨(rd_T55 l2 x11_3).f1.f0.f0, (rd_T55 l2 x11_3).f1.f0.f1, (rd_T55 l2 x11_3).f1.f0.f2, (rd_T55 l2 x11_3).f1.f0.f3, (rd_T55 l2 x11_3).f1.f0.f4⟩ : S28), (⟨(rd_T55 l2 x11_3).f1.f1.f0, (rd_T55 l2 x11_3).f1.f1.f1, (rd_T55 l2 x11_3).f1.f1.f2, (rd_T55 l2 x11_3).f1.f1.f3, (rd_T55 l2 x11_3).f1.f1.f4⟩ : S28), (⟨(rd_T55 l2 x11_3).f1.f2.f0, (rd_T55 l2 x11_3).f1.f2.f1, (rd_T55 l2 x11_3).f1.f2.f2, (rd_T55 l2 x11_3).f1.f2.f3, (rd_T55 l2 x11_3).f1.f2.f4⟩ : S28), (rd_T55 l2 x11_3).f1.f3, (rd_T55 l2 x11_3).f1.f4, (rd_T55 l2 x11_3).f1.f5⟩ : S33)⟩ : S35))
               (case aB => exact (by repeat (first | (with_reducible first | exact HB.out | apply below_alloc | apply pw_below_drewN | apply below_drew1) | exact HB.out)))
               (case aF => exact (fun _ _ => trivial))
               (case aO => exact (by (with_reducible repeat (first | apply Kd.R_alloc | apply Kd.R_drewN | apply Kd.R_drew)); exact HO_9.out))
               (case aS => exact (bel_z HB.out))
               (case aL => have := LMc43.out; omega)
               intro v446 w48 ho hb hg hat; rw [← Ny445.out] at ho; replace HB := Aside0.mk (hb); have HO447 := Aside0.mk (ho); clear HO_9; clear ho hb hg hat; refine hK.out _ _ ⟨(bc HB.out hw443_0), (bc HB.out hw443_1), (bc HB.out hw444_2), (bc HB.out hw444_3), (bc HB.out hw444_4), (bc HB.out hw444_5), (bc HB.out hw444_6), (bc HB.out hw444_7), (bc HB.out hw444_8), (bc HB.out hw444_9), (bc HB.out hw444_10), (bc HB.out hw444_11), (bc HB.out hw444_12), (bc HB.out hw444_13), (bc HB.out hw444_14), (bc HB.out hw444_15), (bc HB.out hw444_16), (bc HB.out hw444_17), (bc HB.out hw444_18), (bc HB.out hw444_19)⟩ (fun hHeld => ?_); clear hK K; refine norm_ (a' := ?_) ?_ ?_; rotate_left
               ·show Act.put _ (some 105) _ = _
                simp only [Act.put, sA, s0, sS, i64_w, i32_w]; rfl
               refine pure_ (i := 15) (N := some 9) (v := ?_) (a' := ?_) #[o1, o1, o1, o1, o1, o1, o1, o1, o1, o1, o1, o1, o1, o1, o1, o1] rfl rfl (any_of HT_.out (by kernel_rfl)) (fun _ _ _ h => h) (Or.inl ⟨by rfl, ?_⟩) ?_ ?_; rotate_left
               ·intro w'; go_simp; with_reducible rfl
               rotate_left
               ·simp only [Act.put, sA, s0, sS, i64_w, i32_w]; rfl
               refine done_ (done_of HT_.out (by kernel_rfl)) ?_
               try go_wp2
               go_roundg k3
               case measure => have := HJ3.out; have := HK2.out; have := HK3.out; omega
               case rel => exact ⟨(y445), (wrap64 (x11_3 + 1)), (by first | rfl | (simp; done) | (simp [*]; done)), H', ⟨by have := HJ3.out; have := HK2.out; have := HK3.out; omega⟩, ⟨by (with_reducible repeat (first | apply Kd.R_alloc | apply Kd.R_drewN | apply Kd.R_drew)); exact HO447.out⟩, ⟨by repeat (first | (with_reducible first | exact HB.out | apply below_alloc | apply pw_below_drewN | apply below_drew1) | exact HB.out)⟩⟩
              ·rw [if_neg c43] at H; exact absurd H (by simp)
            ·rw [if_neg c37] at H; exact absurd H (by simp)
           ·rw [if_neg c36] at H; exact absurd H (by simp)
          ·rw [if_neg c34] at H; exact absurd H (by simp)
        ·rw [if_neg c27] at H; have c27b0 : decide (x11_3 < (l2.length : Int)) = false := decide_eq_false c27; clear c27; obtain rfl := Option.some.inj H
         go_wp2
         go_ret
         exact ⟨_, by first | rfl | (simp [errW_none, errW_some] <;> rfl) | (simp [*, errW_none, errW_some] <;> rfl), by (with_reducible repeat (first | apply Kd.R_alloc | apply Kd.R_drewN | apply Kd.R_drew)); exact HO_9.out, by repeat (first | (with_reducible first | exact HB.out | apply below_alloc | apply pw_below_drewN | apply below_drew1) | exact HB.out)⟩

end Go.Proofs.Ytaojjpdlfnphiaa.PInvariantDiffs
