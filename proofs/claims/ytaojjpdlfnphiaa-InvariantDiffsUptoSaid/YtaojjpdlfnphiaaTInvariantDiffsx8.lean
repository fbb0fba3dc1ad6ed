-- Printed by a program of this session over the translation; Lean checks it.
import Derived.Test.YtaojjpdlfnphiaaTInvariantDiffsx0
import Derived.Test.YtaojjpdlfnphiaaTInvariantDiffsx1
import Derived.Test.YtaojjpdlfnphiaaTInvariantDiffsx5
import Derived.Test.YtaojjpdlfnphiaaTInvariantDiffsx7
namespace Go.Proofs.Ytaojjpdlfnphiaa.PInvariantDiffs
open Go.RowKit Go.Proofs.YtaojjpdlfnphiaaW.PrintWords Go.Proofs.YtaojjpdlfnphiaaW.PrintLast Go.Proofs.YtaojjpdlfnphiaaW.PrintMore
attribute [local go_sem] max2_int min2_int max_two min_two max_three min_three max_four min_four   -- for this text's walks alone
set_option linter.unusedVariables false
set_option linter.unusedSimpArgs false

attribute [local go_sem high] eqA30
/-! ### invariant_Diff: function 13 -/
mutual
def invariant_Diff.j0 : Nat → List (S52) → List (S52) → Bool → Option ((List (S35)) × Int)
 | 0, _, _, _ => none
 | k + 1, x0, x1, x21 => if x21 = true then (some (([] : List (S35)), 5)) else (invariant_Diff.l0 k x0 ([] : List (S35)) x1 (x1.length : Int) 0)
def invariant_Diff.l0 : Nat → List (S52) → List (S35) → List (S52) → Int → Int → Option ((List (S35)) × Int)
 | 0, _, _, _, _, _ => none
 | k + 1, x0, x6, x22, x23, x24 => if x24 < x23 then (if 0 ≤ x24 then (if x24 < (x22.length : Int) then (if x24 < (x0.length : Int) then ((invariant_between.f k (wrap64 (x24 + 1)) ((rd_T52 x0 x24).f0) ((rd_T52 x0 x24).f1.f0) ((rd_T52 x0 x24).f1.f1) ((rd_T52 x0 x24).f1.f2) ((rd_T52 x0 x24).f1.f3) ((rd_T52 x0 x24).f1.f4) ((rd_T52 x0 x24).f2) ((rd_T52 x0 x24).f3) ((rd_T52 x22 x24).f0) ((rd_T52 x22 x24).f1.f0) ((rd_T52 x22 x24).f1.f1) ((rd_T52 x22 x24).f1.f2) ((rd_T52 x22 x24).f1.f3) ((rd_T52 x22 x24).f1.f4) ((rd_T52 x22 x24).f2) ((rd_T52 x22 x24).f3)).bind fun t384 => (if x6.length + t384.length < 517417236600 then (invariant_Diff.l0 k x0 (x6 ++ t384) x22 x23 (wrap64 (x24 + 1))) else (none))) else (if x6.length < 517417236600 then (invariant_Diff.l1 k x0 (x6 ++ [(⟨wrap64 (x24 + 1), 1, (rd_T52 x22 x24).f0, (rd_T52 x22 x24).f2, (⟨(rd_T52 x22 x24).f1.f0, (rd_T52 x22 x24).f1.f1, (rd_T52 x22 x24).f1.f2, (rd_T52 x22 x24).f1.f3, (rd_T52 x22 x24).f1.f4⟩ : S28), (⟨(⟨#[]⟩ : ByteArray), 0⟩ : S30), (⟨(⟨0, false, 0, (⟨#[]⟩ : ByteArray), 0⟩ : S28), (⟨0, false, 0, (⟨#[]⟩ : ByteArray), 0⟩ : S28), (⟨0, false, 0, (⟨#[]⟩ : ByteArray), 0⟩ : S28), 0, 0, 0⟩ : S33)⟩ : S35)]) x24 x22 x23 x24 ((rd_T52 x22 x24).f3) (((rd_T52 x22 x24).f3).length : Int) 0) else (none))) else (none)) else (none)) else (some (x6, 0))
def invariant_Diff.l1 : Nat → List (S52) → List (S35) → Int → List (S52) → Int → Int → List (S55) → Int → Int → Option ((List (S35)) × Int)
 | 0, _, _, _, _, _, _, _, _, _ => none
 | k + 1, x0, x6, x7, x22, x23, x24, x56, x57, x58 => if x58 < x57 then (if 0 ≤ x58 then (if x58 < (x56.length : Int) then (if x6.length < 517417236600 then (invariant_Diff.l1 k x0 (x6 ++ [(⟨wrap64 (x7 + 1), 6, 0, false, (⟨0, false, 0, (⟨#[]⟩ : ByteArray), 0⟩ : S28), (⟨(rd_T55 x56 x58).f0.f0, (rd_T55 x56 x58).f0.f1⟩ : S30), (⟨(⟨(rd_T55 x56 x58).f1.f0.f0, (rd_T55 x56 x58).f1.f0.f1, (rd_T55 x56 x58).f1.f0.f2, (rd_T55 x56 x58).f1.f0.f3, (rd_T55 x56 x58).f1.f0.f4⟩ : S28), (⟨(rd_T55 x56 x58).f1.f1.f0, (rd_T55 x56 x58).f1.f1.f1, (rd_T55 x56 x58).f1.f1.f2, (rd_T55 x56 x58).f1.f1.f3, (rd_T55 x56 x58).f1.f1.f4⟩ : S28), (⟨(rd_T55 x56 x58).f1.f2.f0, (rd_T55 x56 x58).f1.f2.f1, (rd_T55 x56 x58).f1.f2.f2, (rd_T55 x56 x58).f1.f2.f3, (rd_T55 x56 x58).f1.f2.f4⟩ : S28), (rd_T55 x56 x58).f1.f3, (rd_T55 x56 x58).f1.f4, (rd_T55 x56 x58).f1.f5⟩ : S33)⟩ : S35)]) x7 x22 x23 x24 x56 x57 (wrap64 (x58 + 1))) else (none)) else (none)) else (none)) else (invariant_Diff.l0 k x0 x6 x22 x23 (wrap64 (x24 + 1)))
end
def invariant_Diff.f (k : Nat) (l0 : List (S52)) (l1 : List (S52)) : Option ((List (S35)) × Int) := if (l1.length : Int) < (l0.length : Int) then (some (([] : List (S35)), 7)) else ((invariant_twice.f l0).bind fun t379 => (if t379 = true then (invariant_Diff.j0 k l0 l1 true) else ((invariant_twice.f l1).bind fun t380 => (invariant_Diff.j0 k l0 l1 t380))))
theorem invariant_Diff.mono_l : ∀ k, (∀ y0 y1 y2, LeO (invariant_Diff.j0 k y0 y1 y2) (invariant_Diff.j0 (k + 1) y0 y1 y2)) ∧ (∀ y0 y1 y2 y3 y4, LeO (invariant_Diff.l0 k y0 y1 y2 y3 y4) (invariant_Diff.l0 (k + 1) y0 y1 y2 y3 y4)) ∧ (∀ y0 y1 y2 y3 y4 y5 y6 y7 y8, LeO (invariant_Diff.l1 k y0 y1 y2 y3 y4 y5 y6 y7 y8) (invariant_Diff.l1 (k + 1) y0 y1 y2 y3 y4 y5 y6 y7 y8))
 | 0 => ⟨fun _ _ _ r h => by simp [invariant_Diff.j0] at h, fun _ _ _ _ _ r h => by simp [invariant_Diff.l0] at h, fun _ _ _ _ _ _ _ _ _ r h => by simp [invariant_Diff.l1] at h⟩
 | k + 1 => by
  obtain ⟨ih0, ih1, ih2⟩ := invariant_Diff.mono_l k
  refine ⟨?_, ?_, ?_⟩
  ·intro y0 y1 y2
   unfold invariant_Diff.j0
   repeat' first
   | (with_reducible exact ih0 _ _ _)
   | (with_reducible exact ih1 _ _ _ _ _)
   | (with_reducible exact ih2 _ _ _ _ _ _ _ _ _)
   | (with_reducible exact invariant_between.mono _ _ _ _ _ _ _ _ _ _ _ _ _ _ _ _ _ _)
   | (with_reducible exact LeO.refl _)
   | (with_reducible exact LeO.none _)
   | (with_reducible refine LeO.ite ?_ ?_)
   | (with_reducible refine LeO.bind ?_ (fun _ => ?_))
   | exact ih0 _ _ _
   | exact ih1 _ _ _ _ _
   | exact ih2 _ _ _ _ _ _ _ _ _
   | exact invariant_between.mono _ _ _ _ _ _ _ _ _ _ _ _ _ _ _ _ _ _
   | exact LeO.none _
   | refine LeO.ite ?_ ?_
   | refine LeO.bind ?_ (fun _ => ?_)
  ·intro y0 y1 y2 y3 y4
   unfold invariant_Diff.l0
   repeat' first
   | (with_reducible exact ih0 _ _ _)
   | (with_reducible exact ih1 _ _ _ _ _)
   | (with_reducible exact ih2 _ _ _ _ _ _ _ _ _)
   | (with_reducible exact invariant_between.mono _ _ _ _ _ _ _ _ _ _ _ _ _ _ _ _ _ _)
   | (with_reducible exact LeO.refl _)
   | (with_reducible exact LeO.none _)
   | (with_reducible refine LeO.ite ?_ ?_)
   | (with_reducible refine LeO.bind ?_ (fun _ => ?_))
   | exact ih0 _ _ _
   | exact ih1 _ _ _ _ _
   | exact ih2 _ _ _ _ _ _ _ _ _
   | exact invariant_between.mono _ _ _ _ _ _ _ _ _ _ _ _ _ _ _ _ _ _
   | exact LeO.none _
   | refine LeO.ite ?_ ?_
   | refine LeO.bind ?_ (fun _ => ?_)
  ·intro y0 y1 y2 y3 y4 y5 y6 y7 y8
   unfold invariant_Diff.l1
   repeat' first
   | (with_reducible exact ih0 _ _ _)
   | (with_reducible exact ih1 _ _ _ _ _)
   | (with_reducible exact ih2 _ _ _ _ _ _ _ _ _)
   | (with_reducible exact invariant_between.mono _ _ _ _ _ _ _ _ _ _ _ _ _ _ _ _ _ _)
   | (with_reducible exact LeO.refl _)
   | (with_reducible exact LeO.none _)
   | (with_reducible refine LeO.ite ?_ ?_)
   | (with_reducible refine LeO.bind ?_ (fun _ => ?_))
   | exact ih0 _ _ _
   | exact ih1 _ _ _ _ _
   | exact ih2 _ _ _ _ _ _ _ _ _
   | exact invariant_between.mono _ _ _ _ _ _ _ _ _ _ _ _ _ _ _ _ _ _
   | exact LeO.none _
   | refine LeO.ite ?_ ?_
   | refine LeO.bind ?_ (fun _ => ?_)
theorem invariant_Diff.mono : ∀ a0 a1 k, LeO (invariant_Diff.f k a0 a1) (invariant_Diff.f (k + 1) a0 a1) := by
 intro a0 a1 k
 obtain ⟨ih0, ih1, ih2⟩ := invariant_Diff.mono_l k
 unfold invariant_Diff.f
 repeat' first
   | (with_reducible exact ih0 _ _ _)
   | (with_reducible exact ih1 _ _ _ _ _)
   | (with_reducible exact ih2 _ _ _ _ _ _ _ _ _)
   | (with_reducible exact invariant_between.mono _ _ _ _ _ _ _ _ _ _ _ _ _ _ _ _ _ _)
   | (with_reducible exact LeO.refl _)
   | (with_reducible exact LeO.none _)
   | (with_reducible refine LeO.ite ?_ ?_)
   | (with_reducible refine LeO.bind ?_ (fun _ => ?_))
   | exact ih0 _ _ _
   | exact ih1 _ _ _ _ _
   | exact ih2 _ _ _ _ _ _ _ _ _
   | exact invariant_between.mono _ _ _ _ _ _ _ _ _ _ _ _ _ _ _ _ _ _
   | exact LeO.none _
   | refine LeO.ite ?_ ?_
   | refine LeO.bind ?_ (fun _ => ?_)
def invariant_Diff.T10 : Bool × List (List Nat × List Nat) := (true, [([], []), ([], []), ([1], [1]), ([], []), ([], []), ([3, 4], [3, 4]), ([5], [5]), ([], []), ([2, 6, 7], [2, 6, 7]), ([0, 8, 8], [0, 8]), ([9, 9, 0, 1, 2, 3, 4, 5, 6, 7, 8, 9], [0, 9])])
def invariant_Diff.B10 : List Nat := [0, 0, 2, 0, 0, 24, 56, 0, 254, 511, 1023]
theorem invariant_Diff.tab10 : rtab .any (opsOf Try.f13 10) = invariant_Diff.T10 := by kernel_rfl
theorem invariant_Diff.bits10 : waitsOk invariant_Diff.T10.2 invariant_Diff.B10 = true := by kernel_rfl
set_option maxHeartbeats 8000000 in
set_option maxRecDepth 100000 in
theorem invariant_Diff.calls (k : Nat) (A0 : Option Addr) (c0 : Nat) (l0 : List (S52)) (A1 : Option Addr) (c1 : Nat) (l1 : List (S52)) (r1 : List (S35)) (r2 : Int) (w : World) (hr0 : Kd.C k52 w A0 l0.length l0) (hc0 : l0.length ≤ c0) (hr1 : Kd.C k52 w A1 l1.length l1) (hc1 : l1.length ≤ c1) (h : invariant_Diff.f k l0 l1 = some (r1, r2)) :
  Calls Try.prog 13 #[.slice A0 l0.length c0, .slice A1 l1.length c1] w fun e w' => ∃ v0_ : Value, e = .returned (.tuple #[v0_, .int .i64 r2]) ∧ Kd.R k35 35 w' w.heap.size (fun _ => True) v0_ r1 ∧ Below w.heap.size w w' := by
 have hu52 := Try.underlying52; have hu28 := Try.underlying28; have hu35 := Try.underlying35; have hu55 := Try.underlying55; have hu30 := Try.underlying30; have hu33 := Try.underlying33; have HR0 := Aside0.mk hr0; have HC0 := Aside0.mk hc0; clear hr0 hc0; have HR1 := Aside0.mk hr1; have HC1 := Aside0.mk hc1; clear hr1 hc1; have HB := Aside0.mk (Below.refl w.heap.size w); have H : (if (l1.length : Int) < (l0.length : Int) then (some (([] : List (S35)), 7)) else ((invariant_twice.f l0).bind fun t379 => (if t379 = true then (invariant_Diff.j0 k l0 l1 true) else ((invariant_twice.f l1).bind fun t380 => (invariant_Diff.j0 k l0 l1 t380))))) = some (r1, r2) := h; clear h
 by_cases c3 : (l1.length : Int) < (l0.length : Int)
 ·rw [if_pos c3] at H; have c3b0 : decide ((l1.length : Int) < (l0.length : Int)) = true := decide_eq_true c3; have c3b1 : decide (l1.length < l0.length) = true := decide_eq_true (Int.ofNat_lt.mp c3); clear c3; simp only [Option.some.injEq, Prod.mk.injEq] at H; obtain ⟨rfl, rfl⟩ := H
  go_enter Try.func13, Try.ntmps13
  go_wp2
  go_ret2
  exact ⟨_, by first | rfl | (simp [errW_none, errW_some] <;> rfl) | (simp [*, errW_none, errW_some] <;> rfl), by first | exact Kd.R_nil _ _ _ _ _ | exact Kd.N_nil _ _ _ _ _ | exact Kd.V_nil _ _ _ _ _ | exact Kd.Q_nil _ _ _ _ _ | exact Kd.S_nil _ _ _ _ _, by repeat (first | (with_reducible first | exact HB.out | apply below_alloc | apply pw_below_drewN | apply below_drew1) | exact HB.out)⟩
 ·rw [if_neg c3] at H; have c3b0 : decide ((l1.length : Int) < (l0.length : Int)) = false := decide_eq_false c3; have c3b1 : decide (l1.length < l0.length) = false := decide_eq_false (fun h => c3 (Int.ofNat_lt.mpr h)); clear c3; have HC4 := Aside0.mk H; clear H
  go_enter Try.func13, Try.ntmps13
  go_upto_region 3 with (fail)
  go_cut [21] (fun v21 wc => ∃ (kq : Nat) (x21_3 : Bool), v21 = .bool x21_3 ∧ Aside0 (invariant_Diff.j0 kq l0 l1 x21_3 = some (r1, r2)) ∧ Aside0 (kq ≤ k) ∧ Aside0 (Below w.heap.size w wc))
  case first =>
   have H := HC4.out; clear HC4; replace H := Option.bind_eq_some_iff.mp H; obtain ⟨t379, A50, H⟩ := H; replace H : (if t379 = true then (invariant_Diff.j0 k l0 l1 true) else ((invariant_twice.f l1).bind fun t380 => (invariant_Diff.j0 k l0 l1 t380))) = some (r1, r2) := H; have A5 := Aside0.mk A50; clear A50
   by_cases c6 : t379 = true
   ·subst c6
    have H1 : (invariant_Diff.j0 k l0 l1 true) = some (r1, r2) := by rw [if_pos rfl] at H; exact H
    clear H; have H := H1; clear H1; have H' := Aside0.mk H; clear H
    go_wp2_with (first | ((with_reducible refine gate_callee (f := 21) rfl ?_); refine goesL_ (some 17) rfl rfl Try.func21 (by kernel_rfl) rfl #[.slice A0 l0.length c0] rfl (by (try simp only [List.map_toArray, List.map_cons, List.map_nil]); first | done | rfl | (simp only [List.length_drop, List.length_take]; rfl)) ?_; (with_reducible refine (invariant_twice.calls _ _ l0 true _ ?side1 ?side2 A5.out).mono ?_); (case side1 => repeat (first | exact (Kd.C_below HR0.out HB.out) | (with_reducible refine Kd.C_alloc ?_ _) | (with_reducible refine Kd.C_drewN ?_ _) | (with_reducible refine Kd.C_drew ?_))); (case side2 => exact HC0.out); rintro e w7 ⟨rfl, hb⟩; refine ⟨_, rfl, ?_⟩; replace HB := Aside0.mk (bel_s HB.out hb); (try clear hb); (try clear hb2); (try clear hk); (try clear hi)))
    go_meet
    case rel => exact ⟨_, (true), (by first | rfl | (simp; done) | (simp [*]; done)), H', ⟨by first | omega | exact Nat.le_refl _⟩, ⟨by repeat (first | (with_reducible first | exact HB.out | apply below_alloc | apply pw_below_drewN | apply below_drew1) | exact HB.out)⟩⟩
   ·replace c6 := Bool.eq_false_iff.mpr c6; subst c6
    have H1 : ((invariant_twice.f l1).bind fun t380 => (invariant_Diff.j0 k l0 l1 t380)) = some (r1, r2) := by rw [if_neg (show ¬ (false = true) by decide)] at H; exact H
    clear H; have H := H1; clear H1; replace H := Option.bind_eq_some_iff.mp H; obtain ⟨t380, A80, H⟩ := H; replace H : (invariant_Diff.j0 k l0 l1 t380) = some (r1, r2) := H; have A8 := Aside0.mk A80; clear A80; have H' := Aside0.mk H; clear H
    go_wp2_with (first | ((with_reducible refine gate_callee (f := 21) rfl ?_); refine goesL_ (some 17) rfl rfl Try.func21 (by kernel_rfl) rfl #[.slice A0 l0.length c0] rfl (by (try simp only [List.map_toArray, List.map_cons, List.map_nil]); first | done | rfl | (simp only [List.length_drop, List.length_take]; rfl)) ?_; (with_reducible refine (invariant_twice.calls _ _ l0 false _ ?side1 ?side2 A5.out).mono ?_); (case side1 => repeat (first | exact (Kd.C_below HR0.out HB.out) | (with_reducible refine Kd.C_alloc ?_ _) | (with_reducible refine Kd.C_drewN ?_ _) | (with_reducible refine Kd.C_drew ?_))); (case side2 => exact HC0.out); rintro e w9 ⟨rfl, hb⟩; refine ⟨_, rfl, ?_⟩; replace HB := Aside0.mk (bel_s HB.out hb); (try clear hb); (try clear hb2); (try clear hk); (try clear hi)) | (go_at_call 21; (with_reducible refine (invariant_twice.calls _ _ l1 t380 _ ?side1 ?side2 A8.out).mono ?_); (case side1 => repeat (first | exact (Kd.C_below HR1.out HB.out) | (with_reducible refine Kd.C_alloc ?_ _) | (with_reducible refine Kd.C_drewN ?_ _) | (with_reducible refine Kd.C_drew ?_))); (case side2 => exact HC1.out); rintro e w10 ⟨rfl, hb⟩; replace HB := Aside0.mk (bel_s HB.out hb); (try clear hb); (try clear hb2); (try clear hk); (try clear hi)))
    go_meet
    case rel => exact ⟨_, (t380), (by first | rfl | (simp; done) | (simp [*]; done)), H', ⟨by first | omega | exact Nat.le_refl _⟩, ⟨by repeat (first | (with_reducible first | exact HB.out | apply below_alloc | apply pw_below_drewN | apply below_drew1) | exact HB.out)⟩⟩
  case rest =>
   clear HC4; (try clear c1); (try clear c2); (try clear p2); (try clear c3); (try clear c3b0); (try clear c3b1); (try clear c6); obtain ⟨kq, x21_3, rfl, HA, HJ3, HB⟩ := hcut
   cases kq with
   | zero => exact absurd HA.out (by simp [invariant_Diff.j0])
   | succ kj3 =>
    have H := HA.out; clear HA; simp only [invariant_Diff.j0] at H
    by_cases c11 : x21_3 = true
    ·subst c11
     have H1 : (some (([] : List (S35)), 5)) = some (r1, r2) := by rw [if_pos rfl] at H; exact H
     clear H; have H := H1; clear H1; simp only [Option.some.injEq, Prod.mk.injEq] at H; obtain ⟨rfl, rfl⟩ := H
     go_wp2
     go_ret2
     exact ⟨_, by first | rfl | (simp [errW_none, errW_some] <;> rfl) | (simp [*, errW_none, errW_some] <;> rfl), by first | exact Kd.R_nil _ _ _ _ _ | exact Kd.N_nil _ _ _ _ _ | exact Kd.V_nil _ _ _ _ _ | exact Kd.Q_nil _ _ _ _ _ | exact Kd.S_nil _ _ _ _ _, by repeat (first | (with_reducible first | exact HB.out | apply below_alloc | apply pw_below_drewN | apply below_drew1) | exact HB.out)⟩
    ·replace c11 := Bool.eq_false_iff.mpr c11; subst c11
     have H1 : (invariant_Diff.l0 kj3 l0 ([] : List (S35)) l1 (l1.length : Int) 0) = some (r1, r2) := by rw [if_neg (show ¬ (false = true) by decide)] at H; exact H
     clear H; have H := H1; clear H1; have H' := Aside0.mk H; clear H
     go_wp2
     go_loopg [6, 24] kj3 (fun kq v6 v24 w' => ∃ (x6_2 : List (S35)) (x24_2 : Int), v24 = .int .i64 x24_2 ∧ Aside0 (invariant_Diff.l0 kq l0 x6_2 l1 (l1.length : Int) x24_2 = some (r1, r2)) ∧ Aside0 (kq ≤ kj3) ∧ Aside0 (Kd.R k35 35 w' w.heap.size (fun _ => True) v6 x6_2) ∧ Aside0 (Below w.heap.size w w'))
     case atStart => exact ⟨(([] : List (S35))), (0), (by first | rfl | (simp; done) | (simp [*]; done)), H', ⟨Nat.le_refl _⟩, ⟨by first | exact Kd.R_nil _ _ _ _ _ | exact Kd.N_nil _ _ _ _ _ | exact Kd.V_nil _ _ _ _ _ | exact Kd.Q_nil _ _ _ _ _ | exact Kd.S_nil _ _ _ _ _⟩, ⟨by repeat (first | (with_reducible first | exact HB.out | apply below_alloc | apply pw_below_drewN | apply below_drew1) | exact HB.out)⟩⟩
     case round =>
      clear H'; (try clear c1); (try clear c2); (try clear p2); (try clear c3); (try clear c3b0); (try clear c3b1); (try clear c6); (try clear c11); (try clear p2); obtain ⟨x6_2, x24_2, rfl, HA, HK2, HO_6, HB⟩ := hrel
      cases gk with
      | zero => exact absurd HA.out (by simp [invariant_Diff.l0])
      | succ k2 =>
       have H := HA.out; clear HA; simp only [invariant_Diff.l0] at H
       by_cases c12 : x24_2 < (l1.length : Int)
       ·rw [if_pos c12] at H; have c12b0 : decide (x24_2 < (l1.length : Int)) = true := decide_eq_true c12; clear c12
        by_cases c13 : 0 ≤ x24_2
        ·rw [if_pos c13] at H; have c13b0 : decide (0 ≤ x24_2) = true := decide_eq_true c13; clear c13
         by_cases c14 : x24_2 < (l1.length : Int)
         ·rw [if_pos c14] at H; have c14b0 : decide (x24_2 < (l1.length : Int)) = true := decide_eq_true c14; clear c14
          by_cases c15 : x24_2 < (l0.length : Int)
          ·rw [if_pos c15] at H; have c15b0 : decide (x24_2 < (l0.length : Int)) = true := decide_eq_true c15; clear c15; replace H := Option.bind_eq_some_iff.mp H; obtain ⟨t384, A160, H⟩ := H; replace H : (if x6_2.length + t384.length < 517417236600 then (invariant_Diff.l0 k2 l0 (x6_2 ++ t384) l1 (l1.length : Int) (wrap64 (x24_2 + 1))) else (none)) = some (r1, r2) := H; have A16 := Aside0.mk A160; clear A160
           by_cases c17 : x6_2.length + t384.length < 517417236600
           ·rw [if_pos c17] at H; have LMc17 := Aside0.mk c17; clear c17
            obtain ⟨y387, hy387⟩ : ∃ y_ : List (S35), y_ = (x6_2 ++ t384) := ⟨_, rfl⟩
            replace H : (invariant_Diff.l0 k2 l0 y387 l1 (l1.length : Int) (wrap64 (x24_2 + 1))) = some (r1, r2) := by first | (rw [hy387]; with_reducible exact H) | (have H2_ := (Option.bind_some _ _).symm.trans H; rw [hy387]; with_reducible exact H2_) | (have H2_ := (Option.bind_some _ _).symm.trans H; with_reducible exact H2_) | with_reducible exact H | (rw [hy387]; exact H) | exact H
            have Ny387 := Aside0.mk hy387; clear hy387; have H' := Aside0.mk H; clear H; have p381 : 0 ≤ (x24_2 : Int) := of_decide_eq_true (by first | (with_reducible assumption) | assumption); have q381 : x24_2 < (l1.length : Int) := of_decide_eq_true (by first | (with_reducible assumption) | assumption); obtain ⟨ad381, A381_7, c381_7, e381, hW381, hl381_7, hi381_7⟩ := ats_T52 HR1.out x24_2 p381 q381; have hx381_7 := hW381 7 _ rfl
            cases e381
            replace hW381 := cells_below HB.out hW381; replace hx381_7 := bc HB.out hx381_7; have HR381_7 := Aside0.mk hi381_7; have HC381_7 := Aside0.mk hl381_7; clear hi381_7 hl381_7; have HW381 := Aside0.mk hW381; clear hW381; replace p381 := eq_true p381; replace q381 := eq_true q381
            try go_wp2_with (first | ((with_reducible refine gate_dst (N := 28) rfl ?_); (try (refine gate_guard (by rfl) ?_; dsimp only)); refine load_cells_event ?hg (N := 28) ?hd (ty := 52) (x := ?lx398) (b := ?lb399) (cs := ?lc400) ?ho ?hc ?hx (n := 8) ?hn ?hi Try.underlying52 ?_; (case ho => rfl); (case hd => rfl); (case hg => rfl); (case hc => first | exact HW381.out | (intro j_ u_ hj_; have h_ := HW381.out j_ u_ hj_; simpa only [add_plain, add_at] using h_)); (case hx => first | rfl | (go_simp; done)); (case hn => rfl); (case hi => kernel_rfl)) | ((with_reducible refine gate_dst (N := 8) rfl ?_); refine allocstore_event1 ?hg (N := 8) ?hd (zs := z52A) (cs := (c52A (rd_T52 l1 x24_2) (.slice A381_7 ((rd_T52 l1 x24_2).f3).length c381_7))) (t := 52) (x := .tmp 28) (y := ?ly401) (v := (.int .i64 x24_2)) (M := 7) ?hr ?hgm ?hom ?hdm ?hMN ?hv ?hg2 ?hd2 ?ho ?hN ?hx (n := 8) ?hi ?hn ?hz ?h1 ?_; (case hd => rfl); (case hg => rfl); (case hgm => rfl); (case hom => first | (refine Or.inl ?_; rfl) | (refine Or.inr ?_; rfl)); (case hdm => rfl); (case hMN => decide); (case hv => intro _; rfl); (case hg2 => rfl); (case hd2 => rfl); (case ho => rfl); (case hN => first | (simp; done) | (simp [Act.put]; done) | (go_simp; done)); (case hx => intro _; rfl); (case hi => kernel_rfl); (case hn => rfl); (case hz => rfl); (case h1 => simp [c35A, c55A, c52A, c33A, c28A, Value.oneCell']; done); (case hr => first | (go_simp; done) | (go_simp; rfl)); intro gb382 hg w18 hbox hb; have n0_ := Aside0.mk (Kd.R_below (by (with_reducible repeat (first | apply Kd.R_alloc | apply Kd.R_drewN | apply Kd.R_drew)); exact HO_6.out) hb); have n1_ := Aside0.mk (bel_s HB.out hb); have n2_ := Aside0.mk (hbox); have n3_ := Aside0.mk ((by rw [hg]; exact (bel_z HB.out) : w.heap.size ≤ gb382)); have n4_ := Aside0.mk ((by rw [hg]; exact (bel_z HB.out) : w.heap.size ≤ gb382)); clear HO_6; clear HB; have HO_6 := n0_; have HB := n1_; have BK382 := n2_; have GW382 := n3_; have GE382 := n4_; clear n0_ n1_ n2_ n3_ n4_; clear hb hbox hg))
            replace HO_6 := Aside0.mk (Kd.R_drew HO_6.out); replace BK382 := Aside0.mk (blk_drew BK382.out); replace HB := Aside0.mk (below_drew1 HB.out); have p383 : 0 ≤ (x24_2 : Int) := of_decide_eq_true (by first | (with_reducible assumption) | assumption); have q383 : x24_2 < (l0.length : Int) := of_decide_eq_true (by first | (with_reducible assumption) | assumption); obtain ⟨ad383, A383_7, c383_7, e383, hx383_0, hx383_1, hx383_2, hx383_3, hx383_4, hx383_5, hx383_6, hx383_7, hl383_7, hi383_7⟩ := at_T52 HR0.out x24_2 p383 q383; have hw383_7 := hx383_7; have hw383_6 := hx383_6; have hw383_5 := hx383_5; have hw383_4 := hx383_4; have hw383_3 := hx383_3; have hw383_2 := hx383_2; have hw383_1 := hx383_1; have hw383_0 := hx383_0
            cases e383
            replace hx383_0 := bc HB.out hx383_0; replace hx383_1 := bc HB.out hx383_1; replace hx383_2 := bc HB.out hx383_2; replace hx383_3 := bc HB.out hx383_3; replace hx383_4 := bc HB.out hx383_4; replace hx383_5 := bc HB.out hx383_5; replace hx383_6 := bc HB.out hx383_6; replace hx383_7 := bc HB.out hx383_7; have HR383_7 := Aside0.mk hi383_7; have HC383_7 := Aside0.mk hl383_7; clear hi383_7 hl383_7; replace p383 := eq_true p383; replace q383 := eq_true q383; refine start_ (n := 11) (S := fun w' => w'.cell? ⟨gb382, 0, none⟩ = some (.int .i64 ((rd_T52 l1 x24_2).f0)) ∧ w'.cell? ⟨gb382, 1, none⟩ = some (.int .i64 ((rd_T52 l1 x24_2).f1.f0)) ∧ w'.cell? ⟨gb382, 2, none⟩ = some (.bool ((rd_T52 l1 x24_2).f1.f1)) ∧ w'.cell? ⟨gb382, 3, none⟩ = some (.float .f64 ((rd_T52 l1 x24_2).f1.f2)) ∧ w'.cell? ⟨gb382, 4, none⟩ = some (.string ((rd_T52 l1 x24_2).f1.f3)) ∧ w'.cell? ⟨gb382, 5, none⟩ = some (.int .i64 ((rd_T52 l1 x24_2).f1.f4)) ∧ w'.cell? ⟨gb382, 6, none⟩ = some (.bool ((rd_T52 l1 x24_2).f2)) ∧ w'.cell? ⟨gb382, 7, none⟩ = some (.slice A381_7 ((rd_T52 l1 x24_2).f3).length c381_7) ∧ w'.cell? (ad383.add ((x24_2).toNat * 8)) = some (.int .i64 ((rd_T52 l0 x24_2).f0)) ∧ w'.cell? ⟨(ad383.add ((x24_2).toNat * 8)).block, (ad383.add ((x24_2).toNat * 8)).off + 1, none⟩ = some (.int .i64 ((rd_T52 l0 x24_2).f1.f0)) ∧ w'.cell? ⟨(ad383.add ((x24_2).toNat * 8)).block, (ad383.add ((x24_2).toNat * 8)).off + 2, none⟩ = some (.bool ((rd_T52 l0 x24_2).f1.f1)) ∧ w'.cell? ⟨(ad383.add ((x24_2).toNat * 8)).block, (ad383.add ((x24_2).toNat * 8)).off + 3, none⟩ = some (.float .f64 ((rd_T52 l0 x24_2).f1.f2)) ∧ w'.cell? ⟨(ad383.add ((x24_2).toNat * 8)).block, (ad383.add ((x24_2).toNat * 8)).off + 4, none⟩ = some (.string ((rd_T52 l0 x24_2).f1.f3)) ∧ w'.cell? ⟨(ad383.add ((x24_2).toNat * 8)).block, (ad383.add ((x24_2).toNat * 8)).off + 5, none⟩ = some (.int .i64 ((rd_T52 l0 x24_2).f1.f4)) ∧ w'.cell? ⟨(ad383.add ((x24_2).toNat * 8)).block, (ad383.add ((x24_2).toNat * 8)).off + 6, none⟩ = some (.bool ((rd_T52 l0 x24_2).f2)) ∧ w'.cell? ⟨(ad383.add ((x24_2).toNat * 8)).block, (ad383.add ((x24_2).toNat * 8)).off + 7, none⟩ = some (.slice A383_7 ((rd_T52 l0 x24_2).f3).length c383_7)) (ds := []) #[o0, o0, o0, o0, o0, o0, o0, o0, o0, o0, o0] (by kernel_rfl) rfl rfl ⟨(blk_cell BK382.out 0).trans rfl, (blk_cell BK382.out 1).trans rfl, (blk_cell BK382.out 2).trans rfl, (blk_cell BK382.out 3).trans rfl, (blk_cell BK382.out 4).trans rfl, (blk_cell BK382.out 5).trans rfl, (blk_cell BK382.out 6).trans rfl, (blk_cell BK382.out 7).trans rfl, (bc HB.out hw383_0), (bc HB.out hw383_1), (bc HB.out hw383_2), (bc HB.out hw383_3), (bc HB.out hw383_4), (bc HB.out hw383_5), (bc HB.out hw383_6), (bc HB.out hw383_7)⟩ (fun hHeld => ?_); refine with_tabW invariant_Diff.tab10 invariant_Diff.bits10 (fun HT_ HW_ => ?_); generalize w18.drew = w19 at HO_6 BK382 HB HR383_7 hx383_0 hx383_1 hx383_2 hx383_3 hx383_4 hx383_5 hx383_6 hx383_7 hHeld ⊢; refine pure_ (i := 0) (N := some 33) (v := ?_) (a' := ?_) #[o1, o0, o0, o0, o0, o0, o0, o0, o0, o0, o0] rfl rfl (any_of HT_.out (by kernel_rfl)) (fun _ _ _ h => h) (Or.inl ⟨by rfl, ?_⟩) ?_ ?_
            rotate_left
            ·intro w'; go_simp; with_reducible rfl
            rotate_left
            ·simp only [Act.put, sA, s0, sS, i64_w, i32_w]; rfl
            refine pure_ (i := 1) (N := some 34) (v := ?_) (a' := ?_) #[o1, o1, o0, o0, o0, o0, o0, o0, o0, o0, o0] rfl rfl (any_of HT_.out (by kernel_rfl)) (fun _ _ _ h => h) (Or.inl ⟨by rfl, ?_⟩) ?_ ?_; rotate_left
            ·intro w'; go_simp; with_reducible rfl
            rotate_left
            ·simp only [Act.put, sA, s0, sS, i64_w, i32_w]; rfl
            refine pure_ (i := 2) (N := some 35) (v := ?_) (a' := ?_) #[o1, o1, o1, o0, o0, o0, o0, o0, o0, o0, o0] rfl rfl (any_of HT_.out (by kernel_rfl)) (fun _ _ _ h => h) (Or.inl ⟨by rfl, ?_⟩) ?_ ?_; rotate_left
            ·intro w'; go_simp; with_reducible rfl
            rotate_left
            ·simp only [Act.put, sA, s0, sS, i64_w, i32_w]; rfl
            refine pure_ (i := 3) (N := some 36) (v := ?_) (a' := ?_) #[o1, o1, o1, o1, o0, o0, o0, o0, o0, o0, o0] rfl rfl (any_of HT_.out (by kernel_rfl)) (fun _ _ _ h => h) (Or.inl ⟨by rfl, ?_⟩) ?_ ?_; rotate_left
            ·intro w'; go_simp; with_reducible rfl
            rotate_left
            ·simp only [Act.put, sA, s0, sS, i64_w, i32_w]; rfl
            refine pure_ (i := 4) (N := some 37) (v := ?_) (a' := ?_) #[o1, o1, o1, o1, o1, o0, o0, o0, o0, o0, o0] rfl rfl (any_of HT_.out (by kernel_rfl)) (fun _ _ _ h => h) (Or.inl ⟨by rfl, ?_⟩) ?_ ?_; rotate_left
            ·intro w'; go_simp; with_reducible rfl
            rotate_left
            ·simp only [Act.put, sA, s0, sS, i64_w, i32_w]; rfl
            refine pure_ (i := 5) (N := some 38) (v := ?_) (a' := ?_) #[o1, o1, o1, o1, o1, o1, o0, o0, o0, o0, o0] rfl rfl (any_of HT_.out (by kernel_rfl)) (fun _ _ _ h => h) (Or.inl ⟨by rfl, ?_⟩) ?_ ?_; rotate_left
            ·intro w'; go_simp; with_reducible rfl
            rotate_left
            ·simp only [Act.put, sA, s0, sS, i64_w, i32_w]; rfl
            refine take_ (i := 6) (N := some 39) (v := .agg (c52A (rd_T52 l0 x24_2) (.slice A383_7 ((rd_T52 l0 x24_2).f3).length c383_7))) (a' := ?_) #[o1, o1, o1, o1, o1, o1, o1, o0, o0, o0, o0] rfl rfl (take_ofW HT_.out HW_.out (by kernel_rfl)) (fun _ _ _ h => h) (Or.inl ⟨by rfl, ?_⟩) hHeld ?_ ?_
            ·rintro w' ⟨s0, s1, s2, s3, s4, s5, s6, s7, s8, s9, s10, s11, s12, s13, s14, s15⟩
             apply exec_load_cells Try.underlying52 8
             case ho => rfl
             case hx => rfl
             case hc => exact CellsAt.cons s8 (CellsAt.cons s9 (CellsAt.cons s10 (CellsAt.cons s11 (CellsAt.cons s12 (CellsAt.cons s13 (CellsAt.cons s14 (CellsAt.cons s15 (CellsAt.nil))))))))
             case hn => rfl
             case hi => kernel_rfl
            rotate_left
            ·simp only [Act.put, sA, s0, sS, i64_w, i32_w]; rfl
            refine take_ (i := 7) (N := some 40) (v := .agg (c52A (rd_T52 l1 x24_2) (.slice A381_7 ((rd_T52 l1 x24_2).f3).length c381_7))) (a' := ?_) #[o1, o1, o1, o1, o1, o1, o1, o1, o0, o0, o0] rfl rfl (take_ofW HT_.out HW_.out (by kernel_rfl)) (fun _ _ _ h => h) (Or.inl ⟨by rfl, ?_⟩) hHeld ?_ ?_
            ·rintro w' ⟨s0, s1, s2, s3, s4, s5, s6, s7, s8, s9, s10, s11, s12, s13, s14, s15⟩
             apply exec_load_cells Try.underlying52 8
             case ho => rfl
             case hx => rfl
             case hc => exact CellsAt.cons s0 (CellsAt.cons s1 (CellsAt.cons s2 (CellsAt.cons s3 (CellsAt.cons s4 (CellsAt.cons s5 (CellsAt.cons s6 (CellsAt.cons s7 (CellsAt.nil))))))))
             case hn => rfl
             case hi => kernel_rfl
            rotate_left
            ·simp only [Act.put, sA, s0, sS, i64_w, i32_w]; rfl
            refine one_ (i := 8) (N := some 41) #[o1, o1, o1, o1, o1, o1, o1, o1, o1, o0, o0] rfl rfl (one_of HT_.out (by kernel_rfl)) (by decide) (fun K hK => ?_); refine goes_ Try.func22 (by kernel_rfl) rfl #[.int .i64 (wrap64 (x24_2 + 1)), .agg (c52A (rd_T52 l0 x24_2) (.slice A383_7 ((rd_T52 l0 x24_2).f3).length c383_7)), .agg (c52A (rd_T52 l1 x24_2) (.slice A381_7 ((rd_T52 l1 x24_2).f3).length c381_7))] (by rfl) rfl rfl (by (try simp only [List.map_toArray, List.map_cons, List.map_nil]); first | done | rfl | (simp only [List.length_drop, List.length_take]; rfl)) ?_
            with_reducible refine (invariant_between.calls k2 (wrap64 (x24_2 + 1)) ((rd_T52 l0 x24_2).f0) ((rd_T52 l0 x24_2).f1.f0) ((rd_T52 l0 x24_2).f1.f1) ((rd_T52 l0 x24_2).f1.f2) ((rd_T52 l0 x24_2).f1.f3) ((rd_T52 l0 x24_2).f1.f4) ((rd_T52 l0 x24_2).f2) _ _ ((rd_T52 l0 x24_2).f3) ((rd_T52 l1 x24_2).f0) ((rd_T52 l1 x24_2).f1.f0) ((rd_T52 l1 x24_2).f1.f1) ((rd_T52 l1 x24_2).f1.f2) ((rd_T52 l1 x24_2).f1.f3) ((rd_T52 l1 x24_2).f1.f4) ((rd_T52 l1 x24_2).f2) _ _ ((rd_T52 l1 x24_2).f3) t384 _ ?side1 ?side2 ?side3 ?side4 A16.out).mono ?_
            (case side1 => repeat (first | exact (Kd.C_below HR383_7.out HB.out) | (with_reducible refine Kd.C_alloc ?_ _) | (with_reducible refine Kd.C_drewN ?_ _) | (with_reducible refine Kd.C_drew ?_)))
            (case side2 => exact HC383_7.out)
            (case side3 => repeat (first | exact (Kd.C_below HR381_7.out HB.out) | (with_reducible refine Kd.C_alloc ?_ _) | (with_reducible refine Kd.C_drewN ?_ _) | (with_reducible refine Kd.C_drew ?_)))
            (case side4 => exact HC381_7.out)
            rintro e w20 ⟨v385, rfl, ho0, hb⟩
            refine ⟨_, rfl, ?_⟩; have n0_ := Aside0.mk (Kd.R_elder' (by (with_reducible repeat (first | apply Kd.R_alloc | apply Kd.R_drewN | apply Kd.R_drew)); exact HO_6.out) (Kd.R_base ho0) hb); have n1_ := Aside0.mk (Kd.R_lower (Kd.R_new' ho0 (Kd.R_lt (by (with_reducible repeat (first | apply Kd.R_alloc | apply Kd.R_drewN | apply Kd.R_drew)); exact HO_6.out))) (bel_z HB.out)); have n2_ := Aside0.mk (blk_b BK382.out hb); have n3_ := Aside0.mk (bel_s HB.out hb); clear HO_6; clear BK382; clear HB; have HO_6 := n0_; have HO386 := n1_; have BK382 := n2_; have HB := n3_; clear n0_ n1_ n2_ n3_; (try clear hb); (try clear hb2); (try clear hk); (try clear hi); (try clear ho0); obtain ⟨Ao22, co22, eo22⟩ := Kd.R_slice HO386.out
            (first | subst eo22 | (injection eo22 with f1_ f2_ f3_; have f4_ := f1_.symm; have f5_ := f3_.symm; clear f1_ f2_ f3_; subst f4_; subst f5_))
            refine hK.out _ _ ⟨(blk_cell BK382.out 0).trans rfl, (blk_cell BK382.out 1).trans rfl, (blk_cell BK382.out 2).trans rfl, (blk_cell BK382.out 3).trans rfl, (blk_cell BK382.out 4).trans rfl, (blk_cell BK382.out 5).trans rfl, (blk_cell BK382.out 6).trans rfl, (blk_cell BK382.out 7).trans rfl, (bc HB.out hw383_0), (bc HB.out hw383_1), (bc HB.out hw383_2), (bc HB.out hw383_3), (bc HB.out hw383_4), (bc HB.out hw383_5), (bc HB.out hw383_6), (bc HB.out hw383_7)⟩ (fun hHeld => ?_); clear hK K; refine norm_ (a' := ?_) ?_ ?_; rotate_left
            ·show Act.put _ (some 41) _ = _
             simp only [Act.put, sA, s0, sS, i64_w, i32_w]; rfl
            refine one_ (i := 9) (N := some 42) #[o1, o1, o1, o1, o1, o1, o1, o1, o1, o1, o0] rfl rfl (one_of HT_.out (by kernel_rfl)) (by decide) (fun K hK => ?_); refine Kd.R_append_rows_step k35 (w0 := w) w.heap.size (by rfl) (.tmp 33) (.tmp 41) 23 35 (.agg z35A) 272 rfl Try.underlying23 info35 rfl (by decide) (by omega) u6 x6_2 t384 _ _ _ (fun k_ => some k_ ≠ (.slice Ao22 t384.length co22 : Value).ownBlock) (fun _ => False) rfl rfl ?aO ?aR (fun _ _ h => h) (fun _ h => h.elim) ?aF ?aB ?aS ?aL ?_
            (case aR => repeat (first | exact (Kd.R_reads' HO386.out).2.2 | (with_reducible refine Kd.C_alloc ?_ _) | (with_reducible refine Kd.C_drewN ?_ _) | (with_reducible refine Kd.C_drew ?_)))
            (case aB => exact (by repeat (first | (with_reducible first | exact HB.out | apply below_alloc | apply pw_below_drewN | apply below_drew1 | refine below_set ?_ GE382.out) | exact HB.out)))
            (case aF => exact (fun k_ hk => Kd.fresh' (Kd.R_lt (by (with_reducible repeat (first | apply Kd.R_alloc | apply Kd.R_drewN | apply Kd.R_drew)); exact HO386.out)) k_ hk))
            (case aO => exact (by (with_reducible repeat (first | apply Kd.R_alloc | apply Kd.R_drewN | apply Kd.R_drew)); exact Kd.R_mono HO_6.out (fun _ hk => hk.2)))
            (case aS => exact (bel_z HB.out))
            (case aL => have := LMc17.out; omega)
            intro v388 w21 ho hb hg hat; rw [← Ny387.out] at ho; replace BK382 := Aside0.mk (blk_grown (g := gb382) (o := .cells (c52A (rd_T52 l1 x24_2) (.slice A381_7 ((rd_T52 l1 x24_2).f3).length c381_7)) 52 (0, 0)) (by (with_reducible repeat (first | refine blk_drewN ?_ _ | refine blk_drew ?_ | refine blk_alloc ?_ _)); exact BK382.out) hg (Kd.R_ne HO_6.out BK382.out (by decide))); replace HO386 := Aside0.mk (Kd.R_after (ok := (fun _ => True)) (by (with_reducible repeat (first | apply Kd.R_alloc | apply Kd.R_drewN | apply Kd.R_drew)); exact HO386.out) hg hat); replace HB := Aside0.mk (hb); have HO389 := Aside0.mk (ho); clear HO_6; clear ho hb hg hat; refine hK.out _ _ ⟨(blk_cell BK382.out 0).trans rfl, (blk_cell BK382.out 1).trans rfl, (blk_cell BK382.out 2).trans rfl, (blk_cell BK382.out 3).trans rfl, (blk_cell BK382.out 4).trans rfl, (blk_cell BK382.out 5).trans rfl, (blk_cell BK382.out 6).trans rfl, (blk_cell BK382.out 7).trans rfl, (bc HB.out hw383_0), (bc HB.out hw383_1), (bc HB.out hw383_2), (bc HB.out hw383_3), (bc HB.out hw383_4), (bc HB.out hw383_5), (bc HB.out hw383_6), (bc HB.out hw383_7)⟩ (fun hHeld => ?_); clear hK K; refine norm_ (a' := ?_) ?_ ?_; rotate_left
            ·show Act.put _ (some 42) _ = _
             simp only [Act.put, sA, s0, sS, i64_w, i32_w]; rfl
            refine pure_ (i := 10) (N := some 6) (v := ?_) (a' := ?_) #[o1, o1, o1, o1, o1, o1, o1, o1, o1, o1, o1] rfl rfl (any_of HT_.out (by kernel_rfl)) (fun _ _ _ h => h) (Or.inl ⟨by rfl, ?_⟩) ?_ ?_; rotate_left
            ·intro w'; go_simp; with_reducible rfl
            rotate_left
            ·simp only [Act.put, sA, s0, sS, i64_w, i32_w]; rfl
            refine done_ (done_of HT_.out (by kernel_rfl)) ?_
            try go_wp2
            go_roundg k2
            case measure => have := HJ3.out; have := HK2.out; omega
            case rel => exact ⟨(y387), (wrap64 (x24_2 + 1)), (by first | rfl | (simp; done) | (simp [*]; done)), H', ⟨by have := HJ3.out; have := HK2.out; omega⟩, ⟨by (with_reducible repeat (first | apply Kd.R_alloc | apply Kd.R_drewN | apply Kd.R_drew)); exact Kd.R_mono HO389.out (fun _ hk => trivial)⟩, ⟨by repeat (first | (with_reducible first | exact HB.out | apply below_alloc | apply pw_below_drewN | apply below_drew1 | refine below_set ?_ GE382.out) | exact HB.out)⟩⟩
           ·rw [if_neg c17] at H; exact absurd H (by simp)
          ·rw [if_neg c15] at H; have c15b0 : decide (x24_2 < (l0.length : Int)) = false := decide_eq_false c15; clear c15
           by_cases c23 : x6_2.length < 517417236600
           ·rw [if_pos c23] at H; have LMc23 := Aside0.mk c23; clear c23
            obtain ⟨y390, hy390⟩ : ∃ y_ : List (S35), y_ = (x6_2 ++ [(⟨wrap64 (x24_2 + 1), 1, (rd_T52 l1 x24_2).f0, (rd_T52 l1 x24_2).f2, (⟨(rd_T52 l1 x24_2).f1.f0, (rd_T52 l1 x24_2).f1.f1, (rd_T52 l1 x24_2).f1.f2, (rd_T52 l1 x24_2).f1.f3, (rd_T52 l1 x24_2).f1.f4⟩ : S28), (⟨(⟨#[]⟩ : ByteArray), 0⟩ : S30), (⟨(⟨0, false, 0, (⟨#[]⟩ : ByteArray), 0⟩ : S28), (⟨0, false, 0, (⟨#[]⟩ : ByteArray), 0⟩ : S28), (⟨0, false, 0, (⟨#[]⟩ : ByteArray), 0⟩ : S28), 0, 0, 0⟩ : S33)⟩ : S35)]) := ⟨_, rfl⟩
            replace H : (invariant_Diff.l1 k2 l0 y390 x24_2 l1 (l1.length : Int) x24_2 ((rd_T52 l1 x24_2).f3) (((rd_T52 l1 x24_2).f3).length : Int) 0) = some (r1, r2) := by first | (rw [hy390]; with_reducible exact H) | (have H2_ := (Option.bind_some _ _).symm.trans H; rw [hy390]; with_reducible exact H2_) | (have H2_ := (Option.bind_some _ _).symm.trans H; with_reducible exact H2_) | with_reducible exact H | (rw [hy390]; exact H) | exact H
            have Ny390 := Aside0.mk hy390; clear hy390; have H' := Aside0.mk H; clear H; have p381 : 0 ≤ (x24_2 : Int) := of_decide_eq_true (by first | (with_reducible assumption) | assumption); have q381 : x24_2 < (l1.length : Int) := of_decide_eq_true (by first | (with_reducible assumption) | assumption); obtain ⟨ad381, A381_7, c381_7, e381, hW381, hl381_7, hi381_7⟩ := ats_T52 HR1.out x24_2 p381 q381; have hx381_7 := hW381 7 _ rfl
            cases e381
            replace hW381 := cells_below HB.out hW381; replace hx381_7 := bc HB.out hx381_7; have HR381_7 := Aside0.mk hi381_7; have HC381_7 := Aside0.mk hl381_7; clear hi381_7 hl381_7; have HW381 := Aside0.mk hW381; clear hW381; replace p381 := eq_true p381; replace q381 := eq_true q381
            go_wp2_with (first | ((with_reducible refine gate_dst (N := 28) rfl ?_); (try (refine gate_guard (by rfl) ?_; dsimp only)); refine load_cells_event ?hg (N := 28) ?hd (ty := 52) (x := ?lx402) (b := ?lb403) (cs := ?lc404) ?ho ?hc ?hx (n := 8) ?hn ?hi Try.underlying52 ?_; (case ho => rfl); (case hd => rfl); (case hg => rfl); (case hc => first | exact HW381.out | (intro j_ u_ hj_; have h_ := HW381.out j_ u_ hj_; simpa only [add_plain, add_at] using h_)); (case hx => first | rfl | (go_simp; done)); (case hn => rfl); (case hi => kernel_rfl)) | ((with_reducible refine gate_dst (N := 8) rfl ?_); refine allocstore_event1 ?hg (N := 8) ?hd (zs := z52A) (cs := (c52A (rd_T52 l1 x24_2) (.slice A381_7 ((rd_T52 l1 x24_2).f3).length c381_7))) (t := 52) (x := .tmp 28) (y := ?ly405) (v := (.int .i64 x24_2)) (M := 7) ?hr ?hgm ?hom ?hdm ?hMN ?hv ?hg2 ?hd2 ?ho ?hN ?hx (n := 8) ?hi ?hn ?hz ?h1 ?_; (case hd => rfl); (case hg => rfl); (case hgm => rfl); (case hom => first | (refine Or.inl ?_; rfl) | (refine Or.inr ?_; rfl)); (case hdm => rfl); (case hMN => decide); (case hv => intro _; rfl); (case hg2 => rfl); (case hd2 => rfl); (case ho => rfl); (case hN => first | (simp; done) | (simp [Act.put]; done) | (go_simp; done)); (case hx => intro _; rfl); (case hi => kernel_rfl); (case hn => rfl); (case hz => rfl); (case h1 => simp [c35A, c55A, c52A, c33A, c28A, Value.oneCell']; done); (case hr => first | (go_simp; done) | (go_simp; rfl)); intro gb382 hg w24 hbox hb; have n0_ := Aside0.mk (Kd.R_below (by (with_reducible repeat (first | apply Kd.R_alloc | apply Kd.R_drewN | apply Kd.R_drew)); exact HO_6.out) hb); have n1_ := Aside0.mk (bel_s HB.out hb); have n2_ := Aside0.mk (hbox); have n3_ := Aside0.mk ((by rw [hg]; exact (bel_z HB.out) : w.heap.size ≤ gb382)); have n4_ := Aside0.mk ((by rw [hg]; exact (bel_z HB.out) : w.heap.size ≤ gb382)); clear HO_6; clear HB; have HO_6 := n0_; have HB := n1_; have BK382 := n2_; have GW382 := n3_; have GE382 := n4_; clear n0_ n1_ n2_ n3_ n4_; clear hb hbox hg; have hcz25_0 : w24.cell? ⟨gb382, 0, none⟩ = some (.int .i64 ((rd_T52 l1 x24_2).f0)) := (blk_cell BK382.out 0).trans rfl; have hcz25_6 : w24.cell? ⟨gb382, 6, none⟩ = some (.bool ((rd_T52 l1 x24_2).f2)) := (blk_cell BK382.out 6).trans rfl) | ((with_reducible refine gate_dst (N := 49) rfl ?_); (try (refine gate_guard (by rfl) ?_; dsimp only)); refine load_cells_event ?hg (N := 49) ?hd (ty := 28) (x := ?lx406) (b := ⟨gb382, 1, none⟩) (cs := (c28L ((rd_T52 l1 x24_2).f1))) ?ho ?hc ?hx (n := 5) ?hn ?hi Try.underlying28 ?_; (case ho => rfl); (case hd => rfl); (case hg => rfl); (case hc => exact blk_c 1 5 BK382.out rfl); (case hx => first | rfl | (go_simp; done)); (case hn => rfl); (case hi => kernel_rfl)) | ((with_reducible refine gate_builtin (b := .append) (xs := #[.tmp 43, .tmp 53]) rfl ?_); at_builtin; refine Kd.R_append k35 (w0 := w) w.heap.size rfl (.tmp 43) (.tmp 53) 23 35 (.agg z35A) 272 rfl Try.underlying23 info35 rfl (by decide) (by omega) u6 x6_2 (⟨wrap64 (x24_2 + 1), 1, (rd_T52 l1 x24_2).f0, (rd_T52 l1 x24_2).f2, (⟨(rd_T52 l1 x24_2).f1.f0, (rd_T52 l1 x24_2).f1.f1, (rd_T52 l1 x24_2).f1.f2, (rd_T52 l1 x24_2).f1.f3, (rd_T52 l1 x24_2).f1.f4⟩ : S28), (⟨(⟨#[]⟩ : ByteArray), 0⟩ : S30), (⟨(⟨0, false, 0, (⟨#[]⟩ : ByteArray), 0⟩ : S28), (⟨0, false, 0, (⟨#[]⟩ : ByteArray), 0⟩ : S28), (⟨0, false, 0, (⟨#[]⟩ : ByteArray), 0⟩ : S28), 0, 0, 0⟩ : S33)⟩ : S35) [.int .i64 (wrap64 (x24_2 + 1)), .int .i64 1, .int .i64 ((rd_T52 l1 x24_2).f0), .bool ((rd_T52 l1 x24_2).f2), .int .i64 ((rd_T52 l1 x24_2).f1.f0), .bool ((rd_T52 l1 x24_2).f1.f1), .float .f64 ((rd_T52 l1 x24_2).f1.f2), .string ((rd_T52 l1 x24_2).f1.f3), .int .i64 ((rd_T52 l1 x24_2).f1.f4), .string (⟨#[]⟩ : ByteArray), .int .i64 0, .int .i64 0, .bool false, .float .f64 0, .string (⟨#[]⟩ : ByteArray), .int .i64 0, .int .i64 0, .bool false, .float .f64 0, .string (⟨#[]⟩ : ByteArray), .int .i64 0, .int .i64 0, .bool false, .float .f64 0, .string (⟨#[]⟩ : ByteArray), .int .i64 0, .int .i64 0, .int .i64 0, .int .i64 0] (fun _ => True) (fun _ => False) rfl rfl ?aP (fun _ hk => hk.elim) ?aF ?aO ?aB ?aS ?aL ?_; (case aP => exact k35_mkM _ _ _ (⟨wrap64 (x24_2 + 1), 1, (rd_T52 l1 x24_2).f0, (rd_T52 l1 x24_2).f2, (⟨(rd_T52 l1 x24_2).f1.f0, (rd_T52 l1 x24_2).f1.f1, (rd_T52 l1 x24_2).f1.f2, (rd_T52 l1 x24_2).f1.f3, (rd_T52 l1 x24_2).f1.f4⟩ : S28), (⟨(⟨#[]⟩ : ByteArray), 0⟩ : S30), (⟨(⟨0, false, 0, (⟨#[]⟩ : ByteArray), 0⟩ : S28), (⟨0, false, 0, (⟨#[]⟩ : ByteArray), 0⟩ : S28), (⟨0, false, 0, (⟨#[]⟩ : ByteArray), 0⟩ : S28), 0, 0, 0⟩ : S33)⟩ : S35)); (case aB => exact (by repeat (first | (with_reducible first | exact HB.out | apply below_alloc | apply pw_below_drewN | apply below_drew1 | refine below_set ?_ GE382.out) | exact HB.out))); (case aF => exact (fun _ _ => trivial)); (case aO => exact (by (with_reducible repeat (first | apply Kd.R_alloc | apply Kd.R_drewN | apply Kd.R_drew)); exact HO_6.out)); (case aS => exact (bel_z HB.out)); (case aL => have := LMc23.out; omega); intro v391 w26 ho hb hg hat; rw [← Ny390.out] at ho; replace BK382 := Aside0.mk (blk_grown (g := gb382) (o := .cells (c52A (rd_T52 l1 x24_2) (.slice A381_7 ((rd_T52 l1 x24_2).f3).length c381_7)) 52 (0, 0)) (by (with_reducible repeat (first | refine blk_drewN ?_ _ | refine blk_drew ?_ | refine blk_alloc ?_ _)); exact BK382.out) hg (Kd.R_ne HO_6.out BK382.out (by decide))); replace HB := Aside0.mk (hb); have HO392 := Aside0.mk (ho); clear HO_6; clear ho hb hg hat; have hcz27_7 : w26.cell? ⟨gb382, 7, none⟩ = some (.slice A381_7 ((rd_T52 l1 x24_2).f3).length c381_7) := (blk_cell BK382.out 7).trans rfl))
            go_loopg [6, 58] k2 (fun kq v6 v58 w' => ∃ (x6_3 : List (S35)) (x58_3 : Int), v58 = .int .i64 x58_3 ∧ Aside0 (invariant_Diff.l1 kq l0 x6_3 x24_2 l1 (l1.length : Int) x24_2 ((rd_T52 l1 x24_2).f3) (((rd_T52 l1 x24_2).f3).length : Int) x58_3 = some (r1, r2)) ∧ Aside0 (kq ≤ k2) ∧ Aside0 (Kd.R k35 35 w' w.heap.size (fun _ => True) v6 x6_3) ∧ Aside0 (w'.heap[gb382]? = some (.cells (c52A (rd_T52 l1 x24_2) ((.slice A381_7 ((rd_T52 l1 x24_2).f3).length c381_7))) 52 (0, 0))) ∧ Aside0 (Below w.heap.size w w'))
            case atStart => exact ⟨(y390), (0), (by first | rfl | (simp; done) | (simp [*]; done)), H', ⟨Nat.le_refl _⟩, ⟨by (with_reducible repeat (first | apply Kd.R_alloc | apply Kd.R_drewN | apply Kd.R_drew)); exact HO392.out⟩, ⟨by (with_reducible repeat (first | refine blk_drewN ?_ _ | refine blk_drew ?_ | refine blk_alloc ?_ _)); exact BK382.out⟩, ⟨by repeat (first | (with_reducible first | exact HB.out | apply below_alloc | apply pw_below_drewN | apply below_drew1 | refine below_set ?_ GE382.out) | exact HB.out)⟩⟩
            case round =>
             clear H'; (try clear c1); (try clear c2); (try clear p2); (try clear c3); (try clear c3b0); (try clear c3b1); (try clear p3); (try clear q3); (try clear hx3); (try clear c4); (try clear c6); (try clear p6); (try clear c11); (try clear c12); (try clear c12b0); (try clear c13); (try clear c13b0); (try clear c14); (try clear c14b0); (try clear c15); (try clear c15b0); (try clear c17); (try clear c21); (try clear c22); (try clear c23); (try clear hcz25_0); (try clear hcz25_6); (try clear hcz27_7); (try clear hx381_7); (try clear hx383_0); (try clear hx383_1); (try clear hx383_2); (try clear hx383_3); (try clear hx383_4); (try clear hx383_5); (try clear hx383_6); (try clear hx383_7); (try clear p2); (try clear p381); (try clear p383); (try clear q381); (try clear q383); obtain ⟨x6_3, x58_3, rfl, HA, HK3, HO_6, BK382, HB⟩ := hrel
             cases gk with
             | zero => exact absurd HA.out (by simp [invariant_Diff.l1])
             | succ k3 =>
              have H := HA.out; clear HA; simp only [invariant_Diff.l1] at H
              by_cases c28 : x58_3 < (((rd_T52 l1 x24_2).f3).length : Int)
              ·rw [if_pos c28] at H; have c28b0 : decide (x58_3 < (((rd_T52 l1 x24_2).f3).length : Int)) = true := decide_eq_true c28; clear c28
               by_cases c29 : 0 ≤ x58_3
               ·rw [if_pos c29] at H; have c29b0 : decide (0 ≤ x58_3) = true := decide_eq_true c29; clear c29
                by_cases c30 : x58_3 < (((rd_T52 l1 x24_2).f3).length : Int)
                ·rw [if_pos c30] at H; have c30b0 : decide (x58_3 < (((rd_T52 l1 x24_2).f3).length : Int)) = true := decide_eq_true c30; clear c30
                 by_cases c31 : x6_3.length < 517417236600
                 ·rw [if_pos c31] at H; have LMc31 := Aside0.mk c31; clear c31
                  obtain ⟨y395, hy395⟩ : ∃ y_ : List (S35), y_ = (x6_3 ++ [(⟨wrap64 (x24_2 + 1), 6, 0, false, (⟨0, false, 0, (⟨#[]⟩ : ByteArray), 0⟩ : S28), (⟨(rd_T55 ((rd_T52 l1 x24_2).f3) x58_3).f0.f0, (rd_T55 ((rd_T52 l1 x24_2).f3) x58_3).f0.f1⟩ : S30), (⟨(⟨(rd_T55 ((rd_T52 l1 x24_2).f3) x58_3).f1.f0.f0, (rd_T55 ((rd_T52 l1 x24_2).f3) x58_3).f1.f0.f1, (rd_T55 ((rd_T52 l1 x24_2).f3) x58_3).f1.f0.f2, (rd_T55 ((rd_T52 l1 x24_2).f3) x58_3).f1.f0.f3, (rd_T55 ((rd_T52 l1 x24_2).f3) x58_3).f1.f0.f4⟩ : S28), (⟨(rd_T55 ((rd_T52 l1 x24_2).f3) x58_3).f1.f1.f0, (rd_T55 ((rd_T52 l1 x24_2).f3) x58_3).f1.f1.f1, (rd_T55 ((rd_T52 l1 x24_2).f3) x58_3).f1.f1.f2, (rd_T55 ((rd_T52 l1 x24_2).f3) x58_3).f1.f1.f3, (rd_T55 ((rd_T52 l1 x24_2).f3) x58_3).f1.f1.f4⟩ : S28), (⟨(rd_T55 ((rd_T52 l1 x24_2).f3) x58_3).f1.f2.f0, (rd_T55 ((rd_T52 l1 x24_2).f3) x58_3).f1.f2.f1, (rd_T55 ((rd_T52 l1 x24_2).f3) x58_3).f1.f2.f2, (rd_T55 ((rd_T52 l1 x24_2).f3) x58_3).f1.f2.f3, (rd_T55 ((rd_T52 l1 x24_2).f3) x58_3).f1.f2.f4⟩ : S28), (rd_T55 ((rd_T52 l1 x24_2).f3) x58_3).f1.f3, (rd_T55 ((rd_T52 l1 x24_2).f3) x58_3).f1.f4, (rd_T55 ((rd_T52 l1 x24_2).f3) x58_3).f1.f5⟩ : S33)⟩ : S35)]) := ⟨_, rfl⟩
                  replace H : (invariant_Diff.l1 k3 l0 y395 x24_2 l1 (l1.length : Int) x24_2 ((rd_T52 l1 x24_2).f3) (((rd_T52 l1 x24_2).f3).length : Int) (wrap64 (x58_3 + 1))) = some (r1, r2) := by first | (rw [hy395]; with_reducible exact H) | (have H2_ := (Option.bind_some _ _).symm.trans H; rw [hy395]; with_reducible exact H2_) | (have H2_ := (Option.bind_some _ _).symm.trans H; with_reducible exact H2_) | with_reducible exact H | (rw [hy395]; exact H) | exact H
                  have Ny395 := Aside0.mk hy395; clear hy395; have H' := Aside0.mk H; clear H; have p393 : 0 ≤ (x58_3 : Int) := of_decide_eq_true (by first | (with_reducible assumption) | assumption); have q393 : x58_3 < (((rd_T52 l1 x24_2).f3).length : Int) := of_decide_eq_true (by first | (with_reducible assumption) | assumption); obtain ⟨ad393, e393, hW393⟩ := ats_T55 HR381_7.out x58_3 p393 q393
                  cases e393
                  replace hW393 := cells_below HB.out hW393; have HW393 := Aside0.mk hW393; clear hW393; replace p393 := eq_true p393; replace q393 := eq_true q393
                  go_wp2_with (first | ((with_reducible refine gate_dst (N := 61) rfl ?_); (try (refine gate_guard (by rfl) ?_; dsimp only)); refine load_cells_event ?hg (N := 61) ?hd (ty := 55) (x := ?lx407) (b := ?lb408) (cs := ?lc409) ?ho ?hc ?hx (n := 20) ?hn ?hi Try.underlying55 ?_; (case ho => rfl); (case hd => rfl); (case hg => rfl); (case hc => first | exact HW393.out | (intro j_ u_ hj_; have h_ := HW393.out j_ u_ hj_; simpa only [add_plain, add_at] using h_)); (case hx => first | rfl | (go_simp; done)); (case hn => rfl); (case hi => kernel_rfl)) | ((with_reducible refine gate_dst (N := 10) rfl ?_); refine allocstore_event ?hg (N := 10) ?hd (zs := z55A) (cs := (c55A (rd_T55 ((rd_T52 l1 x24_2).f3) x58_3))) (t := 55) (x := .tmp 61) ?hr ?hg2 ?hd2 ?ho ?hN ?hx (n := 20) ?hi ?hn ?hz ?h1 ?_; (case hd => rfl); (case hg => rfl); (case hg2 => rfl); (case hd2 => rfl); (case ho => rfl); (case hN => first | (simp; done) | (simp [Act.put]; done) | (go_simp; done)); (case hx => intro _; rfl); (case hi => kernel_rfl); (case hn => rfl); (case hz => rfl); (case h1 => simp [c35A, c55A, c52A, c33A, c28A, Value.oneCell']; done); (case hr => first | (go_simp; done) | (go_simp; rfl)); intro gb394 hg w32 hbox hb; have n0_ := Aside0.mk (Kd.R_below (by (with_reducible repeat (first | apply Kd.R_alloc | apply Kd.R_drewN | apply Kd.R_drew)); exact HO_6.out) hb); have n1_ := Aside0.mk (blk_b BK382.out hb); have n2_ := Aside0.mk (bel_s HB.out hb); have n3_ := Aside0.mk (hbox); have n4_ := Aside0.mk ((by rw [hg]; exact (bel_z HB.out) : w.heap.size ≤ gb394)); have n5_ := Aside0.mk ((by rw [hg]; exact (bel_z HB.out) : w.heap.size ≤ gb394)); have n6_ := Aside0.mk ((by rw [hg]; exact Nat.ne_of_lt (blk_l BK382.out) : gb382 ≠ gb394)); have n7_ := Aside0.mk ((by rw [hg]; exact Nat.ne_of_gt (blk_l BK382.out) : gb394 ≠ gb382)); clear HO_6; clear BK382; clear HB; have HO_6 := n0_; have BK382 := n1_; have HB := n2_; have BK394 := n3_; have GW394 := n4_; have GE394 := n5_; have NB382_394 := n6_; have NB394_382 := n7_; clear n0_ n1_ n2_ n3_ n4_ n5_ n6_ n7_; clear hb hbox hg; have hnb33 := NB394_382.out; have hnc33 := NB382_394.out) | ((with_reducible refine gate_dst (N := 66) rfl ?_); (try (refine gate_guard (by rfl) ?_; dsimp only)); refine load_cells_event ?hg (N := 66) ?hd (ty := 30) (x := ?lx410) (b := ⟨gb394, 0, none⟩) (cs := [.string ((rd_T55 ((rd_T52 l1 x24_2).f3) x58_3).f0.f0), .int .i64 ((rd_T55 ((rd_T52 l1 x24_2).f3) x58_3).f0.f1)]) ?ho ?hc ?hx (n := 2) ?hn ?hi Try.underlying30 ?_; (case ho => rfl); (case hd => rfl); (case hg => rfl); (case hc => exact blk_c 0 2 BK394.out rfl); (case hx => first | rfl | (go_simp; done)); (case hn => rfl); (case hi => kernel_rfl)) | ((with_reducible refine gate_dst (N := 68) rfl ?_); (try (refine gate_guard (by rfl) ?_; dsimp only)); refine load_cells_event ?hg (N := 68) ?hd (ty := 33) (x := ?lx411) (b := ⟨gb394, 2, none⟩) (cs := (c33L ((rd_T55 ((rd_T52 l1 x24_2).f3) x58_3).f1))) ?ho ?hc ?hx (n := 18) ?hn ?hi Try.underlying33 ?_; (case ho => rfl); (case hd => rfl); (case hg => rfl); (case hc => exact blk_c 2 18 BK394.out rfl); (case hx => first | rfl | (go_simp; done)); (case hn => rfl); (case hi => kernel_rfl)) | ((with_reducible refine gate_builtin (b := .append) (xs := #[.tmp 62, .tmp 70]) rfl ?_); at_builtin; refine Kd.R_append k35 (w0 := w) w.heap.size rfl (.tmp 62) (.tmp 70) 23 35 (.agg z35A) 272 rfl Try.underlying23 info35 rfl (by decide) (by omega) u6 x6_3 (⟨wrap64 (x24_2 + 1), 6, 0, false, (⟨0, false, 0, (⟨#[]⟩ : ByteArray), 0⟩ : S28), (⟨(rd_T55 ((rd_T52 l1 x24_2).f3) x58_3).f0.f0, (rd_T55 ((rd_T52 l1 x24_2).f3) x58_3).f0.f1⟩ : S30), (⟨(⟨(rd_T55 ((rd_T52 l1 x24_2).f3) x58_3).f1.f0.f0, (rd_T55 ((rd_T52 l1 x24_2).f3) x58_3).f1.f0.f1, (rd_T55 ((rd_T52 l1 x24_2).f3) x58_3).f1.f0.f2, (rd_T55 ((rd_T52 l1 x24_2).f3) x58_3).f1.f0.f3, (rd_T55 ((rd_T52 l1 x24_2).f3) x58_3).f1.f0.f4⟩ : S28), (⟨(rd_T55 ((rd_T52 l1 x24_2).f3) x58_3).f1.f1.f0, (rd_T55 ((rd_T52 l1 x24_2).f3) x58_3).f1.f1.f1, (rd_T55 ((rd_T52 l1 x24_2).f3) x58_3).f1.f1.f2, (rd_T55 ((rd_T52 l1 x24_2).f3) x58_3).f1.f1.f3, (rd_T55 ((rd_T52 l1 x24_2).f3) x58_3).f1.f1.f4⟩ : S28), (⟨(rd_T55 ((rd_T52 l1 x24_2).f3) x58_3).f1.f2.f0, (rd_T55 ((rd_T52 l1 x24_2).f3) x58_3).f1.f2.f1, (rd_T55 ((rd_T52 l1 x24_2).f3) x58_3).f1.f2.f2, (rd_T55 ((rd_T52 l1 x24_2).f3) x58_3).f1.f2.f3, (rd_T55 ((rd_T52 l1 x24_2).f3) x58_3).f1.f2.f4⟩ : S28), (rd_T55 ((rd_T52 l1 x24_2).f3) x58_3).f1.f3, (rd_T55 ((rd_T52 l1 x24_2).f3) x58_3).f1.f4, (rd_T55 ((rd_T52 l1 x24_2).f3) x58_3).f1.f5⟩ : S33)⟩ : S35) [.int .i64 (wrap64 (x24_2 + 1)), .int .i64 6, .int .i64 0, .bool false, .int .i64 0, .bool false, .float .f64 0, .string (⟨#[]⟩ : ByteArray), .int .i64 0, .string ((rd_T55 ((rd_T52 l1 x24_2).f3) x58_3).f0.f0), .int .i64 ((rd_T55 ((rd_T52 l1 x24_2).f3) x58_3).f0.f1), .int .i64 ((rd_T55 ((rd_T52 l1 x24_2).f3) x58_3).f1.f0.f0), .bool ((rd_T55 ((rd_T52 l1 x24_2).f3) x58_3).f1.f0.f1), .float .f64 ((rd_T55 ((rd_T52 l1 x24_2).f3) x58_3).f1.f0.f2), .string ((rd_T55 ((rd_T52 l1 x24_2).f3) x58_3).f1.f0.f3), .int .i64 ((rd_T55 ((rd_T52 l1 x24_2).f3) x58_3).f1.f0.f4), .int .i64 ((rd_T55 ((rd_T52 l1 x24_2).f3) x58_3).f1.f1.f0), .bool ((rd_T55 ((rd_T52 l1 x24_2).f3) x58_3).f1.f1.f1), .float .f64 ((rd_T55 ((rd_T52 l1 x24_2).f3) x58_3).f1.f1.f2), .string ((rd_T55 ((rd_T52 l1 x24_2).f3) x58_3).f1.f1.f3), .int .i64 ((rd_T55 ((rd_T52 l1 x24_2).f3) x58_3).f1.f1.f4), .int .i64 ((rd_T55 ((rd_T52 l1 x24_2).f3) x58_3).f1.f2.f0), .bool ((rd_T55 ((rd_T52 l1 x24_2).f3) x58_3).f1.f2.f1), .float .f64 ((rd_T55 ((rd_T52 l1 x24_2).f3) x58_3).f1.f2.f2), .string ((rd_T55 ((rd_T52 l1 x24_2).f3) x58_3).f1.f2.f3), .int .i64 ((rd_T55 ((rd_T52 l1 x24_2).f3) x58_3).f1.f2.f4), .int .i64 ((rd_T55 ((rd_T52 l1 x24_2).f3) x58_3).f1.f3), .int .i64 ((rd_T55 ((rd_T52 l1 x24_2).f3) x58_3).f1.f4), .int .i64 ((rd_T55 ((rd_T52 l1 x24_2).f3) x58_3).f1.f5)] (fun _ => True) (fun _ => False) rfl rfl ?aP (fun _ hk => hk.elim) ?aF ?aO ?aB ?aS ?aL ?_; (case aP => exact k35_mkM _ _ _ (⟨wrap64 (x24_2 + 1), 6, 0, false, (⟨0, false, 0, (⟨#[]⟩ : ByteArray), 0⟩ : S28), (⟨(rd_T55 ((rd_T52 l1 x24_2).f3) x58_3).f0.f0, (rd_T55 ((rd_T52 l1 x24_2).f3) x58_3).f0.f1⟩ : S30), (⟨(⟨(rd_T55 ((rd_T52 l1 x24_2).f3) x58_3).f1.f0.f0, (rd_T55 ((rd_T52 l1 x24_2).f3) x58_3).f1.f0.f1, (rd_T55 ((rd_T52 l1 x24_2).f3) x58_3).f1.f0.f2, (rd_T55 ((rd_T52 l1 x24_2).f3) x58_3).f1.f0.f3, (rd_T55 ((rd_T52 l1 x24_2).f3) x58_3).f1.f0.f4⟩ : S28), (⟨(rd_T55 ((rd_T52 l1 x24_2).f3) x58_3).f1.f1.f0, (rd_T55 ((rd_T52 l1 x24_2).f3) x58_3).f1.f1.f1, (rd_T55 ((rd_T52 l1 x24_2).f3) x58_3).f1.f1.f2, (rd_T55 ((rd_T52 l1 x24_2).f3) x58_3).f1.f1.f3, (rd_T55 ((rd_T52 l1 x24_2).f3) x58_3).f1.f1.f4⟩ : S28), (⟨(rd_T55 ((rd_T52 l1 x24_2).f3) x58_3).f1.f2.f0, (rd_T55 ((rd_T52 l1 x24_2).f3) x58_3).f1.f2.f1, (rd_T55 ((rd_T52 l1 x24_2).f3) x58_3).f1.f2.f2, (rd_T55 ((rd_T52 l1 x24_2).f3) x58_3).f1.f2.f3, (rd_T55 ((rd_T52 l1 x24_2).f3) x58_3).f1.f2.f4⟩ : S28), (rd_T55 ((rd_T52 l1 x24_2).f3) x58_3).f1.f3, (rd_T55 ((rd_T52 l1 x24_2).f3) x58_3).f1.f4, (rd_T55 ((rd_T52 l1 x24_2).f3) x58_3).f1.f5⟩ : S33)⟩ : S35)); (case aB => exact (by repeat (first | (with_reducible first | exact HB.out | apply below_alloc | apply pw_below_drewN | apply below_drew1 | refine below_set ?_ GE382.out | refine below_set ?_ GE394.out) | exact HB.out))); (case aF => exact (fun _ _ => trivial)); (case aO => exact (by (with_reducible repeat (first | apply Kd.R_alloc | apply Kd.R_drewN | apply Kd.R_drew)); exact HO_6.out)); (case aS => exact (bel_z HB.out)); (case aL => have := LMc31.out; omega); intro v396 w34 ho hb hg hat; rw [← Ny395.out] at ho; replace BK382 := Aside0.mk (blk_grown (g := gb382) (o := .cells (c52A (rd_T52 l1 x24_2) (.slice (some ad393) ((rd_T52 l1 x24_2).f3).length c381_7)) 52 (0, 0)) (by (with_reducible repeat (first | refine blk_drewN ?_ _ | refine blk_drew ?_ | refine blk_alloc ?_ _)); exact BK382.out) hg (Kd.R_ne HO_6.out BK382.out (by decide))); replace BK394 := Aside0.mk (blk_grown (g := gb394) (o := .cells (c55A (rd_T55 ((rd_T52 l1 x24_2).f3) x58_3)) 55 (0, 0)) (by (with_reducible repeat (first | refine blk_drewN ?_ _ | refine blk_drew ?_ | refine blk_alloc ?_ _)); exact BK394.out) hg (Kd.R_ne HO_6.out BK394.out (by decide))); replace HB := Aside0.mk (hb); have HO397 := Aside0.mk (ho); clear HO_6; clear ho hb hg hat))
                  go_roundg k3
                  case measure => have := HJ3.out; have := HK2.out; have := HK3.out; omega
                  case rel => exact ⟨(y395), (wrap64 (x58_3 + 1)), (by first | rfl | (simp; done) | (simp [*]; done)), H', ⟨by have := HJ3.out; have := HK2.out; have := HK3.out; omega⟩, ⟨by (with_reducible repeat (first | apply Kd.R_alloc | apply Kd.R_drewN | apply Kd.R_drew)); exact HO397.out⟩, ⟨by (with_reducible repeat (first | refine blk_drewN ?_ _ | refine blk_drew ?_ | refine blk_alloc ?_ _)); exact BK382.out⟩, ⟨by repeat (first | (with_reducible first | exact HB.out | apply below_alloc | apply pw_below_drewN | apply below_drew1 | refine below_set ?_ GE382.out | refine below_set ?_ GE394.out) | exact HB.out)⟩⟩
                 ·rw [if_neg c31] at H; exact absurd H (by simp)
                ·rw [if_neg c30] at H; exact absurd H (by simp)
               ·rw [if_neg c29] at H; exact absurd H (by simp)
              ·rw [if_neg c28] at H; have c28b0 : decide (x58_3 < (((rd_T52 l1 x24_2).f3).length : Int)) = false := decide_eq_false c28; clear c28; have H' := Aside0.mk H; clear H
               go_wp2
               go_roundg k3
               case measure => have := HJ3.out; have := HK2.out; have := HK3.out; omega
               case rel => exact ⟨(x6_3), (wrap64 (x24_2 + 1)), (by first | rfl | (simp; done) | (simp [*]; done)), H', ⟨by have := HJ3.out; have := HK2.out; have := HK3.out; omega⟩, ⟨by (with_reducible repeat (first | apply Kd.R_alloc | apply Kd.R_drewN | apply Kd.R_drew)); exact HO_6.out⟩, ⟨by repeat (first | (with_reducible first | exact HB.out | apply below_alloc | apply pw_below_drewN | apply below_drew1 | refine below_set ?_ GE382.out) | exact HB.out)⟩⟩
           ·rw [if_neg c23] at H; exact absurd H (by simp)
         ·rw [if_neg c14] at H; exact absurd H (by simp)
        ·rw [if_neg c13] at H; exact absurd H (by simp)
       ·rw [if_neg c12] at H; have c12b0 : decide (x24_2 < (l1.length : Int)) = false := decide_eq_false c12; clear c12; simp only [Option.some.injEq, Prod.mk.injEq] at H; obtain ⟨rfl, rfl⟩ := H
        go_wp2
        go_ret2
        exact ⟨_, by first | rfl | (simp [errW_none, errW_some] <;> rfl) | (simp [*, errW_none, errW_some] <;> rfl), by (with_reducible repeat (first | apply Kd.R_alloc | apply Kd.R_drewN | apply Kd.R_drew)); exact HO_6.out, by repeat (first | (with_reducible first | exact HB.out | apply below_alloc | apply pw_below_drewN | apply below_drew1) | exact HB.out)⟩

/-! ### cameoref10_Find: function 17 -/
def cameoref10_Find.l0 : Nat → List (S55) → Int → ByteArray → Int → Option (Int)
 | 0, _, _, _, _ => none
 | k + 1, x0, x5, x413000, x413001 => if x5 < (x0.length : Int) then (if 0 ≤ x5 then (if ((((rd_T55 x0 x5).f0.f0).toList) == x413000.toList && (((rd_T55 x0 x5).f0.f1) == x413001)) = true then (some x5) else (cameoref10_Find.l0 k x0 (wrap64 (x5 + 1)) x413000 x413001)) else (none)) else (some (-1))
def cameoref10_Find.f (k : Nat) (l0 : List (S55)) (a1_0 : ByteArray) (a1_1 : Int) : Option (Int) := cameoref10_Find.l0 k l0 0 a1_0 a1_1
theorem cameoref10_Find.mono_l : ∀ k, (∀ y0 y1 y2 y3, LeO (cameoref10_Find.l0 k y0 y1 y2 y3) (cameoref10_Find.l0 (k + 1) y0 y1 y2 y3))
 | 0 => fun _ _ _ _ r h => by simp [cameoref10_Find.l0] at h
 | k + 1 => by
  have ih0 := cameoref10_Find.mono_l k
  ·intro y0 y1 y2 y3
   unfold cameoref10_Find.l0
   repeat' first
   | (with_reducible exact ih0 _ _ _ _)
   | (with_reducible exact LeO.refl _)
   | (with_reducible exact LeO.none _)
   | (with_reducible refine LeO.ite ?_ ?_)
   | (with_reducible refine LeO.bind ?_ (fun _ => ?_))
   | exact ih0 _ _ _ _
   | exact LeO.none _
   | refine LeO.ite ?_ ?_
   | refine LeO.bind ?_ (fun _ => ?_)
theorem cameoref10_Find.mono : ∀ a0 a1 a2 k, LeO (cameoref10_Find.f k a0 a1 a2) (cameoref10_Find.f (k + 1) a0 a1 a2) := by
 intro a0 a1 a2 k
 have ih0 := cameoref10_Find.mono_l k
 unfold cameoref10_Find.f
 repeat' first
   | (with_reducible exact ih0 _ _ _ _)
   | (with_reducible exact LeO.refl _)
   | (with_reducible exact LeO.none _)
   | (with_reducible refine LeO.ite ?_ ?_)
   | (with_reducible refine LeO.bind ?_ (fun _ => ?_))
   | exact ih0 _ _ _ _
   | exact LeO.none _
   | refine LeO.ite ?_ ?_
   | refine LeO.bind ?_ (fun _ => ?_)
set_option maxHeartbeats 8000000 in
set_option maxRecDepth 100000 in
theorem cameoref10_Find.calls (k : Nat) (A0 : Option Addr) (c0 : Nat) (l0 : List (S55)) (a1_0 : ByteArray) (a1_1 : Int) (r : Int) (w : World) (hr0 : Kd.C k55 w A0 l0.length l0) (hc0 : l0.length ≤ c0) (h : cameoref10_Find.f k l0 a1_0 a1_1 = some r) :
  Calls Try.prog 17 #[.slice A0 l0.length c0, .agg #[.string a1_0, .int .i64 a1_1]] w fun e w' => e = .returned (.int .i64 r) ∧ Below w.heap.size w w' := by
 have hu30 := Try.underlying30; have HR0 := Aside0.mk hr0; have HC0 := Aside0.mk hc0; clear hr0 hc0; have HB := Aside0.mk (Below.refl w.heap.size w); have H : (cameoref10_Find.l0 k l0 0 a1_0 a1_1) = some r := h; clear h; have H' := Aside0.mk H; clear H
 go_enter Try.func17, Try.ntmps17
 go_wp2_with (first | ((with_reducible refine gate_dst (N := 3) rfl ?_); refine box_event ?hg (N := 3) ?hd (cs := #[.string a1_0, .int .i64 a1_1]) (t := 30) ?hr ?_; (case hd => rfl); (case hg => rfl); (case hr => first | (go_simp; done) | (go_simp; rfl)); intro gb412 hg w3 hbox hb; have n0_ := Aside0.mk (bel_s HB.out hb); have n1_ := Aside0.mk (hbox); have n2_ := Aside0.mk ((by rw [hg]; exact (bel_z HB.out) : w.heap.size ≤ gb412)); have n3_ := Aside0.mk ((by rw [hg]; exact (bel_z HB.out) : w.heap.size ≤ gb412)); clear HB; have HB := n0_; have BK412 := n1_; have GW412 := n2_; have GE412 := n3_; clear n0_ n1_ n2_ n3_; clear hb hbox hg))
 repeat (go_quiet (first | ((with_reducible refine gate_dst (N := 3) rfl ?_); refine box_event ?hg (N := 3) ?hd (cs := #[.string a1_0, .int .i64 a1_1]) (t := 30) ?hr ?_; (case hd => rfl); (case hg => rfl); (case hr => first | (go_simp; done) | (go_simp; rfl)); intro gb412 hg w3 hbox hb; have n0_ := Aside0.mk (bel_s HB.out hb); have n1_ := Aside0.mk (hbox); have n2_ := Aside0.mk ((by rw [hg]; exact (bel_z HB.out) : w.heap.size ≤ gb412)); have n3_ := Aside0.mk ((by rw [hg]; exact (bel_z HB.out) : w.heap.size ≤ gb412)); clear HB; have HB := n0_; have BK412 := n1_; have GW412 := n2_; have GE412 := n3_; clear n0_ n1_ n2_ n3_; clear hb hbox hg)); try go_wp2_with fail)
 go_loopg [5] k (fun kq v5 w' => ∃ (x5_1 : Int), v5 = .int .i64 x5_1 ∧ Aside0 (cameoref10_Find.l0 kq l0 x5_1 a1_0 a1_1 = some r) ∧ Aside0 (kq ≤ k) ∧ Aside0 (w'.heap[gb412]? = some (.cells #[.string a1_0, .int .i64 a1_1] 30 (0, 0))) ∧ Aside0 (Below w.heap.size w w'))
 case atStart => exact ⟨(0), (by first | rfl | (simp; done) | (simp [*]; done)), H', ⟨Nat.le_refl _⟩, ⟨by (with_reducible repeat (first | refine blk_drewN ?_ _ | refine blk_drew ?_ | refine blk_alloc ?_ _)); exact BK412.out⟩, ⟨by repeat (first | (with_reducible first | exact HB.out | apply below_alloc | apply pw_below_drewN | apply below_drew1 | refine below_set ?_ GE412.out) | exact HB.out)⟩⟩
 case round =>
  clear H'; (try clear c1); (try clear p2); obtain ⟨x5_1, rfl, HA, HK1, BK412, HB⟩ := hrel
  cases gk with
  | zero => exact absurd HA.out (by simp [cameoref10_Find.l0])
  | succ k1 =>
   have H := HA.out; clear HA; simp only [cameoref10_Find.l0] at H
   by_cases c4 : x5_1 < (l0.length : Int)
   ·rw [if_pos c4] at H; have c4b0 : decide (x5_1 < (l0.length : Int)) = true := decide_eq_true c4; clear c4
    by_cases c5 : 0 ≤ x5_1
    ·rw [if_pos c5] at H; have c5b0 : decide (0 ≤ x5_1) = true := decide_eq_true c5; clear c5
     by_cases c6 : ((((rd_T55 l0 x5_1).f0.f0).toList) == a1_0.toList && (((rd_T55 l0 x5_1).f0.f1) == a1_1)) = true
     ·rw [if_pos c6] at H; have c6b0 : ((((rd_T55 l0 x5_1).f0.f0).toList) == a1_0.toList && (((rd_T55 l0 x5_1).f0.f1) == a1_1)) = true := c6
      (try (have c6b1 : decide ((((rd_T55 l0 x5_1).f0.f0).toList) = a1_0.toList && (((rd_T55 l0 x5_1).f0.f1) == a1_1)) = true := by simpa using c6))
      (try (have c6b2 : ((((rd_T55 l0 x5_1).f0.f0).toList) == a1_0.toList && (((rd_T55 l0 x5_1).f0.f1) == a1_1)) = true := by first | exact (Bool.not_eq_false' _).mp c6b0 | simpa using c6))
      clear c6; obtain rfl := Option.some.inj H; have p413 : 0 ≤ (x5_1 : Int) := of_decide_eq_true (by first | (with_reducible assumption) | assumption); have q413 : x5_1 < (l0.length : Int) := of_decide_eq_true (by first | (with_reducible assumption) | assumption); obtain ⟨ad413, e413, hx413_0, hx413_1, _, _, _, _, _, _, _, _, _, _, _, _, _, _, _, _, _, _⟩ := at_T55 HR0.out x5_1 p413 q413
      cases e413
      replace hx413_0 := bc HB.out hx413_0; replace hx413_1 := bc HB.out hx413_1; replace p413 := eq_true p413; replace q413 := eq_true q413; have hcz7_0 : wr.cell? ⟨gb412, 0, none⟩ = some (.string a1_0) := (blk_cell BK412.out 0).trans rfl; have hcz7_1 : wr.cell? ⟨gb412, 1, none⟩ = some (.int .i64 a1_1) := (blk_cell BK412.out 1).trans rfl
      go_wp2
      repeat (go_quiet (fail); try go_wp2)
      go_ret
      exact ⟨by first | rfl | (simp [errW_none, errW_some] <;> rfl) | (simp [*, errW_none, errW_some] <;> rfl), by repeat (first | (with_reducible first | exact HB.out | apply below_alloc | apply pw_below_drewN | apply below_drew1 | refine below_set ?_ GE412.out) | exact HB.out)⟩
     ·rw [if_neg c6] at H
      have c6b0 : ((((rd_T55 l0 x5_1).f0.f0).toList) == a1_0.toList && (((rd_T55 l0 x5_1).f0.f1) == a1_1)) = false := by first | exact Bool.eq_false_iff.mpr c6 | simpa using c6
      (try (have c6b1 : decide ((((rd_T55 l0 x5_1).f0.f0).toList) = a1_0.toList && (((rd_T55 l0 x5_1).f0.f1) == a1_1)) = false := by simpa using c6))
      (try (have c6b2 : ((((rd_T55 l0 x5_1).f0.f0).toList) == a1_0.toList && (((rd_T55 l0 x5_1).f0.f1) == a1_1)) = false := by first | exact (Bool.not_eq_true' _).mp c6b0 | simpa using c6))
      (try (have c6b3 : ¬ ((((rd_T55 l0 x5_1).f0.f0).toList) = a1_0.toList && (((rd_T55 l0 x5_1).f0.f1) == a1_1)) := by simpa using c6))
      clear c6; have H' := Aside0.mk H; clear H; have p413 : 0 ≤ (x5_1 : Int) := of_decide_eq_true (by first | (with_reducible assumption) | assumption); have q413 : x5_1 < (l0.length : Int) := of_decide_eq_true (by first | (with_reducible assumption) | assumption); obtain ⟨ad413, e413, hx413_0, hx413_1, _, _, _, _, _, _, _, _, _, _, _, _, _, _, _, _, _, _⟩ := at_T55 HR0.out x5_1 p413 q413
      cases e413
      replace hx413_0 := bc HB.out hx413_0; replace hx413_1 := bc HB.out hx413_1; replace p413 := eq_true p413; replace q413 := eq_true q413; have hcz8_0 : wr.cell? ⟨gb412, 0, none⟩ = some (.string a1_0) := (blk_cell BK412.out 0).trans rfl; have hcz8_1 : wr.cell? ⟨gb412, 1, none⟩ = some (.int .i64 a1_1) := (blk_cell BK412.out 1).trans rfl
      go_wp2
      repeat (go_quiet (fail); try go_wp2)
      go_roundg k1
      case measure => have := HK1.out; omega
      case rel => exact ⟨(wrap64 (x5_1 + 1)), (by first | rfl | (simp; done) | (simp [*]; done)), H', ⟨by have := HK1.out; omega⟩, ⟨by (with_reducible repeat (first | refine blk_drewN ?_ _ | refine blk_drew ?_ | refine blk_alloc ?_ _)); exact BK412.out⟩, ⟨by repeat (first | (with_reducible first | exact HB.out | apply below_alloc | apply pw_below_drewN | apply below_drew1 | refine below_set ?_ GE412.out) | exact HB.out)⟩⟩
    ·rw [if_neg c5] at H; exact absurd H (by simp)
   ·rw [if_neg c4] at H; have c4b0 : decide (x5_1 < (l0.length : Int)) = false := decide_eq_false c4; clear c4; obtain rfl := Option.some.inj H
    go_wp2
    repeat (go_quiet (fail); try go_wp2)
    go_ret
    exact ⟨by first | rfl | (simp [errW_none, errW_some] <;> rfl) | (simp [*, errW_none, errW_some] <;> rfl), by repeat (first | (with_reducible first | exact HB.out | apply below_alloc | apply pw_below_drewN | apply below_drew1 | refine below_set ?_ GE412.out) | exact HB.out)⟩

end Go.Proofs.Ytaojjpdlfnphiaa.PInvariantDiffs
