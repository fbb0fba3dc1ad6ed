-- Printed by a program of this session over the translation; Lean checks it.
import Derived.Test.YtaojjpdlfnphiaaTInvariantDiffsx0
import Derived.Test.YtaojjpdlfnphiaaTInvariantDiffsx1
import Derived.Test.YtaojjpdlfnphiaaTInvariantDiffsx2
namespace Go.Proofs.Ytaojjpdlfnphiaa.PInvariantDiffs
open Go.RowKit Go.Proofs.YtaojjpdlfnphiaaW.PrintWords Go.Proofs.YtaojjpdlfnphiaaW.PrintLast Go.Proofs.YtaojjpdlfnphiaaW.PrintMore
attribute [local go_sem] max2_int min2_int max_two min_two max_three min_three max_four min_four   -- for this text's walks alone
set_option linter.unusedVariables false
set_option linter.unusedSimpArgs false

attribute [local go_sem high] eqA30
/-! ### cameoref10_SameShape: function 18 -/
mutual
def cameoref10_SameShape.j0 : Nat → Bool → Int → Int → Bool → Nat → ByteArray → Int → Bool → List (S55) → Int → Int → Bool → Nat → ByteArray → Int → Bool → List (S55) → Option (Bool)
 | 0, _, _, _, _, _, _, _, _, _, _, _, _, _, _, _, _, _ => none
 | k + 1, x34, x159000, x159001, x159002, x159003, x159004, x159005, x159006, x159007, x160000, x160001, x160002, x160003, x160004, x160005, x160006, x160007 => if x34 = true then (some false) else (cameoref10_SameShape.l0 k 0 x159000 x159001 x159002 x159003 x159004 x159005 x159006 x159007 x160000 x160001 x160002 x160003 x160004 x160005 x160006 x160007)
def cameoref10_SameShape.l0 : Nat → Int → Int → Int → Bool → Nat → ByteArray → Int → Bool → List (S55) → Int → Int → Bool → Nat → ByteArray → Int → Bool → List (S55) → Option (Bool)
 | 0, _, _, _, _, _, _, _, _, _, _, _, _, _, _, _, _, _ => none
 | k + 1, x5, x159000, x159001, x159002, x159003, x159004, x159005, x159006, x159007, x160000, x160001, x160002, x160003, x160004, x160005, x160006, x160007 => if x5 < (x159007.length : Int) then (if 0 ≤ x5 then (if x5 < (x160007.length : Int) then (if (!((((rd_T55 x159007 x5).f0.f0).toList) == (((rd_T55 x160007 x5).f0.f0).toList)) || (!(((rd_T55 x159007 x5).f0.f1) == ((rd_T55 x160007 x5).f0.f1)))) = true then (some false) else ((cameoref10_EqDesc.f ((rd_T55 x159007 x5).f1.f0.f0) ((rd_T55 x159007 x5).f1.f0.f1) ((rd_T55 x159007 x5).f1.f0.f2) ((rd_T55 x159007 x5).f1.f0.f3) ((rd_T55 x159007 x5).f1.f0.f4) ((rd_T55 x159007 x5).f1.f1.f0) ((rd_T55 x159007 x5).f1.f1.f1) ((rd_T55 x159007 x5).f1.f1.f2) ((rd_T55 x159007 x5).f1.f1.f3) ((rd_T55 x159007 x5).f1.f1.f4) ((rd_T55 x159007 x5).f1.f2.f0) ((rd_T55 x159007 x5).f1.f2.f1) ((rd_T55 x159007 x5).f1.f2.f2) ((rd_T55 x159007 x5).f1.f2.f3) ((rd_T55 x159007 x5).f1.f2.f4) ((rd_T55 x159007 x5).f1.f3) ((rd_T55 x159007 x5).f1.f4) ((rd_T55 x159007 x5).f1.f5) ((rd_T55 x160007 x5).f1.f0.f0) ((rd_T55 x160007 x5).f1.f0.f1) ((rd_T55 x160007 x5).f1.f0.f2) ((rd_T55 x160007 x5).f1.f0.f3) ((rd_T55 x160007 x5).f1.f0.f4) ((rd_T55 x160007 x5).f1.f1.f0) ((rd_T55 x160007 x5).f1.f1.f1) ((rd_T55 x160007 x5).f1.f1.f2) ((rd_T55 x160007 x5).f1.f1.f3) ((rd_T55 x160007 x5).f1.f1.f4) ((rd_T55 x160007 x5).f1.f2.f0) ((rd_T55 x160007 x5).f1.f2.f1) ((rd_T55 x160007 x5).f1.f2.f2) ((rd_T55 x160007 x5).f1.f2.f3) ((rd_T55 x160007 x5).f1.f2.f4) ((rd_T55 x160007 x5).f1.f3) ((rd_T55 x160007 x5).f1.f4) ((rd_T55 x160007 x5).f1.f5)).bind fun t165 => (if t165 = true then (cameoref10_SameShape.l0 k (wrap64 (x5 + 1)) x159000 x159001 x159002 x159003 x159004 x159005 x159006 x159007 x160000 x160001 x160002 x160003 x160004 x160005 x160006 x160007) else (some false)))) else (none)) else (none)) else (some true)
end
def cameoref10_SameShape.f (k : Nat) (a0_0 : Int) (a0_1 : Int) (a0_2 : Bool) (a0_3 : Nat) (a0_4 : ByteArray) (a0_5 : Int) (a0_6 : Bool) (l0_7 : List (S55)) (a1_0 : Int) (a1_1 : Int) (a1_2 : Bool) (a1_3 : Nat) (a1_4 : ByteArray) (a1_5 : Int) (a1_6 : Bool) (l1_7 : List (S55)) : Option (Bool) := if a0_0 = a1_0 then ((cameoref10_Eq.f a0_1 a0_2 a0_3 a0_4 a0_5 a1_1 a1_2 a1_3 a1_4 a1_5).bind fun t160 => (if t160 = true then (if (a0_6 != a1_6) = true then (cameoref10_SameShape.j0 k true a0_0 a0_1 a0_2 a0_3 a0_4 a0_5 a0_6 l0_7 a1_0 a1_1 a1_2 a1_3 a1_4 a1_5 a1_6 l1_7) else (cameoref10_SameShape.j0 k ((l0_7.length : Int) != (l1_7.length : Int)) a0_0 a0_1 a0_2 a0_3 a0_4 a0_5 a0_6 l0_7 a1_0 a1_1 a1_2 a1_3 a1_4 a1_5 a1_6 l1_7)) else (cameoref10_SameShape.j0 k true a0_0 a0_1 a0_2 a0_3 a0_4 a0_5 a0_6 l0_7 a1_0 a1_1 a1_2 a1_3 a1_4 a1_5 a1_6 l1_7))) else (cameoref10_SameShape.j0 k true a0_0 a0_1 a0_2 a0_3 a0_4 a0_5 a0_6 l0_7 a1_0 a1_1 a1_2 a1_3 a1_4 a1_5 a1_6 l1_7)
theorem cameoref10_SameShape.mono_l : ∀ k, (∀ y0 y1 y2 y3 y4 y5 y6 y7 y8 y9 y10 y11 y12 y13 y14 y15 y16, LeO (cameoref10_SameShape.j0 k y0 y1 y2 y3 y4 y5 y6 y7 y8 y9 y10 y11 y12 y13 y14 y15 y16) (cameoref10_SameShape.j0 (k + 1) y0 y1 y2 y3 y4 y5 y6 y7 y8 y9 y10 y11 y12 y13 y14 y15 y16)) ∧ (∀ y0 y1 y2 y3 y4 y5 y6 y7 y8 y9 y10 y11 y12 y13 y14 y15 y16, LeO (cameoref10_SameShape.l0 k y0 y1 y2 y3 y4 y5 y6 y7 y8 y9 y10 y11 y12 y13 y14 y15 y16) (cameoref10_SameShape.l0 (k + 1) y0 y1 y2 y3 y4 y5 y6 y7 y8 y9 y10 y11 y12 y13 y14 y15 y16))
 | 0 => ⟨fun _ _ _ _ _ _ _ _ _ _ _ _ _ _ _ _ _ r h => by simp [cameoref10_SameShape.j0] at h, fun _ _ _ _ _ _ _ _ _ _ _ _ _ _ _ _ _ r h => by simp [cameoref10_SameShape.l0] at h⟩
 | k + 1 => by
  obtain ⟨ih0, ih1⟩ := cameoref10_SameShape.mono_l k
  refine ⟨?_, ?_⟩
  ·intro y0 y1 y2 y3 y4 y5 y6 y7 y8 y9 y10 y11 y12 y13 y14 y15 y16
   unfold cameoref10_SameShape.j0
   repeat' first
   | (with_reducible exact ih0 _ _ _ _ _ _ _ _ _ _ _ _ _ _ _ _ _)
   | (with_reducible exact ih1 _ _ _ _ _ _ _ _ _ _ _ _ _ _ _ _ _)
   | (with_reducible exact LeO.refl _)
   | (with_reducible exact LeO.none _)
   | (with_reducible refine LeO.ite ?_ ?_)
   | (with_reducible refine LeO.bind ?_ (fun _ => ?_))
   | exact ih0 _ _ _ _ _ _ _ _ _ _ _ _ _ _ _ _ _
   | exact ih1 _ _ _ _ _ _ _ _ _ _ _ _ _ _ _ _ _
   | exact LeO.none _
   | refine LeO.ite ?_ ?_
   | refine LeO.bind ?_ (fun _ => ?_)
  ·intro y0 y1 y2 y3 y4 y5 y6 y7 y8 y9 y10 y11 y12 y13 y14 y15 y16
   unfold cameoref10_SameShape.l0
   repeat' first
   | (with_reducible exact ih0 _ _ _ _ _ _ _ _ _ _ _ _ _ _ _ _ _)
   | (with_reducible exact ih1 _ _ _ _ _ _ _ _ _ _ _ _ _ _ _ _ _)
   | (with_reducible exact LeO.refl _)
   | (with_reducible exact LeO.none _)
   | (with_reducible refine LeO.ite ?_ ?_)
   | (with_reducible refine LeO.bind ?_ (fun _ => ?_))
   | exact ih0 _ _ _ _ _ _ _ _ _ _ _ _ _ _ _ _ _
   | exact ih1 _ _ _ _ _ _ _ _ _ _ _ _ _ _ _ _ _
   | exact LeO.none _
   | refine LeO.ite ?_ ?_
   | refine LeO.bind ?_ (fun _ => ?_)
theorem cameoref10_SameShape.mono : ∀ a0 a1 a2 a3 a4 a5 a6 a7 a8 a9 a10 a11 a12 a13 a14 a15 k, LeO (cameoref10_SameShape.f k a0 a1 a2 a3 a4 a5 a6 a7 a8 a9 a10 a11 a12 a13 a14 a15) (cameoref10_SameShape.f (k + 1) a0 a1 a2 a3 a4 a5 a6 a7 a8 a9 a10 a11 a12 a13 a14 a15) := by
 intro a0 a1 a2 a3 a4 a5 a6 a7 a8 a9 a10 a11 a12 a13 a14 a15 k
 obtain ⟨ih0, ih1⟩ := cameoref10_SameShape.mono_l k
 unfold cameoref10_SameShape.f
 repeat' first
   | (with_reducible exact ih0 _ _ _ _ _ _ _ _ _ _ _ _ _ _ _ _ _)
   | (with_reducible exact ih1 _ _ _ _ _ _ _ _ _ _ _ _ _ _ _ _ _)
   | (with_reducible exact LeO.refl _)
   | (with_reducible exact LeO.none _)
   | (with_reducible refine LeO.ite ?_ ?_)
   | (with_reducible refine LeO.bind ?_ (fun _ => ?_))
   | exact ih0 _ _ _ _ _ _ _ _ _ _ _ _ _ _ _ _ _
   | exact ih1 _ _ _ _ _ _ _ _ _ _ _ _ _ _ _ _ _
   | exact LeO.none _
   | refine LeO.ite ?_ ?_
   | refine LeO.bind ?_ (fun _ => ?_)
def cameoref10_SameShape.T6 : Bool × List (List Nat × List Nat) := (true, [([], []), ([0], [0]), ([], []), ([1, 2], [1, 2]), ([3], [3]), ([4], [4]), ([], []), ([6], [6]), ([], []), ([7, 8], [7, 8]), ([9], [9]), ([10], [10]), ([5, 11], [5, 11]), ([12], [12]), ([13], [13]), ([14, 13], [13, 14]), ([13], [13]), ([15, 16, 13], [13, 15, 16]), ([17, 13], [13, 17]), ([18, 13], [13, 18]), ([13], [13]), ([20, 13], [13, 20]), ([13], [13]), ([21, 22, 13], [13, 21, 22]), ([23, 13], [13, 23]), ([24, 13], [13, 24]), ([19, 25, 13, 13], [13, 19, 25]), ([26, 13], [13, 26]), ([13, 27], [13, 27])])
def cameoref10_SameShape.B6 : List Nat := [0, 1, 0, 7, 15, 31, 0, 64, 0, 448, 960, 1984, 4095, 8191, 16383, 32767, 16383, 131071, 262143, 524287, 16383, 1064959, 16383, 7356415, 15745023, 32522239, 67108863, 134217727, 268435455]
theorem cameoref10_SameShape.tab6 : rtab .any (opsOf Try.f18 6) = cameoref10_SameShape.T6 := by kernel_rfl
theorem cameoref10_SameShape.bits6 : waitsOk cameoref10_SameShape.T6.2 cameoref10_SameShape.B6 = true := by kernel_rfl
set_option maxHeartbeats 8000000 in
set_option maxRecDepth 100000 in
theorem cameoref10_SameShape.calls (k : Nat) (a0_0 : Int) (a0_1 : Int) (a0_2 : Bool) (a0_3 : Nat) (a0_4 : ByteArray) (a0_5 : Int) (a0_6 : Bool) (A0_7 : Option Addr) (c0_7 : Nat) (l0_7 : List (S55)) (a1_0 : Int) (a1_1 : Int) (a1_2 : Bool) (a1_3 : Nat) (a1_4 : ByteArray) (a1_5 : Int) (a1_6 : Bool) (A1_7 : Option Addr) (c1_7 : Nat) (l1_7 : List (S55)) (r : Bool) (w : World) (hr0_7 : Kd.C k55 w A0_7 l0_7.length l0_7) (hc0_7 : l0_7.length ≤ c0_7) (hr1_7 : Kd.C k55 w A1_7 l1_7.length l1_7) (hc1_7 : l1_7.length ≤ c1_7) (h : cameoref10_SameShape.f k a0_0 a0_1 a0_2 a0_3 a0_4 a0_5 a0_6 l0_7 a1_0 a1_1 a1_2 a1_3 a1_4 a1_5 a1_6 l1_7 = some r) :
  Calls Try.prog 18 #[.agg #[.int .i64 a0_0, .int .i64 a0_1, .bool a0_2, .float .f64 a0_3, .string a0_4, .int .i64 a0_5, .bool a0_6, .slice A0_7 l0_7.length c0_7], .agg #[.int .i64 a1_0, .int .i64 a1_1, .bool a1_2, .float .f64 a1_3, .string a1_4, .int .i64 a1_5, .bool a1_6, .slice A1_7 l1_7.length c1_7]] w fun e w' => e = .returned (.bool r) ∧ Below w.heap.size w w' := by
 have hu52 := Try.underlying52; have hu28 := Try.underlying28; have hu30 := Try.underlying30; have hu33 := Try.underlying33; have HR0_7 := Aside0.mk hr0_7; have HC0_7 := Aside0.mk hc0_7; clear hr0_7 hc0_7; have HR1_7 := Aside0.mk hr1_7; have HC1_7 := Aside0.mk hc1_7; clear hr1_7 hc1_7; have HB := Aside0.mk (Below.refl w.heap.size w); have H : (if a0_0 = a1_0 then ((cameoref10_Eq.f a0_1 a0_2 a0_3 a0_4 a0_5 a1_1 a1_2 a1_3 a1_4 a1_5).bind fun t160 => (if t160 = true then (if (a0_6 != a1_6) = true then (cameoref10_SameShape.j0 k true a0_0 a0_1 a0_2 a0_3 a0_4 a0_5 a0_6 l0_7 a1_0 a1_1 a1_2 a1_3 a1_4 a1_5 a1_6 l1_7) else (cameoref10_SameShape.j0 k ((l0_7.length : Int) != (l1_7.length : Int)) a0_0 a0_1 a0_2 a0_3 a0_4 a0_5 a0_6 l0_7 a1_0 a1_1 a1_2 a1_3 a1_4 a1_5 a1_6 l1_7)) else (cameoref10_SameShape.j0 k true a0_0 a0_1 a0_2 a0_3 a0_4 a0_5 a0_6 l0_7 a1_0 a1_1 a1_2 a1_3 a1_4 a1_5 a1_6 l1_7))) else (cameoref10_SameShape.j0 k true a0_0 a0_1 a0_2 a0_3 a0_4 a0_5 a0_6 l0_7 a1_0 a1_1 a1_2 a1_3 a1_4 a1_5 a1_6 l1_7)) = some r := h; clear h; have HC3 := Aside0.mk H; clear H
 go_enter Try.func18, Try.ntmps18
 go_upto_region 1 with (first | ((with_reducible refine gate_dst (N := 2) rfl ?_); (try (refine gate_guard (by rfl) ?_; dsimp only)); refine box_event ?hg (N := 2) ?hd (cs := #[.int .i64 a0_0, .int .i64 a0_1, .bool a0_2, .float .f64 a0_3, .string a0_4, .int .i64 a0_5, .bool a0_6, .slice A0_7 l0_7.length c0_7]) (t := 52) ?hr ?_; (case hd => rfl); (case hg => rfl); (case hr => first | (go_simp; done) | (go_simp; rfl)); intro gb158 hg w4 hbox hb; have n0_ := Aside0.mk (bel_s HB.out hb); have n1_ := Aside0.mk (hbox); have n2_ := Aside0.mk ((by rw [hg]; exact (bel_z HB.out) : w.heap.size ≤ gb158)); have n3_ := Aside0.mk ((by rw [hg]; exact (bel_z HB.out) : w.heap.size ≤ gb158)); clear HB; have HB := n0_; have BK158 := n1_; have GW158 := n2_; have GE158 := n3_; clear n0_ n1_ n2_ n3_; clear hb hbox hg) | ((with_reducible refine gate_dst (N := 3) rfl ?_); (try (refine gate_guard (by rfl) ?_; dsimp only)); refine box_event ?hg (N := 3) ?hd (cs := #[.int .i64 a1_0, .int .i64 a1_1, .bool a1_2, .float .f64 a1_3, .string a1_4, .int .i64 a1_5, .bool a1_6, .slice A1_7 l1_7.length c1_7]) (t := 52) ?hr ?_; (case hd => rfl); (case hg => rfl); (case hr => first | (go_simp; done) | (go_simp; rfl)); intro gb159 hg w5 hbox hb; have n0_ := Aside0.mk (blk_b BK158.out hb); have n1_ := Aside0.mk (bel_s HB.out hb); have n2_ := Aside0.mk (hbox); have n3_ := Aside0.mk ((by rw [hg]; exact (bel_z HB.out) : w.heap.size ≤ gb159)); have n4_ := Aside0.mk ((by rw [hg]; exact (bel_z HB.out) : w.heap.size ≤ gb159)); have n5_ := Aside0.mk ((by rw [hg]; exact Nat.ne_of_lt (blk_l BK158.out) : gb158 ≠ gb159)); have n6_ := Aside0.mk ((by rw [hg]; exact Nat.ne_of_gt (blk_l BK158.out) : gb159 ≠ gb158)); clear BK158; clear HB; have BK158 := n0_; have HB := n1_; have BK159 := n2_; have GW159 := n3_; have GE159 := n4_; have NB158_159 := n5_; have NB159_158 := n6_; clear n0_ n1_ n2_ n3_ n4_ n5_ n6_; clear hb hbox hg))
 (try simp only [Act.put, List.setIfInBounds_toArray, List.set_cons_zero, List.set_cons_succ])
 go_cut [34] (fun v34 wc => ∃ (kq : Nat) (x34_2 : Bool), v34 = .bool x34_2 ∧ Aside0 (cameoref10_SameShape.j0 kq x34_2 a0_0 a0_1 a0_2 a0_3 a0_4 a0_5 a0_6 l0_7 a1_0 a1_1 a1_2 a1_3 a1_4 a1_5 a1_6 l1_7 = some r) ∧ Aside0 (kq ≤ k) ∧ Aside0 (wc.heap[gb158]? = some (.cells #[.int .i64 a0_0, .int .i64 a0_1, .bool a0_2, .float .f64 a0_3, .string a0_4, .int .i64 a0_5, .bool a0_6, (.slice A0_7 l0_7.length c0_7)] 52 (0, 0))) ∧ Aside0 (wc.heap[gb159]? = some (.cells #[.int .i64 a1_0, .int .i64 a1_1, .bool a1_2, .float .f64 a1_3, .string a1_4, .int .i64 a1_5, .bool a1_6, (.slice A1_7 l1_7.length c1_7)] 52 (0, 0))) ∧ Aside0 (Below w.heap.size w wc))
 case first =>
  have H := HC3.out; clear HC3
  by_cases c6 : a0_0 = a1_0
  ·rw [if_pos c6] at H; have c6b0 : (a0_0 == a1_0) = true := beq_iff_eq.mpr c6; have c6b1 : (a0_0 != a1_0) = false := bne_eq_false_iff_eq.mpr c6; clear c6
   (first | rw [c6b0] | (simp only [i64_w, i32_w]; rw [c6b0]) | rw [c6b2] | skip)
   replace H := Option.bind_eq_some_iff.mp H; obtain ⟨t160, A70, H⟩ := H; replace H : (if t160 = true then (if (a0_6 != a1_6) = true then (cameoref10_SameShape.j0 k true a0_0 a0_1 a0_2 a0_3 a0_4 a0_5 a0_6 l0_7 a1_0 a1_1 a1_2 a1_3 a1_4 a1_5 a1_6 l1_7) else (cameoref10_SameShape.j0 k ((l0_7.length : Int) != (l1_7.length : Int)) a0_0 a0_1 a0_2 a0_3 a0_4 a0_5 a0_6 l0_7 a1_0 a1_1 a1_2 a1_3 a1_4 a1_5 a1_6 l1_7)) else (cameoref10_SameShape.j0 k true a0_0 a0_1 a0_2 a0_3 a0_4 a0_5 a0_6 l0_7 a1_0 a1_1 a1_2 a1_3 a1_4 a1_5 a1_6 l1_7)) = some r := H; have A7 := Aside0.mk A70; clear A70
   by_cases c8 : t160 = true
   ·subst c8
    have H1 : (if (a0_6 != a1_6) = true then (cameoref10_SameShape.j0 k true a0_0 a0_1 a0_2 a0_3 a0_4 a0_5 a0_6 l0_7 a1_0 a1_1 a1_2 a1_3 a1_4 a1_5 a1_6 l1_7) else (cameoref10_SameShape.j0 k ((l0_7.length : Int) != (l1_7.length : Int)) a0_0 a0_1 a0_2 a0_3 a0_4 a0_5 a0_6 l0_7 a1_0 a1_1 a1_2 a1_3 a1_4 a1_5 a1_6 l1_7)) = some r := by rw [if_pos rfl] at H; exact H
    clear H; have H := H1; clear H1
    by_cases c9 : (a0_6 != a1_6) = true
    ·rw [if_pos c9] at H; have c9b0 : (a0_6 != a1_6) = true := c9
     (try (have c9b1 : decide (a0_6 = a1_6) = false := by simpa using c9))
     (try (have c9b2 : (a0_6 == a1_6) = false := by first | exact (Bool.not_eq_true' _).mp c9b0 | simpa using c9))
     (try (have c9b3 : ¬ (a0_6 = a1_6) := by simpa using c9))
     clear c9; have H' := Aside0.mk H; clear H; have hnb10 := NB158_159.out; have hnc10 := NB159_158.out; have hcz11_0 : w5.cell? ⟨gb158, 0, none⟩ = some (.int .i64 a0_0) := (blk_cell BK158.out 0).trans rfl; have hcz12_0 : w5.cell? ⟨gb159, 0, none⟩ = some (.int .i64 a1_0) := (blk_cell BK159.out 0).trans rfl
     go_wp2_with (first | ((with_reducible refine gate_dst (N := 13) rfl ?_); (try (refine gate_guard (by rfl) ?_; dsimp only)); (try (refine gate_guard (by rfl) ?_; dsimp only)); refine load_cells_event ?hg (N := 13) ?hd (ty := 28) (x := ?lx166) (b := ⟨gb158, 1, none⟩) (cs := [.int .i64 a0_1, .bool a0_2, .float .f64 a0_3, .string a0_4, .int .i64 a0_5]) ?ho ?hc ?hx (n := 5) ?hn ?hi Try.underlying28 ?_; (case ho => rfl); (case hd => rfl); (case hg => rfl); (case hc => exact blk_c 1 5 BK158.out rfl); (case hx => first | rfl | (go_simp; done)); (case hn => rfl); (case hi => kernel_rfl)) | ((with_reducible refine gate_dst (N := 15) rfl ?_); (try (refine gate_guard (by rfl) ?_; dsimp only)); (try (refine gate_guard (by rfl) ?_; dsimp only)); refine load_cells_event ?hg (N := 15) ?hd (ty := 28) (x := ?lx167) (b := ⟨gb159, 1, none⟩) (cs := [.int .i64 a1_1, .bool a1_2, .float .f64 a1_3, .string a1_4, .int .i64 a1_5]) ?ho ?hc ?hx (n := 5) ?hn ?hi Try.underlying28 ?_; (case ho => rfl); (case hd => rfl); (case hg => rfl); (case hc => exact blk_c 1 5 BK159.out rfl); (case hx => first | rfl | (go_simp; done)); (case hn => rfl); (case hi => kernel_rfl)) | (go_at_call 19; (with_reducible refine (cameoref10_Eq.calls a0_1 a0_2 a0_3 a0_4 a0_5 a1_1 a1_2 a1_3 a1_4 a1_5 true _ A7.out).mono ?_); rintro e w13 ⟨rfl, hb⟩; replace BK158 := Aside0.mk (blk_b BK158.out hb); replace BK159 := Aside0.mk (blk_b BK159.out hb); replace HB := Aside0.mk (bel_s HB.out hb); (try clear hb); (try clear hb2); (try clear hk); (try clear hi); have hcz14_6 : w13.cell? ⟨gb158, 6, none⟩ = some (.bool a0_6) := (blk_cell BK158.out 6).trans rfl; have hcz15_6 : w13.cell? ⟨gb159, 6, none⟩ = some (.bool a1_6) := (blk_cell BK159.out 6).trans rfl))
     go_meet
     case rel => exact ⟨_, (true), (by first | rfl | (simp; done) | (simp [*]; done)), H', ⟨by first | omega | exact Nat.le_refl _⟩, ⟨by (with_reducible repeat (first | refine blk_drewN ?_ _ | refine blk_drew ?_ | refine blk_alloc ?_ _)); exact BK158.out⟩, ⟨by (with_reducible repeat (first | refine blk_drewN ?_ _ | refine blk_drew ?_ | refine blk_alloc ?_ _)); exact BK159.out⟩, ⟨by repeat (first | (with_reducible first | exact HB.out | apply below_alloc | apply pw_below_drewN | apply below_drew1 | refine below_set ?_ GE158.out | refine below_set ?_ GE159.out) | exact HB.out)⟩⟩
    ·rw [if_neg c9] at H
     have c9b0 : (a0_6 != a1_6) = false := by first | exact Bool.eq_false_iff.mpr c9 | simpa using c9
     (try (have c9b1 : decide (a0_6 = a1_6) = true := by simpa using c9))
     (try (have c9b2 : (a0_6 == a1_6) = true := by first | exact (Bool.not_eq_false' _).mp c9b0 | simpa using c9))
     clear c9; have H' := Aside0.mk H; clear H; have hnb16 := NB158_159.out; have hnc16 := NB159_158.out; have hcz17_0 : w5.cell? ⟨gb158, 0, none⟩ = some (.int .i64 a0_0) := (blk_cell BK158.out 0).trans rfl; have hcz18_0 : w5.cell? ⟨gb159, 0, none⟩ = some (.int .i64 a1_0) := (blk_cell BK159.out 0).trans rfl
     go_wp2_with (first | ((with_reducible refine gate_dst (N := 13) rfl ?_); (try (refine gate_guard (by rfl) ?_; dsimp only)); (try (refine gate_guard (by rfl) ?_; dsimp only)); refine load_cells_event ?hg (N := 13) ?hd (ty := 28) (x := ?lx168) (b := ⟨gb158, 1, none⟩) (cs := [.int .i64 a0_1, .bool a0_2, .float .f64 a0_3, .string a0_4, .int .i64 a0_5]) ?ho ?hc ?hx (n := 5) ?hn ?hi Try.underlying28 ?_; (case ho => rfl); (case hd => rfl); (case hg => rfl); (case hc => exact blk_c 1 5 BK158.out rfl); (case hx => first | rfl | (go_simp; done)); (case hn => rfl); (case hi => kernel_rfl)) | ((with_reducible refine gate_dst (N := 15) rfl ?_); (try (refine gate_guard (by rfl) ?_; dsimp only)); (try (refine gate_guard (by rfl) ?_; dsimp only)); refine load_cells_event ?hg (N := 15) ?hd (ty := 28) (x := ?lx169) (b := ⟨gb159, 1, none⟩) (cs := [.int .i64 a1_1, .bool a1_2, .float .f64 a1_3, .string a1_4, .int .i64 a1_5]) ?ho ?hc ?hx (n := 5) ?hn ?hi Try.underlying28 ?_; (case ho => rfl); (case hd => rfl); (case hg => rfl); (case hc => exact blk_c 1 5 BK159.out rfl); (case hx => first | rfl | (go_simp; done)); (case hn => rfl); (case hi => kernel_rfl)) | (go_at_call 19; (with_reducible refine (cameoref10_Eq.calls a0_1 a0_2 a0_3 a0_4 a0_5 a1_1 a1_2 a1_3 a1_4 a1_5 true _ A7.out).mono ?_); rintro e w19 ⟨rfl, hb⟩; replace BK158 := Aside0.mk (blk_b BK158.out hb); replace BK159 := Aside0.mk (blk_b BK159.out hb); replace HB := Aside0.mk (bel_s HB.out hb); (try clear hb); (try clear hb2); (try clear hk); (try clear hi); have hcz20_6 : w19.cell? ⟨gb158, 6, none⟩ = some (.bool a0_6) := (blk_cell BK158.out 6).trans rfl; have hcz21_6 : w19.cell? ⟨gb159, 6, none⟩ = some (.bool a1_6) := (blk_cell BK159.out 6).trans rfl; have hcz20_7 : w19.cell? ⟨gb158, 7, none⟩ = some (.slice A0_7 l0_7.length c0_7) := (blk_cell BK158.out 7).trans rfl; have hcz21_7 : w19.cell? ⟨gb159, 7, none⟩ = some (.slice A1_7 l1_7.length c1_7) := (blk_cell BK159.out 7).trans rfl))
     go_meet
     case rel => exact ⟨_, (((l0_7.length : Int) != (l1_7.length : Int))), (by first | rfl | (simp; done) | (simp [*]; done)), H', ⟨by first | omega | exact Nat.le_refl _⟩, ⟨by (with_reducible repeat (first | refine blk_drewN ?_ _ | refine blk_drew ?_ | refine blk_alloc ?_ _)); exact BK158.out⟩, ⟨by (with_reducible repeat (first | refine blk_drewN ?_ _ | refine blk_drew ?_ | refine blk_alloc ?_ _)); exact BK159.out⟩, ⟨by repeat (first | (with_reducible first | exact HB.out | apply below_alloc | apply pw_below_drewN | apply below_drew1 | refine below_set ?_ GE158.out | refine below_set ?_ GE159.out) | exact HB.out)⟩⟩
   ·replace c8 := Bool.eq_false_iff.mpr c8; subst c8
    have H1 : (cameoref10_SameShape.j0 k true a0_0 a0_1 a0_2 a0_3 a0_4 a0_5 a0_6 l0_7 a1_0 a1_1 a1_2 a1_3 a1_4 a1_5 a1_6 l1_7) = some r := by rw [if_neg (show ¬ (false = true) by decide)] at H; exact H
    clear H; have H := H1; clear H1; have H' := Aside0.mk H; clear H; have hnb22 := NB158_159.out; have hnc22 := NB159_158.out; have hcz23_0 : w5.cell? ⟨gb158, 0, none⟩ = some (.int .i64 a0_0) := (blk_cell BK158.out 0).trans rfl; have hcz24_0 : w5.cell? ⟨gb159, 0, none⟩ = some (.int .i64 a1_0) := (blk_cell BK159.out 0).trans rfl
    go_wp2_with (first | ((with_reducible refine gate_dst (N := 13) rfl ?_); (try (refine gate_guard (by rfl) ?_; dsimp only)); (try (refine gate_guard (by rfl) ?_; dsimp only)); refine load_cells_event ?hg (N := 13) ?hd (ty := 28) (x := ?lx170) (b := ⟨gb158, 1, none⟩) (cs := [.int .i64 a0_1, .bool a0_2, .float .f64 a0_3, .string a0_4, .int .i64 a0_5]) ?ho ?hc ?hx (n := 5) ?hn ?hi Try.underlying28 ?_; (case ho => rfl); (case hd => rfl); (case hg => rfl); (case hc => exact blk_c 1 5 BK158.out rfl); (case hx => first | rfl | (go_simp; done)); (case hn => rfl); (case hi => kernel_rfl)) | ((with_reducible refine gate_dst (N := 15) rfl ?_); (try (refine gate_guard (by rfl) ?_; dsimp only)); (try (refine gate_guard (by rfl) ?_; dsimp only)); refine load_cells_event ?hg (N := 15) ?hd (ty := 28) (x := ?lx171) (b := ⟨gb159, 1, none⟩) (cs := [.int .i64 a1_1, .bool a1_2, .float .f64 a1_3, .string a1_4, .int .i64 a1_5]) ?ho ?hc ?hx (n := 5) ?hn ?hi Try.underlying28 ?_; (case ho => rfl); (case hd => rfl); (case hg => rfl); (case hc => exact blk_c 1 5 BK159.out rfl); (case hx => first | rfl | (go_simp; done)); (case hn => rfl); (case hi => kernel_rfl)) | (go_at_call 19; (with_reducible refine (cameoref10_Eq.calls a0_1 a0_2 a0_3 a0_4 a0_5 a1_1 a1_2 a1_3 a1_4 a1_5 false _ A7.out).mono ?_); rintro e w25 ⟨rfl, hb⟩; replace BK158 := Aside0.mk (blk_b BK158.out hb); replace BK159 := Aside0.mk (blk_b BK159.out hb); replace HB := Aside0.mk (bel_s HB.out hb); (try clear hb); (try clear hb2); (try clear hk); (try clear hi)))
    go_meet
    case rel => exact ⟨_, (true), (by first | rfl | (simp; done) | (simp [*]; done)), H', ⟨by first | omega | exact Nat.le_refl _⟩, ⟨by (with_reducible repeat (first | refine blk_drewN ?_ _ | refine blk_drew ?_ | refine blk_alloc ?_ _)); exact BK158.out⟩, ⟨by (with_reducible repeat (first | refine blk_drewN ?_ _ | refine blk_drew ?_ | refine blk_alloc ?_ _)); exact BK159.out⟩, ⟨by repeat (first | (with_reducible first | exact HB.out | apply below_alloc | apply pw_below_drewN | apply below_drew1 | refine below_set ?_ GE158.out | refine below_set ?_ GE159.out) | exact HB.out)⟩⟩
  ·rw [if_neg c6] at H; have c6b0 : (a0_0 == a1_0) = false := beq_eq_false_iff_ne.mpr c6; have c6b1 : (a0_0 != a1_0) = true := bne_iff_ne.mpr c6
   (first | rw [c6b0] | (simp only [i64_w, i32_w]; rw [c6b0]) | rw [c6b2] | skip)
   have H' := Aside0.mk H; clear H; have hnb26 := NB158_159.out; have hnc26 := NB159_158.out; have hcz27_0 : w5.cell? ⟨gb158, 0, none⟩ = some (.int .i64 a0_0) := (blk_cell BK158.out 0).trans rfl; have hcz28_0 : w5.cell? ⟨gb159, 0, none⟩ = some (.int .i64 a1_0) := (blk_cell BK159.out 0).trans rfl
   go_wp2
   go_meet
   case rel => exact ⟨_, (true), (by first | rfl | (simp; done) | (simp [*]; done)), H', ⟨by first | omega | exact Nat.le_refl _⟩, ⟨by (with_reducible repeat (first | refine blk_drewN ?_ _ | refine blk_drew ?_ | refine blk_alloc ?_ _)); exact BK158.out⟩, ⟨by (with_reducible repeat (first | refine blk_drewN ?_ _ | refine blk_drew ?_ | refine blk_alloc ?_ _)); exact BK159.out⟩, ⟨by repeat (first | (with_reducible first | exact HB.out | apply below_alloc | apply pw_below_drewN | apply below_drew1 | refine below_set ?_ GE158.out | refine below_set ?_ GE159.out) | exact HB.out)⟩⟩
 case rest =>
  clear HC3; (try clear c1); (try clear c2); (try clear p2); (try clear c6); (try clear c6b0); (try clear c6b1); (try clear c6b2); (try clear c8); (try clear c9); (try clear c9b0); (try clear c9b1); (try clear c9b2); (try clear c10); (try clear c16); (try clear c18); (try clear c22); (try clear c26); (try clear hcz11_0); (try clear hcz12_0); (try clear hcz14_6); (try clear hcz15_6); (try clear hcz17_0); (try clear hcz18_0); (try clear hcz20_6); (try clear hcz20_7); (try clear hcz21_6); (try clear hcz21_7); (try clear hcz23_0); (try clear hcz24_0); (try clear hcz27_0); (try clear hcz28_0); obtain ⟨kq, x34_2, rfl, HA, HJ2, BK158, BK159, HB⟩ := hcut
  cases kq with
  | zero => exact absurd HA.out (by simp [cameoref10_SameShape.j0])
  | succ kj2 =>
   have H := HA.out; clear HA; simp only [cameoref10_SameShape.j0] at H
   by_cases c29 : x34_2 = true
   ·subst c29
    have H1 : (some false) = some r := by rw [if_pos rfl] at H; exact H
    clear H; have H := H1; clear H1; obtain rfl := Option.some.inj H
    go_wp2
    go_ret
    exact ⟨by first | rfl | (simp [errW_none, errW_some] <;> rfl) | (simp [*, errW_none, errW_some] <;> rfl), by repeat (first | (with_reducible first | exact HB.out | apply below_alloc | apply pw_below_drewN | apply below_drew1 | refine below_set ?_ GE158.out | refine below_set ?_ GE159.out) | exact HB.out)⟩
   ·replace c29 := Bool.eq_false_iff.mpr c29; subst c29
    have H1 : (cameoref10_SameShape.l0 kj2 0 a0_0 a0_1 a0_2 a0_3 a0_4 a0_5 a0_6 l0_7 a1_0 a1_1 a1_2 a1_3 a1_4 a1_5 a1_6 l1_7) = some r := by rw [if_neg (show ¬ (false = true) by decide)] at H; exact H
    clear H; have H := H1; clear H1; have H' := Aside0.mk H; clear H
    go_wp2
    go_loopg [5] kj2 (fun kq v5 w' => ∃ (x5_2 : Int), v5 = .int .i64 x5_2 ∧ Aside0 (cameoref10_SameShape.l0 kq x5_2 a0_0 a0_1 a0_2 a0_3 a0_4 a0_5 a0_6 l0_7 a1_0 a1_1 a1_2 a1_3 a1_4 a1_5 a1_6 l1_7 = some r) ∧ Aside0 (kq ≤ kj2) ∧ Aside0 (w'.heap[gb158]? = some (.cells #[.int .i64 a0_0, .int .i64 a0_1, .bool a0_2, .float .f64 a0_3, .string a0_4, .int .i64 a0_5, .bool a0_6, (.slice A0_7 l0_7.length c0_7)] 52 (0, 0))) ∧ Aside0 (w'.heap[gb159]? = some (.cells #[.int .i64 a1_0, .int .i64 a1_1, .bool a1_2, .float .f64 a1_3, .string a1_4, .int .i64 a1_5, .bool a1_6, (.slice A1_7 l1_7.length c1_7)] 52 (0, 0))) ∧ Aside0 (Below w.heap.size w w'))
    case atStart => exact ⟨(0), (by first | rfl | (simp; done) | (simp [*]; done)), H', ⟨Nat.le_refl _⟩, ⟨by (with_reducible repeat (first | refine blk_drewN ?_ _ | refine blk_drew ?_ | refine blk_alloc ?_ _)); exact BK158.out⟩, ⟨by (with_reducible repeat (first | refine blk_drewN ?_ _ | refine blk_drew ?_ | refine blk_alloc ?_ _)); exact BK159.out⟩, ⟨by repeat (first | (with_reducible first | exact HB.out | apply below_alloc | apply pw_below_drewN | apply below_drew1 | refine below_set ?_ GE158.out | refine below_set ?_ GE159.out) | exact HB.out)⟩⟩
    case round =>
     clear H'; (try clear c1); (try clear c2); (try clear p2); (try clear c6); (try clear c6b0); (try clear c6b1); (try clear c6b2); (try clear c8); (try clear c9); (try clear c9b0); (try clear c9b1); (try clear c9b2); (try clear c10); (try clear c16); (try clear c18); (try clear c22); (try clear c26); (try clear c29); (try clear hcz11_0); (try clear hcz12_0); (try clear hcz14_6); (try clear hcz15_6); (try clear hcz17_0); (try clear hcz18_0); (try clear hcz20_6); (try clear hcz20_7); (try clear hcz21_6); (try clear hcz21_7); (try clear hcz23_0); (try clear hcz24_0); (try clear hcz27_0); (try clear hcz28_0); (try clear p2); obtain ⟨x5_2, rfl, HA, HK2, BK158, BK159, HB⟩ := hrel
     cases gk with
     | zero => exact absurd HA.out (by simp [cameoref10_SameShape.l0])
     | succ k2 =>
      have H := HA.out; clear HA; simp only [cameoref10_SameShape.l0] at H
      by_cases c30 : x5_2 < (l0_7.length : Int)
      ·rw [if_pos c30] at H; have c30b0 : decide (x5_2 < (l0_7.length : Int)) = true := decide_eq_true c30; clear c30
       by_cases c31 : 0 ≤ x5_2
       ·rw [if_pos c31] at H; have c31b0 : decide (0 ≤ x5_2) = true := decide_eq_true c31; clear c31
        by_cases c32 : x5_2 < (l1_7.length : Int)
        ·rw [if_pos c32] at H; have c32b0 : decide (x5_2 < (l1_7.length : Int)) = true := decide_eq_true c32; clear c32
         by_cases c33 : (!((((rd_T55 l0_7 x5_2).f0.f0).toList) == (((rd_T55 l1_7 x5_2).f0.f0).toList)) || (!(((rd_T55 l0_7 x5_2).f0.f1) == ((rd_T55 l1_7 x5_2).f0.f1)))) = true
         ·rw [if_pos c33] at H; have c33b0 : (!((((rd_T55 l0_7 x5_2).f0.f0).toList) == (((rd_T55 l1_7 x5_2).f0.f0).toList)) || (!(((rd_T55 l0_7 x5_2).f0.f1) == ((rd_T55 l1_7 x5_2).f0.f1)))) = true := c33; clear c33; obtain rfl := Option.some.inj H; have hnb34 := NB158_159.out; have hnc34 := NB159_158.out; have hcz35_7 : wr.cell? ⟨gb158, 7, none⟩ = some (.slice A0_7 l0_7.length c0_7) := (blk_cell BK158.out 7).trans rfl
          try go_wp2
          replace BK158 := Aside0.mk (blk_drew BK158.out); replace BK159 := Aside0.mk (blk_drew BK159.out); replace HB := Aside0.mk (below_drew1 HB.out); have p161 : 0 ≤ (x5_2 : Int) := of_decide_eq_true (by first | (with_reducible assumption) | assumption); have q161 : x5_2 < (l0_7.length : Int) := of_decide_eq_true (by first | (with_reducible assumption) | assumption); obtain ⟨ad161, e161, hx161_0, hx161_1, _, _, _, _, _, _, _, _, _, _, _, _, _, _, _, _, _, _⟩ := at_T55 HR0_7.out x5_2 p161 q161; have hw161_1 := hx161_1; have hw161_0 := hx161_0
          cases e161
          replace hx161_0 := bc HB.out hx161_0; replace hx161_1 := bc HB.out hx161_1; replace p161 := eq_true p161; replace q161 := eq_true q161; have p162 : 0 ≤ (x5_2 : Int) := of_decide_eq_true (by first | (with_reducible assumption) | assumption); have q162 : x5_2 < (l1_7.length : Int) := of_decide_eq_true (by first | (with_reducible assumption) | assumption); obtain ⟨ad162, e162, hx162_0, hx162_1, _, _, _, _, _, _, _, _, _, _, _, _, _, _, _, _, _, _⟩ := at_T55 HR1_7.out x5_2 p162 q162; have hw162_1 := hx162_1; have hw162_0 := hx162_0
          cases e162
          replace hx162_0 := bc HB.out hx162_0; replace hx162_1 := bc HB.out hx162_1; replace p162 := eq_true p162; replace q162 := eq_true q162; refine start_ (n := 29) (S := fun w' => w'.cell? ⟨gb158, 7, none⟩ = some (.slice (some ad161) l0_7.length c0_7) ∧ w'.cell? ⟨gb159, 7, none⟩ = some (.slice (some ad162) l1_7.length c1_7) ∧ w'.cell? (ad161.add ((x5_2).toNat * 20)) = some (.string ((rd_T55 l0_7 x5_2).f0.f0)) ∧ w'.cell? ⟨(ad161.add ((x5_2).toNat * 20)).block, (ad161.add ((x5_2).toNat * 20)).off + 1, none⟩ = some (.int .i64 ((rd_T55 l0_7 x5_2).f0.f1)) ∧ w'.cell? (ad162.add ((x5_2).toNat * 20)) = some (.string ((rd_T55 l1_7 x5_2).f0.f0)) ∧ w'.cell? ⟨(ad162.add ((x5_2).toNat * 20)).block, (ad162.add ((x5_2).toNat * 20)).off + 1, none⟩ = some (.int .i64 ((rd_T55 l1_7 x5_2).f0.f1))) (ds := []) #[o0, o0, o0, o0, o0, o0, o0, o0, o0, o0, o0, o0, o0, o0, o0, o0, o0, o0, o0, o0, o0, o0, o0, o0, o0, o0, o0, o0, o0] (by kernel_rfl) rfl rfl ⟨(blk_cell BK158.out 7).trans rfl, (blk_cell BK159.out 7).trans rfl, (bc HB.out hw161_0), (bc HB.out hw161_1), (bc HB.out hw162_0), (bc HB.out hw162_1)⟩ (fun hHeld => ?_); refine with_tabW cameoref10_SameShape.tab6 cameoref10_SameShape.bits6 (fun HT_ HW_ => ?_); generalize wr.drew = w36 at BK158 BK159 HB hx161_0 hx161_1 hx162_0 hx162_1 hHeld ⊢; refine pure_ (i := 0) (N := some 42) (v := ?_) (a' := ?_) #[o1, o0, o0, o0, o0, o0, o0, o0, o0, o0, o0, o0, o0, o0, o0, o0, o0, o0, o0, o0, o0, o0, o0, o0, o0, o0, o0, o0, o0] rfl rfl (any_of HT_.out (by kernel_rfl)) (fun _ _ _ h => h) (Or.inl ⟨by rfl, ?_⟩) ?_ ?_; rotate_left
          ·intro w'; go_simp; with_reducible rfl
          rotate_left
          ·simp only [Act.put, sA, s0, sS, i64_w, i32_w]; rfl
          refine pure_ (i := 2) (N := some 44) (v := ?_) (a' := ?_) #[o1, o0, o1, o0, o0, o0, o0, o0, o0, o0, o0, o0, o0, o0, o0, o0, o0, o0, o0, o0, o0, o0, o0, o0, o0, o0, o0, o0, o0] rfl rfl (any_of HT_.out (by kernel_rfl)) (fun _ _ _ h => h) (Or.inl ⟨by rfl, ?_⟩) ?_ ?_; rotate_left
          ·intro w'; go_simp; with_reducible rfl
          rotate_left
          ·simp only [Act.put, sA, s0, sS, i64_w, i32_w]; rfl
          refine pure_ (i := 6) (N := some 48) (v := ?_) (a' := ?_) #[o1, o0, o1, o0, o0, o0, o1, o0, o0, o0, o0, o0, o0, o0, o0, o0, o0, o0, o0, o0, o0, o0, o0, o0, o0, o0, o0, o0, o0] rfl rfl (any_of HT_.out (by kernel_rfl)) (fun _ _ _ h => h) (Or.inl ⟨by rfl, ?_⟩) ?_ ?_; rotate_left
          ·intro w'; go_simp; with_reducible rfl
          rotate_left
          ·simp only [Act.put, sA, s0, sS, i64_w, i32_w]; rfl
          refine pure_ (i := 8) (N := some 50) (v := ?_) (a' := ?_) #[o1, o0, o1, o0, o0, o0, o1, o0, o1, o0, o0, o0, o0, o0, o0, o0, o0, o0, o0, o0, o0, o0, o0, o0, o0, o0, o0, o0, o0] rfl rfl (any_of HT_.out (by kernel_rfl)) (fun _ _ _ h => h) (Or.inl ⟨by rfl, ?_⟩) ?_ ?_; rotate_left
          ·intro w'; go_simp; with_reducible rfl
          rotate_left
          ·simp only [Act.put, sA, s0, sS, i64_w, i32_w]; rfl
          refine take_ (i := 1) (N := some 43) (v := ?_) (a' := ?_) #[o1, o1, o1, o0, o0, o0, o1, o0, o1, o0, o0, o0, o0, o0, o0, o0, o0, o0, o0, o0, o0, o0, o0, o0, o0, o0, o0, o0, o0] rfl rfl (take_ofW HT_.out HW_.out (by kernel_rfl)) (fun _ _ _ h => h) (Or.inl ⟨by rfl, ?_⟩) hHeld ?_ ?_; rotate_left
          ·rintro w' ⟨s0, s1, s2, s3, s4, s5⟩
           go_simp; with_reducible rfl
          rotate_left
          ·simp only [Act.put, sA, s0, sS, i64_w, i32_w]; rfl
          refine pure_ (i := 3) (N := some 45) (v := ?_) (a' := ?_) #[o1, o1, o1, o1, o0, o0, o1, o0, o1, o0, o0, o0, o0, o0, o0, o0, o0, o0, o0, o0, o0, o0, o0, o0, o0, o0, o0, o0, o0] rfl rfl (any_of HT_.out (by kernel_rfl)) (fun _ _ _ h => h) (Or.inl ⟨by rfl, ?_⟩) ?_ ?_; rotate_left
          ·intro w'; go_simp; with_reducible rfl
          rotate_left
          ·simp only [Act.put, sA, s0, sS, i64_w, i32_w]; rfl
          refine pure_ (i := 4) (N := some 46) (v := ?_) (a' := ?_) #[o1, o1, o1, o1, o1, o0, o1, o0, o1, o0, o0, o0, o0, o0, o0, o0, o0, o0, o0, o0, o0, o0, o0, o0, o0, o0, o0, o0, o0] rfl rfl (any_of HT_.out (by kernel_rfl)) (fun _ _ _ h => h) (Or.inl ⟨by rfl, ?_⟩) ?_ ?_; rotate_left
          ·intro w'; go_simp; with_reducible rfl
          rotate_left
          ·simp only [Act.put, sA, s0, sS, i64_w, i32_w]; rfl
          refine take_ (i := 5) (N := some 47) (v := .agg #[.string ((rd_T55 l0_7 x5_2).f0.f0), .int .i64 ((rd_T55 l0_7 x5_2).f0.f1)]) (a' := ?_) #[o1, o1, o1, o1, o1, o1, o1, o0, o1, o0, o0, o0, o0, o0, o0, o0, o0, o0, o0, o0, o0, o0, o0, o0, o0, o0, o0, o0, o0] rfl rfl (take_ofW HT_.out HW_.out (by kernel_rfl)) (fun _ _ _ h => h) (Or.inl ⟨by rfl, ?_⟩) hHeld ?_ ?_
          ·rintro w' ⟨s0, s1, s2, s3, s4, s5⟩
           apply exec_load_cells Try.underlying30 2
           case ho => rfl
           case hx => rfl
           case hc => exact CellsAt.cons s2 (CellsAt.cons s3 (CellsAt.nil))
           case hn => rfl
           case hi => kernel_rfl
          rotate_left
          ·simp only [Act.put, sA, s0, sS, i64_w, i32_w]; rfl
          refine take_ (i := 7) (N := some 49) (v := ?_) (a' := ?_) #[o1, o1, o1, o1, o1, o1, o1, o1, o1, o0, o0, o0, o0, o0, o0, o0, o0, o0, o0, o0, o0, o0, o0, o0, o0, o0, o0, o0, o0] rfl rfl (take_ofW HT_.out HW_.out (by kernel_rfl)) (fun _ _ _ h => h) (Or.inl ⟨by rfl, ?_⟩) hHeld ?_ ?_; rotate_left
          ·rintro w' ⟨s0, s1, s2, s3, s4, s5⟩
           go_simp; with_reducible rfl
          rotate_left
          ·simp only [Act.put, sA, s0, sS, i64_w, i32_w]; rfl
          refine pure_ (i := 9) (N := some 51) (v := ?_) (a' := ?_) #[o1, o1, o1, o1, o1, o1, o1, o1, o1, o1, o0, o0, o0, o0, o0, o0, o0, o0, o0, o0, o0, o0, o0, o0, o0, o0, o0, o0, o0] rfl rfl (any_of HT_.out (by kernel_rfl)) (fun _ _ _ h => h) (Or.inl ⟨by rfl, ?_⟩) ?_ ?_; rotate_left
          ·intro w'; go_simp; with_reducible rfl
          rotate_left
          ·simp only [Act.put, sA, s0, sS, i64_w, i32_w]; rfl
          refine pure_ (i := 10) (N := some 52) (v := ?_) (a' := ?_) #[o1, o1, o1, o1, o1, o1, o1, o1, o1, o1, o1, o0, o0, o0, o0, o0, o0, o0, o0, o0, o0, o0, o0, o0, o0, o0, o0, o0, o0] rfl rfl (any_of HT_.out (by kernel_rfl)) (fun _ _ _ h => h) (Or.inl ⟨by rfl, ?_⟩) ?_ ?_; rotate_left
          ·intro w'; go_simp; with_reducible rfl
          rotate_left
          ·simp only [Act.put, sA, s0, sS, i64_w, i32_w]; rfl
          refine take_ (i := 11) (N := some 53) (v := .agg #[.string ((rd_T55 l1_7 x5_2).f0.f0), .int .i64 ((rd_T55 l1_7 x5_2).f0.f1)]) (a' := ?_) #[o1, o1, o1, o1, o1, o1, o1, o1, o1, o1, o1, o1, o0, o0, o0, o0, o0, o0, o0, o0, o0, o0, o0, o0, o0, o0, o0, o0, o0] rfl rfl (take_ofW HT_.out HW_.out (by kernel_rfl)) (fun _ _ _ h => h) (Or.inl ⟨by rfl, ?_⟩) hHeld ?_ ?_
          ·rintro w' ⟨s0, s1, s2, s3, s4, s5⟩
           apply exec_load_cells Try.underlying30 2
           case ho => rfl
           case hx => rfl
           case hc => exact CellsAt.cons s4 (CellsAt.cons s5 (CellsAt.nil))
           case hn => rfl
           case hi => kernel_rfl
          rotate_left
          ·simp only [Act.put, sA, s0, sS, i64_w, i32_w]; rfl
          refine pure_ (i := 12) (N := some 54) (v := ?_) (a' := ?_) #[o1, o1, o1, o1, o1, o1, o1, o1, o1, o1, o1, o1, o1, o0, o0, o0, o0, o0, o0, o0, o0, o0, o0, o0, o0, o0, o0, o0, o0] rfl rfl (any_of HT_.out (by kernel_rfl)) (fun _ _ _ h => h) (Or.inl ⟨by rfl, ?_⟩) ?_ ?_; rotate_left
          ·intro w'; go_simp; with_reducible rfl
          rotate_left
          ·simp only [Act.put, sA, s0, sS, i64_w, i32_w]; rfl
          refine pure_ (i := 13) (N := some 55) (v := ?_) (a' := ?_) #[o1, o1, o1, o1, o1, o1, o1, o1, o1, o1, o1, o1, o1, o1, o0, o0, o0, o0, o0, o0, o0, o0, o0, o0, o0, o0, o0, o0, o0] rfl rfl (any_of HT_.out (by kernel_rfl)) (fun _ _ _ h => h) (Or.inl ⟨by rfl, ?_⟩) ?_ ?_; rotate_left
          ·intro w'; go_simp; with_reducible rfl
          rotate_left
          ·simp only [Act.put, sA, s0, sS, i64_w, i32_w]; rfl
          refine pure_ (i := 14) (N := some 56) (v := undef) (a' := ?_) #[o1, o1, o1, o1, o1, o1, o1, o1, o1, o1, o1, o1, o1, o1, o1, o0, o0, o0, o0, o0, o0, o0, o0, o0, o0, o0, o0, o0, o0] rfl rfl (any_of HT_.out (by kernel_rfl)) (fun _ _ _ h => h) (Or.inr ⟨by rfl, rfl⟩) ?_ ?_; rotate_left
          ·simp only [Act.put, sA, s0, sS, i64_w, i32_w]; rfl
          refine pure_ (i := 15) (N := some 57) (v := undef) (a' := ?_) #[o1, o1, o1, o1, o1, o1, o1, o1, o1, o1, o1, o1, o1, o1, o1, o1, o0, o0, o0, o0, o0, o0, o0, o0, o0, o0, o0, o0, o0] rfl rfl (any_of HT_.out (by kernel_rfl)) (fun _ _ _ h => h) (Or.inr ⟨by rfl, rfl⟩) ?_ ?_; rotate_left
          ·simp only [Act.put, sA, s0, sS, i64_w, i32_w]; rfl
          refine pure_ (i := 16) (N := some 58) (v := undef) (a' := ?_) #[o1, o1, o1, o1, o1, o1, o1, o1, o1, o1, o1, o1, o1, o1, o1, o1, o1, o0, o0, o0, o0, o0, o0, o0, o0, o0, o0, o0, o0] rfl rfl (any_of HT_.out (by kernel_rfl)) (fun _ _ _ h => h) (Or.inr ⟨by rfl, rfl⟩) ?_ ?_; rotate_left
          ·simp only [Act.put, sA, s0, sS, i64_w, i32_w]; rfl
          refine pure_ (i := 17) (N := some 59) (v := undef) (a' := ?_) #[o1, o1, o1, o1, o1, o1, o1, o1, o1, o1, o1, o1, o1, o1, o1, o1, o1, o1, o0, o0, o0, o0, o0, o0, o0, o0, o0, o0, o0] rfl rfl (any_of HT_.out (by kernel_rfl)) (fun _ _ _ h => h) (Or.inr ⟨by rfl, rfl⟩) ?_ ?_; rotate_left
          ·simp only [Act.put, sA, s0, sS, i64_w, i32_w]; rfl
          refine pure_ (i := 18) (N := some 60) (v := undef) (a' := ?_) #[o1, o1, o1, o1, o1, o1, o1, o1, o1, o1, o1, o1, o1, o1, o1, o1, o1, o1, o1, o0, o0, o0, o0, o0, o0, o0, o0, o0, o0] rfl rfl (any_of HT_.out (by kernel_rfl)) (fun _ _ _ h => h) (Or.inr ⟨by rfl, rfl⟩) ?_ ?_; rotate_left
          ·simp only [Act.put, sA, s0, sS, i64_w, i32_w]; rfl
          refine pure_ (i := 19) (N := some 61) (v := undef) (a' := ?_) #[o1, o1, o1, o1, o1, o1, o1, o1, o1, o1, o1, o1, o1, o1, o1, o1, o1, o1, o1, o1, o0, o0, o0, o0, o0, o0, o0, o0, o0] rfl rfl (any_of HT_.out (by kernel_rfl)) (fun _ _ _ h => h) (Or.inr ⟨by rfl, rfl⟩) ?_ ?_; rotate_left
          ·simp only [Act.put, sA, s0, sS, i64_w, i32_w]; rfl
          refine pure_ (i := 20) (N := some 62) (v := undef) (a' := ?_) #[o1, o1, o1, o1, o1, o1, o1, o1, o1, o1, o1, o1, o1, o1, o1, o1, o1, o1, o1, o1, o1, o0, o0, o0, o0, o0, o0, o0, o0] rfl rfl (any_of HT_.out (by kernel_rfl)) (fun _ _ _ h => h) (Or.inr ⟨by rfl, rfl⟩) ?_ ?_; rotate_left
          ·simp only [Act.put, sA, s0, sS, i64_w, i32_w]; rfl
          refine pure_ (i := 21) (N := some 63) (v := undef) (a' := ?_) #[o1, o1, o1, o1, o1, o1, o1, o1, o1, o1, o1, o1, o1, o1, o1, o1, o1, o1, o1, o1, o1, o1, o0, o0, o0, o0, o0, o0, o0] rfl rfl (any_of HT_.out (by kernel_rfl)) (fun _ _ _ h => h) (Or.inr ⟨by rfl, rfl⟩) ?_ ?_; rotate_left
          ·simp only [Act.put, sA, s0, sS, i64_w, i32_w]; rfl
          refine pure_ (i := 22) (N := some 64) (v := undef) (a' := ?_) #[o1, o1, o1, o1, o1, o1, o1, o1, o1, o1, o1, o1, o1, o1, o1, o1, o1, o1, o1, o1, o1, o1, o1, o0, o0, o0, o0, o0, o0] rfl rfl (any_of HT_.out (by kernel_rfl)) (fun _ _ _ h => h) (Or.inr ⟨by rfl, rfl⟩) ?_ ?_; rotate_left
          ·simp only [Act.put, sA, s0, sS, i64_w, i32_w]; rfl
          refine pure_ (i := 23) (N := some 65) (v := undef) (a' := ?_) #[o1, o1, o1, o1, o1, o1, o1, o1, o1, o1, o1, o1, o1, o1, o1, o1, o1, o1, o1, o1, o1, o1, o1, o1, o0, o0, o0, o0, o0] rfl rfl (any_of HT_.out (by kernel_rfl)) (fun _ _ _ h => h) (Or.inr ⟨by rfl, rfl⟩) ?_ ?_; rotate_left
          ·simp only [Act.put, sA, s0, sS, i64_w, i32_w]; rfl
          refine pure_ (i := 24) (N := some 66) (v := undef) (a' := ?_) #[o1, o1, o1, o1, o1, o1, o1, o1, o1, o1, o1, o1, o1, o1, o1, o1, o1, o1, o1, o1, o1, o1, o1, o1, o1, o0, o0, o0, o0] rfl rfl (any_of HT_.out (by kernel_rfl)) (fun _ _ _ h => h) (Or.inr ⟨by rfl, rfl⟩) ?_ ?_; rotate_left
          ·simp only [Act.put, sA, s0, sS, i64_w, i32_w]; rfl
          refine pure_ (i := 25) (N := some 67) (v := undef) (a' := ?_) #[o1, o1, o1, o1, o1, o1, o1, o1, o1, o1, o1, o1, o1, o1, o1, o1, o1, o1, o1, o1, o1, o1, o1, o1, o1, o1, o0, o0, o0] rfl rfl (any_of HT_.out (by kernel_rfl)) (fun _ _ _ h => h) (Or.inr ⟨by rfl, rfl⟩) ?_ ?_; rotate_left
          ·simp only [Act.put, sA, s0, sS, i64_w, i32_w]; rfl
          refine pure_ (i := 26) (N := some 68) (v := undef) (a' := ?_) #[o1, o1, o1, o1, o1, o1, o1, o1, o1, o1, o1, o1, o1, o1, o1, o1, o1, o1, o1, o1, o1, o1, o1, o1, o1, o1, o1, o0, o0] rfl rfl (any_of HT_.out (by kernel_rfl)) (fun _ _ _ h => h) (Or.inr ⟨by rfl, rfl⟩) ?_ ?_; rotate_left
          ·simp only [Act.put, sA, s0, sS, i64_w, i32_w]; rfl
          refine pure_ (i := 27) (N := some 69) (v := undef) (a' := ?_) #[o1, o1, o1, o1, o1, o1, o1, o1, o1, o1, o1, o1, o1, o1, o1, o1, o1, o1, o1, o1, o1, o1, o1, o1, o1, o1, o1, o1, o0] rfl rfl (any_of HT_.out (by kernel_rfl)) (fun _ _ _ h => h) (Or.inr ⟨by rfl, rfl⟩) ?_ ?_; rotate_left
          ·simp only [Act.put, sA, s0, sS, i64_w, i32_w]; rfl
          refine pure_ (i := 28) (N := some 70) (v := ?_) (a' := ?_) #[o1, o1, o1, o1, o1, o1, o1, o1, o1, o1, o1, o1, o1, o1, o1, o1, o1, o1, o1, o1, o1, o1, o1, o1, o1, o1, o1, o1, o1] rfl rfl (any_of HT_.out (by kernel_rfl)) (fun _ _ _ h => h) (Or.inl ⟨by rfl, ?_⟩) ?_ ?_; rotate_left
          ·intro w'; go_simp; with_reducible rfl
          rotate_left
          ·simp only [Act.put, sA, s0, sS, i64_w, i32_w]; rfl
          refine done_ (done_of HT_.out (by kernel_rfl)) ?_
          try go_wp2
          go_ret
          exact ⟨by first | rfl | (simp [errW_none, errW_some] <;> rfl) | (simp [*, errW_none, errW_some] <;> rfl), by repeat (first | (with_reducible first | exact HB.out | apply below_alloc | apply pw_below_drewN | apply below_drew1 | refine below_set ?_ GE158.out | refine below_set ?_ GE159.out) | exact HB.out)⟩
         ·rw [if_neg c33] at H
          have c33b0 : (!((((rd_T55 l0_7 x5_2).f0.f0).toList) == (((rd_T55 l1_7 x5_2).f0.f0).toList)) || (!(((rd_T55 l0_7 x5_2).f0.f1) == ((rd_T55 l1_7 x5_2).f0.f1)))) = false := by first | exact Bool.eq_false_iff.mpr c33 | simpa using c33
          clear c33; replace H := Option.bind_eq_some_iff.mp H; obtain ⟨t165, A370, H⟩ := H; replace H : (if t165 = true then (cameoref10_SameShape.l0 k2 (wrap64 (x5_2 + 1)) a0_0 a0_1 a0_2 a0_3 a0_4 a0_5 a0_6 l0_7 a1_0 a1_1 a1_2 a1_3 a1_4 a1_5 a1_6 l1_7) else (some false)) = some r := H; have A37 := Aside0.mk A370; clear A370
          by_cases c38 : t165 = true
          ·subst c38
           have H1 : (cameoref10_SameShape.l0 k2 (wrap64 (x5_2 + 1)) a0_0 a0_1 a0_2 a0_3 a0_4 a0_5 a0_6 l0_7 a1_0 a1_1 a1_2 a1_3 a1_4 a1_5 a1_6 l1_7) = some r := by rw [if_pos rfl] at H; exact H
           clear H; have H := H1; clear H1; have H' := Aside0.mk H; clear H; have hnb39 := NB158_159.out; have hnc39 := NB159_158.out; have hcz40_7 : wr.cell? ⟨gb158, 7, none⟩ = some (.slice A0_7 l0_7.length c0_7) := (blk_cell BK158.out 7).trans rfl
           try go_wp2
           replace BK158 := Aside0.mk (blk_drew BK158.out); replace BK159 := Aside0.mk (blk_drew BK159.out); replace HB := Aside0.mk (below_drew1 HB.out); have p161 : 0 ≤ (x5_2 : Int) := of_decide_eq_true (by first | (with_reducible assumption) | assumption); have q161 : x5_2 < (l0_7.length : Int) := of_decide_eq_true (by first | (with_reducible assumption) | assumption); obtain ⟨ad161, e161, hx161_0, hx161_1, _, _, _, _, _, _, _, _, _, _, _, _, _, _, _, _, _, _⟩ := at_T55 HR0_7.out x5_2 p161 q161; have hw161_1 := hx161_1; have hw161_0 := hx161_0
           cases e161
           replace hx161_0 := bc HB.out hx161_0; replace hx161_1 := bc HB.out hx161_1; replace p161 := eq_true p161; replace q161 := eq_true q161; have p162 : 0 ≤ (x5_2 : Int) := of_decide_eq_true (by first | (with_reducible assumption) | assumption); have q162 : x5_2 < (l1_7.length : Int) := of_decide_eq_true (by first | (with_reducible assumption) | assumption); obtain ⟨ad162, e162, hx162_0, hx162_1, _, _, _, _, _, _, _, _, _, _, _, _, _, _, _, _, _, _⟩ := at_T55 HR1_7.out x5_2 p162 q162; have hw162_1 := hx162_1; have hw162_0 := hx162_0
           cases e162
           replace hx162_0 := bc HB.out hx162_0; replace hx162_1 := bc HB.out hx162_1; replace p162 := eq_true p162; replace q162 := eq_true q162; have p163 : 0 ≤ (x5_2 : Int) := of_decide_eq_true (by first | (with_reducible assumption) | assumption); have q163 : x5_2 < (l0_7.length : Int) := of_decide_eq_true (by first | (with_reducible assumption) | assumption); obtain ⟨ad163, e163, _, _, hx163_2, hx163_3, hx163_4, hx163_5, hx163_6, hx163_7, hx163_8, hx163_9, hx163_10, hx163_11, hx163_12, hx163_13, hx163_14, hx163_15, hx163_16, hx163_17, hx163_18, hx163_19⟩ := at_T55 HR0_7.out x5_2 p163 q163; have hw163_19 := hx163_19; have hw163_18 := hx163_18; have hw163_17 := hx163_17; have hw163_16 := hx163_16; have hw163_15 := hx163_15; have hw163_14 := hx163_14; have hw163_13 := hx163_13; have hw163_12 := hx163_12; have hw163_11 := hx163_11; have hw163_10 := hx163_10; have hw163_9 := hx163_9; have hw163_8 := hx163_8; have hw163_7 := hx163_7; have hw163_6 := hx163_6; have hw163_5 := hx163_5; have hw163_4 := hx163_4; have hw163_3 := hx163_3; have hw163_2 := hx163_2; obtain rfl : ad161 = ad163 := (by injection e163); replace hx163_2 := bc HB.out hx163_2; replace hx163_3 := bc HB.out hx163_3; replace hx163_4 := bc HB.out hx163_4; replace hx163_5 := bc HB.out hx163_5; replace hx163_6 := bc HB.out hx163_6; replace hx163_7 := bc HB.out hx163_7; replace hx163_8 := bc HB.out hx163_8; replace hx163_9 := bc HB.out hx163_9; replace hx163_10 := bc HB.out hx163_10; replace hx163_11 := bc HB.out hx163_11; replace hx163_12 := bc HB.out hx163_12; replace hx163_13 := bc HB.out hx163_13; replace hx163_14 := bc HB.out hx163_14; replace hx163_15 := bc HB.out hx163_15; replace hx163_16 := bc HB.out hx163_16; replace hx163_17 := bc HB.out hx163_17; replace hx163_18 := bc HB.out hx163_18; replace hx163_19 := bc HB.out hx163_19; replace p163 := eq_true p163; replace q163 := eq_true q163; have p164 : 0 ≤ (x5_2 : Int) := of_decide_eq_true (by first | (with_reducible assumption) | assumption); have q164 : x5_2 < (l1_7.length : Int) := of_decide_eq_true (by first | (with_reducible assumption) | assumption); obtain ⟨ad164, e164, _, _, hx164_2, hx164_3, hx164_4, hx164_5, hx164_6, hx164_7, hx164_8, hx164_9, hx164_10, hx164_11, hx164_12, hx164_13, hx164_14, hx164_15, hx164_16, hx164_17, hx164_18, hx164_19⟩ := at_T55 HR1_7.out x5_2 p164 q164; have hw164_19 := hx164_19; have hw164_18 := hx164_18; have hw164_17 := hx164_17; have hw164_16 := hx164_16; have hw164_15 := hx164_15; have hw164_14 := hx164_14; have hw164_13 := hx164_13; have hw164_12 := hx164_12; have hw164_11 := hx164_11; have hw164_10 := hx164_10; have hw164_9 := hx164_9; have hw164_8 := hx164_8; have hw164_7 := hx164_7; have hw164_6 := hx164_6; have hw164_5 := hx164_5; have hw164_4 := hx164_4; have hw164_3 := hx164_3; have hw164_2 := hx164_2; obtain rfl : ad162 = ad164 := (by injection e164); replace hx164_2 := bc HB.out hx164_2; replace hx164_3 := bc HB.out hx164_3; replace hx164_4 := bc HB.out hx164_4; replace hx164_5 := bc HB.out hx164_5
           replace hx164_6 := bc HB.out hx164_6; replace hx164_7 := bc HB.out hx164_7; replace hx164_8 := bc HB.out hx164_8; replace hx164_9 := bc HB.out hx164_9; replace hx164_10 := bc HB.out hx164_10; replace hx164_11 := bc HB.out hx164_11; replace hx164_12 := bc HB.out hx164_12; replace hx164_13 := bc HB.out hx164_13; replace hx164_14 := bc HB.out hx164_14; replace hx164_15 := bc HB.out hx164_15; replace hx164_16 := bc HB.out hx164_16; replace hx164_17 := bc HB.out hx164_17; replace hx164_18 := bc HB.out hx164_18; replace hx164_19 := bc HB.out hx164_19; replace p164 := eq_true p164; replace q164 := eq_true q164; refine start_ (n := 29) (S := fun w' => w'.cell? ⟨gb158, 7, none⟩ = some (.slice (some ad161) l0_7.length c0_7) ∧ w'.cell? ⟨gb159, 7, none⟩ = some (.slice (some ad162) l1_7.length c1_7) ∧ w'.cell? (ad161.add ((x5_2).toNat * 20)) = some (.string ((rd_T55 l0_7 x5_2).f0.f0)) ∧ w'.cell? ⟨(ad161.add ((x5_2).toNat * 20)).block, (ad161.add ((x5_2).toNat * 20)).off + 1, none⟩ = some (.int .i64 ((rd_T55 l0_7 x5_2).f0.f1)) ∧ w'.cell? (ad162.add ((x5_2).toNat * 20)) = some (.string ((rd_T55 l1_7 x5_2).f0.f0)) ∧ w'.cell? ⟨(ad162.add ((x5_2).toNat * 20)).block, (ad162.add ((x5_2).toNat * 20)).off + 1, none⟩ = some (.int .i64 ((rd_T55 l1_7 x5_2).f0.f1)) ∧ w'.cell? ⟨(ad161.add ((x5_2).toNat * 20)).block, (ad161.add ((x5_2).toNat * 20)).off + 2, none⟩ = some (.int .i64 ((rd_T55 l0_7 x5_2).f1.f0.f0)) ∧ w'.cell? ⟨(ad161.add ((x5_2).toNat * 20)).block, (ad161.add ((x5_2).toNat * 20)).off + 3, none⟩ = some (.bool ((rd_T55 l0_7 x5_2).f1.f0.f1)) ∧ w'.cell? ⟨(ad161.add ((x5_2).toNat * 20)).block, (ad161.add ((x5_2).toNat * 20)).off + 4, none⟩ = some (.float .f64 ((rd_T55 l0_7 x5_2).f1.f0.f2)) ∧ w'.cell? ⟨(ad161.add ((x5_2).toNat * 20)).block, (ad161.add ((x5_2).toNat * 20)).off + 5, none⟩ = some (.string ((rd_T55 l0_7 x5_2).f1.f0.f3)) ∧ w'.cell? ⟨(ad161.add ((x5_2).toNat * 20)).block, (ad161.add ((x5_2).toNat * 20)).off + 6, none⟩ = some (.int .i64 ((rd_T55 l0_7 x5_2).f1.f0.f4)) ∧ w'.cell? ⟨(ad161.add ((x5_2).toNat * 20)).block, (ad161.add ((x5_2).toNat * 20)).off + 7, none⟩ = some (.int .i64 ((rd_T55 l0_7 x5_2).f1.f1.f0)) ∧ w'.cell? ⟨(ad161.add ((x5_2).toNat * 20)).block, (ad161.add ((x5_2).toNat * 20)).off + 8, none⟩ = some (.bool ((rd_T55 l0_7 x5_2).f1.f1.f1)) ∧ w'.cell? ⟨(ad161.add ((x5_2).toNat * 20)).block, (ad161.add ((x5_2).toNat * 20)).off + 9, none⟩ = some (.float .f64 ((rd_T55 l0_7 x5_2).f1.f1.f2)) ∧ w'.cell? ⟨(ad161.add ((x5_2).toNat * 20)).block, (ad161.add ((x5_2).toNat * 20)).off + 10, none⟩ = some (.string ((rd_T55 l0_7 x5_2).f1.f1.f3)) ∧ w'.cell? ⟨(ad161.add ((x5_2).toNat * 20)).block, (ad161.add ((x5_2).toNat * 20)).off + 11, none⟩ = some (.int .i64 ((rd_T55 l0_7 x5_2).f1.f1.f4)) ∧ w'.cell? ⟨(ad161.add ((x5_2).toNat * 20)).block, (ad161.add ((x5_2).toNat * 20)).off + 12, none⟩ = some (.int .i64 ((rd_T55 l0_7 x5_2).f1.f2.f0)) ∧ w'.cell? ⟨(ad161.add ((x5_2).toNat * 20)).block, (ad161.add ((x5_2).toNat * 20)).off + 13, none⟩ = some (.bool ((rd_T55 l0_7 x5_2).f1.f2.f1)) ∧ w'.cell? ⟨(ad161.add ((x5_2).toNat * 20)).block, (ad161.add ((x5_2).toNat * 20)).off + 14, none⟩ = some (.float .f64 ((rd_T55 l0_7 x5_2).f1.f2.f2)) ∧ w'.cell? ⟨(ad161.add ((x5_2).toNat * 20)).block, (ad161.add ((x5_2).toNat * 20)).off + 15, none⟩ = some (.string ((rd_T55 l0_7 x5_2).f1.f2.f3)) ∧ w'.cell? ⟨(ad161.add ((x5_2).toNat * 20)).block, (ad161.add ((x5_2).toNat * 20)).off + 16, none⟩ = some (.int .i64 ((rd_T55 l0_7 x5_2).f1.f2.f4)) ∧ w'.cell? ⟨(ad161.add ((x5_2).toNat * 20)).block, (ad161.add ((x5_2).toNat * 20)).off + 17, none⟩ = some (.int .i64 ((rd_T55 l0_7 x5_2).f1.f3)) ∧ w'.cell? ⟨(ad161.add ((x5_2).toNat * 20)).block, (ad161.add ((x5_2).toNat * 20)).off + 18, none⟩ = some (.int .i64 ((rd_T55 l0_7 x5_2).f1.f4)) ∧ w'.cell? ⟨(ad161.add ((x5_2).toNat * 20)).block, (ad161.add ((x5_2).toNat * 20)).off + 19, none⟩ = some (.int .i64 ((rd_T55 l0_7 x5_2).f1.f5)) ∧ w'.cell? ⟨(ad162.add ((x5_2).toNat * 20)).block, (ad162.add ((x5_2).toNat * 20)).off + 2, none⟩ = some (.int .i64 ((rd_T55 l1_7 x5_2).f1.f0.f0)) ∧ w'.cell? ⟨(ad162.add ((x5_2).toNat * 20)).block, (ad162.add ((x5_2).toNat * 20)).off + 3, none⟩ = some (.bool ((rd_T55 l1_7 x5_2).f1.f0.f1)) ∧ w'.cell? ⟨(ad162.add ((x5_2).toNat * 20)).block, (ad162.add ((x5_2).toNat * 20)).off + 4, none⟩ = some (.float .f64 ((rd_T55 l1_7 x5_2).f1.f0.f2)) ∧ w'.cell? ⟨(ad162.add ((x5_2).toNat * 20)).block, (ad162.add ((x5_2).toNat * 20)).off + 5, none⟩ = some (.string ((rd_T55 l1_7 x5_2).f1.f0.f3)) ∧ w'.cell? ⟨(ad162.add ((x5_2).toNat * 20)).block, (ad162.add ((x5_2).toNat * 20)).off + 6, none⟩ = some (.int .i64 ((rd_T55 l1_7 x5_2).f1.f0.f4)) ∧ w'.cell? ⟨(ad162.add ((x5_2).toNat * 20)).block, (ad162.add ((x5_2).toNat * 20)).off + 7, none⟩ = some (.int .i64 ((rd_T55 l1_7 x5_2).f1.f1.f0)) ∧ w'.cell? ⟨(ad162.add ((x5_2).toNat * 20)).block, (ad162.add ((x5_2).toNat * 20)).off + 8, none⟩ = some (.bool ((rd_T55 l1_7 x5_2).f1.f1.f1)) ∧ w'.cell? ⟨(ad162.add ((x5_2).toNat * 20)).block, (ad162.add ((x5_2).toNat * 20)).off + 9, none⟩ = some (.float .f64 ((rd_T55 l1_7 x5_2).f1.f1.f2)) ∧ w'.cell? ⟨(ad162.add ((x5_2).toNat * 20)).block, (ad162.add ((x5_2).toNat * 20)).off + 10, none⟩ = some (.string ((rd_T55 l1_7 x5_2).f1.f1.f3)) ∧ w'.cell? ⟨(ad162.add ((x5_2).toNat * 20)).block, (ad162.add ((x5_2).toNat * 20)).off + 11, none⟩ = some (.int .i64 ((rd_T55 l1_7 x5_2).f1.f1.f4)) ∧ w'.cell? ⟨(ad162.add ((x5_2).toNat * 20)).block, (ad162.add ((x5_2).toNat * 20)).off + 12, none⟩ = some (.int .i64 ((rd_T55 l1_7 x5_2).f1.f2.f0)) ∧ w'.cell? ⟨(ad162.add ((x5_2).toNat * 20)).block, (ad162.add ((x5_2).toNat * 20)).off + 13, none⟩ = some (.bool ((rd_T55 l1_7 x5_2).f1.f2.f1)) ∧ w'.cell? ⟨(ad162.add ((x5_2).toNat * 20)).block, (ad162.add ((x5_2).toNat * 20)).off + 14, none⟩ = some (.float .f64 ((rd_T55 l1_7 x5_2).f1.f2.f2)) ∧ w'.cell? ⟨(ad162.add ((x5_2).toNat * 20)).block, (ad162.add ((x5_2).toNat * 20)).off + 15, none⟩ = some (.string ((rd_T55 l1_7 x5_2).f1.f2.f3)) ∧ w'.cell? ⟨(ad162.add ((x5_2).toNat * 20)).block, (ad162.add ((x5_2).toNat * 20)).off + 16, none⟩ = some (.int .i64 ((rd_T55 l1_7 x5_2).f1.f2.f4)) ∧ w'.cell? ⟨(ad162.add ((x5_2).toNat * 20)).block, (ad162.add ((x5_2).toNat * 20)).off + 17, none⟩ = some (.int .i64 ((rd_T55 l1_7 x5_2).f1.f3)) ∧ w'.cell? ⟨(ad162.add ((x5_2).toNat * 20)).block, (ad162.add ((x5_2).toNat * 20)).off + 18, none⟩ = some (.int .i64 ((rd_T55 l1_7 x5_2).f1.f4)) ∧ w'.cell? ⟨(ad162.add ((x5_2).toNat * 20)).block, (ad162.add ((x5_2).toNat * 20)).off + 19, none⟩ = some (.int .i64 ((rd_T55 l1_7 x5_2).f1.f5))) (ds := []) #[o0, o0, o0, o0, o0, o0, o0, o0, o0, o0, o0, o0, o0, o0, o0, o0, o0, o0, o0, o0, o0, o0, o0, o0, o0, o0, o0, o0, o0] (by kernel_rfl) rfl rfl ⟨(blk_cell BK158.out 7).trans rfl, (blk_cell BK159.out 7).trans rfl, (bc HB.out hw161_0), (bc HB.out hw161_1), (bc HB.out hw162_0), (bc HB.out hw162_1), (bc HB.out hw163_2), (bc HB.out hw163_3), (bc HB.out hw163_4), (bc HB.out hw163_5), (bc HB.out hw163_6), (bc HB.out hw163_7), (bc HB.out hw163_8), (bc HB.out hw163_9), (bc HB.out hw163_10), (bc HB.out hw163_11), (bc HB.out hw163_12), (bc HB.out hw163_13), (bc HB.out hw163_14), (bc HB.out hw163_15), (bc HB.out hw163_16), (bc HB.out hw163_17), (bc HB.out hw163_18), (bc HB.out hw163_19), (bc HB.out hw164_2), (bc HB.out hw164_3), (bc HB.out hw164_4), (bc HB.out hw164_5), (bc HB.out hw164_6), (bc HB.out hw164_7), (bc HB.out hw164_8), (bc HB.out hw164_9), (bc HB.out hw164_10), (bc HB.out hw164_11), (bc HB.out hw164_12), (bc HB.out hw164_13), (bc HB.out hw164_14), (bc HB.out hw164_15), (bc HB.out hw164_16), (bc HB.out hw164_17), (bc HB.out hw164_18), (bc HB.out hw164_19)⟩ (fun hHeld => ?_); refine with_tabW cameoref10_SameShape.tab6 cameoref10_SameShape.bits6 (fun HT_ HW_ => ?_)
           generalize wr.drew = w41 at BK158 BK159 HB hx161_0 hx161_1 hx162_0 hx162_1 hx163_10 hx163_11 hx163_12 hx163_13 hx163_14 hx163_15 hx163_16 hx163_17 hx163_18 hx163_19 hx163_2 hx163_3 hx163_4 hx163_5 hx163_6 hx163_7 hx163_8 hx163_9 hx164_10 hx164_11 hx164_12 hx164_13 hx164_14 hx164_15 hx164_16 hx164_17 hx164_18 hx164_19 hx164_2 hx164_3 hx164_4 hx164_5 hx164_6 hx164_7 hx164_8 hx164_9 hHeld ⊢; refine pure_ (i := 0) (N := some 42) (v := ?_) (a' := ?_) #[o1, o0, o0, o0, o0, o0, o0, o0, o0, o0, o0, o0, o0, o0, o0, o0, o0, o0, o0, o0, o0, o0, o0, o0, o0, o0, o0, o0, o0] rfl rfl (any_of HT_.out (by kernel_rfl)) (fun _ _ _ h => h) (Or.inl ⟨by rfl, ?_⟩) ?_ ?_; rotate_left
           ·intro w'; go_simp; with_reducible rfl
           rotate_left
           ·simp only [Act.put, sA, s0, sS, i64_w, i32_w]; rfl
           refine pure_ (i := 2) (N := some 44) (v := ?_) (a' := ?_) #[o1, o0, o1, o0, o0, o0, o0, o0, o0, o0, o0, o0, o0, o0, o0, o0, o0, o0, o0, o0, o0, o0, o0, o0, o0, o0, o0, o0, o0] rfl rfl (any_of HT_.out (by kernel_rfl)) (fun _ _ _ h => h) (Or.inl ⟨by rfl, ?_⟩) ?_ ?_; rotate_left
           ·intro w'; go_simp; with_reducible rfl
           rotate_left
           ·simp only [Act.put, sA, s0, sS, i64_w, i32_w]; rfl
           refine pure_ (i := 6) (N := some 48) (v := ?_) (a' := ?_) #[o1, o0, o1, o0, o0, o0, o1, o0, o0, o0, o0, o0, o0, o0, o0, o0, o0, o0, o0, o0, o0, o0, o0, o0, o0, o0, o0, o0, o0] rfl rfl (any_of HT_.out (by kernel_rfl)) (fun _ _ _ h => h) (Or.inl ⟨by rfl, ?_⟩) ?_ ?_; rotate_left
           ·intro w'; go_simp; with_reducible rfl
           rotate_left
           ·simp only [Act.put, sA, s0, sS, i64_w, i32_w]; rfl
           refine pure_ (i := 8) (N := some 50) (v := ?_) (a' := ?_) #[o1, o0, o1, o0, o0, o0, o1, o0, o1, o0, o0, o0, o0, o0, o0, o0, o0, o0, o0, o0, o0, o0, o0, o0, o0, o0, o0, o0, o0] rfl rfl (any_of HT_.out (by kernel_rfl)) (fun _ _ _ h => h) (Or.inl ⟨by rfl, ?_⟩) ?_ ?_; rotate_left
           ·intro w'; go_simp; with_reducible rfl
           rotate_left
           ·simp only [Act.put, sA, s0, sS, i64_w, i32_w]; rfl
           refine take_ (i := 1) (N := some 43) (v := ?_) (a' := ?_) #[o1, o1, o1, o0, o0, o0, o1, o0, o1, o0, o0, o0, o0, o0, o0, o0, o0, o0, o0, o0, o0, o0, o0, o0, o0, o0, o0, o0, o0] rfl rfl (take_ofW HT_.out HW_.out (by kernel_rfl)) (fun _ _ _ h => h) (Or.inl ⟨by rfl, ?_⟩) hHeld ?_ ?_; rotate_left
           ·rintro w' ⟨s0, s1, s2, s3, s4, s5, s6, s7, s8, s9, s10, s11, s12, s13, s14, s15, s16, s17, s18, s19, s20, s21, s22, s23, s24, s25, s26, s27, s28, s29, s30, s31, s32, s33, s34, s35, s36, s37, s38, s39, s40, s41⟩
            go_simp; with_reducible rfl
           rotate_left
           ·simp only [Act.put, sA, s0, sS, i64_w, i32_w]; rfl
           refine pure_ (i := 3) (N := some 45) (v := ?_) (a' := ?_) #[o1, o1, o1, o1, o0, o0, o1, o0, o1, o0, o0, o0, o0, o0, o0, o0, o0, o0, o0, o0, o0, o0, o0, o0, o0, o0, o0, o0, o0] rfl rfl (any_of HT_.out (by kernel_rfl)) (fun _ _ _ h => h) (Or.inl ⟨by rfl, ?_⟩) ?_ ?_; rotate_left
           ·intro w'; go_simp; with_reducible rfl
           rotate_left
           ·simp only [Act.put, sA, s0, sS, i64_w, i32_w]; rfl
           refine pure_ (i := 4) (N := some 46) (v := ?_) (a' := ?_) #[o1, o1, o1, o1, o1, o0, o1, o0, o1, o0, o0, o0, o0, o0, o0, o0, o0, o0, o0, o0, o0, o0, o0, o0, o0, o0, o0, o0, o0] rfl rfl (any_of HT_.out (by kernel_rfl)) (fun _ _ _ h => h) (Or.inl ⟨by rfl, ?_⟩) ?_ ?_; rotate_left
           ·intro w'; go_simp; with_reducible rfl
           rotate_left
           ·simp only [Act.put, sA, s0, sS, i64_w, i32_w]; rfl
           refine take_ (i := 5) (N := some 47) (v := .agg #[.string ((rd_T55 l0_7 x5_2).f0.f0), .int .i64 ((rd_T55 l0_7 x5_2).f0.f1)]) (a' := ?_) #[o1, o1, o1, o1, o1, o1, o1, o0, o1, o0, o0, o0, o0, o0, o0, o0, o0, o0, o0, o0, o0, o0, o0, o0, o0, o0, o0, o0, o0] rfl rfl (take_ofW HT_.out HW_.out (by kernel_rfl)) (fun _ _ _ h => h) (Or.inl ⟨by rfl, ?_⟩) hHeld ?_ ?_
           ·rintro w' ⟨s0, s1, s2, s3, s4, s5, s6, s7, s8, s9, s10, s11, s12, s13, s14, s15, s16, s17, s18, s19, s20, s21, s22, s23, s24, s25, s26, s27, s28, s29, s30, s31, s32, s33, s34, s35, s36, s37, s38, s39, s40, s41⟩
            apply exec_load_cells Try.underlying30 2
            case ho => rfl
            case hx => rfl
            case hc => exact CellsAt.cons s2 (CellsAt.cons s3 (CellsAt.nil))
            case hn => rfl
            case hi => kernel_rfl
           rotate_left
           ·simp only [Act.put, sA, s0, sS, i64_w, i32_w]; rfl
           refine take_ (i := 7) (N := some 49) (v := ?_) (a' := ?_) #[o1, o1, o1, o1, o1, o1, o1, o1, o1, o0, o0, o0, o0, o0, o0, o0, o0, o0, o0, o0, o0, o0, o0, o0, o0, o0, o0, o0, o0] rfl rfl (take_ofW HT_.out HW_.out (by kernel_rfl)) (fun _ _ _ h => h) (Or.inl ⟨by rfl, ?_⟩) hHeld ?_ ?_; rotate_left
           ·rintro w' ⟨s0, s1, s2, s3, s4, s5, s6, s7, s8, s9, s10, s11, s12, s13, s14, s15, s16, s17, s18, s19, s20, s21, s22, s23, s24, s25, s26, s27, s28, s29, s30, s31, s32, s33, s34, s35, s36, s37, s38, s39, s40, s41⟩
            go_simp; with_reducible rfl
           rotate_left
           ·simp only [Act.put, sA, s0, sS, i64_w, i32_w]; rfl
           refine pure_ (i := 9) (N := some 51) (v := ?_) (a' := ?_) #[o1, o1, o1, o1, o1, o1, o1, o1, o1, o1, o0, o0, o0, o0, o0, o0, o0, o0, o0, o0, o0, o0, o0, o0, o0, o0, o0, o0, o0] rfl rfl (any_of HT_.out (by kernel_rfl)) (fun _ _ _ h => h) (Or.inl ⟨by rfl, ?_⟩) ?_ ?_; rotate_left
           ·intro w'; go_simp; with_reducible rfl
           rotate_left
           ·simp only [Act.put, sA, s0, sS, i64_w, i32_w]; rfl
           refine pure_ (i := 10) (N := some 52) (v := ?_) (a' := ?_) #[o1, o1, o1, o1, o1, o1, o1, o1, o1, o1, o1, o0, o0, o0, o0, o0, o0, o0, o0, o0, o0, o0, o0, o0, o0, o0, o0, o0, o0] rfl rfl (any_of HT_.out (by kernel_rfl)) (fun _ _ _ h => h) (Or.inl ⟨by rfl, ?_⟩) ?_ ?_; rotate_left
           ·intro w'; go_simp; with_reducible rfl
           rotate_left
           ·simp only [Act.put, sA, s0, sS, i64_w, i32_w]; rfl
           refine take_ (i := 11) (N := some 53) (v := .agg #[.string ((rd_T55 l1_7 x5_2).f0.f0), .int .i64 ((rd_T55 l1_7 x5_2).f0.f1)]) (a' := ?_) #[o1, o1, o1, o1, o1, o1, o1, o1, o1, o1, o1, o1, o0, o0, o0, o0, o0, o0, o0, o0, o0, o0, o0, o0, o0, o0, o0, o0, o0] rfl rfl (take_ofW HT_.out HW_.out (by kernel_rfl)) (fun _ _ _ h => h) (Or.inl ⟨by rfl, ?_⟩) hHeld ?_ ?_
           ·rintro w' ⟨s0, s1, s2, s3, s4, s5, s6, s7, s8, s9, s10, s11, s12, s13, s14, s15, s16, s17, s18, s19, s20, s21, s22, s23, s24, s25, s26, s27, s28, s29, s30, s31, s32, s33, s34, s35, s36, s37, s38, s39, s40, s41⟩
            apply exec_load_cells Try.underlying30 2
            case ho => rfl
            case hx => rfl
            case hc => exact CellsAt.cons s4 (CellsAt.cons s5 (CellsAt.nil))
            case hn => rfl
            case hi => kernel_rfl
           rotate_left
           ·simp only [Act.put, sA, s0, sS, i64_w, i32_w]; rfl
           refine pure_ (i := 12) (N := some 54) (v := ?_) (a' := ?_) #[o1, o1, o1, o1, o1, o1, o1, o1, o1, o1, o1, o1, o1, o0, o0, o0, o0, o0, o0, o0, o0, o0, o0, o0, o0, o0, o0, o0, o0] rfl rfl (any_of HT_.out (by kernel_rfl)) (fun _ _ _ h => h) (Or.inl ⟨by rfl, ?_⟩) ?_ ?_; rotate_left
           ·intro w'; go_simp; with_reducible rfl
           rotate_left
           ·simp only [Act.put, sA, s0, sS, i64_w, i32_w]; rfl
           refine pure_ (i := 13) (N := some 55) (v := ?_) (a' := ?_) #[o1, o1, o1, o1, o1, o1, o1, o1, o1, o1, o1, o1, o1, o1, o0, o0, o0, o0, o0, o0, o0, o0, o0, o0, o0, o0, o0, o0, o0] rfl rfl (any_of HT_.out (by kernel_rfl)) (fun _ _ _ h => h) (Or.inl ⟨by rfl, ?_⟩) ?_ ?_; rotate_left
           ·intro w'; go_simp; with_reducible rfl
           rotate_left
           ·simp only [Act.put, sA, s0, sS, i64_w, i32_w]; rfl
           refine pure_ (i := 14) (N := some 56) (v := ?_) (a' := ?_) #[o1, o1, o1, o1, o1, o1, o1, o1, o1, o1, o1, o1, o1, o1, o1, o0, o0, o0, o0, o0, o0, o0, o0, o0, o0, o0, o0, o0, o0] rfl rfl (any_of HT_.out (by kernel_rfl)) (fun _ _ _ h => h) (Or.inl ⟨by rfl, ?_⟩) ?_ ?_; rotate_left
           ·intro w'; go_simp; with_reducible rfl
           rotate_left
           ·simp only [Act.put, sA, s0, sS, i64_w, i32_w]; rfl
           refine pure_ (i := 16) (N := some 58) (v := ?_) (a' := ?_) #[o1, o1, o1, o1, o1, o1, o1, o1, o1, o1, o1, o1, o1, o1, o1, o0, o1, o0, o0, o0, o0, o0, o0, o0, o0, o0, o0, o0, o0] rfl rfl (any_of HT_.out (by kernel_rfl)) (fun _ _ _ h => h) (Or.inl ⟨by rfl, ?_⟩) ?_ ?_; rotate_left
           ·intro w'; go_simp; with_reducible rfl
           rotate_left
           ·simp only [Act.put, sA, s0, sS, i64_w, i32_w]; rfl
           refine pure_ (i := 20) (N := some 62) (v := ?_) (a' := ?_) #[o1, o1, o1, o1, o1, o1, o1, o1, o1, o1, o1, o1, o1, o1, o1, o0, o1, o0, o0, o0, o1, o0, o0, o0, o0, o0, o0, o0, o0] rfl rfl (any_of HT_.out (by kernel_rfl)) (fun _ _ _ h => h) (Or.inl ⟨by rfl, ?_⟩) ?_ ?_; rotate_left
           ·intro w'; go_simp; with_reducible rfl
           rotate_left
           ·simp only [Act.put, sA, s0, sS, i64_w, i32_w]; rfl
           refine pure_ (i := 22) (N := some 64) (v := ?_) (a' := ?_) #[o1, o1, o1, o1, o1, o1, o1, o1, o1, o1, o1, o1, o1, o1, o1, o0, o1, o0, o0, o0, o1, o0, o1, o0, o0, o0, o0, o0, o0] rfl rfl (any_of HT_.out (by kernel_rfl)) (fun _ _ _ h => h) (Or.inl ⟨by rfl, ?_⟩) ?_ ?_; rotate_left
           ·intro w'; go_simp; with_reducible rfl
           rotate_left
           ·simp only [Act.put, sA, s0, sS, i64_w, i32_w]; rfl
           refine take_ (i := 15) (N := some 57) (v := ?_) (a' := ?_) #[o1, o1, o1, o1, o1, o1, o1, o1, o1, o1, o1, o1, o1, o1, o1, o1, o1, o0, o0, o0, o1, o0, o1, o0, o0, o0, o0, o0, o0] rfl rfl (take_ofW HT_.out HW_.out (by kernel_rfl)) (fun _ _ _ h => h) (Or.inl ⟨by rfl, ?_⟩) hHeld ?_ ?_; rotate_left
           ·rintro w' ⟨s0, s1, s2, s3, s4, s5, s6, s7, s8, s9, s10, s11, s12, s13, s14, s15, s16, s17, s18, s19, s20, s21, s22, s23, s24, s25, s26, s27, s28, s29, s30, s31, s32, s33, s34, s35, s36, s37, s38, s39, s40, s41⟩
            go_simp; with_reducible rfl
           rotate_left
           ·simp only [Act.put, sA, s0, sS, i64_w, i32_w]; rfl
           refine pure_ (i := 17) (N := some 59) (v := ?_) (a' := ?_) #[o1, o1, o1, o1, o1, o1, o1, o1, o1, o1, o1, o1, o1, o1, o1, o1, o1, o1, o0, o0, o1, o0, o1, o0, o0, o0, o0, o0, o0] rfl rfl (any_of HT_.out (by kernel_rfl)) (fun _ _ _ h => h) (Or.inl ⟨by rfl, ?_⟩) ?_ ?_; rotate_left
           ·intro w'; go_simp; with_reducible rfl
           rotate_left
           ·simp only [Act.put, sA, s0, sS, i64_w, i32_w]; rfl
           refine pure_ (i := 18) (N := some 60) (v := ?_) (a' := ?_) #[o1, o1, o1, o1, o1, o1, o1, o1, o1, o1, o1, o1, o1, o1, o1, o1, o1, o1, o1, o0, o1, o0, o1, o0, o0, o0, o0, o0, o0] rfl rfl (any_of HT_.out (by kernel_rfl)) (fun _ _ _ h => h) (Or.inl ⟨by rfl, ?_⟩) ?_ ?_; rotate_left
           ·intro w'; go_simp; with_reducible rfl
           rotate_left
           ·simp only [Act.put, sA, s0, sS, i64_w, i32_w]; rfl
           refine take_ (i := 19) (N := some 61) (v := .agg (c33A ((rd_T55 l0_7 x5_2).f1))) (a' := ?_) #[o1, o1, o1, o1, o1, o1, o1, o1, o1, o1, o1, o1, o1, o1, o1, o1, o1, o1, o1, o1, o1, o0, o1, o0, o0, o0, o0, o0, o0] rfl rfl (take_ofW HT_.out HW_.out (by kernel_rfl)) (fun _ _ _ h => h) (Or.inl ⟨by rfl, ?_⟩) hHeld ?_ ?_
           ·rintro w' ⟨s0, s1, s2, s3, s4, s5, s6, s7, s8, s9, s10, s11, s12, s13, s14, s15, s16, s17, s18, s19, s20, s21, s22, s23, s24, s25, s26, s27, s28, s29, s30, s31, s32, s33, s34, s35, s36, s37, s38, s39, s40, s41⟩
            apply exec_load_cells Try.underlying33 18
            case ho => rfl
            case hx => rfl
            case hc => exact CellsAt.cons s6 (CellsAt.cons s7 (CellsAt.cons s8 (CellsAt.cons s9 (CellsAt.cons s10 (CellsAt.cons s11 (CellsAt.cons s12 (CellsAt.cons s13 (CellsAt.cons s14 (CellsAt.cons s15 (CellsAt.cons s16 (CellsAt.cons s17 (CellsAt.cons s18 (CellsAt.cons s19 (CellsAt.cons s20 (CellsAt.cons s21 (CellsAt.cons s22 (CellsAt.cons s23 (CellsAt.nil))))))))))))))))))
            case hn => rfl
            case hi => kernel_rfl
           rotate_left
           ·simp only [Act.put, sA, s0, sS, i64_w, i32_w]; rfl
           refine take_ (i := 21) (N := some 63) (v := ?_) (a' := ?_) #[o1, o1, o1, o1, o1, o1, o1, o1, o1, o1, o1, o1, o1, o1, o1, o1, o1, o1, o1, o1, o1, o1, o1, o0, o0, o0, o0, o0, o0] rfl rfl (take_ofW HT_.out HW_.out (by kernel_rfl)) (fun _ _ _ h => h) (Or.inl ⟨by rfl, ?_⟩) hHeld ?_ ?_; rotate_left
           ·rintro w' ⟨s0, s1, s2, s3, s4, s5, s6, s7, s8, s9, s10, s11, s12, s13, s14, s15, s16, s17, s18, s19, s20, s21, s22, s23, s24, s25, s26, s27, s28, s29, s30, s31, s32, s33, s34, s35, s36, s37, s38, s39, s40, s41⟩
            go_simp; with_reducible rfl
           rotate_left
           ·simp only [Act.put, sA, s0, sS, i64_w, i32_w]; rfl
           refine pure_ (i := 23) (N := some 65) (v := ?_) (a' := ?_) #[o1, o1, o1, o1, o1, o1, o1, o1, o1, o1, o1, o1, o1, o1, o1, o1, o1, o1, o1, o1, o1, o1, o1, o1, o0, o0, o0, o0, o0] rfl rfl (any_of HT_.out (by kernel_rfl)) (fun _ _ _ h => h) (Or.inl ⟨by rfl, ?_⟩) ?_ ?_; rotate_left
           ·intro w'; go_simp; with_reducible rfl
           rotate_left
           ·simp only [Act.put, sA, s0, sS, i64_w, i32_w]; rfl
           refine pure_ (i := 24) (N := some 66) (v := ?_) (a' := ?_) #[o1, o1, o1, o1, o1, o1, o1, o1, o1, o1, o1, o1, o1, o1, o1, o1, o1, o1, o1, o1, o1, o1, o1, o1, o1, o0, o0, o0, o0] rfl rfl (any_of HT_.out (by kernel_rfl)) (fun _ _ _ h => h) (Or.inl ⟨by rfl, ?_⟩) ?_ ?_; rotate_left
           ·intro w'; go_simp; with_reducible rfl
           rotate_left
           ·simp only [Act.put, sA, s0, sS, i64_w, i32_w]; rfl
           refine take_ (i := 25) (N := some 67) (v := .agg (c33A ((rd_T55 l1_7 x5_2).f1))) (a' := ?_) #[o1, o1, o1, o1, o1, o1, o1, o1, o1, o1, o1, o1, o1, o1, o1, o1, o1, o1, o1, o1, o1, o1, o1, o1, o1, o1, o0, o0, o0] rfl rfl (take_ofW HT_.out HW_.out (by kernel_rfl)) (fun _ _ _ h => h) (Or.inl ⟨by rfl, ?_⟩) hHeld ?_ ?_
           ·rintro w' ⟨s0, s1, s2, s3, s4, s5, s6, s7, s8, s9, s10, s11, s12, s13, s14, s15, s16, s17, s18, s19, s20, s21, s22, s23, s24, s25, s26, s27, s28, s29, s30, s31, s32, s33, s34, s35, s36, s37, s38, s39, s40, s41⟩
            apply exec_load_cells Try.underlying33 18
            case ho => rfl
            case hx => rfl
            case hc => exact CellsAt.cons s24 (CellsAt.cons s25 (CellsAt.cons s26 (CellsAt.cons s27 (CellsAt.cons s28 (CellsAt.cons s29 (CellsAt.cons s30 (CellsAt.cons s31 (CellsAt.cons s32 (CellsAt.cons s33 (CellsAt.cons s34 (CellsAt.cons s35 (CellsAt.cons s36 (CellsAt.cons s37 (CellsAt.cons s38 (CellsAt.cons s39 (CellsAt.cons s40 (CellsAt.cons s41 (CellsAt.nil))))))))))))))))))
            case hn => rfl
            case hi => kernel_rfl
           rotate_left
           ·simp only [Act.put, sA, s0, sS, i64_w, i32_w]; rfl
           refine one_ (i := 26) (N := some 68) #[o1, o1, o1, o1, o1, o1, o1, o1, o1, o1, o1, o1, o1, o1, o1, o1, o1, o1, o1, o1, o1, o1, o1, o1, o1, o1, o1, o0, o0] rfl rfl (one_of HT_.out (by kernel_rfl)) (by decide) (fun K hK => ?_); refine goes_ Try.func20 (by kernel_rfl) rfl #[.agg (c33A ((rd_T55 l0_7 x5_2).f1)), .agg (c33A ((rd_T55 l1_7 x5_2).f1))] (by rfl) rfl rfl (by (try simp only [List.map_toArray, List.map_cons, List.map_nil]); first | done | rfl | (simp only [List.length_drop, List.length_take]; rfl)) ?_
           with_reducible refine (cameoref10_EqDesc.calls ((rd_T55 l0_7 x5_2).f1.f0.f0) ((rd_T55 l0_7 x5_2).f1.f0.f1) ((rd_T55 l0_7 x5_2).f1.f0.f2) ((rd_T55 l0_7 x5_2).f1.f0.f3) ((rd_T55 l0_7 x5_2).f1.f0.f4) ((rd_T55 l0_7 x5_2).f1.f1.f0) ((rd_T55 l0_7 x5_2).f1.f1.f1) ((rd_T55 l0_7 x5_2).f1.f1.f2) ((rd_T55 l0_7 x5_2).f1.f1.f3) ((rd_T55 l0_7 x5_2).f1.f1.f4) ((rd_T55 l0_7 x5_2).f1.f2.f0) ((rd_T55 l0_7 x5_2).f1.f2.f1) ((rd_T55 l0_7 x5_2).f1.f2.f2) ((rd_T55 l0_7 x5_2).f1.f2.f3) ((rd_T55 l0_7 x5_2).f1.f2.f4) ((rd_T55 l0_7 x5_2).f1.f3) ((rd_T55 l0_7 x5_2).f1.f4) ((rd_T55 l0_7 x5_2).f1.f5) ((rd_T55 l1_7 x5_2).f1.f0.f0) ((rd_T55 l1_7 x5_2).f1.f0.f1) ((rd_T55 l1_7 x5_2).f1.f0.f2) ((rd_T55 l1_7 x5_2).f1.f0.f3) ((rd_T55 l1_7 x5_2).f1.f0.f4) ((rd_T55 l1_7 x5_2).f1.f1.f0) ((rd_T55 l1_7 x5_2).f1.f1.f1) ((rd_T55 l1_7 x5_2).f1.f1.f2) ((rd_T55 l1_7 x5_2).f1.f1.f3) ((rd_T55 l1_7 x5_2).f1.f1.f4) ((rd_T55 l1_7 x5_2).f1.f2.f0) ((rd_T55 l1_7 x5_2).f1.f2.f1) ((rd_T55 l1_7 x5_2).f1.f2.f2) ((rd_T55 l1_7 x5_2).f1.f2.f3) ((rd_T55 l1_7 x5_2).f1.f2.f4) ((rd_T55 l1_7 x5_2).f1.f3) ((rd_T55 l1_7 x5_2).f1.f4) ((rd_T55 l1_7 x5_2).f1.f5) true _ A37.out).mono ?_
           rintro e w42 ⟨rfl, hb⟩
           refine ⟨_, rfl, ?_⟩; replace BK158 := Aside0.mk (blk_b BK158.out hb); replace BK159 := Aside0.mk (blk_b BK159.out hb); replace HB := Aside0.mk (bel_s HB.out hb); (try clear hb); (try clear hb2); (try clear hk); (try clear hi); refine hK.out _ _ ⟨(blk_cell BK158.out 7).trans rfl, (blk_cell BK159.out 7).trans rfl, (bc HB.out hw161_0), (bc HB.out hw161_1), (bc HB.out hw162_0), (bc HB.out hw162_1), (bc HB.out hw163_2), (bc HB.out hw163_3), (bc HB.out hw163_4), (bc HB.out hw163_5), (bc HB.out hw163_6), (bc HB.out hw163_7), (bc HB.out hw163_8), (bc HB.out hw163_9), (bc HB.out hw163_10), (bc HB.out hw163_11), (bc HB.out hw163_12), (bc HB.out hw163_13), (bc HB.out hw163_14), (bc HB.out hw163_15), (bc HB.out hw163_16), (bc HB.out hw163_17), (bc HB.out hw163_18), (bc HB.out hw163_19), (bc HB.out hw164_2), (bc HB.out hw164_3), (bc HB.out hw164_4), (bc HB.out hw164_5), (bc HB.out hw164_6), (bc HB.out hw164_7), (bc HB.out hw164_8), (bc HB.out hw164_9), (bc HB.out hw164_10), (bc HB.out hw164_11), (bc HB.out hw164_12), (bc HB.out hw164_13), (bc HB.out hw164_14), (bc HB.out hw164_15), (bc HB.out hw164_16), (bc HB.out hw164_17), (bc HB.out hw164_18), (bc HB.out hw164_19)⟩ (fun hHeld => ?_); clear hK K; refine norm_ (a' := ?_) ?_ ?_; rotate_left
           ·show Act.put _ (some 68) _ = _
            simp only [Act.put, sA, s0, sS, i64_w, i32_w]; rfl
           refine pure_ (i := 27) (N := some 69) (v := ?_) (a' := ?_) #[o1, o1, o1, o1, o1, o1, o1, o1, o1, o1, o1, o1, o1, o1, o1, o1, o1, o1, o1, o1, o1, o1, o1, o1, o1, o1, o1, o1, o0] rfl rfl (any_of HT_.out (by kernel_rfl)) (fun _ _ _ h => h) (Or.inl ⟨by rfl, ?_⟩) ?_ ?_; rotate_left
           ·intro w'; go_simp; with_reducible rfl
           rotate_left
           ·simp only [Act.put, sA, s0, sS, i64_w, i32_w]; rfl
           refine pure_ (i := 28) (N := some 70) (v := ?_) (a' := ?_) #[o1, o1, o1, o1, o1, o1, o1, o1, o1, o1, o1, o1, o1, o1, o1, o1, o1, o1, o1, o1, o1, o1, o1, o1, o1, o1, o1, o1, o1] rfl rfl (any_of HT_.out (by kernel_rfl)) (fun _ _ _ h => h) (Or.inl ⟨by rfl, ?_⟩) ?_ ?_; rotate_left
           ·intro w'; go_simp; with_reducible rfl
           rotate_left
           ·simp only [Act.put, sA, s0, sS, i64_w, i32_w]; rfl
           refine done_ (done_of HT_.out (by kernel_rfl)) ?_
           try go_wp2
           go_roundg k2
           case measure => have := HJ2.out; have := HK2.out; omega
           case rel => exact ⟨(wrap64 (x5_2 + 1)), (by first | rfl | (simp; done) | (simp [*]; done)), H', ⟨by have := HJ2.out; have := HK2.out; omega⟩, ⟨by (with_reducible repeat (first | refine blk_drewN ?_ _ | refine blk_drew ?_ | refine blk_alloc ?_ _)); exact BK158.out⟩, ⟨by (with_reducible repeat (first | refine blk_drewN ?_ _ | refine blk_drew ?_ | refine blk_alloc ?_ _)); exact BK159.out⟩, ⟨by repeat (first | (with_reducible first | exact HB.out | apply below_alloc | apply pw_below_drewN | apply below_drew1 | refine below_set ?_ GE158.out | refine below_set ?_ GE159.out) | exact HB.out)⟩⟩
          ·replace c38 := Bool.eq_false_iff.mpr c38; subst c38
           have H1 : (some false) = some r := by rw [if_neg (show ¬ (false = true) by decide)] at H; exact H
           clear H; have H := H1; clear H1; obtain rfl := Option.some.inj H; have hnb43 := NB158_159.out; have hnc43 := NB159_158.out; have hcz44_7 : wr.cell? ⟨gb158, 7, none⟩ = some (.slice A0_7 l0_7.length c0_7) := (blk_cell BK158.out 7).trans rfl
           try go_wp2
           replace BK158 := Aside0.mk (blk_drew BK158.out); replace BK159 := Aside0.mk (blk_drew BK159.out); replace HB := Aside0.mk (below_drew1 HB.out); have p161 : 0 ≤ (x5_2 : Int) := of_decide_eq_true (by first | (with_reducible assumption) | assumption); have q161 : x5_2 < (l0_7.length : Int) := of_decide_eq_true (by first | (with_reducible assumption) | assumption); obtain ⟨ad161, e161, hx161_0, hx161_1, _, _, _, _, _, _, _, _, _, _, _, _, _, _, _, _, _, _⟩ := at_T55 HR0_7.out x5_2 p161 q161; have hw161_1 := hx161_1; have hw161_0 := hx161_0
           cases e161
           replace hx161_0 := bc HB.out hx161_0; replace hx161_1 := bc HB.out hx161_1; replace p161 := eq_true p161; replace q161 := eq_true q161; have p162 : 0 ≤ (x5_2 : Int) := of_decide_eq_true (by first | (with_reducible assumption) | assumption); have q162 : x5_2 < (l1_7.length : Int) := of_decide_eq_true (by first | (with_reducible assumption) | assumption); obtain ⟨ad162, e162, hx162_0, hx162_1, _, _, _, _, _, _, _, _, _, _, _, _, _, _, _, _, _, _⟩ := at_T55 HR1_7.out x5_2 p162 q162; have hw162_1 := hx162_1; have hw162_0 := hx162_0
           cases e162
           replace hx162_0 := bc HB.out hx162_0; replace hx162_1 := bc HB.out hx162_1; replace p162 := eq_true p162; replace q162 := eq_true q162; have p163 : 0 ≤ (x5_2 : Int) := of_decide_eq_true (by first | (with_reducible assumption) | assumption); have q163 : x5_2 < (l0_7.length : Int) := of_decide_eq_true (by first | (with_reducible assumption) | assumption); obtain ⟨ad163, e163, _, _, hx163_2, hx163_3, hx163_4, hx163_5, hx163_6, hx163_7, hx163_8, hx163_9, hx163_10, hx163_11, hx163_12, hx163_13, hx163_14, hx163_15, hx163_16, hx163_17, hx163_18, hx163_19⟩ := at_T55 HR0_7.out x5_2 p163 q163; have hw163_19 := hx163_19; have hw163_18 := hx163_18; have hw163_17 := hx163_17; have hw163_16 := hx163_16; have hw163_15 := hx163_15; have hw163_14 := hx163_14; have hw163_13 := hx163_13; have hw163_12 := hx163_12; have hw163_11 := hx163_11; have hw163_10 := hx163_10; have hw163_9 := hx163_9; have hw163_8 := hx163_8; have hw163_7 := hx163_7; have hw163_6 := hx163_6; have hw163_5 := hx163_5; have hw163_4 := hx163_4; have hw163_3 := hx163_3; have hw163_2 := hx163_2; obtain rfl : ad161 = ad163 := (by injection e163); replace hx163_2 := bc HB.out hx163_2; replace hx163_3 := bc HB.out hx163_3; replace hx163_4 := bc HB.out hx163_4; replace hx163_5 := bc HB.out hx163_5; replace hx163_6 := bc HB.out hx163_6; replace hx163_7 := bc HB.out hx163_7; replace hx163_8 := bc HB.out hx163_8; replace hx163_9 := bc HB.out hx163_9; replace hx163_10 := bc HB.out hx163_10; replace hx163_11 := bc HB.out hx163_11; replace hx163_12 := bc HB.out hx163_12; replace hx163_13 := bc HB.out hx163_13; replace hx163_14 := bc HB.out hx163_14; replace hx163_15 := bc HB.out hx163_15; replace hx163_16 := bc HB.out hx163_16; replace hx163_17 := bc HB.out hx163_17; replace hx163_18 := bc HB.out hx163_18; replace hx163_19 := bc HB.out hx163_19; replace p163 := eq_true p163; replace q163 := eq_true q163; have p164 : 0 ≤ (x5_2 : Int) := of_decide_eq_true (by first | (with_reducible assumption) | assumption); have q164 : x5_2 < (l1_7.length : Int) := of_decide_eq_true (by first | (with_reducible assumption) | assumption); obtain ⟨ad164, e164, _, _, hx164_2, hx164_3, hx164_4, hx164_5, hx164_6, hx164_7, hx164_8, hx164_9, hx164_10, hx164_11, hx164_12, hx164_13, hx164_14, hx164_15, hx164_16, hx164_17, hx164_18, hx164_19⟩ := at_T55 HR1_7.out x5_2 p164 q164; have hw164_19 := hx164_19; have hw164_18 := hx164_18; have hw164_17 := hx164_17; have hw164_16 := hx164_16; have hw164_15 := hx164_15; have hw164_14 := hx164_14; have hw164_13 := hx164_13; have hw164_12 := hx164_12; have hw164_11 := hx164_11; have hw164_10 := hx164_10; have hw164_9 := hx164_9; have hw164_8 := hx164_8; have hw164_7 := hx164_7; have hw164_6 := hx164_6; have hw164_5 := hx164_5; have hw164_4 := hx164_4; have hw164_3 := hx164_3; have hw164_2 := hx164_2; obtain rfl : ad162 = ad164 := (by injection e164); replace hx164_2 := bc HB.out hx164_2; replace hx164_3 := bc HB.out hx164_3; replace hx164_4 := bc HB.out hx164_4; replace hx164_5 := bc HB.out hx164_5
           replace hx164_6 := bc HB.out hx164_6; replace hx164_7 := bc HB.out hx164_7; replace hx164_8 := bc HB.out hx164_8; replace hx164_9 := bc HB.out hx164_9; replace hx164_10 := bc HB.out hx164_10; replace hx164_11 := bc HB.out hx164_11; replace hx164_12 := bc HB.out hx164_12; replace hx164_13 := bc HB.out hx164_13; replace hx164_14 := bc HB.out hx164_14; replace hx164_15 := bc HB.out hx164_15; replace hx164_16 := bc HB.out hx164_16; replace hx164_17 := bc HB.out hx164_17; replace hx164_18 := bc HB.out hx164_18; replace hx164_19 := bc HB.out hx164_19; replace p164 := eq_true p164; replace q164 := eq_true q164; refine start_ (n := 29) (S := fun w' => w'.cell? ⟨gb158, 7, none⟩ = some (.slice (some ad161) l0_7.length c0_7) ∧ w'.cell? ⟨gb159, 7, none⟩ = some (.slice (some ad162) l1_7.length c1_7) ∧ w'.cell? (ad161.add ((x5_2).toNat * 20)) = some (.string ((rd_T55 l0_7 x5_2).f0.f0)) ∧ w'.cell? ⟨(ad161.add ((x5_2).toNat * 20)).block, (ad161.add ((x5_2).toNat * 20)).off + 1, none⟩ = some (.int .i64 ((rd_T55 l0_7 x5_2).f0.f1)) ∧ w'.cell? (ad162.add ((x5_2).toNat * 20)) = some (.string ((rd_T55 l1_7 x5_2).f0.f0)) ∧ w'.cell? ⟨(ad162.add ((x5_2).toNat * 20)).block, (ad162.add ((x5_2).toNat * 20)).off + 1, none⟩ = some (.int .i64 ((rd_T55 l1_7 x5_2).f0.f1)) ∧ w'.cell? ⟨(ad161.add ((x5_2).toNat * 20)).block, (ad161.add ((x5_2).toNat * 20)).off + 2, none⟩ = some (.int .i64 ((rd_T55 l0_7 x5_2).f1.f0.f0)) ∧ w'.cell? ⟨(ad161.add ((x5_2).toNat * 20)).block, (ad161.add ((x5_2).toNat * 20)).off + 3, none⟩ = some (.bool ((rd_T55 l0_7 x5_2).f1.f0.f1)) ∧ w'.cell? ⟨(ad161.add ((x5_2).toNat * 20)).block, (ad161.add ((x5_2).toNat * 20)).off + 4, none⟩ = some (.float .f64 ((rd_T55 l0_7 x5_2).f1.f0.f2)) ∧ w'.cell? ⟨(ad161.add ((x5_2).toNat * 20)).block, (ad161.add ((x5_2).toNat * 20)).off + 5, none⟩ = some (.string ((rd_T55 l0_7 x5_2).f1.f0.f3)) ∧ w'.cell? ⟨(ad161.add ((x5_2).toNat * 20)).block, (ad161.add ((x5_2).toNat * 20)).off + 6, none⟩ = some (.int .i64 ((rd_T55 l0_7 x5_2).f1.f0.f4)) ∧ w'.cell? ⟨(ad161.add ((x5_2).toNat * 20)).block, (ad161.add ((x5_2).toNat * 20)).off + 7, none⟩ = some (.int .i64 ((rd_T55 l0_7 x5_2).f1.f1.f0)) ∧ w'.cell? ⟨(ad161.add ((x5_2).toNat * 20)).block, (ad161.add ((x5_2).toNat * 20)).off + 8, none⟩ = some (.bool ((rd_T55 l0_7 x5_2).f1.f1.f1)) ∧ w'.cell? ⟨(ad161.add ((x5_2).toNat * 20)).block, (ad161.add ((x5_2).toNat * 20)).off + 9, none⟩ = some (.float .f64 ((rd_T55 l0_7 x5_2).f1.f1.f2)) ∧ w'.cell? ⟨(ad161.add ((x5_2).toNat * 20)).block, (ad161.add ((x5_2).toNat * 20)).off + 10, none⟩ = some (.string ((rd_T55 l0_7 x5_2).f1.f1.f3)) ∧ w'.cell? ⟨(ad161.add ((x5_2).toNat * 20)).block, (ad161.add ((x5_2).toNat * 20)).off + 11, none⟩ = some (.int .i64 ((rd_T55 l0_7 x5_2).f1.f1.f4)) ∧ w'.cell? ⟨(ad161.add ((x5_2).toNat * 20)).block, (ad161.add ((x5_2).toNat * 20)).off + 12, none⟩ = some (.int .i64 ((rd_T55 l0_7 x5_2).f1.f2.f0)) ∧ w'.cell? ⟨(ad161.add ((x5_2).toNat * 20)).block, (ad161.add ((x5_2).toNat * 20)).off + 13, none⟩ = some (.bool ((rd_T55 l0_7 x5_2).f1.f2.f1)) ∧ w'.cell? ⟨(ad161.add ((x5_2).toNat * 20)).block, (ad161.add ((x5_2).toNat * 20)).off + 14, none⟩ = some (.float .f64 ((rd_T55 l0_7 x5_2).f1.f2.f2)) ∧ w'.cell? ⟨(ad161.add ((x5_2).toNat * 20)).block, (ad161.add ((x5_2).toNat * 20)).off + 15, none⟩ = some (.string ((rd_T55 l0_7 x5_2).f1.f2.f3)) ∧ w'.cell? ⟨(ad161.add ((x5_2).toNat * 20)).block, (ad161.add ((x5_2).toNat * 20)).off + 16, none⟩ = some (.int .i64 ((rd_T55 l0_7 x5_2).f1.f2.f4)) ∧ w'.cell? ⟨(ad161.add ((x5_2).toNat * 20)).block, (ad161.add ((x5_2).toNat * 20)).off + 17, none⟩ = some (.int .i64 ((rd_T55 l0_7 x5_2).f1.f3)) ∧ w'.cell? ⟨(ad161.add ((x5_2).toNat * 20)).block, (ad161.add ((x5_2).toNat * 20)).off + 18, none⟩ = some (.int .i64 ((rd_T55 l0_7 x5_2).f1.f4)) ∧ w'.cell? ⟨(ad161.add ((x5_2).toNat * 20)).block, (ad161.add ((x5_2).toNat * 20)).off + 19, none⟩ = some (.int .i64 ((rd_T55 l0_7 x5_2).f1.f5)) ∧ w'.cell? ⟨(ad162.add ((x5_2).toNat * 20)).block, (ad162.add ((x5_2).toNat * 20)).off + 2, none⟩ = some (.int .i64 ((rd_T55 l1_7 x5_2).f1.f0.f0)) ∧ w'.cell? ⟨(ad162.add ((x5_2).toNat * 20)).block, (ad162.add ((x5_2).toNat * 20)).off + 3, none⟩ = some (.bool ((rd_T55 l1_7 x5_2).f1.f0.f1)) ∧ w'.cell? ⟨(ad162.add ((x5_2).toNat * 20)).block, (ad162.add ((x5_2).toNat * 20)).off + 4, none⟩ = some (.float .f64 ((rd_T55 l1_7 x5_2).f1.f0.f2)) ∧ w'.cell? ⟨(ad162.add ((x5_2).toNat * 20)).block, (ad162.add ((x5_2).toNat * 20)).off + 5, none⟩ = some (.string ((rd_T55 l1_7 x5_2).f1.f0.f3)) ∧ w'.cell? ⟨(ad162.add ((x5_2).toNat * 20)).block, (ad162.add ((x5_2).toNat * 20)).off + 6, none⟩ = some (.int .i64 ((rd_T55 l1_7 x5_2).f1.f0.f4)) ∧ w'.cell? ⟨(ad162.add ((x5_2).toNat * 20)).block, (ad162.add ((x5_2).toNat * 20)).off + 7, none⟩ = some (.int .i64 ((rd_T55 l1_7 x5_2).f1.f1.f0)) ∧ w'.cell? ⟨(ad162.add ((x5_2).toNat * 20)).block, (ad162.add ((x5_2).toNat * 20)).off + 8, none⟩ = some (.bool ((rd_T55 l1_7 x5_2).f1.f1.f1)) ∧ w'.cell? ⟨(ad162.add ((x5_2).toNat * 20)).block, (ad162.add ((x5_2).toNat * 20)).off + 9, none⟩ = some (.float .f64 ((rd_T55 l1_7 x5_2).f1.f1.f2)) ∧ w'.cell? ⟨(ad162.add ((x5_2).toNat * 20)).block, (ad162.add ((x5_2).toNat * 20)).off + 10, none⟩ = some (.string ((rd_T55 l1_7 x5_2).f1.f1.f3)) ∧ w'.cell? ⟨(ad162.add ((x5_2).toNat * 20)).block, (ad162.add ((x5_2).toNat * 20)).off + 11, none⟩ = some (.int .i64 ((rd_T55 l1_7 x5_2).f1.f1.f4)) ∧ w'.cell? ⟨(ad162.add ((x5_2).toNat * 20)).block, (ad162.add ((x5_2).toNat * 20)).off + 12, none⟩ = some (.int .i64 ((rd_T55 l1_7 x5_2).f1.f2.f0)) ∧ w'.cell? ⟨(ad162.add ((x5_2).toNat * 20)).block, (ad162.add ((x5_2).toNat * 20)).off + 13, none⟩ = some (.bool ((rd_T55 l1_7 x5_2).f1.f2.f1)) ∧ w'.cell? ⟨(ad162.add ((x5_2).toNat * 20)).block, (ad162.add ((x5_2).toNat * 20)).off + 14, none⟩ = some (.float .f64 ((rd_T55 l1_7 x5_2).f1.f2.f2)) ∧ w'.cell? ⟨(ad162.add ((x5_2).toNat * 20)).block, (ad162.add ((x5_2).toNat * 20)).off + 15, none⟩ = some (.string ((rd_T55 l1_7 x5_2).f1.f2.f3)) ∧ w'.cell? ⟨(ad162.add ((x5_2).toNat * 20)).block, (ad162.add ((x5_2).toNat * 20)).off + 16, none⟩ = some (.int .i64 ((rd_T55 l1_7 x5_2).f1.f2.f4)) ∧ w'.cell? ⟨(ad162.add ((x5_2).toNat * 20)).block, (ad162.add ((x5_2).toNat * 20)).off + 17, none⟩ = some (.int .i64 ((rd_T55 l1_7 x5_2).f1.f3)) ∧ w'.cell? ⟨(ad162.add ((x5_2).toNat * 20)).block, (ad162.add ((x5_2).toNat * 20)).off + 18, none⟩ = some (.int .i64 ((rd_T55 l1_7 x5_2).f1.f4)) ∧ w'.cell? ⟨(ad162.add ((x5_2).toNat * 20)).block, (ad162.add ((x5_2).toNat * 20)).off + 19, none⟩ = some (.int .i64 ((rd_T55 l1_7 x5_2).f1.f5))) (ds := []) #[o0, o0, o0, o0, o0, o0, o0, o0, o0, o0, o0, o0, o0, o0, o0, o0, o0, o0, o0, o0, o0, o0, o0, o0, o0, o0, o0, o0, o0] (by kernel_rfl) rfl rfl ⟨(blk_cell BK158.out 7).trans rfl, (blk_cell BK159.out 7).trans rfl, (bc HB.out hw161_0), (bc HB.out hw161_1), (bc HB.out hw162_0), (bc HB.out hw162_1), (bc HB.out hw163_2), (bc HB.out hw163_3), (bc HB.out hw163_4), (bc HB.out hw163_5), (bc HB.out hw163_6), (bc HB.out hw163_7), (bc HB.out hw163_8), (bc HB.out hw163_9), (bc HB.out hw163_10), (bc HB.out hw163_11), (bc HB.out hw163_12), (bc HB.out hw163_13), (bc HB.out hw163_14), (bc HB.out hw163_15), (bc HB.out hw163_16), (bc HB.out hw163_17), (bc HB.out hw163_18), (bc HB.out hw163_19), (bc HB.out hw164_2), (bc HB.out hw164_3), (bc HB.out hw164_4), (bc HB.out hw164_5), (bc HB.out hw164_6), (bc HB.out hw164_7), (bc HB.out hw164_8), (bc HB.out hw164_9), (bc HB.out hw164_10), (bc HB.out hw164_11), (bc HB.out hw164_12), (bc HB.out hw164_13), (bc HB.out hw164_14), (bc HB.out hw164_15), (bc HB.out hw164_16), (bc HB.out hw164_17), (bc HB.out hw164_18), (bc HB.out hw164_19)⟩ (fun hHeld => ?_); refine with_tabW cameoref10_SameShape.tab6 cameoref10_SameShape.bits6 (fun HT_ HW_ => ?_)
           generalize wr.drew = w45 at BK158 BK159 HB hx161_0 hx161_1 hx162_0 hx162_1 hx163_10 hx163_11 hx163_12 hx163_13 hx163_14 hx163_15 hx163_16 hx163_17 hx163_18 hx163_19 hx163_2 hx163_3 hx163_4 hx163_5 hx163_6 hx163_7 hx163_8 hx163_9 hx164_10 hx164_11 hx164_12 hx164_13 hx164_14 hx164_15 hx164_16 hx164_17 hx164_18 hx164_19 hx164_2 hx164_3 hx164_4 hx164_5 hx164_6 hx164_7 hx164_8 hx164_9 hHeld ⊢; refine pure_ (i := 0) (N := some 42) (v := ?_) (a' := ?_) #[o1, o0, o0, o0, o0, o0, o0, o0, o0, o0, o0, o0, o0, o0, o0, o0, o0, o0, o0, o0, o0, o0, o0, o0, o0, o0, o0, o0, o0] rfl rfl (any_of HT_.out (by kernel_rfl)) (fun _ _ _ h => h) (Or.inl ⟨by rfl, ?_⟩) ?_ ?_; rotate_left
           ·intro w'; go_simp; with_reducible rfl
           rotate_left
           ·simp only [Act.put, sA, s0, sS, i64_w, i32_w]; rfl
           refine pure_ (i := 2) (N := some 44) (v := ?_) (a' := ?_) #[o1, o0, o1, o0, o0, o0, o0, o0, o0, o0, o0, o0, o0, o0, o0, o0, o0, o0, o0, o0, o0, o0, o0, o0, o0, o0, o0, o0, o0] rfl rfl (any_of HT_.out (by kernel_rfl)) (fun _ _ _ h => h) (Or.inl ⟨by rfl, ?_⟩) ?_ ?_; rotate_left
           ·intro w'; go_simp; with_reducible rfl
           rotate_left
           ·simp only [Act.put, sA, s0, sS, i64_w, i32_w]; rfl
           refine pure_ (i := 6) (N := some 48) (v := ?_) (a' := ?_) #[o1, o0, o1, o0, o0, o0, o1, o0, o0, o0, o0, o0, o0, o0, o0, o0, o0, o0, o0, o0, o0, o0, o0, o0, o0, o0, o0, o0, o0] rfl rfl (any_of HT_.out (by kernel_rfl)) (fun _ _ _ h => h) (Or.inl ⟨by rfl, ?_⟩) ?_ ?_; rotate_left
           ·intro w'; go_simp; with_reducible rfl
           rotate_left
           ·simp only [Act.put, sA, s0, sS, i64_w, i32_w]; rfl
           refine pure_ (i := 8) (N := some 50) (v := ?_) (a' := ?_) #[o1, o0, o1, o0, o0, o0, o1, o0, o1, o0, o0, o0, o0, o0, o0, o0, o0, o0, o0, o0, o0, o0, o0, o0, o0, o0, o0, o0, o0] rfl rfl (any_of HT_.out (by kernel_rfl)) (fun _ _ _ h => h) (Or.inl ⟨by rfl, ?_⟩) ?_ ?_; rotate_left
           ·intro w'; go_simp; with_reducible rfl
           rotate_left
           ·simp only [Act.put, sA, s0, sS, i64_w, i32_w]; rfl
           refine take_ (i := 1) (N := some 43) (v := ?_) (a' := ?_) #[o1, o1, o1, o0, o0, o0, o1, o0, o1, o0, o0, o0, o0, o0, o0, o0, o0, o0, o0, o0, o0, o0, o0, o0, o0, o0, o0, o0, o0] rfl rfl (take_ofW HT_.out HW_.out (by kernel_rfl)) (fun _ _ _ h => h) (Or.inl ⟨by rfl, ?_⟩) hHeld ?_ ?_; rotate_left
           ·rintro w' ⟨s0, s1, s2, s3, s4, s5, s6, s7, s8, s9, s10, s11, s12, s13, s14, s15, s16, s17, s18, s19, s20, s21, s22, s23, s24, s25, s26, s27, s28, s29, s30, s31, s32, s33, s34, s35, s36, s37, s38, s39, s40, s41⟩
            go_simp; with_reducible rfl
           rotate_left
           ·simp only [Act.put, sA, s0, sS, i64_w, i32_w]; rfl
           refine pure_ (i := 3) (N := some 45) (v := ?_) (a' := ?_) #[o1, o1, o1, o1, o0, o0, o1, o0, o1, o0, o0, o0, o0, o0, o0, o0, o0, o0, o0, o0, o0, o0, o0, o0, o0, o0, o0, o0, o0] rfl rfl (any_of HT_.out (by kernel_rfl)) (fun _ _ _ h => h) (Or.inl ⟨by rfl, ?_⟩) ?_ ?_; rotate_left
           ·intro w'; go_simp; with_reducible rfl
           rotate_left
           ·simp only [Act.put, sA, s0, sS, i64_w, i32_w]; rfl
           refine pure_ (i := 4) (N := some 46) (v := ?_) (a' := ?_) #[o1, o1, o1, o1, o1, o0, o1, o0, o1, o0, o0, o0, o0, o0, o0, o0, o0, o0, o0, o0, o0, o0, o0, o0, o0, o0, o0, o0, o0] rfl rfl (any_of HT_.out (by kernel_rfl)) (fun _ _ _ h => h) (Or.inl ⟨by rfl, ?_⟩) ?_ ?_; rotate_left
           ·intro w'; go_simp; with_reducible rfl
           rotate_left
           ·simp only [Act.put, sA, s0, sS, i64_w, i32_w]; rfl
           refine take_ (i := 5) (N := some 47) (v := .agg #[.string ((rd_T55 l0_7 x5_2).f0.f0), .int .i64 ((rd_T55 l0_7 x5_2).f0.f1)]) (a' := ?_) #[o1, o1, o1, o1, o1, o1, o1, o0, o1, o0, o0, o0, o0, o0, o0, o0, o0, o0, o0, o0, o0, o0, o0, o0, o0, o0, o0, o0, o0] rfl rfl (take_ofW HT_.out HW_.out (by kernel_rfl)) (fun _ _ _ h => h) (Or.inl ⟨by rfl, ?_⟩) hHeld ?_ ?_
           ·rintro w' ⟨s0, s1, s2, s3, s4, s5, s6, s7, s8, s9, s10, s11, s12, s13, s14, s15, s16, s17, s18, s19, s20, s21, s22, s23, s24, s25, s26, s27, s28, s29, s30, s31, s32, s33, s34, s35, s36, s37, s38, s39, s40, s41⟩
            apply exec_load_cells Try.underlying30 2
            case ho => rfl
            case hx => rfl
            case hc => exact CellsAt.cons s2 (CellsAt.cons s3 (CellsAt.nil))
            case hn => rfl
            case hi => kernel_rfl
           rotate_left
           ·simp only [Act.put, sA, s0, sS, i64_w, i32_w]; rfl
           refine take_ (i := 7) (N := some 49) (v := ?_) (a' := ?_) #[o1, o1, o1, o1, o1, o1, o1, o1, o1, o0, o0, o0, o0, o0, o0, o0, o0, o0, o0, o0, o0, o0, o0, o0, o0, o0, o0, o0, o0] rfl rfl (take_ofW HT_.out HW_.out (by kernel_rfl)) (fun _ _ _ h => h) (Or.inl ⟨by rfl, ?_⟩) hHeld ?_ ?_; rotate_left
           ·rintro w' ⟨s0, s1, s2, s3, s4, s5, s6, s7, s8, s9, s10, s11, s12, s13, s14, s15, s16, s17, s18, s19, s20, s21, s22, s23, s24, s25, s26, s27, s28, s29, s30, s31, s32, s33, s34, s35, s36, s37, s38, s39, s40, s41⟩
            go_simp; with_reducible rfl
           rotate_left
           ·simp only [Act.put, sA, s0, sS, i64_w, i32_w]; rfl
           refine pure_ (i := 9) (N := some 51) (v := ?_) (a' := ?_) #[o1, o1, o1, o1, o1, o1, o1, o1, o1, o1, o0, o0, o0, o0, o0, o0, o0, o0, o0, o0, o0, o0, o0, o0, o0, o0, o0, o0, o0] rfl rfl (any_of HT_.out (by kernel_rfl)) (fun _ _ _ h => h) (Or.inl ⟨by rfl, ?_⟩) ?_ ?_; rotate_left
           ·intro w'; go_simp; with_reducible rfl
           rotate_left
           ·simp only [Act.put, sA, s0, sS, i64_w, i32_w]; rfl
           refine pure_ (i := 10) (N := some 52) (v := ?_) (a' := ?_) #[o1, o1, o1, o1, o1, o1, o1, o1, o1, o1, o1, o0, o0, o0, o0, o0, o0, o0, o0, o0, o0, o0, o0, o0, o0, o0, o0, o0, o0] rfl rfl (any_of HT_.out (by kernel_rfl)) (fun _ _ _ h => h) (Or.inl ⟨by rfl, ?_⟩) ?_ ?_; rotate_left
           ·intro w'; go_simp; with_reducible rfl
           rotate_left
           ·simp only [Act.put, sA, s0, sS, i64_w, i32_w]; rfl
           refine take_ (i := 11) (N := some 53) (v := .agg #[.string ((rd_T55 l1_7 x5_2).f0.f0), .int .i64 ((rd_T55 l1_7 x5_2).f0.f1)]) (a' := ?_) #[o1, o1, o1, o1, o1, o1, o1, o1, o1, o1, o1, o1, o0, o0, o0, o0, o0, o0, o0, o0, o0, o0, o0, o0, o0, o0, o0, o0, o0] rfl rfl (take_ofW HT_.out HW_.out (by kernel_rfl)) (fun _ _ _ h => h) (Or.inl ⟨by rfl, ?_⟩) hHeld ?_ ?_
           ·rintro w' ⟨s0, s1, s2, s3, s4, s5, s6, s7, s8, s9, s10, s11, s12, s13, s14, s15, s16, s17, s18, s19, s20, s21, s22, s23, s24, s25, s26, s27, s28, s29, s30, s31, s32, s33, s34, s35, s36, s37, s38, s39, s40, s41⟩
            apply exec_load_cells Try.underlying30 2
            case ho => rfl
            case hx => rfl
            case hc => exact CellsAt.cons s4 (CellsAt.cons s5 (CellsAt.nil))
            case hn => rfl
            case hi => kernel_rfl
           rotate_left
           ·simp only [Act.put, sA, s0, sS, i64_w, i32_w]; rfl
           refine pure_ (i := 12) (N := some 54) (v := ?_) (a' := ?_) #[o1, o1, o1, o1, o1, o1, o1, o1, o1, o1, o1, o1, o1, o0, o0, o0, o0, o0, o0, o0, o0, o0, o0, o0, o0, o0, o0, o0, o0] rfl rfl (any_of HT_.out (by kernel_rfl)) (fun _ _ _ h => h) (Or.inl ⟨by rfl, ?_⟩) ?_ ?_; rotate_left
           ·intro w'; go_simp; with_reducible rfl
           rotate_left
           ·simp only [Act.put, sA, s0, sS, i64_w, i32_w]; rfl
           refine pure_ (i := 13) (N := some 55) (v := ?_) (a' := ?_) #[o1, o1, o1, o1, o1, o1, o1, o1, o1, o1, o1, o1, o1, o1, o0, o0, o0, o0, o0, o0, o0, o0, o0, o0, o0, o0, o0, o0, o0] rfl rfl (any_of HT_.out (by kernel_rfl)) (fun _ _ _ h => h) (Or.inl ⟨by rfl, ?_⟩) ?_ ?_; rotate_left
           ·intro w'; go_simp; with_reducible rfl
           rotate_left
           ·simp only [Act.put, sA, s0, sS, i64_w, i32_w]; rfl
           refine pure_ (i := 14) (N := some 56) (v := ?_) (a' := ?_) #[o1, o1, o1, o1, o1, o1, o1, o1, o1, o1, o1, o1, o1, o1, o1, o0, o0, o0, o0, o0, o0, o0, o0, o0, o0, o0, o0, o0, o0] rfl rfl (any_of HT_.out (by kernel_rfl)) (fun _ _ _ h => h) (Or.inl ⟨by rfl, ?_⟩) ?_ ?_; rotate_left
           ·intro w'; go_simp; with_reducible rfl
           rotate_left
           ·simp only [Act.put, sA, s0, sS, i64_w, i32_w]; rfl
           refine pure_ (i := 16) (N := some 58) (v := ?_) (a' := ?_) #[o1, o1, o1, o1, o1, o1, o1, o1, o1, o1, o1, o1, o1, o1, o1, o0, o1, o0, o0, o0, o0, o0, o0, o0, o0, o0, o0, o0, o0] rfl rfl (any_of HT_.out (by kernel_rfl)) (fun _ _ _ h => h) (Or.inl ⟨by rfl, ?_⟩) ?_ ?_; rotate_left
           ·intro w'; go_simp; with_reducible rfl
           rotate_left
           ·simp only [Act.put, sA, s0, sS, i64_w, i32_w]; rfl
           refine pure_ (i := 20) (N := some 62) (v := ?_) (a' := ?_) #[o1, o1, o1, o1, o1, o1, o1, o1, o1, o1, o1, o1, o1, o1, o1, o0, o1, o0, o0, o0, o1, o0, o0, o0, o0, o0, o0, o0, o0] rfl rfl (any_of HT_.out (by kernel_rfl)) (fun _ _ _ h => h) (Or.inl ⟨by rfl, ?_⟩) ?_ ?_; rotate_left
           ·intro w'; go_simp; with_reducible rfl
           rotate_left
           ·simp only [Act.put, sA, s0, sS, i64_w, i32_w]; rfl
           refine pure_ (i := 22) (N := some 64) (v := ?_) (a' := ?_) #[o1, o1, o1, o1, o1, o1, o1, o1, o1, o1, o1, o1, o1, o1, o1, o0, o1, o0, o0, o0, o1, o0, o1, o0, o0, o0, o0, o0, o0] rfl rfl (any_of HT_.out (by kernel_rfl)) (fun _ _ _ h => h) (Or.inl ⟨by rfl, ?_⟩) ?_ ?_; rotate_left
           ·intro w'; go_simp; with_reducible rfl
           rotate_left
           ·simp only [Act.put, sA, s0, sS, i64_w, i32_w]; rfl
           refine take_ (i := 15) (N := some 57) (v := ?_) (a' := ?_) #[o1, o1, o1, o1, o1, o1, o1, o1, o1, o1, o1, o1, o1, o1, o1, o1, o1, o0, o0, o0, o1, o0, o1, o0, o0, o0, o0, o0, o0] rfl rfl (take_ofW HT_.out HW_.out (by kernel_rfl)) (fun _ _ _ h => h) (Or.inl ⟨by rfl, ?_⟩) hHeld ?_ ?_; rotate_left
           ·rintro w' ⟨s0, s1, s2, s3, s4, s5, s6, s7, s8, s9, s10, s11, s12, s13, s14, s15, s16, s17, s18, s19, s20, s21, s22, s23, s24, s25, s26, s27, s28, s29, s30, s31, s32, s33, s34, s35, s36, s37, s38, s39, s40, s41⟩
            go_simp; with_reducible rfl
           rotate_left
           ·simp only [Act.put, sA, s0, sS, i64_w, i32_w]; rfl
           refine pure_ (i := 17) (N := some 59) (v := ?_) (a' := ?_) #[o1, o1, o1, o1, o1, o1, o1, o1, o1, o1, o1, o1, o1, o1, o1, o1, o1, o1, o0, o0, o1, o0, o1, o0, o0, o0, o0, o0, o0] rfl rfl (any_of HT_.out (by kernel_rfl)) (fun _ _ _ h => h) (Or.inl ⟨by rfl, ?_⟩) ?_ ?_; rotate_left
           ·intro w'; go_simp; with_reducible rfl
           rotate_left
           ·simp only [Act.put, sA, s0, sS, i64_w, i32_w]; rfl
           refine pure_ (i := 18) (N := some 60) (v := ?_) (a' := ?_) #[o1, o1, o1, o1, o1, o1, o1, o1, o1, o1, o1, o1, o1, o1, o1, o1, o1, o1, o1, o0, o1, o0, o1, o0, o0, o0, o0, o0, o0] rfl rfl (any_of HT_.out (by kernel_rfl)) (fun _ _ _ h => h) (Or.inl ⟨by rfl, ?_⟩) ?_ ?_; rotate_left
           ·intro w'; go_simp; with_reducible rfl
           rotate_left
           ·simp only [Act.put, sA, s0, sS, i64_w, i32_w]; rfl
           refine take_ (i := 19) (N := some 61) (v := .agg (c33A ((rd_T55 l0_7 x5_2).f1))) (a' := ?_) #[o1, o1, o1, o1, o1, o1, o1, o1, o1, o1, o1, o1, o1, o1, o1, o1, o1, o1, o1, o1, o1, o0, o1, o0, o0, o0, o0, o0, o0] rfl rfl (take_ofW HT_.out HW_.out (by kernel_rfl)) (fun _ _ _ h => h) (Or.inl ⟨by rfl, ?_⟩) hHeld ?_ ?_
           ·rintro w' ⟨s0, s1, s2, s3, s4, s5, s6, s7, s8, s9, s10, s11, s12, s13, s14, s15, s16, s17, s18, s19, s20, s21, s22, s23, s24, s25, s26, s27, s28, s29, s30, s31, s32, s33, s34, s35, s36, s37, s38, s39, s40, s41⟩
            apply exec_load_cells Try.underlying33 18
            case ho => rfl
            case hx => rfl
            case hc => exact CellsAt.cons s6 (CellsAt.cons s7 (CellsAt.cons s8 (CellsAt.cons s9 (CellsAt.cons s10 (CellsAt.cons s11 (CellsAt.cons s12 (CellsAt.cons s13 (CellsAt.cons s14 (CellsAt.cons s15 (CellsAt.cons s16 (CellsAt.cons s17 (CellsAt.cons s18 (CellsAt.cons s19 (CellsAt.cons s20 (CellsAt.cons s21 (CellsAt.cons s22 (CellsAt.cons s23 (CellsAt.nil))))))))))))))))))
            case hn => rfl
            case hi => kernel_rfl
           rotate_left
           ·simp only [Act.put, sA, s0, sS, i64_w, i32_w]; rfl
           refine take_ (i := 21) (N := some 63) (v := ?_) (a' := ?_) #[o1, o1, o1, o1, o1, o1, o1, o1, o1, o1, o1, o1, o1, o1, o1, o1, o1, o1, o1, o1, o1, o1, o1, o0, o0, o0, o0, o0, o0] rfl rfl (take_ofW HT_.out HW_.out (by kernel_rfl)) (fun _ _ _ h => h) (Or.inl ⟨by rfl, ?_⟩) hHeld ?_ ?_; rotate_left
           ·rintro w' ⟨s0, s1, s2, s3, s4, s5, s6, s7, s8, s9, s10, s11, s12, s13, s14, s15, s16, s17, s18, s19, s20, s21, s22, s23, s24, s25, s26, s27, s28, s29, s30, s31, s32, s33, s34, s35, s36, s37, s38, s39, s40, s41⟩
            go_simp; with_reducible rfl
           rotate_left
           ·simp only [Act.put, sA, s0, sS, i64_w, i32_w]; rfl
           refine pure_ (i := 23) (N := some 65) (v := ?_) (a' := ?_) #[o1, o1, o1, o1, o1, o1, o1, o1, o1, o1, o1, o1, o1, o1, o1, o1, o1, o1, o1, o1, o1, o1, o1, o1, o0, o0, o0, o0, o0] rfl rfl (any_of HT_.out (by kernel_rfl)) (fun _ _ _ h => h) (Or.inl ⟨by rfl, ?_⟩) ?_ ?_; rotate_left
           ·intro w'; go_simp; with_reducible rfl
           rotate_left
           ·simp only [Act.put, sA, s0, sS, i64_w, i32_w]; rfl
           refine pure_ (i := 24) (N := some 66) (v := ?_) (a' := ?_) #[o1, o1, o1, o1, o1, o1, o1, o1, o1, o1, o1, o1, o1, o1, o1, o1, o1, o1, o1, o1, o1, o1, o1, o1, o1, o0, o0, o0, o0] rfl rfl (any_of HT_.out (by kernel_rfl)) (fun _ _ _ h => h) (Or.inl ⟨by rfl, ?_⟩) ?_ ?_; rotate_left
           ·intro w'; go_simp; with_reducible rfl
           rotate_left
           ·simp only [Act.put, sA, s0, sS, i64_w, i32_w]; rfl
           refine take_ (i := 25) (N := some 67) (v := .agg (c33A ((rd_T55 l1_7 x5_2).f1))) (a' := ?_) #[o1, o1, o1, o1, o1, o1, o1, o1, o1, o1, o1, o1, o1, o1, o1, o1, o1, o1, o1, o1, o1, o1, o1, o1, o1, o1, o0, o0, o0] rfl rfl (take_ofW HT_.out HW_.out (by kernel_rfl)) (fun _ _ _ h => h) (Or.inl ⟨by rfl, ?_⟩) hHeld ?_ ?_
           ·rintro w' ⟨s0, s1, s2, s3, s4, s5, s6, s7, s8, s9, s10, s11, s12, s13, s14, s15, s16, s17, s18, s19, s20, s21, s22, s23, s24, s25, s26, s27, s28, s29, s30, s31, s32, s33, s34, s35, s36, s37, s38, s39, s40, s41⟩
            apply exec_load_cells Try.underlying33 18
            case ho => rfl
            case hx => rfl
            case hc => exact CellsAt.cons s24 (CellsAt.cons s25 (CellsAt.cons s26 (CellsAt.cons s27 (CellsAt.cons s28 (CellsAt.cons s29 (CellsAt.cons s30 (CellsAt.cons s31 (CellsAt.cons s32 (CellsAt.cons s33 (CellsAt.cons s34 (CellsAt.cons s35 (CellsAt.cons s36 (CellsAt.cons s37 (CellsAt.cons s38 (CellsAt.cons s39 (CellsAt.cons s40 (CellsAt.cons s41 (CellsAt.nil))))))))))))))))))
            case hn => rfl
            case hi => kernel_rfl
           rotate_left
           ·simp only [Act.put, sA, s0, sS, i64_w, i32_w]; rfl
           refine one_ (i := 26) (N := some 68) #[o1, o1, o1, o1, o1, o1, o1, o1, o1, o1, o1, o1, o1, o1, o1, o1, o1, o1, o1, o1, o1, o1, o1, o1, o1, o1, o1, o0, o0] rfl rfl (one_of HT_.out (by kernel_rfl)) (by decide) (fun K hK => ?_); refine goes_ Try.func20 (by kernel_rfl) rfl #[.agg (c33A ((rd_T55 l0_7 x5_2).f1)), .agg (c33A ((rd_T55 l1_7 x5_2).f1))] (by rfl) rfl rfl (by (try simp only [List.map_toArray, List.map_cons, List.map_nil]); first | done | rfl | (simp only [List.length_drop, List.length_take]; rfl)) ?_
           with_reducible refine (cameoref10_EqDesc.calls ((rd_T55 l0_7 x5_2).f1.f0.f0) ((rd_T55 l0_7 x5_2).f1.f0.f1) ((rd_T55 l0_7 x5_2).f1.f0.f2) ((rd_T55 l0_7 x5_2).f1.f0.f3) ((rd_T55 l0_7 x5_2).f1.f0.f4) ((rd_T55 l0_7 x5_2).f1.f1.f0) ((rd_T55 l0_7 x5_2).f1.f1.f1) ((rd_T55 l0_7 x5_2).f1.f1.f2) ((rd_T55 l0_7 x5_2).f1.f1.f3) ((rd_T55 l0_7 x5_2).f1.f1.f4) ((rd_T55 l0_7 x5_2).f1.f2.f0) ((rd_T55 l0_7 x5_2).f1.f2.f1) ((rd_T55 l0_7 x5_2).f1.f2.f2) ((rd_T55 l0_7 x5_2).f1.f2.f3) ((rd_T55 l0_7 x5_2).f1.f2.f4) ((rd_T55 l0_7 x5_2).f1.f3) ((rd_T55 l0_7 x5_2).f1.f4) ((rd_T55 l0_7 x5_2).f1.f5) ((rd_T55 l1_7 x5_2).f1.f0.f0) ((rd_T55 l1_7 x5_2).f1.f0.f1) ((rd_T55 l1_7 x5_2).f1.f0.f2) ((rd_T55 l1_7 x5_2).f1.f0.f3) ((rd_T55 l1_7 x5_2).f1.f0.f4) ((rd_T55 l1_7 x5_2).f1.f1.f0) ((rd_T55 l1_7 x5_2).f1.f1.f1) ((rd_T55 l1_7 x5_2).f1.f1.f2) ((rd_T55 l1_7 x5_2).f1.f1.f3) ((rd_T55 l1_7 x5_2).f1.f1.f4) ((rd_T55 l1_7 x5_2).f1.f2.f0) ((rd_T55 l1_7 x5_2).f1.f2.f1) ((rd_T55 l1_7 x5_2).f1.f2.f2) ((rd_T55 l1_7 x5_2).f1.f2.f3) ((rd_T55 l1_7 x5_2).f1.f2.f4) ((rd_T55 l1_7 x5_2).f1.f3) ((rd_T55 l1_7 x5_2).f1.f4) ((rd_T55 l1_7 x5_2).f1.f5) false _ A37.out).mono ?_
           rintro e w46 ⟨rfl, hb⟩
           refine ⟨_, rfl, ?_⟩; replace BK158 := Aside0.mk (blk_b BK158.out hb); replace BK159 := Aside0.mk (blk_b BK159.out hb); replace HB := Aside0.mk (bel_s HB.out hb); (try clear hb); (try clear hb2); (try clear hk); (try clear hi); refine hK.out _ _ ⟨(blk_cell BK158.out 7).trans rfl, (blk_cell BK159.out 7).trans rfl, (bc HB.out hw161_0), (bc HB.out hw161_1), (bc HB.out hw162_0), (bc HB.out hw162_1), (bc HB.out hw163_2), (bc HB.out hw163_3), (bc HB.out hw163_4), (bc HB.out hw163_5), (bc HB.out hw163_6), (bc HB.out hw163_7), (bc HB.out hw163_8), (bc HB.out hw163_9), (bc HB.out hw163_10), (bc HB.out hw163_11), (bc HB.out hw163_12), (bc HB.out hw163_13), (bc HB.out hw163_14), (bc HB.out hw163_15), (bc HB.out hw163_16), (bc HB.out hw163_17), (bc HB.out hw163_18), (bc HB.out hw163_19), (bc HB.out hw164_2), (bc HB.out hw164_3), (bc HB.out hw164_4), (bc HB.out hw164_5), (bc HB.out hw164_6), (bc HB.out hw164_7), (bc HB.out hw164_8), (bc HB.out hw164_9), (bc HB.out hw164_10), (bc HB.out hw164_11), (bc HB.out hw164_12), (bc HB.out hw164_13), (bc HB.out hw164_14), (bc HB.out hw164_15), (bc HB.out hw164_16), (bc HB.out hw164_17), (bc HB.out hw164_18), (bc HB.out hw164_19)⟩ (fun hHeld => ?_); clear hK K; refine norm_ (a' := ?_) ?_ ?_; rotate_left
           ·show Act.put _ (some 68) _ = _
            simp only [Act.put, sA, s0, sS, i64_w, i32_w]; rfl
           refine pure_ (i := 27) (N := some 69) (v := ?_) (a' := ?_) #[o1, o1, o1, o1, o1, o1, o1, o1, o1, o1, o1, o1, o1, o1, o1, o1, o1, o1, o1, o1, o1, o1, o1, o1, o1, o1, o1, o1, o0] rfl rfl (any_of HT_.out (by kernel_rfl)) (fun _ _ _ h => h) (Or.inl ⟨by rfl, ?_⟩) ?_ ?_; rotate_left
           ·intro w'; go_simp; with_reducible rfl
           rotate_left
           ·simp only [Act.put, sA, s0, sS, i64_w, i32_w]; rfl
           refine pure_ (i := 28) (N := some 70) (v := ?_) (a' := ?_) #[o1, o1, o1, o1, o1, o1, o1, o1, o1, o1, o1, o1, o1, o1, o1, o1, o1, o1, o1, o1, o1, o1, o1, o1, o1, o1, o1, o1, o1] rfl rfl (any_of HT_.out (by kernel_rfl)) (fun _ _ _ h => h) (Or.inl ⟨by rfl, ?_⟩) ?_ ?_; rotate_left
           ·intro w'; go_simp; with_reducible rfl
           rotate_left
           ·simp only [Act.put, sA, s0, sS, i64_w, i32_w]; rfl
           refine done_ (done_of HT_.out (by kernel_rfl)) ?_
           try go_wp2
           go_ret
           exact ⟨by first | rfl | (simp [errW_none, errW_some] <;> rfl) | (simp [*, errW_none, errW_some] <;> rfl), by repeat (first | (with_reducible first | exact HB.out | apply below_alloc | apply pw_below_drewN | apply below_drew1 | refine below_set ?_ GE158.out | refine below_set ?_ GE159.out) | exact HB.out)⟩
        ·rw [if_neg c32] at H; exact absurd H (by simp)
       ·rw [if_neg c31] at H; exact absurd H (by simp)
      ·rw [if_neg c30] at H; have c30b0 : decide (x5_2 < (l0_7.length : Int)) = false := decide_eq_false c30; clear c30; obtain rfl := Option.some.inj H; have hnb47 := NB158_159.out; have hnc47 := NB159_158.out; have hcz48_7 : wr.cell? ⟨gb158, 7, none⟩ = some (.slice A0_7 l0_7.length c0_7) := (blk_cell BK158.out 7).trans rfl
       go_wp2
       go_ret
       exact ⟨by first | rfl | (simp [errW_none, errW_some] <;> rfl) | (simp [*, errW_none, errW_some] <;> rfl), by repeat (first | (with_reducible first | exact HB.out | apply below_alloc | apply pw_below_drewN | apply below_drew1 | refine below_set ?_ GE158.out | refine below_set ?_ GE159.out) | exact HB.out)⟩

end Go.Proofs.Ytaojjpdlfnphiaa.PInvariantDiffs
