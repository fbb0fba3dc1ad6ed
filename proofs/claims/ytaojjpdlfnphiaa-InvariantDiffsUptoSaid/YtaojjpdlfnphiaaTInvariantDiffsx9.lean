-- Printed by a program of this session over the translation; Lean checks it.
import Derived.Test.YtaojjpdlfnphiaaTInvariantDiffsx0
import Derived.Test.YtaojjpdlfnphiaaTInvariantDiffsx8
namespace Go.Proofs.Ytaojjpdlfnphiaa.PInvariantDiffs
open Go.RowKit Go.Proofs.YtaojjpdlfnphiaaW.PrintWords Go.Proofs.YtaojjpdlfnphiaaW.PrintLast Go.Proofs.YtaojjpdlfnphiaaW.PrintMore
attribute [local go_sem] max2_int min2_int max_two min_two max_three min_three max_four min_four   -- for this text's walks alone
set_option linter.unusedVariables false
set_option linter.unusedSimpArgs false

/-! ### cameoref10_Twice: function 23 -/
mutual
def cameoref10_Twice.l0 : Nat → List (S52) → Int → Option (Bool)
 | 0, _, _ => none
 | k + 1, x0, x3 => if x3 < (x0.length : Int) then (cameoref10_Twice.l1 k x0 x3 0) else (some false)
def cameoref10_Twice.l1 : Nat → List (S52) → Int → Int → Option (Bool)
 | 0, _, _, _ => none
 | k + 1, x0, x3, x4 => if 0 ≤ x3 then (if x3 < (x0.length : Int) then (if x4 < (((rd_T52 x0 x3).f3).length : Int) then (if 0 ≤ x4 then ((cameoref10_Find.f k ((rd_T52 x0 x3).f3) ((rd_T55 ((rd_T52 x0 x3).f3) x4).f0.f0) ((rd_T55 ((rd_T52 x0 x3).f3) x4).f0.f1)).bind fun t418 => (if t418 = x4 then (cameoref10_Twice.l1 k x0 x3 (wrap64 (x4 + 1))) else (some true))) else (none)) else (cameoref10_Twice.l0 k x0 (wrap64 (x3 + 1)))) else (none)) else (none)
end
def cameoref10_Twice.f (k : Nat) (l0 : List (S52)) : Option (Bool) := cameoref10_Twice.l0 k l0 0
theorem cameoref10_Twice.mono_l : ∀ k, (∀ y0 y1, LeO (cameoref10_Twice.l0 k y0 y1) (cameoref10_Twice.l0 (k + 1) y0 y1)) ∧ (∀ y0 y1 y2, LeO (cameoref10_Twice.l1 k y0 y1 y2) (cameoref10_Twice.l1 (k + 1) y0 y1 y2))
 | 0 => ⟨fun _ _ r h => by simp [cameoref10_Twice.l0] at h, fun _ _ _ r h => by simp [cameoref10_Twice.l1] at h⟩
 | k + 1 => by
  obtain ⟨ih0, ih1⟩ := cameoref10_Twice.mono_l k
  refine ⟨?_, ?_⟩
  ·intro y0 y1
   unfold cameoref10_Twice.l0
   repeat' first
   | (with_reducible exact ih0 _ _)
   | (with_reducible exact ih1 _ _ _)
   | (with_reducible exact cameoref10_Find.mono _ _ _ _)
   | (with_reducible exact LeO.refl _)
   | (with_reducible exact LeO.none _)
   | (with_reducible refine LeO.ite ?_ ?_)
   | (with_reducible refine LeO.bind ?_ (fun _ => ?_))
   | exact ih0 _ _
   | exact ih1 _ _ _
   | exact cameoref10_Find.mono _ _ _ _
   | exact LeO.none _
   | refine LeO.ite ?_ ?_
   | refine LeO.bind ?_ (fun _ => ?_)
  ·intro y0 y1 y2
   unfold cameoref10_Twice.l1
   repeat' first
   | (with_reducible exact ih0 _ _)
   | (with_reducible exact ih1 _ _ _)
   | (with_reducible exact cameoref10_Find.mono _ _ _ _)
   | (with_reducible exact LeO.refl _)
   | (with_reducible exact LeO.none _)
   | (with_reducible refine LeO.ite ?_ ?_)
   | (with_reducible refine LeO.bind ?_ (fun _ => ?_))
   | exact ih0 _ _
   | exact ih1 _ _ _
   | exact cameoref10_Find.mono _ _ _ _
   | exact LeO.none _
   | refine LeO.ite ?_ ?_
   | refine LeO.bind ?_ (fun _ => ?_)
theorem cameoref10_Twice.mono : ∀ a0 k, LeO (cameoref10_Twice.f k a0) (cameoref10_Twice.f (k + 1) a0) := by
 intro a0 k
 obtain ⟨ih0, ih1⟩ := cameoref10_Twice.mono_l k
 unfold cameoref10_Twice.f
 repeat' first
   | (with_reducible exact ih0 _ _)
   | (with_reducible exact ih1 _ _ _)
   | (with_reducible exact cameoref10_Find.mono _ _ _ _)
   | (with_reducible exact LeO.refl _)
   | (with_reducible exact LeO.none _)
   | (with_reducible refine LeO.ite ?_ ?_)
   | (with_reducible refine LeO.bind ?_ (fun _ => ?_))
   | exact ih0 _ _
   | exact ih1 _ _ _
   | exact cameoref10_Find.mono _ _ _ _
   | exact LeO.none _
   | refine LeO.ite ?_ ?_
   | refine LeO.bind ?_ (fun _ => ?_)
def cameoref10_Twice.T7 : Bool × List (List Nat × List Nat) := (true, [([], []), ([], []), ([0, 1], [0, 1]), ([2], [2]), ([3], [3]), ([], []), ([], []), ([5, 6], [5, 6]), ([7], [7]), ([8], [8]), ([], []), ([9, 10], [9, 10]), ([11], [11]), ([12], [12]), ([4, 13], [4, 13]), ([], []), ([14, 15], [14, 15])])
def cameoref10_Twice.B7 : List Nat := [0, 0, 3, 7, 15, 0, 0, 96, 224, 480, 0, 2016, 4064, 8160, 16383, 0, 65535]
theorem cameoref10_Twice.tab7 : rtab .any (opsOf Try.f23 7) = cameoref10_Twice.T7 := by kernel_rfl
theorem cameoref10_Twice.bits7 : waitsOk cameoref10_Twice.T7.2 cameoref10_Twice.B7 = true := by kernel_rfl
set_option maxHeartbeats 8000000 in
set_option maxRecDepth 100000 in
theorem cameoref10_Twice.calls (k : Nat) (A0 : Option Addr) (c0 : Nat) (l0 : List (S52)) (r : Bool) (w : World) (hr0 : Kd.C k52 w A0 l0.length l0) (hc0 : l0.length ≤ c0) (h : cameoref10_Twice.f k l0 = some r) :
  Calls Try.prog 23 #[.slice A0 l0.length c0] w fun e w' => e = .returned (.bool r) ∧ Below w.heap.size w w' := by
 have hu30 := Try.underlying30; have HR0 := Aside0.mk hr0; have HC0 := Aside0.mk hc0; clear hr0 hc0; have HB := Aside0.mk (Below.refl w.heap.size w); have H : (cameoref10_Twice.l0 k l0 0) = some r := h; clear h; have H' := Aside0.mk H; clear H
 go_enter Try.func23, Try.ntmps23
 go_wp2
 go_loopg [3] k (fun kq v3 w' => ∃ (x3_1 : Int), v3 = .int .i64 x3_1 ∧ Aside0 (cameoref10_Twice.l0 kq l0 x3_1 = some r) ∧ Aside0 (kq ≤ k) ∧ Aside0 (Below w.heap.size w w'))
 case atStart => exact ⟨(0), (by first | rfl | (simp; done) | (simp [*]; done)), H', ⟨Nat.le_refl _⟩, ⟨by repeat (first | (with_reducible first | exact HB.out | apply below_alloc | apply pw_below_drewN | apply below_drew1) | exact HB.out)⟩⟩
 case round =>
  clear H'; obtain ⟨x3_1, rfl, HA, HK1, HB⟩ := hrel
  cases gk with
  | zero => exact absurd HA.out (by simp [cameoref10_Twice.l0])
  | succ k1 =>
   have H := HA.out; clear HA; simp only [cameoref10_Twice.l0] at H
   by_cases c2 : x3_1 < (l0.length : Int)
   ·rw [if_pos c2] at H; have c2b0 : decide (x3_1 < (l0.length : Int)) = true := decide_eq_true c2; clear c2; have H' := Aside0.mk H; clear H
    go_wp2
    go_loopg [4] k1 (fun kq v4 w' => ∃ (x4_2 : Int), v4 = .int .i64 x4_2 ∧ Aside0 (cameoref10_Twice.l1 kq l0 x3_1 x4_2 = some r) ∧ Aside0 (kq ≤ k1) ∧ Aside0 (Below w.heap.size w w'))
    case atStart => exact ⟨(0), (by first | rfl | (simp; done) | (simp [*]; done)), H', ⟨Nat.le_refl _⟩, ⟨by repeat (first | (with_reducible first | exact HB.out | apply below_alloc | apply pw_below_drewN | apply below_drew1) | exact HB.out)⟩⟩
    case round =>
     clear H'; (try clear c2); (try clear c2b0); (try clear p2); obtain ⟨x4_2, rfl, HA, HK2, HB⟩ := hrel
     cases gk with
     | zero => exact absurd HA.out (by simp [cameoref10_Twice.l1])
     | succ k2 =>
      have H := HA.out; clear HA; simp only [cameoref10_Twice.l1] at H
      by_cases c3 : 0 ≤ x3_1
      ·rw [if_pos c3] at H; have c3b0 : decide (0 ≤ x3_1) = true := decide_eq_true c3; clear c3
       by_cases c4 : x3_1 < (l0.length : Int)
       ·rw [if_pos c4] at H; have c4b0 : decide (x3_1 < (l0.length : Int)) = true := decide_eq_true c4; clear c4
        by_cases c5 : x4_2 < (((rd_T52 l0 x3_1).f3).length : Int)
        ·rw [if_pos c5] at H; have c5b0 : decide (x4_2 < (((rd_T52 l0 x3_1).f3).length : Int)) = true := decide_eq_true c5; clear c5
         by_cases c6 : 0 ≤ x4_2
         ·rw [if_pos c6] at H; have c6b0 : decide (0 ≤ x4_2) = true := decide_eq_true c6; clear c6; replace H := Option.bind_eq_some_iff.mp H; obtain ⟨t418, A70, H⟩ := H; replace H : (if t418 = x4_2 then (cameoref10_Twice.l1 k2 l0 x3_1 (wrap64 (x4_2 + 1))) else (some true)) = some r := H; have A7 := Aside0.mk A70; clear A70
          by_cases c8 : t418 = x4_2
          ·rw [if_pos c8] at H; have c8b0 : (t418 == x4_2) = true := beq_iff_eq.mpr c8; have c8b1 : (t418 != x4_2) = false := bne_eq_false_iff_eq.mpr c8; clear c8; have H' := Aside0.mk H; clear H; have p414 : 0 ≤ (x3_1 : Int) := of_decide_eq_true (by first | (with_reducible assumption) | assumption); have q414 : x3_1 < (l0.length : Int) := of_decide_eq_true (by first | (with_reducible assumption) | assumption); obtain ⟨ad414, A414_7, c414_7, e414, _, _, _, _, _, _, _, hx414_7, hl414_7, hi414_7⟩ := at_T52 HR0.out x3_1 p414 q414
           cases e414
           replace hx414_7 := bc HB.out hx414_7; have HR414_7 := Aside0.mk hi414_7; have HC414_7 := Aside0.mk hl414_7; clear hi414_7 hl414_7; replace p414 := eq_true p414; replace q414 := eq_true q414
           try go_wp2
           replace HB := Aside0.mk (below_drew1 HB.out); have p415 : 0 ≤ (x3_1 : Int) := of_decide_eq_true (by first | (with_reducible assumption) | assumption); have q415 : x3_1 < (l0.length : Int) := of_decide_eq_true (by first | (with_reducible assumption) | assumption); obtain ⟨ad415, A415_7, c415_7, e415, _, _, _, _, _, _, _, hx415_7, hl415_7, hi415_7⟩ := at_T52 HR0.out x3_1 p415 q415; have hw415_7 := hx415_7; obtain rfl : ad414 = ad415 := (by injection e415); replace hx415_7 := bc HB.out hx415_7; have HR415_7 := Aside0.mk hi415_7; have HC415_7 := Aside0.mk hl415_7; clear hi415_7 hl415_7; replace p415 := eq_true p415; replace q415 := eq_true q415; have p416 : 0 ≤ (x3_1 : Int) := of_decide_eq_true (by first | (with_reducible assumption) | assumption); have q416 : x3_1 < (l0.length : Int) := of_decide_eq_true (by first | (with_reducible assumption) | assumption); obtain ⟨ad416, A416_7, c416_7, e416, _, _, _, _, _, _, _, hx416_7, hl416_7, hi416_7⟩ := at_T52 HR0.out x3_1 p416 q416; have hw416_7 := hx416_7; obtain rfl : ad414 = ad416 := (by injection e416); replace hx416_7 := bc HB.out hx416_7; have HR416_7 := Aside0.mk hi416_7; have HC416_7 := Aside0.mk hl416_7; clear hi416_7 hl416_7; replace p416 := eq_true p416; replace q416 := eq_true q416; have ea_ := Option.some.inj (hx415_7.symm.trans hx416_7)
           injection ea_ with ea_ en_ ec_
           subst ea_; subst ec_; clear en_; have p417 : 0 ≤ (x4_2 : Int) := of_decide_eq_true (by first | (with_reducible assumption) | assumption); have q417 : x4_2 < (((rd_T52 l0 x3_1).f3).length : Int) := of_decide_eq_true (by first | (with_reducible assumption) | assumption); obtain ⟨ad417, e417, hx417_0, hx417_1, _, _, _, _, _, _, _, _, _, _, _, _, _, _, _, _, _, _⟩ := at_T55 HR416_7.out x4_2 p417 q417; have hw417_1 := hx417_1; have hw417_0 := hx417_0
           cases e417
           replace hx417_0 := bc HB.out hx417_0; replace hx417_1 := bc HB.out hx417_1; replace p417 := eq_true p417; replace q417 := eq_true q417; refine start_ (n := 17) (S := fun w' => w'.cell? ⟨(ad414.add ((x3_1).toNat * 8)).block, (ad414.add ((x3_1).toNat * 8)).off + 7, none⟩ = some (.slice (some ad417) ((rd_T52 l0 x3_1).f3).length c415_7) ∧ w'.cell? ⟨(ad414.add ((x3_1).toNat * 8)).block, (ad414.add ((x3_1).toNat * 8)).off + 7, none⟩ = some (.slice (some ad417) ((rd_T52 l0 x3_1).f3).length c415_7) ∧ w'.cell? (ad417.add ((x4_2).toNat * 20)) = some (.string ((rd_T55 ((rd_T52 l0 x3_1).f3) x4_2).f0.f0)) ∧ w'.cell? ⟨(ad417.add ((x4_2).toNat * 20)).block, (ad417.add ((x4_2).toNat * 20)).off + 1, none⟩ = some (.int .i64 ((rd_T55 ((rd_T52 l0 x3_1).f3) x4_2).f0.f1))) (ds := []) #[o0, o0, o0, o0, o0, o0, o0, o0, o0, o0, o0, o0, o0, o0, o0, o0, o0] (by kernel_rfl) rfl rfl ⟨(bc HB.out hw415_7), (bc HB.out hw416_7), (bc HB.out hw417_0), (bc HB.out hw417_1)⟩ (fun hHeld => ?_); refine with_tabW cameoref10_Twice.tab7 cameoref10_Twice.bits7 (fun HT_ HW_ => ?_); generalize wr.drew = w9 at HB HR415_7 HR416_7 hx415_7 hx416_7 hx417_0 hx417_1 hHeld ⊢; refine pure_ (i := 0) (N := some 21) (v := ?_) (a' := ?_) #[o1, o0, o0, o0, o0, o0, o0, o0, o0, o0, o0, o0, o0, o0, o0, o0, o0] rfl rfl (any_of HT_.out (by kernel_rfl)) (fun _ _ _ h => h) (Or.inl ⟨by rfl, ?_⟩) ?_ ?_; rotate_left
           ·intro w'; go_simp; with_reducible rfl
           rotate_left
           ·simp only [Act.put, sA, s0, sS, i64_w, i32_w]; rfl
           refine pure_ (i := 1) (N := some 22) (v := ?_) (a' := ?_) #[o1, o1, o0, o0, o0, o0, o0, o0, o0, o0, o0, o0, o0, o0, o0, o0, o0] rfl rfl (any_of HT_.out (by kernel_rfl)) (fun _ _ _ h => h) (Or.inl ⟨by rfl, ?_⟩) ?_ ?_; rotate_left
           ·intro w'; go_simp; with_reducible rfl
           rotate_left
           ·simp only [Act.put, sA, s0, sS, i64_w, i32_w]; rfl
           refine pure_ (i := 2) (N := some 23) (v := ?_) (a' := ?_) #[o1, o1, o1, o0, o0, o0, o0, o0, o0, o0, o0, o0, o0, o0, o0, o0, o0] rfl rfl (any_of HT_.out (by kernel_rfl)) (fun _ _ _ h => h) (Or.inl ⟨by rfl, ?_⟩) ?_ ?_; rotate_left
           ·intro w'; go_simp; with_reducible rfl
           rotate_left
           ·simp only [Act.put, sA, s0, sS, i64_w, i32_w]; rfl
           refine pure_ (i := 3) (N := some 24) (v := ?_) (a' := ?_) #[o1, o1, o1, o1, o0, o0, o0, o0, o0, o0, o0, o0, o0, o0, o0, o0, o0] rfl rfl (any_of HT_.out (by kernel_rfl)) (fun _ _ _ h => h) (Or.inl ⟨by rfl, ?_⟩) ?_ ?_; rotate_left
           ·intro w'; go_simp; with_reducible rfl
           rotate_left
           ·simp only [Act.put, sA, s0, sS, i64_w, i32_w]; rfl
           refine pure_ (i := 5) (N := some 26) (v := ?_) (a' := ?_) #[o1, o1, o1, o1, o0, o1, o0, o0, o0, o0, o0, o0, o0, o0, o0, o0, o0] rfl rfl (any_of HT_.out (by kernel_rfl)) (fun _ _ _ h => h) (Or.inl ⟨by rfl, ?_⟩) ?_ ?_; rotate_left
           ·intro w'; go_simp; with_reducible rfl
           rotate_left
           ·simp only [Act.put, sA, s0, sS, i64_w, i32_w]; rfl
           refine pure_ (i := 6) (N := some 27) (v := ?_) (a' := ?_) #[o1, o1, o1, o1, o0, o1, o1, o0, o0, o0, o0, o0, o0, o0, o0, o0, o0] rfl rfl (any_of HT_.out (by kernel_rfl)) (fun _ _ _ h => h) (Or.inl ⟨by rfl, ?_⟩) ?_ ?_; rotate_left
           ·intro w'; go_simp; with_reducible rfl
           rotate_left
           ·simp only [Act.put, sA, s0, sS, i64_w, i32_w]; rfl
           refine pure_ (i := 7) (N := some 28) (v := ?_) (a' := ?_) #[o1, o1, o1, o1, o0, o1, o1, o1, o0, o0, o0, o0, o0, o0, o0, o0, o0] rfl rfl (any_of HT_.out (by kernel_rfl)) (fun _ _ _ h => h) (Or.inl ⟨by rfl, ?_⟩) ?_ ?_; rotate_left
           ·intro w'; go_simp; with_reducible rfl
           rotate_left
           ·simp only [Act.put, sA, s0, sS, i64_w, i32_w]; rfl
           refine pure_ (i := 8) (N := some 29) (v := ?_) (a' := ?_) #[o1, o1, o1, o1, o0, o1, o1, o1, o1, o0, o0, o0, o0, o0, o0, o0, o0] rfl rfl (any_of HT_.out (by kernel_rfl)) (fun _ _ _ h => h) (Or.inl ⟨by rfl, ?_⟩) ?_ ?_; rotate_left
           ·intro w'; go_simp; with_reducible rfl
           rotate_left
           ·simp only [Act.put, sA, s0, sS, i64_w, i32_w]; rfl
           refine pure_ (i := 10) (N := some 31) (v := ?_) (a' := ?_) #[o1, o1, o1, o1, o0, o1, o1, o1, o1, o0, o1, o0, o0, o0, o0, o0, o0] rfl rfl (any_of HT_.out (by kernel_rfl)) (fun _ _ _ h => h) (Or.inl ⟨by rfl, ?_⟩) ?_ ?_; rotate_left
           ·intro w'; go_simp; with_reducible rfl
           rotate_left
           ·simp only [Act.put, sA, s0, sS, i64_w, i32_w]; rfl
           refine pure_ (i := 15) (N := some 36) (v := ?_) (a' := ?_) #[o1, o1, o1, o1, o0, o1, o1, o1, o1, o0, o1, o0, o0, o0, o0, o1, o0] rfl rfl (any_of HT_.out (by kernel_rfl)) (fun _ _ _ h => h) (Or.inl ⟨by rfl, ?_⟩) ?_ ?_; rotate_left
           ·intro w'; go_simp; with_reducible rfl
           rotate_left
           ·simp only [Act.put, sA, s0, sS, i64_w, i32_w]; rfl
           refine take_ (i := 4) (N := some 25) (v := ?_) (a' := ?_) #[o1, o1, o1, o1, o1, o1, o1, o1, o1, o0, o1, o0, o0, o0, o0, o1, o0] rfl rfl (take_ofW HT_.out HW_.out (by kernel_rfl)) (fun _ _ _ h => h) (Or.inl ⟨by rfl, ?_⟩) hHeld ?_ ?_; rotate_left
           ·rintro w' ⟨s0, s1, s2, s3⟩
            go_simp; with_reducible rfl
           rotate_left
           ·simp only [Act.put, sA, s0, sS, i64_w, i32_w]; rfl
           refine take_ (i := 9) (N := some 30) (v := ?_) (a' := ?_) #[o1, o1, o1, o1, o1, o1, o1, o1, o1, o1, o1, o0, o0, o0, o0, o1, o0] rfl rfl (take_ofW HT_.out HW_.out (by kernel_rfl)) (fun _ _ _ h => h) (Or.inl ⟨by rfl, ?_⟩) hHeld ?_ ?_; rotate_left
           ·rintro w' ⟨s0, s1, s2, s3⟩
            go_simp; with_reducible rfl
           rotate_left
           ·simp only [Act.put, sA, s0, sS, i64_w, i32_w]; rfl
           refine pure_ (i := 11) (N := some 32) (v := ?_) (a' := ?_) #[o1, o1, o1, o1, o1, o1, o1, o1, o1, o1, o1, o1, o0, o0, o0, o1, o0] rfl rfl (any_of HT_.out (by kernel_rfl)) (fun _ _ _ h => h) (Or.inl ⟨by rfl, ?_⟩) ?_ ?_; rotate_left
           ·intro w'; go_simp; with_reducible rfl
           rotate_left
           ·simp only [Act.put, sA, s0, sS, i64_w, i32_w]; rfl
           refine pure_ (i := 12) (N := some 33) (v := ?_) (a' := ?_) #[o1, o1, o1, o1, o1, o1, o1, o1, o1, o1, o1, o1, o1, o0, o0, o1, o0] rfl rfl (any_of HT_.out (by kernel_rfl)) (fun _ _ _ h => h) (Or.inl ⟨by rfl, ?_⟩) ?_ ?_; rotate_left
           ·intro w'; go_simp; with_reducible rfl
           rotate_left
           ·simp only [Act.put, sA, s0, sS, i64_w, i32_w]; rfl
           refine take_ (i := 13) (N := some 34) (v := .agg #[.string ((rd_T55 ((rd_T52 l0 x3_1).f3) x4_2).f0.f0), .int .i64 ((rd_T55 ((rd_T52 l0 x3_1).f3) x4_2).f0.f1)]) (a' := ?_) #[o1, o1, o1, o1, o1, o1, o1, o1, o1, o1, o1, o1, o1, o1, o0, o1, o0] rfl rfl (take_ofW HT_.out HW_.out (by kernel_rfl)) (fun _ _ _ h => h) (Or.inl ⟨by rfl, ?_⟩) hHeld ?_ ?_
           ·rintro w' ⟨s0, s1, s2, s3⟩
            apply exec_load_cells Try.underlying30 2
            case ho => rfl
            case hx => rfl
            case hc => exact CellsAt.cons s2 (CellsAt.cons s3 (CellsAt.nil))
            case hn => rfl
            case hi => kernel_rfl
           rotate_left
           ·simp only [Act.put, sA, s0, sS, i64_w, i32_w]; rfl
           refine one_ (i := 14) (N := some 35) #[o1, o1, o1, o1, o1, o1, o1, o1, o1, o1, o1, o1, o1, o1, o1, o1, o0] rfl rfl (one_of HT_.out (by kernel_rfl)) (by decide) (fun K hK => ?_); refine goes_ Try.func17 (by kernel_rfl) rfl #[.slice (some ad417) ((rd_T52 l0 x3_1).f3).length c415_7, .agg #[.string ((rd_T55 ((rd_T52 l0 x3_1).f3) x4_2).f0.f0), .int .i64 ((rd_T55 ((rd_T52 l0 x3_1).f3) x4_2).f0.f1)]] (by rfl) rfl rfl (by (try simp only [List.map_toArray, List.map_cons, List.map_nil]); first | done | rfl | (simp only [List.length_drop, List.length_take]; rfl)) ?_
           with_reducible refine (cameoref10_Find.calls k2 _ _ ((rd_T52 l0 x3_1).f3) ((rd_T55 ((rd_T52 l0 x3_1).f3) x4_2).f0.f0) ((rd_T55 ((rd_T52 l0 x3_1).f3) x4_2).f0.f1) t418 _ ?side1 ?side2 A7.out).mono ?_
           (case side1 => repeat (first | exact (Kd.C_below HR415_7.out HB.out) | (with_reducible refine Kd.C_alloc ?_ _) | (with_reducible refine Kd.C_drewN ?_ _) | (with_reducible refine Kd.C_drew ?_)))
           (case side2 => exact HC415_7.out)
           rintro e w10 ⟨rfl, hb⟩
           refine ⟨_, rfl, ?_⟩; replace HB := Aside0.mk (bel_s HB.out hb); (try clear hb); (try clear hb2); (try clear hk); (try clear hi); refine hK.out _ _ ⟨(bc HB.out hw415_7), (bc HB.out hw416_7), (bc HB.out hw417_0), (bc HB.out hw417_1)⟩ (fun hHeld => ?_); clear hK K; refine norm_ (a' := ?_) ?_ ?_; rotate_left
           ·show Act.put _ (some 35) _ = _
            simp only [Act.put, sA, s0, sS, i64_w, i32_w]; rfl
           refine pure_ (i := 16) (N := some 37) (v := ?_) (a' := ?_) #[o1, o1, o1, o1, o1, o1, o1, o1, o1, o1, o1, o1, o1, o1, o1, o1, o1] rfl rfl (any_of HT_.out (by kernel_rfl)) (fun _ _ _ h => h) (Or.inl ⟨by rfl, ?_⟩) ?_ ?_; rotate_left
           ·intro w'; go_simp; with_reducible rfl
           rotate_left
           ·simp only [Act.put, sA, s0, sS, i64_w, i32_w]; rfl
           refine done_ (done_of HT_.out (by kernel_rfl)) ?_
           try go_wp2
           go_roundg k2
           case measure => have := HK1.out; have := HK2.out; omega
           case rel => exact ⟨(wrap64 (x4_2 + 1)), (by first | rfl | (simp; done) | (simp [*]; done)), H', ⟨by have := HK1.out; have := HK2.out; omega⟩, ⟨by repeat (first | (with_reducible first | exact HB.out | apply below_alloc | apply pw_below_drewN | apply below_drew1) | exact HB.out)⟩⟩
          ·rw [if_neg c8] at H; have c8b0 : (t418 == x4_2) = false := beq_eq_false_iff_ne.mpr c8; have c8b1 : (t418 != x4_2) = true := bne_iff_ne.mpr c8; obtain rfl := Option.some.inj H; have p414 : 0 ≤ (x3_1 : Int) := of_decide_eq_true (by first | (with_reducible assumption) | assumption); have q414 : x3_1 < (l0.length : Int) := of_decide_eq_true (by first | (with_reducible assumption) | assumption); obtain ⟨ad414, A414_7, c414_7, e414, _, _, _, _, _, _, _, hx414_7, hl414_7, hi414_7⟩ := at_T52 HR0.out x3_1 p414 q414
           cases e414
           replace hx414_7 := bc HB.out hx414_7; have HR414_7 := Aside0.mk hi414_7; have HC414_7 := Aside0.mk hl414_7; clear hi414_7 hl414_7; replace p414 := eq_true p414; replace q414 := eq_true q414
           try go_wp2
           replace HB := Aside0.mk (below_drew1 HB.out); have p415 : 0 ≤ (x3_1 : Int) := of_decide_eq_true (by first | (with_reducible assumption) | assumption); have q415 : x3_1 < (l0.length : Int) := of_decide_eq_true (by first | (with_reducible assumption) | assumption); obtain ⟨ad415, A415_7, c415_7, e415, _, _, _, _, _, _, _, hx415_7, hl415_7, hi415_7⟩ := at_T52 HR0.out x3_1 p415 q415; have hw415_7 := hx415_7; obtain rfl : ad414 = ad415 := (by injection e415); replace hx415_7 := bc HB.out hx415_7; have HR415_7 := Aside0.mk hi415_7; have HC415_7 := Aside0.mk hl415_7; clear hi415_7 hl415_7; replace p415 := eq_true p415; replace q415 := eq_true q415; have p416 : 0 ≤ (x3_1 : Int) := of_decide_eq_true (by first | (with_reducible assumption) | assumption); have q416 : x3_1 < (l0.length : Int) := of_decide_eq_true (by first | (with_reducible assumption) | assumption); obtain ⟨ad416, A416_7, c416_7, e416, _, _, _, _, _, _, _, hx416_7, hl416_7, hi416_7⟩ := at_T52 HR0.out x3_1 p416 q416; have hw416_7 := hx416_7; obtain rfl : ad414 = ad416 := (by injection e416); replace hx416_7 := bc HB.out hx416_7; have HR416_7 := Aside0.mk hi416_7; have HC416_7 := Aside0.mk hl416_7; clear hi416_7 hl416_7; replace p416 := eq_true p416; replace q416 := eq_true q416; have ea_ := Option.some.inj (hx415_7.symm.trans hx416_7)
           injection ea_ with ea_ en_ ec_
           subst ea_; subst ec_; clear en_; have p417 : 0 ≤ (x4_2 : Int) := of_decide_eq_true (by first | (with_reducible assumption) | assumption); have q417 : x4_2 < (((rd_T52 l0 x3_1).f3).length : Int) := of_decide_eq_true (by first | (with_reducible assumption) | assumption); obtain ⟨ad417, e417, hx417_0, hx417_1, _, _, _, _, _, _, _, _, _, _, _, _, _, _, _, _, _, _⟩ := at_T55 HR416_7.out x4_2 p417 q417; have hw417_1 := hx417_1; have hw417_0 := hx417_0
           cases e417
           replace hx417_0 := bc HB.out hx417_0; replace hx417_1 := bc HB.out hx417_1; replace p417 := eq_true p417; replace q417 := eq_true q417; refine start_ (n := 17) (S := fun w' => w'.cell? ⟨(ad414.add ((x3_1).toNat * 8)).block, (ad414.add ((x3_1).toNat * 8)).off + 7, none⟩ = some (.slice (some ad417) ((rd_T52 l0 x3_1).f3).length c415_7) ∧ w'.cell? ⟨(ad414.add ((x3_1).toNat * 8)).block, (ad414.add ((x3_1).toNat * 8)).off + 7, none⟩ = some (.slice (some ad417) ((rd_T52 l0 x3_1).f3).length c415_7) ∧ w'.cell? (ad417.add ((x4_2).toNat * 20)) = some (.string ((rd_T55 ((rd_T52 l0 x3_1).f3) x4_2).f0.f0)) ∧ w'.cell? ⟨(ad417.add ((x4_2).toNat * 20)).block, (ad417.add ((x4_2).toNat * 20)).off + 1, none⟩ = some (.int .i64 ((rd_T55 ((rd_T52 l0 x3_1).f3) x4_2).f0.f1))) (ds := []) #[o0, o0, o0, o0, o0, o0, o0, o0, o0, o0, o0, o0, o0, o0, o0, o0, o0] (by kernel_rfl) rfl rfl ⟨(bc HB.out hw415_7), (bc HB.out hw416_7), (bc HB.out hw417_0), (bc HB.out hw417_1)⟩ (fun hHeld => ?_); refine with_tabW cameoref10_Twice.tab7 cameoref10_Twice.bits7 (fun HT_ HW_ => ?_); generalize wr.drew = w11 at HB HR415_7 HR416_7 hx415_7 hx416_7 hx417_0 hx417_1 hHeld ⊢; refine pure_ (i := 0) (N := some 21) (v := ?_) (a' := ?_) #[o1, o0, o0, o0, o0, o0, o0, o0, o0, o0, o0, o0, o0, o0, o0, o0, o0] rfl rfl (any_of HT_.out (by kernel_rfl)) (fun _ _ _ h => h) (Or.inl ⟨by rfl, ?_⟩) ?_ ?_; rotate_left
           ·intro w'; go_simp; with_reducible rfl
           rotate_left
           ·simp only [Act.put, sA, s0, sS, i64_w, i32_w]; rfl
           refine pure_ (i := 1) (N := some 22) (v := ?_) (a' := ?_) #[o1, o1, o0, o0, o0, o0, o0, o0, o0, o0, o0, o0, o0, o0, o0, o0, o0] rfl rfl (any_of HT_.out (by kernel_rfl)) (fun _ _ _ h => h) (Or.inl ⟨by rfl, ?_⟩) ?_ ?_; rotate_left
           ·intro w'; go_simp; with_reducible rfl
           rotate_left
           ·simp only [Act.put, sA, s0, sS, i64_w, i32_w]; rfl
           refine pure_ (i := 2) (N := some 23) (v := ?_) (a' := ?_) #[o1, o1, o1, o0, o0, o0, o0, o0, o0, o0, o0, o0, o0, o0, o0, o0, o0] rfl rfl (any_of HT_.out (by kernel_rfl)) (fun _ _ _ h => h) (Or.inl ⟨by rfl, ?_⟩) ?_ ?_; rotate_left
           ·intro w'; go_simp; with_reducible rfl
           rotate_left
           ·simp only [Act.put, sA, s0, sS, i64_w, i32_w]; rfl
           refine pure_ (i := 3) (N := some 24) (v := ?_) (a' := ?_) #[o1, o1, o1, o1, o0, o0, o0, o0, o0, o0, o0, o0, o0, o0, o0, o0, o0] rfl rfl (any_of HT_.out (by kernel_rfl)) (fun _ _ _ h => h) (Or.inl ⟨by rfl, ?_⟩) ?_ ?_; rotate_left
           ·intro w'; go_simp; with_reducible rfl
           rotate_left
           ·simp only [Act.put, sA, s0, sS, i64_w, i32_w]; rfl
           refine pure_ (i := 5) (N := some 26) (v := ?_) (a' := ?_) #[o1, o1, o1, o1, o0, o1, o0, o0, o0, o0, o0, o0, o0, o0, o0, o0, o0] rfl rfl (any_of HT_.out (by kernel_rfl)) (fun _ _ _ h => h) (Or.inl ⟨by rfl, ?_⟩) ?_ ?_; rotate_left
           ·intro w'; go_simp; with_reducible rfl
           rotate_left
           ·simp only [Act.put, sA, s0, sS, i64_w, i32_w]; rfl
           refine pure_ (i := 6) (N := some 27) (v := ?_) (a' := ?_) #[o1, o1, o1, o1, o0, o1, o1, o0, o0, o0, o0, o0, o0, o0, o0, o0, o0] rfl rfl (any_of HT_.out (by kernel_rfl)) (fun _ _ _ h => h) (Or.inl ⟨by rfl, ?_⟩) ?_ ?_; rotate_left
           ·intro w'; go_simp; with_reducible rfl
           rotate_left
           ·simp only [Act.put, sA, s0, sS, i64_w, i32_w]; rfl
           refine pure_ (i := 7) (N := some 28) (v := ?_) (a' := ?_) #[o1, o1, o1, o1, o0, o1, o1, o1, o0, o0, o0, o0, o0, o0, o0, o0, o0] rfl rfl (any_of HT_.out (by kernel_rfl)) (fun _ _ _ h => h) (Or.inl ⟨by rfl, ?_⟩) ?_ ?_; rotate_left
           ·intro w'; go_simp; with_reducible rfl
           rotate_left
           ·simp only [Act.put, sA, s0, sS, i64_w, i32_w]; rfl
           refine pure_ (i := 8) (N := some 29) (v := ?_) (a' := ?_) #[o1, o1, o1, o1, o0, o1, o1, o1, o1, o0, o0, o0, o0, o0, o0, o0, o0] rfl rfl (any_of HT_.out (by kernel_rfl)) (fun _ _ _ h => h) (Or.inl ⟨by rfl, ?_⟩) ?_ ?_; rotate_left
           ·intro w'; go_simp; with_reducible rfl
           rotate_left
           ·simp only [Act.put, sA, s0, sS, i64_w, i32_w]; rfl
           refine pure_ (i := 10) (N := some 31) (v := ?_) (a' := ?_) #[o1, o1, o1, o1, o0, o1, o1, o1, o1, o0, o1, o0, o0, o0, o0, o0, o0] rfl rfl (any_of HT_.out (by kernel_rfl)) (fun _ _ _ h => h) (Or.inl ⟨by rfl, ?_⟩) ?_ ?_; rotate_left
           ·intro w'; go_simp; with_reducible rfl
           rotate_left
           ·simp only [Act.put, sA, s0, sS, i64_w, i32_w]; rfl
           refine pure_ (i := 15) (N := some 36) (v := ?_) (a' := ?_) #[o1, o1, o1, o1, o0, o1, o1, o1, o1, o0, o1, o0, o0, o0, o0, o1, o0] rfl rfl (any_of HT_.out (by kernel_rfl)) (fun _ _ _ h => h) (Or.inl ⟨by rfl, ?_⟩) ?_ ?_; rotate_left
           ·intro w'; go_simp; with_reducible rfl
           rotate_left
           ·simp only [Act.put, sA, s0, sS, i64_w, i32_w]; rfl
           refine take_ (i := 4) (N := some 25) (v := ?_) (a' := ?_) #[o1, o1, o1, o1, o1, o1, o1, o1, o1, o0, o1, o0, o0, o0, o0, o1, o0] rfl rfl (take_ofW HT_.out HW_.out (by kernel_rfl)) (fun _ _ _ h => h) (Or.inl ⟨by rfl, ?_⟩) hHeld ?_ ?_; rotate_left
           ·rintro w' ⟨s0, s1, s2, s3⟩
            go_simp; with_reducible rfl
           rotate_left
           ·simp only [Act.put, sA, s0, sS, i64_w, i32_w]; rfl
           refine take_ (i := 9) (N := some 30) (v := ?_) (a' := ?_) #[o1, o1, o1, o1, o1, o1, o1, o1, o1, o1, o1, o0, o0, o0, o0, o1, o0] rfl rfl (take_ofW HT_.out HW_.out (by kernel_rfl)) (fun _ _ _ h => h) (Or.inl ⟨by rfl, ?_⟩) hHeld ?_ ?_; rotate_left
           ·rintro w' ⟨s0, s1, s2, s3⟩
            go_simp; with_reducible rfl
           rotate_left
           ·simp only [Act.put, sA, s0, sS, i64_w, i32_w]; rfl
           refine pure_ (i := 11) (N := some 32) (v := ?_) (a' := ?_) #[o1, o1, o1, o1, o1, o1, o1, o1, o1, o1, o1, o1, o0, o0, o0, o1, o0] rfl rfl (any_of HT_.out (by kernel_rfl)) (fun _ _ _ h => h) (Or.inl ⟨by rfl, ?_⟩) ?_ ?_; rotate_left
           ·intro w'; go_simp; with_reducible rfl
           rotate_left
           ·simp only [Act.put, sA, s0, sS, i64_w, i32_w]; rfl
           refine pure_ (i := 12) (N := some 33) (v := ?_) (a' := ?_) #[o1, o1, o1, o1, o1, o1, o1, o1, o1, o1, o1, o1, o1, o0, o0, o1, o0] rfl rfl (any_of HT_.out (by kernel_rfl)) (fun _ _ _ h => h) (Or.inl ⟨by rfl, ?_⟩) ?_ ?_; rotate_left
           ·intro w'; go_simp; with_reducible rfl
           rotate_left
           ·simp only [Act.put, sA, s0, sS, i64_w, i32_w]; rfl
           refine take_ (i := 13) (N := some 34) (v := .agg #[.string ((rd_T55 ((rd_T52 l0 x3_1).f3) x4_2).f0.f0), .int .i64 ((rd_T55 ((rd_T52 l0 x3_1).f3) x4_2).f0.f1)]) (a' := ?_) #[o1, o1, o1, o1, o1, o1, o1, o1, o1, o1, o1, o1, o1, o1, o0, o1, o0] rfl rfl (take_ofW HT_.out HW_.out (by kernel_rfl)) (fun _ _ _ h => h) (Or.inl ⟨by rfl, ?_⟩) hHeld ?_ ?_
           ·rintro w' ⟨s0, s1, s2, s3⟩
            apply exec_load_cells Try.underlying30 2
            case ho => rfl
            case hx => rfl
            case hc => exact CellsAt.cons s2 (CellsAt.cons s3 (CellsAt.nil))
            case hn => rfl
            case hi => kernel_rfl
           rotate_left
           ·simp only [Act.put, sA, s0, sS, i64_w, i32_w]; rfl
           refine one_ (i := 14) (N := some 35) #[o1, o1, o1, o1, o1, o1, o1, o1, o1, o1, o1, o1, o1, o1, o1, o1, o0] rfl rfl (one_of HT_.out (by kernel_rfl)) (by decide) (fun K hK => ?_); refine goes_ Try.func17 (by kernel_rfl) rfl #[.slice (some ad417) ((rd_T52 l0 x3_1).f3).length c415_7, .agg #[.string ((rd_T55 ((rd_T52 l0 x3_1).f3) x4_2).f0.f0), .int .i64 ((rd_T55 ((rd_T52 l0 x3_1).f3) x4_2).f0.f1)]] (by rfl) rfl rfl (by (try simp only [List.map_toArray, List.map_cons, List.map_nil]); first | done | rfl | (simp only [List.length_drop, List.length_take]; rfl)) ?_
           with_reducible refine (cameoref10_Find.calls k2 _ _ ((rd_T52 l0 x3_1).f3) ((rd_T55 ((rd_T52 l0 x3_1).f3) x4_2).f0.f0) ((rd_T55 ((rd_T52 l0 x3_1).f3) x4_2).f0.f1) t418 _ ?side1 ?side2 A7.out).mono ?_
           (case side1 => repeat (first | exact (Kd.C_below HR415_7.out HB.out) | (with_reducible refine Kd.C_alloc ?_ _) | (with_reducible refine Kd.C_drewN ?_ _) | (with_reducible refine Kd.C_drew ?_)))
           (case side2 => exact HC415_7.out)
           rintro e w12 ⟨rfl, hb⟩
           refine ⟨_, rfl, ?_⟩; replace HB := Aside0.mk (bel_s HB.out hb); (try clear hb); (try clear hb2); (try clear hk); (try clear hi); refine hK.out _ _ ⟨(bc HB.out hw415_7), (bc HB.out hw416_7), (bc HB.out hw417_0), (bc HB.out hw417_1)⟩ (fun hHeld => ?_); clear hK K; refine norm_ (a' := ?_) ?_ ?_; rotate_left
           ·show Act.put _ (some 35) _ = _
            simp only [Act.put, sA, s0, sS, i64_w, i32_w]; rfl
           refine pure_ (i := 16) (N := some 37) (v := ?_) (a' := ?_) #[o1, o1, o1, o1, o1, o1, o1, o1, o1, o1, o1, o1, o1, o1, o1, o1, o1] rfl rfl (any_of HT_.out (by kernel_rfl)) (fun _ _ _ h => h) (Or.inl ⟨by rfl, ?_⟩) ?_ ?_; rotate_left
           ·intro w'; go_simp; with_reducible rfl
           rotate_left
           ·simp only [Act.put, sA, s0, sS, i64_w, i32_w]; rfl
           refine done_ (done_of HT_.out (by kernel_rfl)) ?_
           try go_wp2
           go_ret
           exact ⟨by first | rfl | (simp [errW_none, errW_some] <;> rfl) | (simp [*, errW_none, errW_some] <;> rfl), by repeat (first | (with_reducible first | exact HB.out | apply below_alloc | apply pw_below_drewN | apply below_drew1) | exact HB.out)⟩
         ·rw [if_neg c6] at H; exact absurd H (by simp)
        ·rw [if_neg c5] at H; have c5b0 : decide (x4_2 < (((rd_T52 l0 x3_1).f3).length : Int)) = false := decide_eq_false c5; clear c5; have H' := Aside0.mk H; clear H; have p414 : 0 ≤ (x3_1 : Int) := of_decide_eq_true (by first | (with_reducible assumption) | assumption); have q414 : x3_1 < (l0.length : Int) := of_decide_eq_true (by first | (with_reducible assumption) | assumption); obtain ⟨ad414, A414_7, c414_7, e414, _, _, _, _, _, _, _, hx414_7, hl414_7, hi414_7⟩ := at_T52 HR0.out x3_1 p414 q414
         cases e414
         replace hx414_7 := bc HB.out hx414_7; have HR414_7 := Aside0.mk hi414_7; have HC414_7 := Aside0.mk hl414_7; clear hi414_7 hl414_7; replace p414 := eq_true p414; replace q414 := eq_true q414
         go_wp2
         go_roundg k2
         case measure => have := HK1.out; have := HK2.out; omega
         case rel => exact ⟨(wrap64 (x3_1 + 1)), (by first | rfl | (simp; done) | (simp [*]; done)), H', ⟨by have := HK1.out; have := HK2.out; omega⟩, ⟨by repeat (first | (with_reducible first | exact HB.out | apply below_alloc | apply pw_below_drewN | apply below_drew1) | exact HB.out)⟩⟩
       ·rw [if_neg c4] at H; exact absurd H (by simp)
      ·rw [if_neg c3] at H; exact absurd H (by simp)
   ·rw [if_neg c2] at H; have c2b0 : decide (x3_1 < (l0.length : Int)) = false := decide_eq_false c2; clear c2; obtain rfl := Option.some.inj H
    go_wp2
    go_ret
    exact ⟨by first | rfl | (simp [errW_none, errW_some] <;> rfl) | (simp [*, errW_none, errW_some] <;> rfl), by repeat (first | (with_reducible first | exact HB.out | apply below_alloc | apply pw_below_drewN | apply below_drew1) | exact HB.out)⟩

end Go.Proofs.Ytaojjpdlfnphiaa.PInvariantDiffs
