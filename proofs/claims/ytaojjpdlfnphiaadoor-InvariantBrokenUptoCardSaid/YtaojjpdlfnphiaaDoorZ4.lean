/- Parts of the proof, joined (4). -/
import Derived.Lib.DecodeN
import Derived.Lib.Bytes
import Derived.Test.YtaojjpdlfnphiaaDoorZ3
section
-- Printed by a program of this session over the translation; Lean checks it.
namespace Go.Proofs.YtaojjpdlfnphiaaDoor.PDescKinds
open Go.RowKit Go.Proofs.YtaojjpdlfnphiaaDoorW.PrintWords Go.Proofs.YtaojjpdlfnphiaaDoorW.PrintLast Go.Proofs.YtaojjpdlfnphiaaDoorW.PrintMore
attribute [local go_sem] max2_int min2_int max_two min_two max_three min_three max_four min_four   -- for this text's walks alone
set_option linter.unusedVariables false
set_option linter.unusedSimpArgs false
/-! ### cameoref01_Row: function 125 -/
def cameoref01_Row.l0 : Nat → List Int → List (S138) → Int → Option ((List (S138)))
  | 0, _, _, _ => none
  | k + 1, x0, x3, x4 => if x4 < (x0.length : Int) then (if 0 ≤ x4 then ((cameoref01_high.f (rd x0 x4)).bind fun t275 => (if t275 = true then (if (wrap64 (x4 + 1)) < (x0.length : Int) then (if 0 ≤ (wrap64 (x4 + 1)) then ((cameoref01_low.f (rd x0 (wrap64 (x4 + 1)))).bind fun t277 => (if t277 = true then (if x3.length < 8796093022208 then (cameoref01_Row.l0 k x0 (x3 ++ [(⟨x4, wrap64 ((wrap64 ((wrap64 (65536 + (wrap64 (1024 * (wrap64 ((wrap64 (rd x0 x4)) - 55296)))))) + (wrap64 (rd x0 (wrap64 (x4 + 1)))))) - 56320)⟩ : S138)]) (wrap64 ((wrap64 (x4 + 1)) + 1))) else (none)) else (if x3.length < 8796093022208 then (cameoref01_Row.l0 k x0 (x3 ++ [(⟨x4, wrap64 (rd x0 x4)⟩ : S138)]) (wrap64 (x4 + 1))) else (none)))) else (none)) else (if x3.length < 8796093022208 then (cameoref01_Row.l0 k x0 (x3 ++ [(⟨x4, wrap64 (rd x0 x4)⟩ : S138)]) (wrap64 (x4 + 1))) else (none))) else (if x3.length < 8796093022208 then (cameoref01_Row.l0 k x0 (x3 ++ [(⟨x4, wrap64 (rd x0 x4)⟩ : S138)]) (wrap64 (x4 + 1))) else (none)))) else (none)) else (some x3)
def cameoref01_Row.f (k : Nat) (l0 : List Int) : Option ((List (S138))) := cameoref01_Row.l0 k l0 ([] : List (S138)) 0
def cameoref01_Row.T6 : Bool × List (List Nat × List Nat) := (true, [([], []), ([], []), ([], []), ([], []), ([2, 3], [2, 3]), ([4], [4]), ([5], [5]), ([6], [6]), ([7], [7]), ([8], [8]), ([], []), ([], []), ([11], [11]), ([10, 12], [10, 12]), ([13], [13]), ([14], [14]), ([9, 15], [9, 15]), ([16], [16]), ([1, 17], [1, 17]), ([18], [18]), ([0, 19], [0, 19]), ([20, 20, 0, 1, 2, 3, 4, 5, 6, 7, 8, 9, 10, 11, 12, 13, 14, 15, 16, 17, 18, 19, 20], [0, 20])])
def cameoref01_Row.B6 : List Nat := [0, 0, 0, 0, 12, 28, 60, 124, 252, 508, 0, 0, 2048, 7168, 15360, 31744, 65532, 131068, 262142, 524286, 1048575, 2097151]
theorem cameoref01_Row.tab6 : rtab .any (opsOf Tryd.f125 6) = cameoref01_Row.T6 := by kernel_rfl
theorem cameoref01_Row.bits6 : waitsOk cameoref01_Row.T6.2 cameoref01_Row.B6 = true := by kernel_rfl
set_option maxHeartbeats 8000000 in
set_option maxRecDepth 100000 in
theorem cameoref01_Row.calls (k : Nat) (A0 : Option Addr) (c0 : Nat) (l0 : List Int) (r : List (S138)) (w : World) (hr0 : Kd.C (Kd.int .u16) w A0 l0.length l0) (hc0 : l0.length ≤ c0) (h : cameoref01_Row.f k l0 = some r) :
    Calls Tryd.prog 125 #[.slice A0 l0.length c0] w fun e w' => ∃ v0_ : Value, e = .returned (v0_) ∧ Kd.R k138 138 w' w.heap.size (fun _ => True) v0_ r ∧ Below w.heap.size w w' := by
  have hu138 := Tryd.underlying138
  have HR0 := Aside0.mk hr0
  have HC0 := Aside0.mk hc0
  clear hr0 hc0
  have HB := Aside0.mk (Below.refl w.heap.size w)
  have H : (cameoref01_Row.l0 k l0 ([] : List (S138)) 0) = some r := h
  clear h
  have H' := Aside0.mk H
  clear H
  go_enter Tryd.func125, Tryd.ntmps125
  go_wp2
  go_loopg [3, 4] k (fun kq v3 v4 w' => ∃ (x3_1 : List (S138)) (x4_1 : Int), v4 = .int .i64 x4_1 ∧ Aside0 (cameoref01_Row.l0 kq l0 x3_1 x4_1 = some r) ∧ Aside0 (kq ≤ k) ∧ Aside0 (Kd.R k138 138 w' w.heap.size (fun _ => True) v3 x3_1) ∧ Aside0 (Below w.heap.size w w'))
  case atStart => exact ⟨(([] : List (S138))), (0), (by first | rfl | (simp; done) | (simp [*]; done)), H', ⟨Nat.le_refl _⟩, ⟨by first | exact Kd.R_nil _ _ _ _ _ | exact Kd.N_nil _ _ _ _ _ | exact Kd.V_nil _ _ _ _ _ | exact Kd.Q_nil _ _ _ _ _ | exact Kd.S_nil _ _ _ _ _⟩, ⟨by repeat (first | (with_reducible first | exact HB.out | apply below_alloc | apply pw_below_drewN | apply below_drew1) | exact HB.out)⟩⟩
  case round =>
    clear H'
    try clear c1
    obtain ⟨x3_1, x4_1, rfl, HA, HK1, HO_3, HB⟩ := hrel
    cases gk with
    | zero => exact absurd HA.out (by simp [cameoref01_Row.l0])
    | succ k1 =>
      have H := HA.out
      clear HA
      simp only [cameoref01_Row.l0] at H
      by_cases c2 : x4_1 < (l0.length : Int)
      · rw [if_pos c2] at H
        have c2b0 : decide (x4_1 < (l0.length : Int)) = true := decide_eq_true c2
        clear c2
        by_cases c3 : 0 ≤ x4_1
        · rw [if_pos c3] at H
          have c3b0 : decide (0 ≤ x4_1) = true := decide_eq_true c3
          clear c3
          replace H := Option.bind_eq_some_iff.mp H
          obtain ⟨t275, A40, H⟩ := H
          replace H : (if t275 = true then (if (wrap64 (x4_1 + 1)) < (l0.length : Int) then (if 0 ≤ (wrap64 (x4_1 + 1)) then ((cameoref01_low.f (rd l0 (wrap64 (x4_1 + 1)))).bind fun t277 => (if t277 = true then (if x3_1.length < 8796093022208 then (cameoref01_Row.l0 k1 l0 (x3_1 ++ [(⟨x4_1, wrap64 ((wrap64 ((wrap64 (65536 + (wrap64 (1024 * (wrap64 ((wrap64 (rd l0 x4_1)) - 55296)))))) + (wrap64 (rd l0 (wrap64 (x4_1 + 1)))))) - 56320)⟩ : S138)]) (wrap64 ((wrap64 (x4_1 + 1)) + 1))) else (none)) else (if x3_1.length < 8796093022208 then (cameoref01_Row.l0 k1 l0 (x3_1 ++ [(⟨x4_1, wrap64 (rd l0 x4_1)⟩ : S138)]) (wrap64 (x4_1 + 1))) else (none)))) else (none)) else (if x3_1.length < 8796093022208 then (cameoref01_Row.l0 k1 l0 (x3_1 ++ [(⟨x4_1, wrap64 (rd l0 x4_1)⟩ : S138)]) (wrap64 (x4_1 + 1))) else (none))) else (if x3_1.length < 8796093022208 then (cameoref01_Row.l0 k1 l0 (x3_1 ++ [(⟨x4_1, wrap64 (rd l0 x4_1)⟩ : S138)]) (wrap64 (x4_1 + 1))) else (none))) = some r := H
          have A4 := Aside0.mk A40
          clear A40
          by_cases c5 : t275 = true
          · subst c5
            have H1 : (if (wrap64 (x4_1 + 1)) < (l0.length : Int) then (if 0 ≤ (wrap64 (x4_1 + 1)) then ((cameoref01_low.f (rd l0 (wrap64 (x4_1 + 1)))).bind fun t277 => (if t277 = true then (if x3_1.length < 8796093022208 then (cameoref01_Row.l0 k1 l0 (x3_1 ++ [(⟨x4_1, wrap64 ((wrap64 ((wrap64 (65536 + (wrap64 (1024 * (wrap64 ((wrap64 (rd l0 x4_1)) - 55296)))))) + (wrap64 (rd l0 (wrap64 (x4_1 + 1)))))) - 56320)⟩ : S138)]) (wrap64 ((wrap64 (x4_1 + 1)) + 1))) else (none)) else (if x3_1.length < 8796093022208 then (cameoref01_Row.l0 k1 l0 (x3_1 ++ [(⟨x4_1, wrap64 (rd l0 x4_1)⟩ : S138)]) (wrap64 (x4_1 + 1))) else (none)))) else (none)) else (if x3_1.length < 8796093022208 then (cameoref01_Row.l0 k1 l0 (x3_1 ++ [(⟨x4_1, wrap64 (rd l0 x4_1)⟩ : S138)]) (wrap64 (x4_1 + 1))) else (none))) = some r := by rw [if_pos rfl] at H; exact H
            clear H
            have H := H1
            clear H1
            by_cases c6 : (wrap64 (x4_1 + 1)) < (l0.length : Int)
            · rw [if_pos c6] at H
              have c6b0 : decide ((wrap64 (x4_1 + 1)) < (l0.length : Int)) = true := decide_eq_true c6
              clear c6
              obtain ⟨ji7, hji7⟩ : ∃ j_ : Int, (wrap64 (x4_1 + 1)) = j_ := ⟨_, rfl⟩
              replace H : (if 0 ≤ (ji7) then ((cameoref01_low.f (rd l0 (ji7))).bind fun t277 => (if t277 = true then (if x3_1.length < 8796093022208 then (cameoref01_Row.l0 k1 l0 (x3_1 ++ [(⟨x4_1, wrap64 ((wrap64 ((wrap64 (65536 + (wrap64 (1024 * (wrap64 ((wrap64 (rd l0 x4_1)) - 55296)))))) + (wrap64 (rd l0 (ji7))))) - 56320)⟩ : S138)]) (wrap64 ((ji7) + 1))) else (none)) else (if x3_1.length < 8796093022208 then (cameoref01_Row.l0 k1 l0 (x3_1 ++ [(⟨x4_1, wrap64 (rd l0 x4_1)⟩ : S138)]) ji7) else (none)))) else (none)) = some r := by first | (rw [hji7] at H; exact H) | (simp only [hji7] at H ⊢; exact H)
              (try rw [hji7] at c6b0)
              (try rw [hji7] at A4)
              have hji7w : (IntKind.i64.wrap (x4_1 + 1)) = ji7 := (i64_w _).trans hji7
              by_cases c8 : 0 ≤ (ji7)
              · rw [if_pos c8] at H
                have c8b0 : decide (0 ≤ (ji7)) = true := decide_eq_true c8
                clear c8
                replace H := Option.bind_eq_some_iff.mp H
                obtain ⟨t277, A90, H⟩ := H
                replace H : (if t277 = true then (if x3_1.length < 8796093022208 then (cameoref01_Row.l0 k1 l0 (x3_1 ++ [(⟨x4_1, wrap64 ((wrap64 ((wrap64 (65536 + (wrap64 (1024 * (wrap64 ((wrap64 (rd l0 x4_1)) - 55296)))))) + (wrap64 (rd l0 (ji7))))) - 56320)⟩ : S138)]) (wrap64 ((ji7) + 1))) else (none)) else (if x3_1.length < 8796093022208 then (cameoref01_Row.l0 k1 l0 (x3_1 ++ [(⟨x4_1, wrap64 (rd l0 x4_1)⟩ : S138)]) ji7) else (none))) = some r := H
                have A9 := Aside0.mk A90
                clear A90
                by_cases c10 : t277 = true
                · subst c10
                  have H1 : (if x3_1.length < 8796093022208 then (cameoref01_Row.l0 k1 l0 (x3_1 ++ [(⟨x4_1, wrap64 ((wrap64 ((wrap64 (65536 + (wrap64 (1024 * (wrap64 ((wrap64 (rd l0 x4_1)) - 55296)))))) + (wrap64 (rd l0 (ji7))))) - 56320)⟩ : S138)]) (wrap64 ((ji7) + 1))) else (none)) = some r := by rw [if_pos rfl] at H; exact H
                  clear H
                  have H := H1
                  clear H1
                  by_cases c11 : x3_1.length < 8796093022208
                  · rw [if_pos c11] at H
                    have LMc11 := Aside0.mk c11
                    clear c11
                    obtain ⟨y280, hy280⟩ : ∃ y_ : List (S138), y_ = (x3_1 ++ [(⟨x4_1, wrap64 ((wrap64 ((wrap64 (65536 + (wrap64 (1024 * (wrap64 ((wrap64 (rd l0 x4_1)) - 55296)))))) + (wrap64 (rd l0 (ji7))))) - 56320)⟩ : S138)]) := ⟨_, rfl⟩
                    replace H : (cameoref01_Row.l0 k1 l0 y280 (wrap64 ((ji7) + 1))) = some r := by first | (rw [hy280]; with_reducible exact H) | (have H2_ := (Option.bind_some _ _).symm.trans H; rw [hy280]; with_reducible exact H2_) | (have H2_ := (Option.bind_some _ _).symm.trans H; with_reducible exact H2_) | with_reducible exact H | (rw [hy280]; exact H) | exact H
                    have Ny280 := Aside0.mk hy280
                    clear hy280
                    have H' := Aside0.mk H
                    clear H
                    have p274 : 0 ≤ (x4_1 : Int) := of_decide_eq_true (by first | (with_reducible assumption) | assumption)
                    have q274 : x4_1 < (l0.length : Int) := of_decide_eq_true (by first | (with_reducible assumption) | assumption)
                    obtain ⟨ad274, e274, hx274_0⟩ := Kd.at_int HR0.out x4_1 p274 q274
                    cases e274
                    replace hx274_0 := (HB.out.cell (World.block_lt_of_cell? w _ hx274_0)).trans hx274_0
                    replace p274 := eq_true p274
                    replace q274 := eq_true q274
                    try go_wp2_with (first | ((with_reducible refine gate_callee (f := 128) rfl ?_); refine goesL_ (some 15) rfl rfl Tryd.func128 (by kernel_rfl) rfl #[.int .u16 (rd l0 x4_1)] rfl (by (try simp only [List.map_toArray, List.map_cons, List.map_nil]); first | done | rfl | (simp only [List.length_drop, List.length_take]; rfl)) ?_; (with_reducible refine (cameoref01_high.calls (rd l0 x4_1) true _ A4.out).mono ?_); rintro e w' ⟨rfl, ⟨nd, rfl⟩⟩; refine ⟨_, rfl, ?_⟩; have p276 : 0 ≤ ((ji7) : Int) := of_decide_eq_true (by first | (with_reducible assumption) | assumption); have q276 : (ji7) < (l0.length : Int) := of_decide_eq_true (by first | (with_reducible assumption) | assumption); obtain ⟨ad276, e276, hx276_0⟩ := Kd.at_int HR0.out (ji7) p276 q276; obtain rfl : ad274 = ad276 := (by injection e276); replace hx276_0 := (HB.out.cell (World.block_lt_of_cell? w _ hx276_0)).trans hx276_0; replace p276 := eq_true p276; replace q276 := eq_true q276) | (go_at_call 129; (with_reducible refine (cameoref01_low.calls (rd l0 (ji7)) true _ A9.out).mono ?_); rintro e w' ⟨rfl, ⟨nd, rfl⟩⟩))
                    (try (rw [drewN_self wr]; generalize hq_ : World.drewN wr _ = wr; have n0_ : Aside0 (Kd.R k138 138 wr w.heap.size (fun _ => True) u3 x3_1) := ⟨by rw [← hq_]; exact (by (with_reducible repeat (first | apply Kd.R_alloc | apply Kd.R_drewN | apply Kd.R_drew)); exact HO_3.out)⟩; have n1_ : Aside0 (Below w.heap.size w wr) := ⟨by rw [← hq_]; exact (by repeat (first | (with_reducible first | exact HB.out | apply below_alloc | apply pw_below_drewN | apply below_drew1) | exact HB.out))⟩; clear HO_3 HB hq_; have HO_3 := n0_; have HB := n1_; clear n0_ n1_))
                    have n0_ := Aside0.mk (Kd.R_drew HO_3.out)
                    have n1_ := Aside0.mk (below_drew1 HB.out)
                    clear HO_3
                    clear HB
                    have HO_3 := n0_
                    have HB := n1_
                    clear n0_ n1_
                    have p278 : 0 ≤ (x4_1 : Int) := of_decide_eq_true (by first | (with_reducible assumption) | assumption)
                    have q278 : x4_1 < (l0.length : Int) := of_decide_eq_true (by first | (with_reducible assumption) | assumption)
                    obtain ⟨ad278, e278, hx278_0⟩ := Kd.at_int HR0.out x4_1 p278 q278
                    have hw278_0 := hx278_0
                    obtain rfl : ad274 = ad278 := (by injection e278)
                    replace hx278_0 := (HB.out.cell (World.block_lt_of_cell? w _ hx278_0)).trans hx278_0
                    replace p278 := eq_true p278
                    replace q278 := eq_true q278
                    have p279 : 0 ≤ ((ji7) : Int) := of_decide_eq_true (by first | (with_reducible assumption) | assumption)
                    have q279 : (ji7) < (l0.length : Int) := of_decide_eq_true (by first | (with_reducible assumption) | assumption)
                    obtain ⟨ad279, e279, hx279_0⟩ := Kd.at_int HR0.out (ji7) p279 q279
                    have hw279_0 := hx279_0
                    obtain rfl : ad274 = ad279 := (by injection e279)
                    replace hx279_0 := (HB.out.cell (World.block_lt_of_cell? w _ hx279_0)).trans hx279_0
                    replace p279 := eq_true p279
                    replace q279 := eq_true q279
                    refine start_ (n := 22) (S := fun w' => w'.cell? (ad274.add (x4_1).toNat) = some (.int .u16 (rd l0 x4_1)) ∧ w'.cell? (ad274.add ((ji7)).toNat) = some (.int .u16 (rd l0 (ji7)))) (ds := []) #[false, false, false, false, false, false, false, false, false, false, false, false, false, false, false, false, false, false, false, false, false, false] (by kernel_rfl) rfl rfl ⟨((HB.out.cell (World.block_lt_of_cell? w _ hw278_0)).trans hw278_0), ((HB.out.cell (World.block_lt_of_cell? w _ hw279_0)).trans hw279_0)⟩ (fun hHeld => ?_); refine with_tabW cameoref01_Row.tab6 cameoref01_Row.bits6 (fun HT_ HW_ => ?_)
                    generalize wr.drew = w12 at HO_3 HB hx278_0 hx279_0 hHeld ⊢
                    refine pure_ (i := 0) (N := some 31) (v := ?_) (a' := ?_) #[true, false, false, false, false, false, false, false, false, false, false, false, false, false, false, false, false, false, false, false, false, false] rfl rfl (any_of HT_.out (by kernel_rfl)) (fun _ _ _ h => h) (Or.inl ⟨by rfl, ?_⟩) ?_ ?_
                    rotate_left
                    · intro w'
                      go_simp
                      with_reducible rfl
                    rotate_left
                    · simp only [Act.put, List.setIfInBounds_toArray, List.set_cons_zero, List.set_cons_succ, i64_w, i32_w]
                      rfl
                    refine pure_ (i := 1) (N := some 32) (v := ?_) (a' := ?_) #[true, true, false, false, false, false, false, false, false, false, false, false, false, false, false, false, false, false, false, false, false, false] rfl rfl (any_of HT_.out (by kernel_rfl)) (fun _ _ _ h => h) (Or.inl ⟨by rfl, ?_⟩) ?_ ?_
                    rotate_left
                    · intro w'
                      go_simp
                      with_reducible rfl
                    rotate_left
                    · simp only [Act.put, List.setIfInBounds_toArray, List.set_cons_zero, List.set_cons_succ, i64_w, i32_w]
                      rfl
                    refine pure_ (i := 2) (N := some 33) (v := ?_) (a' := ?_) #[true, true, true, false, false, false, false, false, false, false, false, false, false, false, false, false, false, false, false, false, false, false] rfl rfl (any_of HT_.out (by kernel_rfl)) (fun _ _ _ h => h) (Or.inl ⟨by rfl, ?_⟩) ?_ ?_
                    rotate_left
                    · intro w'
                      go_simp
                      with_reducible rfl
                    rotate_left
                    · simp only [Act.put, List.setIfInBounds_toArray, List.set_cons_zero, List.set_cons_succ, i64_w, i32_w]
                      rfl
                    refine pure_ (i := 3) (N := some 34) (v := ?_) (a' := ?_) #[true, true, true, true, false, false, false, false, false, false, false, false, false, false, false, false, false, false, false, false, false, false] rfl rfl (any_of HT_.out (by kernel_rfl)) (fun _ _ _ h => h) (Or.inl ⟨by rfl, ?_⟩) ?_ ?_
                    rotate_left
                    · intro w'
                      go_simp
                      with_reducible rfl
                    rotate_left
                    · simp only [Act.put, List.setIfInBounds_toArray, List.set_cons_zero, List.set_cons_succ, i64_w, i32_w]
                      rfl
                    refine pure_ (i := 4) (N := some 35) (v := ?_) (a' := ?_) #[true, true, true, true, true, false, false, false, false, false, false, false, false, false, false, false, false, false, false, false, false, false] rfl rfl (any_of HT_.out (by kernel_rfl)) (fun _ _ _ h => h) (Or.inl ⟨by rfl, ?_⟩) ?_ ?_
                    rotate_left
                    · intro w'
                      go_simp
                      with_reducible rfl
                    rotate_left
                    · simp only [Act.put, List.setIfInBounds_toArray, List.set_cons_zero, List.set_cons_succ, i64_w, i32_w]
                      rfl
                    refine pure_ (i := 10) (N := some 41) (v := ?_) (a' := ?_) #[true, true, true, true, true, false, false, false, false, false, true, false, false, false, false, false, false, false, false, false, false, false] rfl rfl (any_of HT_.out (by kernel_rfl)) (fun _ _ _ h => h) (Or.inl ⟨by rfl, ?_⟩) ?_ ?_
                    rotate_left
                    · intro w'
                      go_simp
                      with_reducible rfl
                    rotate_left
                    · simp only [Act.put, List.setIfInBounds_toArray, List.set_cons_zero, List.set_cons_succ, i64_w, i32_w]
                      rfl
                    refine pure_ (i := 11) (N := some 42) (v := ?_) (a' := ?_) #[true, true, true, true, true, false, false, false, false, false, true, true, false, false, false, false, false, false, false, false, false, false] rfl rfl (any_of HT_.out (by kernel_rfl)) (fun _ _ _ h => h) (Or.inl ⟨by rfl, ?_⟩) ?_ ?_
                    rotate_left
                    · intro w'
                      go_simp
                      with_reducible rfl
                    rotate_left
                    · simp only [Act.put, List.setIfInBounds_toArray, List.set_cons_zero, List.set_cons_succ, i64_w, i32_w]
                      rfl
                    refine pure_ (i := 12) (N := some 43) (v := ?_) (a' := ?_) #[true, true, true, true, true, false, false, false, false, false, true, true, true, false, false, false, false, false, false, false, false, false] rfl rfl (any_of HT_.out (by kernel_rfl)) (fun _ _ _ h => h) (Or.inl ⟨by rfl, ?_⟩) ?_ ?_
                    rotate_left
                    · intro w'
                      go_simp
                      with_reducible rfl
                    rotate_left
                    · simp only [Act.put, List.setIfInBounds_toArray, List.set_cons_zero, List.set_cons_succ, i64_w, i32_w]
                      rfl
                    refine pure_ (i := 13) (N := some 44) (v := ?_) (a' := ?_) #[true, true, true, true, true, false, false, false, false, false, true, true, true, true, false, false, false, false, false, false, false, false] rfl rfl (any_of HT_.out (by kernel_rfl)) (fun _ _ _ h => h) (Or.inl ⟨by rfl, ?_⟩) ?_ ?_
                    rotate_left
                    · intro w'
                      go_simp
                      with_reducible rfl
                    rotate_left
                    · simp only [Act.put, List.setIfInBounds_toArray, List.set_cons_zero, List.set_cons_succ, i64_w, i32_w]
                      rfl
                    refine take_ (i := 5) (N := some 36) (v := ?_) (a' := ?_) #[true, true, true, true, true, true, false, false, false, false, true, true, true, true, false, false, false, false, false, false, false, false] rfl rfl (take_ofW HT_.out HW_.out (by kernel_rfl)) (fun _ _ _ h => h) (Or.inl ⟨by rfl, ?_⟩) hHeld ?_ ?_
                    rotate_left
                    · rintro w' ⟨s0, s1⟩
                      go_simp
                      with_reducible rfl
                    rotate_left
                    · simp only [Act.put, List.setIfInBounds_toArray, List.set_cons_zero, List.set_cons_succ, i64_w, i32_w]
                      rfl
                    refine pure_ (i := 6) (N := some 37) (v := ?_) (a' := ?_) #[true, true, true, true, true, true, true, false, false, false, true, true, true, true, false, false, false, false, false, false, false, false] rfl rfl (any_of HT_.out (by kernel_rfl)) (fun _ _ _ h => h) (Or.inl ⟨by rfl, ?_⟩) ?_ ?_
                    rotate_left
                    · intro w'
                      go_simp
                      with_reducible rfl
                    rotate_left
                    · simp only [Act.put, List.setIfInBounds_toArray, List.set_cons_zero, List.set_cons_succ, i64_w, i32_w]
                      rfl
                    refine pure_ (i := 7) (N := some 38) (v := ?_) (a' := ?_) #[true, true, true, true, true, true, true, true, false, false, true, true, true, true, false, false, false, false, false, false, false, false] rfl rfl (any_of HT_.out (by kernel_rfl)) (fun _ _ _ h => h) (Or.inl ⟨by rfl, ?_⟩) ?_ ?_
                    rotate_left
                    · intro w'
                      go_simp
                      with_reducible rfl
                    rotate_left
                    · simp only [Act.put, List.setIfInBounds_toArray, List.set_cons_zero, List.set_cons_succ, i64_w, i32_w]
                      rfl
                    refine pure_ (i := 8) (N := some 39) (v := ?_) (a' := ?_) #[true, true, true, true, true, true, true, true, true, false, true, true, true, true, false, false, false, false, false, false, false, false] rfl rfl (any_of HT_.out (by kernel_rfl)) (fun _ _ _ h => h) (Or.inl ⟨by rfl, ?_⟩) ?_ ?_
                    rotate_left
                    · intro w'
                      go_simp
                      with_reducible rfl
                    rotate_left
                    · simp only [Act.put, List.setIfInBounds_toArray, List.set_cons_zero, List.set_cons_succ, i64_w, i32_w]
                      rfl
                    refine pure_ (i := 9) (N := some 40) (v := ?_) (a' := ?_) #[true, true, true, true, true, true, true, true, true, true, true, true, true, true, false, false, false, false, false, false, false, false] rfl rfl (any_of HT_.out (by kernel_rfl)) (fun _ _ _ h => h) (Or.inl ⟨by rfl, ?_⟩) ?_ ?_
                    rotate_left
                    · intro w'
                      go_simp
                      with_reducible rfl
                    rotate_left
                    · simp only [Act.put, List.setIfInBounds_toArray, List.set_cons_zero, List.set_cons_succ, i64_w, i32_w]
                      rfl
                    refine take_ (i := 14) (N := some 45) (v := ?_) (a' := ?_) #[true, true, true, true, true, true, true, true, true, true, true, true, true, true, true, false, false, false, false, false, false, false] rfl rfl (take_ofW HT_.out HW_.out (by kernel_rfl)) (fun _ _ _ h => h) (Or.inl ⟨by rfl, ?_⟩) hHeld ?_ ?_
                    rotate_left
                    · rintro w' ⟨s0, s1⟩
                      go_simp
                      with_reducible rfl
                    rotate_left
                    · simp only [Act.put, List.setIfInBounds_toArray, List.set_cons_zero, List.set_cons_succ, i64_w, i32_w]
                      rfl
                    refine pure_ (i := 15) (N := some 46) (v := ?_) (a' := ?_) #[true, true, true, true, true, true, true, true, true, true, true, true, true, true, true, true, false, false, false, false, false, false] rfl rfl (any_of HT_.out (by kernel_rfl)) (fun _ _ _ h => h) (Or.inl ⟨by rfl, ?_⟩) ?_ ?_
                    rotate_left
                    · intro w'
                      go_simp
                      with_reducible rfl
                    rotate_left
                    · simp only [Act.put, List.setIfInBounds_toArray, List.set_cons_zero, List.set_cons_succ, i64_w, i32_w]
                      rfl
                    refine pure_ (i := 16) (N := some 47) (v := ?_) (a' := ?_) #[true, true, true, true, true, true, true, true, true, true, true, true, true, true, true, true, true, false, false, false, false, false] rfl rfl (any_of HT_.out (by kernel_rfl)) (fun _ _ _ h => h) (Or.inl ⟨by rfl, ?_⟩) ?_ ?_
                    rotate_left
                    · intro w'
                      go_simp
                      with_reducible rfl
                    rotate_left
                    · simp only [Act.put, List.setIfInBounds_toArray, List.set_cons_zero, List.set_cons_succ, i64_w, i32_w]
                      rfl
                    refine pure_ (i := 17) (N := some 48) (v := ?_) (a' := ?_) #[true, true, true, true, true, true, true, true, true, true, true, true, true, true, true, true, true, true, false, false, false, false] rfl rfl (any_of HT_.out (by kernel_rfl)) (fun _ _ _ h => h) (Or.inl ⟨by rfl, ?_⟩) ?_ ?_
                    rotate_left
                    · intro w'
                      go_simp
                      with_reducible rfl
                    rotate_left
                    · simp only [Act.put, List.setIfInBounds_toArray, List.set_cons_zero, List.set_cons_succ, i64_w, i32_w]
                      rfl
                    refine pure_ (i := 18) (N := some 49) (v := ?_) (a' := ?_) #[true, true, true, true, true, true, true, true, true, true, true, true, true, true, true, true, true, true, true, false, false, false] rfl rfl (any_of HT_.out (by kernel_rfl)) (fun _ _ _ h => h) (Or.inl ⟨by rfl, ?_⟩) ?_ ?_
                    rotate_left
                    · intro w'
                      go_simp
                      with_reducible rfl
                    rotate_left
                    · simp only [Act.put, List.setIfInBounds_toArray, List.set_cons_zero, List.set_cons_succ, i64_w, i32_w]
                      rfl
                    refine one_ (i := 19) (N := some 50) #[true, true, true, true, true, true, true, true, true, true, true, true, true, true, true, true, true, true, true, true, false, false] rfl rfl (one_of HT_.out (by kernel_rfl)) (by decide) (fun K hK => ?_)
                    refine value_ (w1 := ?_) (v := ?_) (by rfl) rfl ?_ ?_
                    rotate_left 2
                    · go_simp
                      constructor
                      · rfl
                      · rfl
                    refine hK.out _ _ ⟨(World.cell?_alloc_lt _ _ _ (World.block_lt_of_cell? _ _ (((HB.out.cell (World.block_lt_of_cell? w _ hw278_0)).trans hw278_0)))).trans (((HB.out.cell (World.block_lt_of_cell? w _ hw278_0)).trans hw278_0)), (World.cell?_alloc_lt _ _ _ (World.block_lt_of_cell? _ _ (((HB.out.cell (World.block_lt_of_cell? w _ hw279_0)).trans hw279_0)))).trans (((HB.out.cell (World.block_lt_of_cell? w _ hw279_0)).trans hw279_0))⟩ (fun hHeld => ?_)
                    clear hK K
                    refine norm_ (a' := ?_) ?_ ?_
                    rotate_left
                    · show Act.put _ (some 50) _ = _
                      simp only [Act.put, List.setIfInBounds_toArray, List.set_cons_zero, List.set_cons_succ, i64_w, i32_w]
                      rfl
                    refine one_ (i := 20) (N := some 51) #[true, true, true, true, true, true, true, true, true, true, true, true, true, true, true, true, true, true, true, true, true, false] rfl rfl (one_of HT_.out (by kernel_rfl)) (by decide) (fun K hK => ?_)
                    refine Kd.R_append_step k138 (w0 := w) w.heap.size (by rfl) (.tmp 31) (.tmp 50) 134 138 (.agg #[(.int .i64 0), (.int .i64 0)]) 16 rfl Tryd.underlying134 info138 rfl (by decide) (by omega) u3 x3_1 (⟨x4_1, wrap64 ((wrap64 ((wrap64 (65536 + (wrap64 (1024 * (wrap64 ((wrap64 (rd l0 x4_1)) - 55296)))))) + (wrap64 (rd l0 (ji7))))) - 56320)⟩ : S138) [.int .i64 x4_1, .int .i64 (wrap64 ((wrap64 ((wrap64 (65536 + (wrap64 (1024 * (wrap64 ((wrap64 (rd l0 x4_1)) - 55296)))))) + (wrap64 (rd l0 (ji7))))) - 56320))] (fun _ => True) (fun _ => False) rfl rfl ?aP (fun _ hk => hk.elim) ?aF ?aO ?aB ?aS ?aL ?_
                    (case aP => exact k138_mkM _ _ _ (⟨x4_1, wrap64 ((wrap64 ((wrap64 (65536 + (wrap64 (1024 * (wrap64 ((wrap64 (rd l0 x4_1)) - 55296)))))) + (wrap64 (rd l0 (ji7))))) - 56320)⟩ : S138))
                    (case aB => exact (by repeat (first | (with_reducible first | exact HB.out | apply below_alloc | apply pw_below_drewN | apply below_drew1) | exact HB.out)))
                    (case aF => exact (fun _ _ => trivial))
                    (case aO => exact (by (with_reducible repeat (first | apply Kd.R_alloc | apply Kd.R_drewN | apply Kd.R_drew)); exact HO_3.out))
                    (case aS => exact (below_size (by repeat (first | (with_reducible first | exact HB.out | apply below_alloc | apply pw_below_drewN | apply below_drew1) | exact HB.out))))
                    (case aL => have := LMc11.out; omega)
                    intro v281 w13 ho hb hg hat
                    rw [← Ny280.out] at ho
                    have n0_ := Aside0.mk (hb)
                    have n1_ := Aside0.mk (ho)
                    clear HB
                    clear HO_3
                    have HB := n0_
                    have HO282 := n1_
                    clear n0_ n1_
                    clear ho hb hg hat
                    refine hK.out _ _ ⟨((HB.out.cell (World.block_lt_of_cell? w _ hw278_0)).trans hw278_0), ((HB.out.cell (World.block_lt_of_cell? w _ hw279_0)).trans hw279_0)⟩ (fun hHeld => ?_)
                    clear hK K
                    refine norm_ (a' := ?_) ?_ ?_
                    rotate_left
                    · show Act.put _ (some 51) _ = _
                      simp only [Act.put, List.setIfInBounds_toArray, List.set_cons_zero, List.set_cons_succ, i64_w, i32_w]
                      rfl
                    refine pure_ (i := 21) (N := some 3) (v := ?_) (a' := ?_) #[true, true, true, true, true, true, true, true, true, true, true, true, true, true, true, true, true, true, true, true, true, true] rfl rfl (any_of HT_.out (by kernel_rfl)) (fun _ _ _ h => h) (Or.inl ⟨by rfl, ?_⟩) ?_ ?_
                    rotate_left
                    · intro w'
                      go_simp
                      with_reducible rfl
                    rotate_left
                    · simp only [Act.put, List.setIfInBounds_toArray, List.set_cons_zero, List.set_cons_succ, i64_w, i32_w]
                      rfl
                    refine done_ (done_of HT_.out (by kernel_rfl)) ?_
                    try go_wp2
                    go_roundg k1
                    case measure => have := HK1.out; omega
                    case rel => exact ⟨(y280), (wrap64 ((ji7) + 1)), (by first | rfl | (simp; done) | (simp only [← hji7] <;> (first | rfl | simp)) | (simp [*]; done)), H', ⟨by have := HK1.out; omega⟩, ⟨by (with_reducible repeat (first | apply Kd.R_alloc | apply Kd.R_drewN | apply Kd.R_drew)); exact HO282.out⟩, ⟨by repeat (first | (with_reducible first | exact HB.out | apply below_alloc | apply pw_below_drewN | apply below_drew1) | exact HB.out)⟩⟩
                  · rw [if_neg c11] at H
                    exact absurd H (by simp)
                · replace c10 := Bool.eq_false_iff.mpr c10
                  subst c10
                  have H1 : (if x3_1.length < 8796093022208 then (cameoref01_Row.l0 k1 l0 (x3_1 ++ [(⟨x4_1, wrap64 (rd l0 x4_1)⟩ : S138)]) ji7) else (none)) = some r := by rw [if_neg (show ¬ (false = true) by decide)] at H; exact H
                  clear H
                  have H := H1
                  clear H1
                  by_cases c14 : x3_1.length < 8796093022208
                  · rw [if_pos c14] at H
                    have LMc14 := Aside0.mk c14
                    clear c14
                    obtain ⟨y284, hy284⟩ : ∃ y_ : List (S138), y_ = (x3_1 ++ [(⟨x4_1, wrap64 (rd l0 x4_1)⟩ : S138)]) := ⟨_, rfl⟩
                    replace H : (cameoref01_Row.l0 k1 l0 y284 ji7) = some r := by first | (rw [hy284]; with_reducible exact H) | (have H2_ := (Option.bind_some _ _).symm.trans H; rw [hy284]; with_reducible exact H2_) | (have H2_ := (Option.bind_some _ _).symm.trans H; with_reducible exact H2_) | with_reducible exact H | (rw [hy284]; exact H) | exact H
                    have Ny284 := Aside0.mk hy284
                    clear hy284
                    have H' := Aside0.mk H
                    clear H
                    have p274 : 0 ≤ (x4_1 : Int) := of_decide_eq_true (by first | (with_reducible assumption) | assumption)
                    have q274 : x4_1 < (l0.length : Int) := of_decide_eq_true (by first | (with_reducible assumption) | assumption)
                    obtain ⟨ad274, e274, hx274_0⟩ := Kd.at_int HR0.out x4_1 p274 q274
                    cases e274
                    replace hx274_0 := (HB.out.cell (World.block_lt_of_cell? w _ hx274_0)).trans hx274_0
                    replace p274 := eq_true p274
                    replace q274 := eq_true q274
                    go_wp2_with (first | ((with_reducible refine gate_callee (f := 128) rfl ?_); refine goesL_ (some 15) rfl rfl Tryd.func128 (by kernel_rfl) rfl #[.int .u16 (rd l0 x4_1)] rfl (by (try simp only [List.map_toArray, List.map_cons, List.map_nil]); first | done | rfl | (simp only [List.length_drop, List.length_take]; rfl)) ?_; (with_reducible refine (cameoref01_high.calls (rd l0 x4_1) true _ A4.out).mono ?_); rintro e w' ⟨rfl, ⟨nd, rfl⟩⟩; refine ⟨_, rfl, ?_⟩; have p276 : 0 ≤ ((ji7) : Int) := of_decide_eq_true (by first | (with_reducible assumption) | assumption); have q276 : (ji7) < (l0.length : Int) := of_decide_eq_true (by first | (with_reducible assumption) | assumption); obtain ⟨ad276, e276, hx276_0⟩ := Kd.at_int HR0.out (ji7) p276 q276; obtain rfl : ad274 = ad276 := (by injection e276); replace hx276_0 := (HB.out.cell (World.block_lt_of_cell? w _ hx276_0)).trans hx276_0; replace p276 := eq_true p276; replace q276 := eq_true q276) | (go_at_call 129; (with_reducible refine (cameoref01_low.calls (rd l0 (ji7)) false _ A9.out).mono ?_); rintro e w' ⟨rfl, ⟨nd, rfl⟩⟩; have p283 : 0 ≤ (x4_1 : Int) := of_decide_eq_true (by first | (with_reducible assumption) | assumption); have q283 : x4_1 < (l0.length : Int) := of_decide_eq_true (by first | (with_reducible assumption) | assumption); obtain ⟨ad283, e283, hx283_0⟩ := Kd.at_int HR0.out x4_1 p283 q283; obtain rfl : ad274 = ad283 := (by injection e283); replace hx283_0 := (HB.out.cell (World.block_lt_of_cell? w _ hx283_0)).trans hx283_0; replace p283 := eq_true p283; replace q283 := eq_true q283) | ((with_reducible refine gate_builtin (b := .append) (xs := #[.tmp 54, .tmp 62]) rfl ?_); (try (refine gate_guard (by rfl) ?_; dsimp only)); at_builtin; refine Kd.R_append k138 (w0 := w) w.heap.size rfl (.tmp 54) (.tmp 62) 134 138 (.agg #[(.int .i64 0), (.int .i64 0)]) 16 rfl Tryd.underlying134 info138 rfl (by decide) (by omega) u3 x3_1 (⟨x4_1, wrap64 (rd l0 x4_1)⟩ : S138) [.int .i64 x4_1, .int .i64 (wrap64 (rd l0 x4_1))] (fun _ => True) (fun _ => False) rfl rfl ?aP (fun _ hk => hk.elim) ?aF ?aO ?aB ?aS ?aL ?_; (case aP => exact k138_mkM _ _ _ (⟨x4_1, wrap64 (rd l0 x4_1)⟩ : S138)); (case aB => exact (by repeat (first | (with_reducible first | exact HB.out | apply below_alloc | apply pw_below_drewN | apply below_drew1) | exact HB.out))); (case aF => exact (fun _ _ => trivial)); (case aO => exact (by (with_reducible repeat (first | apply Kd.R_alloc | apply Kd.R_drewN | apply Kd.R_drew)); exact HO_3.out)); (case aS => exact (below_size (by repeat (first | (with_reducible first | exact HB.out | apply below_alloc | apply pw_below_drewN | apply below_drew1) | exact HB.out)))); (case aL => have := LMc14.out; omega); intro v285 w15 ho hb hg hat; rw [← Ny284.out] at ho; have n0_ := Aside0.mk (hb); have n1_ := Aside0.mk (ho); clear HB; clear HO_3; have HB := n0_; have HO286 := n1_; clear n0_ n1_; clear ho hb hg hat))
                    go_roundg k1
                    case measure => have := HK1.out; omega
                    case rel => exact ⟨(y284), (ji7), (by first | rfl | (simp; done) | (simp only [← hji7] <;> (first | rfl | simp)) | (simp [*]; done)), H', ⟨by have := HK1.out; omega⟩, ⟨by (with_reducible repeat (first | apply Kd.R_alloc | apply Kd.R_drewN | apply Kd.R_drew)); exact HO286.out⟩, ⟨by repeat (first | (with_reducible first | exact HB.out | apply below_alloc | apply pw_below_drewN | apply below_drew1) | exact HB.out)⟩⟩
                  · rw [if_neg c14] at H
                    exact absurd H (by simp)
              · rw [if_neg c8] at H
                exact absurd H (by simp)
            · rw [if_neg c6] at H
              have c6b0 : decide ((wrap64 (x4_1 + 1)) < (l0.length : Int)) = false := decide_eq_false c6
              clear c6
              by_cases c16 : x3_1.length < 8796093022208
              · rw [if_pos c16] at H
                have LMc16 := Aside0.mk c16
                clear c16
                obtain ⟨y288, hy288⟩ : ∃ y_ : List (S138), y_ = (x3_1 ++ [(⟨x4_1, wrap64 (rd l0 x4_1)⟩ : S138)]) := ⟨_, rfl⟩
                replace H : (cameoref01_Row.l0 k1 l0 y288 (wrap64 (x4_1 + 1))) = some r := by first | (rw [hy288]; with_reducible exact H) | (have H2_ := (Option.bind_some _ _).symm.trans H; rw [hy288]; with_reducible exact H2_) | (have H2_ := (Option.bind_some _ _).symm.trans H; with_reducible exact H2_) | with_reducible exact H | (rw [hy288]; exact H) | exact H
                have Ny288 := Aside0.mk hy288
                clear hy288
                have H' := Aside0.mk H
                clear H
                have p274 : 0 ≤ (x4_1 : Int) := of_decide_eq_true (by first | (with_reducible assumption) | assumption)
                have q274 : x4_1 < (l0.length : Int) := of_decide_eq_true (by first | (with_reducible assumption) | assumption)
                obtain ⟨ad274, e274, hx274_0⟩ := Kd.at_int HR0.out x4_1 p274 q274
                cases e274
                replace hx274_0 := (HB.out.cell (World.block_lt_of_cell? w _ hx274_0)).trans hx274_0
                replace p274 := eq_true p274
                replace q274 := eq_true q274
                go_wp2_with (first | ((with_reducible refine gate_callee (f := 128) rfl ?_); refine goesL_ (some 15) rfl rfl Tryd.func128 (by kernel_rfl) rfl #[.int .u16 (rd l0 x4_1)] rfl (by (try simp only [List.map_toArray, List.map_cons, List.map_nil]); first | done | rfl | (simp only [List.length_drop, List.length_take]; rfl)) ?_; (with_reducible refine (cameoref01_high.calls (rd l0 x4_1) true _ A4.out).mono ?_); rintro e w' ⟨rfl, ⟨nd, rfl⟩⟩; refine ⟨_, rfl, ?_⟩; have p287 : 0 ≤ (x4_1 : Int) := of_decide_eq_true (by first | (with_reducible assumption) | assumption); have q287 : x4_1 < (l0.length : Int) := of_decide_eq_true (by first | (with_reducible assumption) | assumption); obtain ⟨ad287, e287, hx287_0⟩ := Kd.at_int HR0.out x4_1 p287 q287; obtain rfl : ad274 = ad287 := (by injection e287); replace hx287_0 := (HB.out.cell (World.block_lt_of_cell? w _ hx287_0)).trans hx287_0; replace p287 := eq_true p287; replace q287 := eq_true q287) | ((with_reducible refine gate_builtin (b := .append) (xs := #[.tmp 54, .tmp 62]) rfl ?_); (try (refine gate_guard (by rfl) ?_; dsimp only)); at_builtin; refine Kd.R_append k138 (w0 := w) w.heap.size rfl (.tmp 54) (.tmp 62) 134 138 (.agg #[(.int .i64 0), (.int .i64 0)]) 16 rfl Tryd.underlying134 info138 rfl (by decide) (by omega) u3 x3_1 (⟨x4_1, wrap64 (rd l0 x4_1)⟩ : S138) [.int .i64 x4_1, .int .i64 (wrap64 (rd l0 x4_1))] (fun _ => True) (fun _ => False) rfl rfl ?aP (fun _ hk => hk.elim) ?aF ?aO ?aB ?aS ?aL ?_; (case aP => exact k138_mkM _ _ _ (⟨x4_1, wrap64 (rd l0 x4_1)⟩ : S138)); (case aB => exact (by repeat (first | (with_reducible first | exact HB.out | apply below_alloc | apply pw_below_drewN | apply below_drew1) | exact HB.out))); (case aF => exact (fun _ _ => trivial)); (case aO => exact (by (with_reducible repeat (first | apply Kd.R_alloc | apply Kd.R_drewN | apply Kd.R_drew)); exact HO_3.out)); (case aS => exact (below_size (by repeat (first | (with_reducible first | exact HB.out | apply below_alloc | apply pw_below_drewN | apply below_drew1) | exact HB.out)))); (case aL => have := LMc16.out; omega); intro v289 w17 ho hb hg hat; rw [← Ny288.out] at ho; have n0_ := Aside0.mk (hb); have n1_ := Aside0.mk (ho); clear HB; clear HO_3; have HB := n0_; have HO290 := n1_; clear n0_ n1_; clear ho hb hg hat))
                go_roundg k1
                case measure => have := HK1.out; omega
                case rel => exact ⟨(y288), (wrap64 (x4_1 + 1)), (by first | rfl | (simp; done) | (simp [*]; done)), H', ⟨by have := HK1.out; omega⟩, ⟨by (with_reducible repeat (first | apply Kd.R_alloc | apply Kd.R_drewN | apply Kd.R_drew)); exact HO290.out⟩, ⟨by repeat (first | (with_reducible first | exact HB.out | apply below_alloc | apply pw_below_drewN | apply below_drew1) | exact HB.out)⟩⟩
              · rw [if_neg c16] at H
                exact absurd H (by simp)
          · replace c5 := Bool.eq_false_iff.mpr c5
            subst c5
            have H1 : (if x3_1.length < 8796093022208 then (cameoref01_Row.l0 k1 l0 (x3_1 ++ [(⟨x4_1, wrap64 (rd l0 x4_1)⟩ : S138)]) (wrap64 (x4_1 + 1))) else (none)) = some r := by rw [if_neg (show ¬ (false = true) by decide)] at H; exact H
            clear H
            have H := H1
            clear H1
            by_cases c18 : x3_1.length < 8796093022208
            · rw [if_pos c18] at H
              have LMc18 := Aside0.mk c18
              clear c18
              obtain ⟨y292, hy292⟩ : ∃ y_ : List (S138), y_ = (x3_1 ++ [(⟨x4_1, wrap64 (rd l0 x4_1)⟩ : S138)]) := ⟨_, rfl⟩
              replace H : (cameoref01_Row.l0 k1 l0 y292 (wrap64 (x4_1 + 1))) = some r := by first | (rw [hy292]; with_reducible exact H) | (have H2_ := (Option.bind_some _ _).symm.trans H; rw [hy292]; with_reducible exact H2_) | (have H2_ := (Option.bind_some _ _).symm.trans H; with_reducible exact H2_) | with_reducible exact H | (rw [hy292]; exact H) | exact H
              have Ny292 := Aside0.mk hy292
              clear hy292
              have H' := Aside0.mk H
              clear H
              have p274 : 0 ≤ (x4_1 : Int) := of_decide_eq_true (by first | (with_reducible assumption) | assumption)
              have q274 : x4_1 < (l0.length : Int) := of_decide_eq_true (by first | (with_reducible assumption) | assumption)
              obtain ⟨ad274, e274, hx274_0⟩ := Kd.at_int HR0.out x4_1 p274 q274
              cases e274
              replace hx274_0 := (HB.out.cell (World.block_lt_of_cell? w _ hx274_0)).trans hx274_0
              replace p274 := eq_true p274
              replace q274 := eq_true q274
              go_wp2_with (first | ((with_reducible refine gate_callee (f := 128) rfl ?_); refine goesL_ (some 15) rfl rfl Tryd.func128 (by kernel_rfl) rfl #[.int .u16 (rd l0 x4_1)] rfl (by (try simp only [List.map_toArray, List.map_cons, List.map_nil]); first | done | rfl | (simp only [List.length_drop, List.length_take]; rfl)) ?_; (with_reducible refine (cameoref01_high.calls (rd l0 x4_1) false _ A4.out).mono ?_); rintro e w' ⟨rfl, ⟨nd, rfl⟩⟩; refine ⟨_, rfl, ?_⟩; have p291 : 0 ≤ (x4_1 : Int) := of_decide_eq_true (by first | (with_reducible assumption) | assumption); have q291 : x4_1 < (l0.length : Int) := of_decide_eq_true (by first | (with_reducible assumption) | assumption); obtain ⟨ad291, e291, hx291_0⟩ := Kd.at_int HR0.out x4_1 p291 q291; obtain rfl : ad274 = ad291 := (by injection e291); replace hx291_0 := (HB.out.cell (World.block_lt_of_cell? w _ hx291_0)).trans hx291_0; replace p291 := eq_true p291; replace q291 := eq_true q291) | ((with_reducible refine gate_builtin (b := .append) (xs := #[.tmp 54, .tmp 62]) rfl ?_); (try (refine gate_guard (by rfl) ?_; dsimp only)); at_builtin; refine Kd.R_append k138 (w0 := w) w.heap.size rfl (.tmp 54) (.tmp 62) 134 138 (.agg #[(.int .i64 0), (.int .i64 0)]) 16 rfl Tryd.underlying134 info138 rfl (by decide) (by omega) u3 x3_1 (⟨x4_1, wrap64 (rd l0 x4_1)⟩ : S138) [.int .i64 x4_1, .int .i64 (wrap64 (rd l0 x4_1))] (fun _ => True) (fun _ => False) rfl rfl ?aP (fun _ hk => hk.elim) ?aF ?aO ?aB ?aS ?aL ?_; (case aP => exact k138_mkM _ _ _ (⟨x4_1, wrap64 (rd l0 x4_1)⟩ : S138)); (case aB => exact (by repeat (first | (with_reducible first | exact HB.out | apply below_alloc | apply pw_below_drewN | apply below_drew1) | exact HB.out))); (case aF => exact (fun _ _ => trivial)); (case aO => exact (by (with_reducible repeat (first | apply Kd.R_alloc | apply Kd.R_drewN | apply Kd.R_drew)); exact HO_3.out)); (case aS => exact (below_size (by repeat (first | (with_reducible first | exact HB.out | apply below_alloc | apply pw_below_drewN | apply below_drew1) | exact HB.out)))); (case aL => have := LMc18.out; omega); intro v293 w19 ho hb hg hat; rw [← Ny292.out] at ho; have n0_ := Aside0.mk (hb); have n1_ := Aside0.mk (ho); clear HB; clear HO_3; have HB := n0_; have HO294 := n1_; clear n0_ n1_; clear ho hb hg hat))
              go_roundg k1
              case measure => have := HK1.out; omega
              case rel => exact ⟨(y292), (wrap64 (x4_1 + 1)), (by first | rfl | (simp; done) | (simp [*]; done)), H', ⟨by have := HK1.out; omega⟩, ⟨by (with_reducible repeat (first | apply Kd.R_alloc | apply Kd.R_drewN | apply Kd.R_drew)); exact HO294.out⟩, ⟨by repeat (first | (with_reducible first | exact HB.out | apply below_alloc | apply pw_below_drewN | apply below_drew1) | exact HB.out)⟩⟩
            · rw [if_neg c18] at H
              exact absurd H (by simp)
        · rw [if_neg c3] at H
          exact absurd H (by simp)
      · rw [if_neg c2] at H
        have c2b0 : decide (x4_1 < (l0.length : Int)) = false := decide_eq_false c2
        clear c2
        obtain rfl := Option.some.inj H
        go_wp2
        go_ret
        exact ⟨_, by first | rfl | (simp [errW_none, errW_some] <;> rfl) | (simp [*, errW_none, errW_some] <;> rfl), by (with_reducible repeat (first | apply Kd.R_alloc | apply Kd.R_drewN | apply Kd.R_drew)); exact HO_3.out, by repeat (first | (with_reducible first | exact HB.out | apply below_alloc | apply pw_below_drewN | apply below_drew1) | exact HB.out)⟩
/-! ### cameoref01_put: function 126 -/
def cameoref01_put.f (l0 : List Int) (a1 : Int) : Option (List Int) := if a1 < 128 then (if l0.length < 140737488355328 then (some (l0 ++ [(a1) % 256])) else (none)) else (if a1 < 2048 then ((some (([(wrap64 (192 + (wrap64 (Int.tdiv a1 64)))) % 256, (wrap64 (128 + (Int.tmod a1 64))) % 256] : List Int) : List Int)).bind fun y298 => (if l0.length + y298.length < 140737488355328 then (some (l0 ++ y298)) else (none))) else (if a1 < 65536 then ((some (([(wrap64 (224 + (wrap64 (Int.tdiv a1 4096)))) % 256, (wrap64 (128 + (Int.tmod (wrap64 (Int.tdiv a1 64)) 64))) % 256, (wrap64 (128 + (Int.tmod a1 64))) % 256] : List Int) : List Int)).bind fun y304 => (if l0.length + y304.length < 140737488355328 then (some (l0 ++ y304)) else (none))) else ((some (([(wrap64 (240 + (wrap64 (Int.tdiv a1 262144)))) % 256, (wrap64 (128 + (Int.tmod (wrap64 (Int.tdiv a1 4096)) 64))) % 256, (wrap64 (128 + (Int.tmod (wrap64 (Int.tdiv a1 64)) 64))) % 256, (wrap64 (128 + (Int.tmod a1 64))) % 256] : List Int) : List Int)).bind fun y310 => (if l0.length + y310.length < 140737488355328 then (some (l0 ++ y310)) else (none)))))
set_option maxHeartbeats 8000000 in
set_option maxRecDepth 100000 in
theorem cameoref01_put.calls (P0_ : Nat → Prop) (u9000_ : Value) (l0 : List Int) (a1 : Int) (r : List Int) (w0 w : World) (hB : Below w0.heap.size w0 w) (ho0 : Kd.R (Kd.int .u8) 5 w w0.heap.size P0_ u9000_ l0) (h : cameoref01_put.f l0 a1 = some r) :
    Calls Tryd.prog 126 #[u9000_, .int .i64 a1] w fun e w' => ∃ v0_ : Value, e = .returned (v0_) ∧ Kd.R (Kd.int .u8) 5 w' w0.heap.size (fun k_ => (P0_ k_ ∨ w.heap.size ≤ k_)) v0_ r ∧ Below w0.heap.size w0 w' ∧ Kept w w' (fun k_ => P0_ k_) := by
  have HO0 := Aside0.mk (show Kd.R (Kd.int .u8) 5 w w0.heap.size (fun k_ => (P0_ k_ ∨ w.heap.size ≤ k_)) u9000_ l0 from Kd.R_mono ho0 (fun k_ hk => (.inl hk)))
  have HK := Aside0.mk (Kept.refl w (fun k_ => P0_ k_))
  have HW0 := Aside0.mk hB.size
  have HB := Aside0.mk hB
  clear hB
  have H : (if a1 < 128 then (if l0.length < 140737488355328 then (some (l0 ++ [(a1) % 256])) else (none)) else (if a1 < 2048 then ((some (([(wrap64 (192 + (wrap64 (Int.tdiv a1 64)))) % 256, (wrap64 (128 + (Int.tmod a1 64))) % 256] : List Int) : List Int)).bind fun y298 => (if l0.length + y298.length < 140737488355328 then (some (l0 ++ y298)) else (none))) else (if a1 < 65536 then ((some (([(wrap64 (224 + (wrap64 (Int.tdiv a1 4096)))) % 256, (wrap64 (128 + (Int.tmod (wrap64 (Int.tdiv a1 64)) 64))) % 256, (wrap64 (128 + (Int.tmod a1 64))) % 256] : List Int) : List Int)).bind fun y304 => (if l0.length + y304.length < 140737488355328 then (some (l0 ++ y304)) else (none))) else ((some (([(wrap64 (240 + (wrap64 (Int.tdiv a1 262144)))) % 256, (wrap64 (128 + (Int.tmod (wrap64 (Int.tdiv a1 4096)) 64))) % 256, (wrap64 (128 + (Int.tmod (wrap64 (Int.tdiv a1 64)) 64))) % 256, (wrap64 (128 + (Int.tmod a1 64))) % 256] : List Int) : List Int)).bind fun y310 => (if l0.length + y310.length < 140737488355328 then (some (l0 ++ y310)) else (none)))))) = some r := h
  clear h
  by_cases c3 : a1 < 128
  · rw [if_pos c3] at H
    have c3b0 : decide (a1 < 128) = true := decide_eq_true c3
    clear c3
    by_cases c4 : l0.length < 140737488355328
    · rw [if_pos c4] at H
      have LMc4 := Aside0.mk c4
      clear c4
      obtain ⟨y295, hy295⟩ : ∃ y_ : List Int, y_ = (l0 ++ [(a1) % 256]) := ⟨_, rfl⟩
      replace H : (some y295) = some r := by first | (rw [hy295]; with_reducible exact H) | (have H2_ := (Option.bind_some _ _).symm.trans H; rw [hy295]; with_reducible exact H2_) | (have H2_ := (Option.bind_some _ _).symm.trans H; with_reducible exact H2_) | with_reducible exact H | (rw [hy295]; exact H) | exact H
      have Ny295 := Aside0.mk hy295
      clear hy295
      obtain rfl := Option.some.inj H
      go_enter Tryd.func126, Tryd.ntmps126
      go_wp2_with (first | ((with_reducible refine gate_builtin (b := .append) (xs := #[.tmp 8, .tmp 11]) rfl ?_); at_builtin; refine Kd.R_append (Kd.int .u8) (w0 := w0) w0.heap.size rfl (.tmp 8) (.tmp 11) 133 5 (.int .u8 0) 1 rfl Tryd.underlying133 info5 rfl (by decide) (by omega) u9000_ l0 ((a1) % 256) [.int .u8 ((a1) % 256)] (fun k_ => (P0_ k_ ∨ w.heap.size ≤ k_)) (fun _ => False) rfl rfl ?aP (fun _ hk => hk.elim) ?aF ?aO ?aB ?aS ?aL ?_; (case aP => exact rfl); (case aB => exact (by repeat (first | (with_reducible first | exact HB.out | apply below_alloc | apply pw_below_drewN | apply below_drew1) | exact HB.out))); (case aF => exact (fun k_ hk => (.inr (Nat.le_trans (by first | exact HK.out.1 | exact (show Kept w _ (fun k_ => P0_ k_) from by repeat (first | (with_reducible first | exact HK.out | apply Kept.alloc | apply Kept.drewN | apply Kept.drew) | exact HK.out)).1) hk)))); (case aO => exact (by (with_reducible repeat (first | apply Kd.R_alloc | apply Kd.R_drewN | apply Kd.R_drew)); exact HO0.out)); (case aS => exact (below_size (by repeat (first | (with_reducible first | exact HB.out | apply below_alloc | apply pw_below_drewN | apply below_drew1) | exact HB.out)))); (case aL => have := LMc4.out; omega); intro v296 w5 ho hb hg hat; rw [← Ny295.out] at ho; have n0_ := Aside0.mk (hb); have n1_ := Aside0.mk (Kept.of_grown (S := (fun k_ => P0_ k_)) hg (by repeat (first | (with_reducible first | exact HK.out | apply Kept.alloc | apply Kept.drewN | apply Kept.drew) | exact HK.out)) (fun k_ e_ => (HO0.out.1 k_ e_))); have n2_ := Aside0.mk (ho); clear HB; clear HK; clear HO0; have HB := n0_; have HK := n1_; have HO297 := n2_; clear n0_ n1_ n2_; clear ho hb hg hat))
      go_ret
      exact ⟨_, by first | rfl | (simp [errW_none, errW_some] <;> rfl) | (simp [*, errW_none, errW_some] <;> rfl), by (with_reducible repeat (first | apply Kd.R_alloc | apply Kd.R_drewN | apply Kd.R_drew)); exact HO297.out, by repeat (first | (with_reducible first | exact HB.out | apply below_alloc | apply pw_below_drewN | apply below_drew1) | exact HB.out), by repeat (first | (with_reducible first | exact HK.out | apply Kept.alloc | apply Kept.drewN | apply Kept.drew) | exact HK.out)⟩
    · rw [if_neg c4] at H
      exact absurd H (by simp)
  · rw [if_neg c3] at H
    have c3b0 : decide (a1 < 128) = false := decide_eq_false c3
    clear c3
    by_cases c6 : a1 < 2048
    · rw [if_pos c6] at H
      have c6b0 : decide (a1 < 2048) = true := decide_eq_true c6
      clear c6
      obtain ⟨y298, hy298⟩ : ∃ y_ : List Int, y_ = (([(wrap64 (192 + (wrap64 (Int.tdiv a1 64)))) % 256, (wrap64 (128 + (Int.tmod a1 64))) % 256] : List Int)) := ⟨_, rfl⟩
      replace H : (if l0.length + y298.length < 140737488355328 then (some (l0 ++ y298)) else (none)) = some r := by first | (rw [hy298]; with_reducible exact H) | (have H2_ := (Option.bind_some _ _).symm.trans H; rw [hy298]; with_reducible exact H2_) | (have H2_ := (Option.bind_some _ _).symm.trans H; with_reducible exact H2_) | with_reducible exact H | (rw [hy298]; exact H) | exact H
      have Ny298 := Aside0.mk hy298
      clear hy298
      by_cases c7 : l0.length + y298.length < 140737488355328
      · rw [if_pos c7] at H
        have LMc7 := Aside0.mk c7
        clear c7
        obtain ⟨y301, hy301⟩ : ∃ y_ : List Int, y_ = (l0 ++ y298) := ⟨_, rfl⟩
        replace H : (some y301) = some r := by first | (rw [hy301]; with_reducible exact H) | (have H2_ := (Option.bind_some _ _).symm.trans H; rw [hy301]; with_reducible exact H2_) | (have H2_ := (Option.bind_some _ _).symm.trans H; with_reducible exact H2_) | with_reducible exact H | (rw [hy301]; exact H) | exact H
        have Ny301 := Aside0.mk hy301
        clear hy301
        obtain rfl := Option.some.inj H
        go_enter Tryd.func126, Tryd.ntmps126
        go_wp2_with (first | ((with_reducible refine gate_dst (N := 25) rfl ?_); refine Kd.R_lit (Kd.int .u8) _ 5 ?hg (N := 25) ?hd (xs := ([(wrap64 (192 + (wrap64 (Int.tdiv a1 64)))) % 256, (wrap64 (128 + (Int.tmod a1 64))) % 256] : List Int)) (inner := [.int .u8 ((wrap64 (192 + (wrap64 (Int.tdiv a1 64)))) % 256), .int .u8 ((wrap64 (128 + (Int.tmod a1 64))) % 256)]) (ok := fun _ => True) (okp := fun _ => True) ?hr ?hp (fun _ hk => hk) trivial (Below.refl _ _) (Nat.le_refl _) (by simp) ?_; (case hd => rfl); (case hg => rfl); (case hr => first | (go_simp; done) | (go_simp; rfl)); (case hp => exact (Reps.one (show Kd.M (Kd.int .u8) _ _ _ ((wrap64 (192 + (wrap64 (Int.tdiv a1 64)))) % 256) [.int .u8 ((wrap64 (192 + (wrap64 (Int.tdiv a1 64)))) % 256)] from rfl) (Reps.one (show Kd.M (Kd.int .u8) _ _ _ ((wrap64 (128 + (Int.tmod a1 64))) % 256) [.int .u8 ((wrap64 (128 + (Int.tmod a1 64))) % 256)] from rfl) (Reps.none _ _)))); intro v299 w8 ho9 hb hg_ hnew_; clear hg_ hnew_; (first | rw [← Ny298.out] at ho9 | (simp only [Int.reduceToNat] at ho9; rw [← Ny298.out] at ho9)); have n0_ := Aside0.mk (Kd.R_elder' (by (with_reducible repeat (first | apply Kd.R_alloc | apply Kd.R_drewN | apply Kd.R_drew)); exact HO0.out) (Kd.R_base ho9) hb); have n1_ := Aside0.mk (Kd.R_lower (Kd.R_new' (Kd.R_newM (M := fun k_ => (P0_ k_ ∨ w.heap.size ≤ k_)) ho9 (by first | exact HK.out.1 | exact (show Kept w _ (fun k_ => P0_ k_) from by repeat (first | (with_reducible first | exact HK.out | apply Kept.alloc | apply Kept.drewN | apply Kept.drew) | exact HK.out)).1) (fun k_ h_ => .inr h_)) (Kd.R_lt (by (with_reducible repeat (first | apply Kd.R_alloc | apply Kd.R_drewN | apply Kd.R_drew)); exact HO0.out))) (below_size (by repeat (first | (with_reducible first | exact HB.out | apply below_alloc | apply pw_below_drewN | apply below_drew1) | exact HB.out)))); have n2_ := Aside0.mk (Kept.below (S := (fun k_ => P0_ k_)) (by repeat (first | (with_reducible first | exact HK.out | apply Kept.alloc | apply Kept.drewN | apply Kept.drew) | exact HK.out)) hb); have n3_ := Aside0.mk (below_step (by repeat (first | (with_reducible first | exact HB.out | apply below_alloc | apply pw_below_drewN | apply below_drew1) | exact HB.out)) hb); clear HO0; clear HK; clear HB; have HO0 := n0_; have HO300 := n1_; have HK := n2_; have HB := n3_; clear n0_ n1_ n2_ n3_; clear hb ho9; obtain ⟨Ao11, co11, eo11⟩ := Kd.R_slice HO300.out; subst eo11) | ((with_reducible refine gate_builtin (b := .append) (xs := #[.tmp 16, .tmp 25]) rfl ?_); at_builtin; refine Kd.R_append_rows (Kd.int .u8) (w0 := w0) w0.heap.size rfl (.tmp 16) (.tmp 25) 133 5 (.int .u8 0) 1 rfl Tryd.underlying133 info5 rfl (by decide) (by omega) u9000_ l0 y298 _ _ _ (fun k_ => (P0_ k_ ∨ w.heap.size ≤ k_) ∧ some k_ ≠ (.slice Ao11 y298.length co11 : Value).ownBlock) (fun _ => False) rfl rfl ?aO ?aR (fun _ _ h => h) (fun _ h => h.elim) ?aF ?aB ?aS ?aL ?_; (case aR => repeat (first | exact (Kd.R_reads' HO300.out).2.2 | (with_reducible refine Kd.C_alloc ?_ _) | (with_reducible refine Kd.C_drewN ?_ _) | (with_reducible refine Kd.C_drew ?_))); (case aB => exact (by repeat (first | (with_reducible first | exact HB.out | apply below_alloc | apply pw_below_drewN | apply below_drew1) | exact HB.out))); (case aF => exact (fun k_ hk => ⟨(.inr (Nat.le_trans (by first | exact HK.out.1 | exact (show Kept w _ (fun k_ => P0_ k_) from by repeat (first | (with_reducible first | exact HK.out | apply Kept.alloc | apply Kept.drewN | apply Kept.drew) | exact HK.out)).1) hk)), Kd.fresh' (Kd.R_lt (by (with_reducible repeat (first | apply Kd.R_alloc | apply Kd.R_drewN | apply Kd.R_drew)); exact HO300.out)) k_ hk⟩)); (case aO => exact (by (with_reducible repeat (first | apply Kd.R_alloc | apply Kd.R_drewN | apply Kd.R_drew)); exact HO0.out)); (case aS => exact (below_size (by repeat (first | (with_reducible first | exact HB.out | apply below_alloc | apply pw_below_drewN | apply below_drew1) | exact HB.out)))); (case aL => have := LMc7.out; omega); intro v302 w10 ho hb hg hat; rw [← Ny301.out] at ho; have n0_ := Aside0.mk (Kd.R_after (ok := (fun k_ => (P0_ k_ ∨ w.heap.size ≤ k_))) (by (with_reducible repeat (first | apply Kd.R_alloc | apply Kd.R_drewN | apply Kd.R_drew)); exact Kd.R_mono HO300.out (fun _ hk => ⟨hk.1.1, hk.2⟩)) hg hat); have n1_ := Aside0.mk (hb); have n2_ := Aside0.mk (Kept.of_grown (S := (fun k_ => P0_ k_)) hg (by repeat (first | (with_reducible first | exact HK.out | apply Kept.alloc | apply Kept.drewN | apply Kept.drew) | exact HK.out)) (fun k_ e_ => (HO0.out.1 k_ e_).1)); have n3_ := Aside0.mk (ho); clear HO300; clear HB; clear HK; clear HO0; have HO300 := n0_; have HB := n1_; have HK := n2_; have HO303 := n3_; clear n0_ n1_ n2_ n3_; clear ho hb hg hat))
        go_ret
        exact ⟨_, by first | rfl | (simp [errW_none, errW_some] <;> rfl) | (simp [*, errW_none, errW_some] <;> rfl), by (with_reducible repeat (first | apply Kd.R_alloc | apply Kd.R_drewN | apply Kd.R_drew)); exact Kd.R_mono HO303.out (fun _ hk => hk.1), by repeat (first | (with_reducible first | exact HB.out | apply below_alloc | apply pw_below_drewN | apply below_drew1) | exact HB.out), by repeat (first | (with_reducible first | exact HK.out | apply Kept.alloc | apply Kept.drewN | apply Kept.drew) | exact HK.out)⟩
      · rw [if_neg c7] at H
        exact absurd H (by simp)
    · rw [if_neg c6] at H
      have c6b0 : decide (a1 < 2048) = false := decide_eq_false c6
      clear c6
      by_cases c12 : a1 < 65536
      · rw [if_pos c12] at H
        have c12b0 : decide (a1 < 65536) = true := decide_eq_true c12
        clear c12
        obtain ⟨y304, hy304⟩ : ∃ y_ : List Int, y_ = (([(wrap64 (224 + (wrap64 (Int.tdiv a1 4096)))) % 256, (wrap64 (128 + (Int.tmod (wrap64 (Int.tdiv a1 64)) 64))) % 256, (wrap64 (128 + (Int.tmod a1 64))) % 256] : List Int)) := ⟨_, rfl⟩
        replace H : (if l0.length + y304.length < 140737488355328 then (some (l0 ++ y304)) else (none)) = some r := by first | (rw [hy304]; with_reducible exact H) | (have H2_ := (Option.bind_some _ _).symm.trans H; rw [hy304]; with_reducible exact H2_) | (have H2_ := (Option.bind_some _ _).symm.trans H; with_reducible exact H2_) | with_reducible exact H | (rw [hy304]; exact H) | exact H
        have Ny304 := Aside0.mk hy304
        clear hy304
        by_cases c13 : l0.length + y304.length < 140737488355328
        · rw [if_pos c13] at H
          have LMc13 := Aside0.mk c13
          clear c13
          obtain ⟨y307, hy307⟩ : ∃ y_ : List Int, y_ = (l0 ++ y304) := ⟨_, rfl⟩
          replace H : (some y307) = some r := by first | (rw [hy307]; with_reducible exact H) | (have H2_ := (Option.bind_some _ _).symm.trans H; rw [hy307]; with_reducible exact H2_) | (have H2_ := (Option.bind_some _ _).symm.trans H; with_reducible exact H2_) | with_reducible exact H | (rw [hy307]; exact H) | exact H
          have Ny307 := Aside0.mk hy307
          clear hy307
          obtain rfl := Option.some.inj H
          go_enter Tryd.func126, Tryd.ntmps126
          go_wp2_with (first | ((with_reducible refine gate_dst (N := 44) rfl ?_); refine Kd.R_lit (Kd.int .u8) _ 5 ?hg (N := 44) ?hd (xs := ([(wrap64 (224 + (wrap64 (Int.tdiv a1 4096)))) % 256, (wrap64 (128 + (Int.tmod (wrap64 (Int.tdiv a1 64)) 64))) % 256, (wrap64 (128 + (Int.tmod a1 64))) % 256] : List Int)) (inner := [.int .u8 ((wrap64 (224 + (wrap64 (Int.tdiv a1 4096)))) % 256), .int .u8 ((wrap64 (128 + (Int.tmod (wrap64 (Int.tdiv a1 64)) 64))) % 256), .int .u8 ((wrap64 (128 + (Int.tmod a1 64))) % 256)]) (ok := fun _ => True) (okp := fun _ => True) ?hr ?hp (fun _ hk => hk) trivial (Below.refl _ _) (Nat.le_refl _) (by simp) ?_; (case hd => rfl); (case hg => rfl); (case hr => first | (go_simp; done) | (go_simp; rfl)); (case hp => exact (Reps.one (show Kd.M (Kd.int .u8) _ _ _ ((wrap64 (224 + (wrap64 (Int.tdiv a1 4096)))) % 256) [.int .u8 ((wrap64 (224 + (wrap64 (Int.tdiv a1 4096)))) % 256)] from rfl) (Reps.one (show Kd.M (Kd.int .u8) _ _ _ ((wrap64 (128 + (Int.tmod (wrap64 (Int.tdiv a1 64)) 64))) % 256) [.int .u8 ((wrap64 (128 + (Int.tmod (wrap64 (Int.tdiv a1 64)) 64))) % 256)] from rfl) (Reps.one (show Kd.M (Kd.int .u8) _ _ _ ((wrap64 (128 + (Int.tmod a1 64))) % 256) [.int .u8 ((wrap64 (128 + (Int.tmod a1 64))) % 256)] from rfl) (Reps.none _ _))))); intro v305 w14 ho15 hb hg_ hnew_; clear hg_ hnew_; (first | rw [← Ny304.out] at ho15 | (simp only [Int.reduceToNat] at ho15; rw [← Ny304.out] at ho15)); have n0_ := Aside0.mk (Kd.R_elder' (by (with_reducible repeat (first | apply Kd.R_alloc | apply Kd.R_drewN | apply Kd.R_drew)); exact HO0.out) (Kd.R_base ho15) hb); have n1_ := Aside0.mk (Kd.R_lower (Kd.R_new' (Kd.R_newM (M := fun k_ => (P0_ k_ ∨ w.heap.size ≤ k_)) ho15 (by first | exact HK.out.1 | exact (show Kept w _ (fun k_ => P0_ k_) from by repeat (first | (with_reducible first | exact HK.out | apply Kept.alloc | apply Kept.drewN | apply Kept.drew) | exact HK.out)).1) (fun k_ h_ => .inr h_)) (Kd.R_lt (by (with_reducible repeat (first | apply Kd.R_alloc | apply Kd.R_drewN | apply Kd.R_drew)); exact HO0.out))) (below_size (by repeat (first | (with_reducible first | exact HB.out | apply below_alloc | apply pw_below_drewN | apply below_drew1) | exact HB.out)))); have n2_ := Aside0.mk (Kept.below (S := (fun k_ => P0_ k_)) (by repeat (first | (with_reducible first | exact HK.out | apply Kept.alloc | apply Kept.drewN | apply Kept.drew) | exact HK.out)) hb); have n3_ := Aside0.mk (below_step (by repeat (first | (with_reducible first | exact HB.out | apply below_alloc | apply pw_below_drewN | apply below_drew1) | exact HB.out)) hb); clear HO0; clear HK; clear HB; have HO0 := n0_; have HO306 := n1_; have HK := n2_; have HB := n3_; clear n0_ n1_ n2_ n3_; clear hb ho15; obtain ⟨Ao17, co17, eo17⟩ := Kd.R_slice HO306.out; subst eo17) | ((with_reducible refine gate_builtin (b := .append) (xs := #[.tmp 30, .tmp 44]) rfl ?_); at_builtin; refine Kd.R_append_rows (Kd.int .u8) (w0 := w0) w0.heap.size rfl (.tmp 30) (.tmp 44) 133 5 (.int .u8 0) 1 rfl Tryd.underlying133 info5 rfl (by decide) (by omega) u9000_ l0 y304 _ _ _ (fun k_ => (P0_ k_ ∨ w.heap.size ≤ k_) ∧ some k_ ≠ (.slice Ao17 y304.length co17 : Value).ownBlock) (fun _ => False) rfl rfl ?aO ?aR (fun _ _ h => h) (fun _ h => h.elim) ?aF ?aB ?aS ?aL ?_; (case aR => repeat (first | exact (Kd.R_reads' HO306.out).2.2 | (with_reducible refine Kd.C_alloc ?_ _) | (with_reducible refine Kd.C_drewN ?_ _) | (with_reducible refine Kd.C_drew ?_))); (case aB => exact (by repeat (first | (with_reducible first | exact HB.out | apply below_alloc | apply pw_below_drewN | apply below_drew1) | exact HB.out))); (case aF => exact (fun k_ hk => ⟨(.inr (Nat.le_trans (by first | exact HK.out.1 | exact (show Kept w _ (fun k_ => P0_ k_) from by repeat (first | (with_reducible first | exact HK.out | apply Kept.alloc | apply Kept.drewN | apply Kept.drew) | exact HK.out)).1) hk)), Kd.fresh' (Kd.R_lt (by (with_reducible repeat (first | apply Kd.R_alloc | apply Kd.R_drewN | apply Kd.R_drew)); exact HO306.out)) k_ hk⟩)); (case aO => exact (by (with_reducible repeat (first | apply Kd.R_alloc | apply Kd.R_drewN | apply Kd.R_drew)); exact HO0.out)); (case aS => exact (below_size (by repeat (first | (with_reducible first | exact HB.out | apply below_alloc | apply pw_below_drewN | apply below_drew1) | exact HB.out)))); (case aL => have := LMc13.out; omega); intro v308 w16 ho hb hg hat; rw [← Ny307.out] at ho; have n0_ := Aside0.mk (Kd.R_after (ok := (fun k_ => (P0_ k_ ∨ w.heap.size ≤ k_))) (by (with_reducible repeat (first | apply Kd.R_alloc | apply Kd.R_drewN | apply Kd.R_drew)); exact Kd.R_mono HO306.out (fun _ hk => ⟨hk.1.1, hk.2⟩)) hg hat); have n1_ := Aside0.mk (hb); have n2_ := Aside0.mk (Kept.of_grown (S := (fun k_ => P0_ k_)) hg (by repeat (first | (with_reducible first | exact HK.out | apply Kept.alloc | apply Kept.drewN | apply Kept.drew) | exact HK.out)) (fun k_ e_ => (HO0.out.1 k_ e_).1)); have n3_ := Aside0.mk (ho); clear HO306; clear HB; clear HK; clear HO0; have HO306 := n0_; have HB := n1_; have HK := n2_; have HO309 := n3_; clear n0_ n1_ n2_ n3_; clear ho hb hg hat))
          go_ret
          exact ⟨_, by first | rfl | (simp [errW_none, errW_some] <;> rfl) | (simp [*, errW_none, errW_some] <;> rfl), by (with_reducible repeat (first | apply Kd.R_alloc | apply Kd.R_drewN | apply Kd.R_drew)); exact Kd.R_mono HO309.out (fun _ hk => hk.1), by repeat (first | (with_reducible first | exact HB.out | apply below_alloc | apply pw_below_drewN | apply below_drew1) | exact HB.out), by repeat (first | (with_reducible first | exact HK.out | apply Kept.alloc | apply Kept.drewN | apply Kept.drew) | exact HK.out)⟩
        · rw [if_neg c13] at H
          exact absurd H (by simp)
      · rw [if_neg c12] at H
        have c12b0 : decide (a1 < 65536) = false := decide_eq_false c12
        clear c12
        obtain ⟨y310, hy310⟩ : ∃ y_ : List Int, y_ = (([(wrap64 (240 + (wrap64 (Int.tdiv a1 262144)))) % 256, (wrap64 (128 + (Int.tmod (wrap64 (Int.tdiv a1 4096)) 64))) % 256, (wrap64 (128 + (Int.tmod (wrap64 (Int.tdiv a1 64)) 64))) % 256, (wrap64 (128 + (Int.tmod a1 64))) % 256] : List Int)) := ⟨_, rfl⟩
        replace H : (if l0.length + y310.length < 140737488355328 then (some (l0 ++ y310)) else (none)) = some r := by first | (rw [hy310]; with_reducible exact H) | (have H2_ := (Option.bind_some _ _).symm.trans H; rw [hy310]; with_reducible exact H2_) | (have H2_ := (Option.bind_some _ _).symm.trans H; with_reducible exact H2_) | with_reducible exact H | (rw [hy310]; exact H) | exact H
        have Ny310 := Aside0.mk hy310
        clear hy310
        by_cases c18 : l0.length + y310.length < 140737488355328
        · rw [if_pos c18] at H
          have LMc18 := Aside0.mk c18
          clear c18
          obtain ⟨y313, hy313⟩ : ∃ y_ : List Int, y_ = (l0 ++ y310) := ⟨_, rfl⟩
          replace H : (some y313) = some r := by first | (rw [hy313]; with_reducible exact H) | (have H2_ := (Option.bind_some _ _).symm.trans H; rw [hy313]; with_reducible exact H2_) | (have H2_ := (Option.bind_some _ _).symm.trans H; with_reducible exact H2_) | with_reducible exact H | (rw [hy313]; exact H) | exact H
          have Ny313 := Aside0.mk hy313
          clear hy313
          obtain rfl := Option.some.inj H
          go_enter Tryd.func126, Tryd.ntmps126
          go_wp2_with (first | ((with_reducible refine gate_dst (N := 65) rfl ?_); refine Kd.R_lit (Kd.int .u8) _ 5 ?hg (N := 65) ?hd (xs := ([(wrap64 (240 + (wrap64 (Int.tdiv a1 262144)))) % 256, (wrap64 (128 + (Int.tmod (wrap64 (Int.tdiv a1 4096)) 64))) % 256, (wrap64 (128 + (Int.tmod (wrap64 (Int.tdiv a1 64)) 64))) % 256, (wrap64 (128 + (Int.tmod a1 64))) % 256] : List Int)) (inner := [.int .u8 ((wrap64 (240 + (wrap64 (Int.tdiv a1 262144)))) % 256), .int .u8 ((wrap64 (128 + (Int.tmod (wrap64 (Int.tdiv a1 4096)) 64))) % 256), .int .u8 ((wrap64 (128 + (Int.tmod (wrap64 (Int.tdiv a1 64)) 64))) % 256), .int .u8 ((wrap64 (128 + (Int.tmod a1 64))) % 256)]) (ok := fun _ => True) (okp := fun _ => True) ?hr ?hp (fun _ hk => hk) trivial (Below.refl _ _) (Nat.le_refl _) (by simp) ?_; (case hd => rfl); (case hg => rfl); (case hr => first | (go_simp; done) | (go_simp; rfl)); (case hp => exact (Reps.one (show Kd.M (Kd.int .u8) _ _ _ ((wrap64 (240 + (wrap64 (Int.tdiv a1 262144)))) % 256) [.int .u8 ((wrap64 (240 + (wrap64 (Int.tdiv a1 262144)))) % 256)] from rfl) (Reps.one (show Kd.M (Kd.int .u8) _ _ _ ((wrap64 (128 + (Int.tmod (wrap64 (Int.tdiv a1 4096)) 64))) % 256) [.int .u8 ((wrap64 (128 + (Int.tmod (wrap64 (Int.tdiv a1 4096)) 64))) % 256)] from rfl) (Reps.one (show Kd.M (Kd.int .u8) _ _ _ ((wrap64 (128 + (Int.tmod (wrap64 (Int.tdiv a1 64)) 64))) % 256) [.int .u8 ((wrap64 (128 + (Int.tmod (wrap64 (Int.tdiv a1 64)) 64))) % 256)] from rfl) (Reps.one (show Kd.M (Kd.int .u8) _ _ _ ((wrap64 (128 + (Int.tmod a1 64))) % 256) [.int .u8 ((wrap64 (128 + (Int.tmod a1 64))) % 256)] from rfl) (Reps.none _ _)))))); intro v311 w19 ho20 hb hg_ hnew_; clear hg_ hnew_; (first | rw [← Ny310.out] at ho20 | (simp only [Int.reduceToNat] at ho20; rw [← Ny310.out] at ho20)); have n0_ := Aside0.mk (Kd.R_elder' (by (with_reducible repeat (first | apply Kd.R_alloc | apply Kd.R_drewN | apply Kd.R_drew)); exact HO0.out) (Kd.R_base ho20) hb); have n1_ := Aside0.mk (Kd.R_lower (Kd.R_new' (Kd.R_newM (M := fun k_ => (P0_ k_ ∨ w.heap.size ≤ k_)) ho20 (by first | exact HK.out.1 | exact (show Kept w _ (fun k_ => P0_ k_) from by repeat (first | (with_reducible first | exact HK.out | apply Kept.alloc | apply Kept.drewN | apply Kept.drew) | exact HK.out)).1) (fun k_ h_ => .inr h_)) (Kd.R_lt (by (with_reducible repeat (first | apply Kd.R_alloc | apply Kd.R_drewN | apply Kd.R_drew)); exact HO0.out))) (below_size (by repeat (first | (with_reducible first | exact HB.out | apply below_alloc | apply pw_below_drewN | apply below_drew1) | exact HB.out)))); have n2_ := Aside0.mk (Kept.below (S := (fun k_ => P0_ k_)) (by repeat (first | (with_reducible first | exact HK.out | apply Kept.alloc | apply Kept.drewN | apply Kept.drew) | exact HK.out)) hb); have n3_ := Aside0.mk (below_step (by repeat (first | (with_reducible first | exact HB.out | apply below_alloc | apply pw_below_drewN | apply below_drew1) | exact HB.out)) hb); clear HO0; clear HK; clear HB; have HO0 := n0_; have HO312 := n1_; have HK := n2_; have HB := n3_; clear n0_ n1_ n2_ n3_; clear hb ho20; obtain ⟨Ao22, co22, eo22⟩ := Kd.R_slice HO312.out; subst eo22) | ((with_reducible refine gate_builtin (b := .append) (xs := #[.tmp 46, .tmp 65]) rfl ?_); at_builtin; refine Kd.R_append_rows (Kd.int .u8) (w0 := w0) w0.heap.size rfl (.tmp 46) (.tmp 65) 133 5 (.int .u8 0) 1 rfl Tryd.underlying133 info5 rfl (by decide) (by omega) u9000_ l0 y310 _ _ _ (fun k_ => (P0_ k_ ∨ w.heap.size ≤ k_) ∧ some k_ ≠ (.slice Ao22 y310.length co22 : Value).ownBlock) (fun _ => False) rfl rfl ?aO ?aR (fun _ _ h => h) (fun _ h => h.elim) ?aF ?aB ?aS ?aL ?_; (case aR => repeat (first | exact (Kd.R_reads' HO312.out).2.2 | (with_reducible refine Kd.C_alloc ?_ _) | (with_reducible refine Kd.C_drewN ?_ _) | (with_reducible refine Kd.C_drew ?_))); (case aB => exact (by repeat (first | (with_reducible first | exact HB.out | apply below_alloc | apply pw_below_drewN | apply below_drew1) | exact HB.out))); (case aF => exact (fun k_ hk => ⟨(.inr (Nat.le_trans (by first | exact HK.out.1 | exact (show Kept w _ (fun k_ => P0_ k_) from by repeat (first | (with_reducible first | exact HK.out | apply Kept.alloc | apply Kept.drewN | apply Kept.drew) | exact HK.out)).1) hk)), Kd.fresh' (Kd.R_lt (by (with_reducible repeat (first | apply Kd.R_alloc | apply Kd.R_drewN | apply Kd.R_drew)); exact HO312.out)) k_ hk⟩)); (case aO => exact (by (with_reducible repeat (first | apply Kd.R_alloc | apply Kd.R_drewN | apply Kd.R_drew)); exact HO0.out)); (case aS => exact (below_size (by repeat (first | (with_reducible first | exact HB.out | apply below_alloc | apply pw_below_drewN | apply below_drew1) | exact HB.out)))); (case aL => have := LMc18.out; omega); intro v314 w21 ho hb hg hat; rw [← Ny313.out] at ho; have n0_ := Aside0.mk (Kd.R_after (ok := (fun k_ => (P0_ k_ ∨ w.heap.size ≤ k_))) (by (with_reducible repeat (first | apply Kd.R_alloc | apply Kd.R_drewN | apply Kd.R_drew)); exact Kd.R_mono HO312.out (fun _ hk => ⟨hk.1.1, hk.2⟩)) hg hat); have n1_ := Aside0.mk (hb); have n2_ := Aside0.mk (Kept.of_grown (S := (fun k_ => P0_ k_)) hg (by repeat (first | (with_reducible first | exact HK.out | apply Kept.alloc | apply Kept.drewN | apply Kept.drew) | exact HK.out)) (fun k_ e_ => (HO0.out.1 k_ e_).1)); have n3_ := Aside0.mk (ho); clear HO312; clear HB; clear HK; clear HO0; have HO312 := n0_; have HB := n1_; have HK := n2_; have HO315 := n3_; clear n0_ n1_ n2_ n3_; clear ho hb hg hat))
          go_ret
          exact ⟨_, by first | rfl | (simp [errW_none, errW_some] <;> rfl) | (simp [*, errW_none, errW_some] <;> rfl), by (with_reducible repeat (first | apply Kd.R_alloc | apply Kd.R_drewN | apply Kd.R_drew)); exact Kd.R_mono HO315.out (fun _ hk => hk.1), by repeat (first | (with_reducible first | exact HB.out | apply below_alloc | apply pw_below_drewN | apply below_drew1) | exact HB.out), by repeat (first | (with_reducible first | exact HK.out | apply Kept.alloc | apply Kept.drewN | apply Kept.drew) | exact HK.out)⟩
        · rw [if_neg c18] at H
          exact absurd H (by simp)
/-! ### cameoref01_Of: function 117 -/
def cameoref01_Of.l0 : Nat → List Int → List (S138) → Int → Option (ByteArray)
  | 0, _, _, _ => none
  | k + 1, x3, x4, x5 => if x5 < (x4.length : Int) then (if 0 ≤ x5 then ((cameoref01_put.f x3 ((rd_T138 x4 x5).f1)).bind fun t320 => (cameoref01_Of.l0 k t320 x4 (wrap64 (x5 + 1)))) else (none)) else (some (strOfNums x3))
def cameoref01_Of.f (k : Nat) (l0 : List Int) : Option (ByteArray) := (cameoref01_Row.f k l0).bind fun t316 => (cameoref01_Of.l0 k ([] : List Int) t316 0)
set_option maxHeartbeats 8000000 in
set_option maxRecDepth 100000 in
theorem cameoref01_Of.calls (k : Nat) (A0 : Option Addr) (c0 : Nat) (l0 : List Int) (r : ByteArray) (w : World) (hr0 : Kd.C (Kd.int .u16) w A0 l0.length l0) (hc0 : l0.length ≤ c0) (h : cameoref01_Of.f k l0 = some r) :
    Calls Tryd.prog 117 #[.slice A0 l0.length c0] w fun e w' => e = .returned (.string r) ∧ Below w.heap.size w w' := by
  have HR0 := Aside0.mk hr0
  have HC0 := Aside0.mk hc0
  clear hr0 hc0
  have HB := Aside0.mk (Below.refl w.heap.size w)
  have H : ((cameoref01_Row.f k l0).bind fun t316 => (cameoref01_Of.l0 k ([] : List Int) t316 0)) = some r := h
  clear h
  replace H := Option.bind_eq_some_iff.mp H
  obtain ⟨t316, A20, H⟩ := H
  replace H : (cameoref01_Of.l0 k ([] : List Int) t316 0) = some r := H
  have A2 := Aside0.mk A20
  clear A20
  have H' := Aside0.mk H
  clear H
  go_enter Tryd.func117, Tryd.ntmps117
  go_wp2_with (first | ((with_reducible refine gate_callee (f := 125) rfl ?_); refine goesL_ (some 7) rfl rfl Tryd.func125 (by kernel_rfl) rfl #[.slice A0 l0.length c0] rfl (by (try simp only [List.map_toArray, List.map_cons, List.map_nil]); first | done | rfl | (simp only [List.length_drop, List.length_take]; rfl)) ?_; (with_reducible refine (cameoref01_Row.calls k _ _ l0 t316 _ ?side1 ?side2 A2.out).mono ?_); (case side1 => repeat (first | exact HR0.out | (with_reducible refine Kd.C_alloc ?_ _) | (with_reducible refine Kd.C_drewN ?_ _) | (with_reducible refine Kd.C_drew ?_))); (case side2 => exact HC0.out); rintro e w3 ⟨v317, rfl, ho0, hb⟩; refine ⟨_, rfl, ?_⟩; have n0_ := Aside0.mk (Kd.R_lower ho0 (below_size (by repeat (first | (with_reducible first | exact HB.out | apply below_alloc | apply pw_below_drewN | apply below_drew1) | exact HB.out)))); have n1_ := Aside0.mk (below_step (by repeat (first | (with_reducible first | exact HB.out | apply below_alloc | apply pw_below_drewN | apply below_drew1) | exact HB.out)) hb); clear HB; have HO318 := n0_; have HB := n1_; clear n0_ n1_; (try clear hb); (try clear hb2); (try clear hk); (try clear hi); (try clear ho0)))
  go_loopg [3, 5] k (fun kq v3 v5 w' => ∃ (x3_1 : List Int) (x5_1 : Int), v5 = .int .i64 x5_1 ∧ Aside0 (cameoref01_Of.l0 kq x3_1 t316 x5_1 = some r) ∧ Aside0 (kq ≤ k) ∧ Aside0 (Kd.R (Kd.int .u8) 5 w' w.heap.size (fun _ => True) v3 x3_1) ∧ Aside0 (Kd.R k138 138 w' w.heap.size (fun _ => True) v317 t316) ∧ Aside0 (Below w.heap.size w w'))
  case atStart => exact ⟨(([] : List Int)), (0), (by first | rfl | (simp; done) | (simp [*]; done)), H', ⟨Nat.le_refl _⟩, ⟨by first | exact Kd.R_nil _ _ _ _ _ | exact Kd.N_nil _ _ _ _ _ | exact Kd.V_nil _ _ _ _ _ | exact Kd.Q_nil _ _ _ _ _ | exact Kd.S_nil _ _ _ _ _⟩, ⟨by (with_reducible repeat (first | apply Kd.R_alloc | apply Kd.R_drewN | apply Kd.R_drew)); exact HO318.out⟩, ⟨by repeat (first | (with_reducible first | exact HB.out | apply below_alloc | apply pw_below_drewN | apply below_drew1) | exact HB.out)⟩⟩
  case round =>
    clear H'
    try clear c1
    try clear p2
    obtain ⟨x3_1, x5_1, rfl, HA, HK1, HO_3, HO_4, HB⟩ := hrel
    cases gk with
    | zero => exact absurd HA.out (by simp [cameoref01_Of.l0])
    | succ k1 =>
      have H := HA.out
      clear HA
      simp only [cameoref01_Of.l0] at H
      by_cases c4 : x5_1 < (t316.length : Int)
      · rw [if_pos c4] at H
        have c4b0 : decide (x5_1 < (t316.length : Int)) = true := decide_eq_true c4
        clear c4
        by_cases c5 : 0 ≤ x5_1
        · rw [if_pos c5] at H
          have c5b0 : decide (0 ≤ x5_1) = true := decide_eq_true c5
          clear c5
          replace H := Option.bind_eq_some_iff.mp H
          obtain ⟨t320, A60, H⟩ := H
          replace H : (cameoref01_Of.l0 k1 t320 t316 (wrap64 (x5_1 + 1))) = some r := H
          have A6 := Aside0.mk A60
          clear A60
          have H' := Aside0.mk H
          clear H
          obtain ⟨Ao7, co7, eo7⟩ := Kd.R_slice HO_4.out
          subst eo7
          have p319 : 0 ≤ (x5_1 : Int) := of_decide_eq_true (by first | (with_reducible assumption) | assumption)
          have q319 : x5_1 < (t316.length : Int) := of_decide_eq_true (by first | (with_reducible assumption) | assumption)
          obtain ⟨ad319, e319, hx319_0, hx319_1⟩ := at_T138 (Kd.R_reads' HO_4.out).2.2 x5_1 p319 q319
          cases e319
          replace p319 := eq_true p319
          replace q319 := eq_true q319
          obtain ⟨Ao8, co8, eo8⟩ := Kd.R_slice HO_3.out
          subst eo8
          go_wp2_with (first | ((with_reducible refine gate_callee (f := 126) rfl ?_); refine goesL_ (some 20) rfl rfl Tryd.func126 (by kernel_rfl) rfl #[.slice Ao8 x3_1.length co8, .int .i64 ((rd_T138 t316 x5_1).f1)] rfl (by (try simp only [List.map_toArray, List.map_cons, List.map_nil]); first | done | rfl | (simp only [List.length_drop, List.length_take]; rfl)) ?_; (with_reducible refine (cameoref01_put.calls (fun k_ => some k_ = (.slice Ao8 x3_1.length co8 : Value).ownBlock) (.slice Ao8 x3_1.length co8) x3_1 ((rd_T138 t316 x5_1).f1) t320 w _ ?side1 ?side2 A6.out).mono ?_); (case side1 => repeat (first | (with_reducible first | exact HB.out | apply below_alloc | apply pw_below_drewN | apply below_drew1) | exact HB.out)); (case side2 => exact Kd.R_tight rfl HO_3.out); rintro e w9 ⟨v321, rfl, ho0, hb, hkp⟩; refine ⟨_, rfl, ?_⟩; have n0_ := Aside0.mk (Kd.R_mono (ok' := fun k_ => True) (Kd.R_keptB ((Kd.R_apart' HO_4.out (Kd.R_typed HO_3.out) (by decide))) hkp (fun k_ hk_ hs_ => (hk_.2) hs_)) (fun k_ hk_ => trivial)); have n1_ := Aside0.mk (Kd.R_mono (ok' := fun k_ => True) ho0 (fun k_ hk_ => trivial)); have n2_ := Aside0.mk (hb); clear HO_4; clear HB; clear HO_3; have HO_4 := n0_; have HO322 := n1_; have HB := n2_; clear n0_ n1_ n2_; (try clear hb); (try clear hkp); (try clear ho0)))
          go_roundg k1
          case measure => have := HK1.out; omega
          case rel => exact ⟨(t320), (wrap64 (x5_1 + 1)), (by first | rfl | (simp; done) | (simp [*]; done)), H', ⟨by have := HK1.out; omega⟩, ⟨by (with_reducible repeat (first | apply Kd.R_alloc | apply Kd.R_drewN | apply Kd.R_drew)); exact HO322.out⟩, ⟨by (with_reducible repeat (first | apply Kd.R_alloc | apply Kd.R_drewN | apply Kd.R_drew)); exact HO_4.out⟩, ⟨by repeat (first | (with_reducible first | exact HB.out | apply below_alloc | apply pw_below_drewN | apply below_drew1) | exact HB.out)⟩⟩
        · rw [if_neg c5] at H
          exact absurd H (by simp)
      · rw [if_neg c4] at H
        have c4b0 : decide (x5_1 < (t316.length : Int)) = false := decide_eq_false c4
        clear c4
        obtain rfl := Option.some.inj H
        obtain ⟨Ao10, co10, eo10⟩ := Kd.R_slice HO_4.out
        subst eo10
        have hcv11 := own_string (P := Tryd.prog) Tryd.underlying133 Tryd.underlying5 Tryd.underlying9 (Kd.own_of_R HO_3.out)
        go_wp2
        go_ret
        exact ⟨by first | rfl | (simp [errW_none, errW_some] <;> rfl) | (simp [*, errW_none, errW_some] <;> rfl), by repeat (first | (with_reducible first | exact HB.out | apply below_alloc | apply pw_below_drewN | apply below_drew1) | exact HB.out)⟩
/-! ### cameoref01_Valid: function 98 -/
def cameoref01_Valid.f (k : Nat) (a0 : ByteArray) : Option (Bool) := (cameoref01_read.f k a0).bind fun bt323 => (if bt323.2 = true then ((cameoref01_Of.f k bt323.1).bind fun t327 => (some (t327.toList == a0.toList))) else (some false))
set_option maxHeartbeats 8000000 in
set_option maxRecDepth 100000 in
theorem cameoref01_Valid.calls (k : Nat) (a0 : ByteArray) (r : Bool) (w : World) (h : cameoref01_Valid.f k a0 = some r) :
    Calls Tryd.prog 98 #[.string a0] w fun e w' => e = .returned (.bool r) ∧ Below w.heap.size w w' := by
  have HB := Aside0.mk (Below.refl w.heap.size w)
  have H : ((cameoref01_read.f k a0).bind fun bt323 => (if bt323.2 = true then ((cameoref01_Of.f k bt323.1).bind fun t327 => (some (t327.toList == a0.toList))) else (some false))) = some r := h
  clear h
  replace H := Option.bind_eq_some_iff.mp H
  obtain ⟨⟨t323, t324⟩, A20, H⟩ := H
  replace H : (if t324 = true then ((cameoref01_Of.f k t323).bind fun t327 => (some (t327.toList == a0.toList))) else (some false)) = some r := H
  have A2 := Aside0.mk A20
  clear A20
  by_cases c3 : t324 = true
  · subst c3
    have H1 : ((cameoref01_Of.f k t323).bind fun t327 => (some (t327.toList == a0.toList))) = some r := by rw [if_pos rfl] at H; exact H
    clear H
    have H := H1
    clear H1
    replace H := Option.bind_eq_some_iff.mp H
    obtain ⟨t327, A40, H⟩ := H
    replace H : (some (t327.toList == a0.toList)) = some r := H
    have A4 := Aside0.mk A40
    clear A40
    obtain rfl := Option.some.inj H
    go_enter Tryd.func98, Tryd.ntmps98
    go_wp2_with (first | ((with_reducible refine gate_callee (f := 116) rfl ?_); refine goesL_ (some 7) rfl rfl Tryd.func116 (by kernel_rfl) rfl #[.string a0] rfl (by (try simp only [List.map_toArray, List.map_cons, List.map_nil]); first | done | rfl | (simp only [List.length_drop, List.length_take]; rfl)) ?_; (with_reducible refine (cameoref01_read.calls k a0 t323 true _ A2.out).mono ?_); rintro e w5 ⟨v325, rfl, ho0, hb⟩; refine ⟨_, rfl, ?_⟩; have n0_ := Aside0.mk (Kd.R_lower ho0 (below_size (by repeat (first | (with_reducible first | exact HB.out | apply below_alloc | apply pw_below_drewN | apply below_drew1) | exact HB.out)))); have n1_ := Aside0.mk (below_step (by repeat (first | (with_reducible first | exact HB.out | apply below_alloc | apply pw_below_drewN | apply below_drew1) | exact HB.out)) hb); clear HB; have HO326 := n0_; have HB := n1_; clear n0_ n1_; (try clear hb); (try clear hb2); (try clear hk); (try clear hi); (try clear ho0); obtain ⟨Ao6, co6, eo6⟩ := Kd.R_slice HO326.out; subst eo6) | (go_at_call 117; (with_reducible refine (cameoref01_Of.calls k _ _ t323 t327 _ ?side1 ?side2 A4.out).mono ?_); (case side1 => repeat (first | exact (Kd.R_reads' HO326.out).2.2 | (with_reducible refine Kd.C_alloc ?_ _) | (with_reducible refine Kd.C_drewN ?_ _) | (with_reducible refine Kd.C_drew ?_))); (case side2 => exact (Kd.R_reads' HO326.out).2.1); rintro e w7 ⟨rfl, hb⟩; have n0_ := Aside0.mk (Kd.R_below (by (with_reducible repeat (first | apply Kd.R_alloc | apply Kd.R_drewN | apply Kd.R_drew)); exact HO326.out) hb); have n1_ := Aside0.mk (below_step (by repeat (first | (with_reducible first | exact HB.out | apply below_alloc | apply pw_below_drewN | apply below_drew1) | exact HB.out)) hb); clear HO326; clear HB; have HO326 := n0_; have HB := n1_; clear n0_ n1_; (try clear hb); (try clear hb2); (try clear hk); (try clear hi)))
    go_ret
    exact ⟨by first | rfl | (simp [errW_none, errW_some] <;> rfl) | (simp [*, errW_none, errW_some] <;> rfl), by repeat (first | (with_reducible first | exact HB.out | apply below_alloc | apply pw_below_drewN | apply below_drew1) | exact HB.out)⟩
  · replace c3 := Bool.eq_false_iff.mpr c3
    subst c3
    have H1 : (some false) = some r := by rw [if_neg (show ¬ (false = true) by decide)] at H; exact H
    clear H
    have H := H1
    clear H1
    obtain rfl := Option.some.inj H
    go_enter Tryd.func98, Tryd.ntmps98
    go_wp2_with (first | ((with_reducible refine gate_callee (f := 116) rfl ?_); refine goesL_ (some 7) rfl rfl Tryd.func116 (by kernel_rfl) rfl #[.string a0] rfl (by (try simp only [List.map_toArray, List.map_cons, List.map_nil]); first | done | rfl | (simp only [List.length_drop, List.length_take]; rfl)) ?_; (with_reducible refine (cameoref01_read.calls k a0 t323 false _ A2.out).mono ?_); rintro e w8 ⟨v325, rfl, ho0, hb⟩; refine ⟨_, rfl, ?_⟩; have n0_ := Aside0.mk (Kd.R_lower ho0 (below_size (by repeat (first | (with_reducible first | exact HB.out | apply below_alloc | apply pw_below_drewN | apply below_drew1) | exact HB.out)))); have n1_ := Aside0.mk (below_step (by repeat (first | (with_reducible first | exact HB.out | apply below_alloc | apply pw_below_drewN | apply below_drew1) | exact HB.out)) hb); clear HB; have HO326 := n0_; have HB := n1_; clear n0_ n1_; (try clear hb); (try clear hb2); (try clear hk); (try clear hi); (try clear ho0)))
    go_ret
    exact ⟨by first | rfl | (simp [errW_none, errW_some] <;> rfl) | (simp [*, errW_none, errW_some] <;> rfl), by repeat (first | (with_reducible first | exact HB.out | apply below_alloc | apply pw_below_drewN | apply below_drew1) | exact HB.out)⟩
end Go.Proofs.YtaojjpdlfnphiaaDoor.PDescKinds
end
section
/- Bytes as code points: what is read leniently and written anew is what was read just where each code point was written as shortly as may be, and no two halves stand apart. Plain lists of numbers. -/
set_option linter.unusedSimpArgs false
set_option linter.unusedVariables false
namespace Go.Proofs.YtaojjpdlfnphiaaDoor.Utf
def cont (b : Nat) : Prop := 128 ≤ b ∧ b ≤ 191
instance (b : Nat) : Decidable (cont b) := inferInstanceAs (Decidable (_ ∧ _))
/-- One code point and its bytes, read leniently. -/
def ld (n b0 b1 b2 b3 : Nat) : Option (Nat × Nat) :=
  if b0 < 128 then some (b0, 1)
  else if b0 < 192 then none
  else if b0 < 224 then (if 1 < n ∧ cont b1 then some ((b0 - 192) * 64 + (b1 - 128), 2) else none)
  else if b0 < 240 then (if 1 < n ∧ cont b1 then (if 2 < n ∧ cont b2 then some ((b0 - 224) * 4096 + (b1 - 128) * 64 + (b2 - 128), 3) else none) else none)
  else if b0 < 248 then (if 1 < n ∧ cont b1 then (if 2 < n ∧ cont b2 then (if 3 < n ∧ cont b3 then (if (b0 - 240) * 262144 + (b1 - 128) * 4096 + (b2 - 128) * 64 + (b3 - 128) ≤ 1114111 then some ((b0 - 240) * 262144 + (b1 - 128) * 4096 + (b2 - 128) * 64 + (b3 - 128), 4) else none) else none) else none) else none)
  else none
def plen (c : Nat) : Nat := if c < 128 then 1 else if c < 2048 then 2 else if c < 65536 then 3 else 4
def putC (c : Nat) : List Nat :=
  if c < 128 then [c] else if c < 2048 then [192 + c / 64, 128 + c % 64] else if c < 65536 then [224 + c / 4096, 128 + c / 64 % 64, 128 + c % 64]
  else [240 + c / 262144, 128 + c / 4096 % 64, 128 + c / 64 % 64, 128 + c % 64]
theorem putC_len (c : Nat) : (putC c).length = plen c := by
  unfold putC plen
  repeat' split
  all_goals rfl
theorem ld_inv {n b0 b1 b2 b3 c k : Nat} (h : ld n b0 b1 b2 b3 = some (c, k)) :
    (k = 1 ∧ b0 < 128 ∧ c = b0) ∨ (k = 2 ∧ 192 ≤ b0 ∧ b0 < 224 ∧ 1 < n ∧ cont b1 ∧ c = (b0 - 192) * 64 + (b1 - 128)) ∨
    (k = 3 ∧ 224 ≤ b0 ∧ b0 < 240 ∧ 2 < n ∧ cont b1 ∧ cont b2 ∧ c = (b0 - 224) * 4096 + (b1 - 128) * 64 + (b2 - 128)) ∨
    (k = 4 ∧ 240 ≤ b0 ∧ b0 < 248 ∧ 3 < n ∧ cont b1 ∧ cont b2 ∧ cont b3 ∧ c = (b0 - 240) * 262144 + (b1 - 128) * 4096 + (b2 - 128) * 64 + (b3 - 128) ∧ c ≤ 1114111) := by
  have sm : ∀ {x : Nat × Nat}, some x = some (c, k) → x.1 = c ∧ x.2 = k := fun h => by
    have := Option.some.inj h
    exact ⟨congrArg Prod.fst this, congrArg Prod.snd this⟩
  have nn : ∀ {α : Prop}, (none : Option (Nat × Nat)) = some (c, k) → α := fun h => absurd h.symm (Option.some_ne_none _)
  unfold ld at h
  by_cases h0 : b0 < 128
  · rw [if_pos h0] at h
    obtain ⟨e1, e2⟩ := sm h
    exact .inl ⟨e2.symm, h0, e1.symm⟩
  rw [if_neg h0] at h
  by_cases h1 : b0 < 192
  · rw [if_pos h1] at h; exact nn h
  rw [if_neg h1] at h
  by_cases h2 : b0 < 224
  · rw [if_pos h2] at h
    by_cases h3 : 1 < n ∧ cont b1
    · rw [if_pos h3] at h
      obtain ⟨e1, e2⟩ := sm h
      exact .inr (.inl ⟨e2.symm, by omega, h2, h3.1, h3.2, e1.symm⟩)
    · rw [if_neg h3] at h; exact nn h
  rw [if_neg h2] at h
  by_cases h4 : b0 < 240
  · rw [if_pos h4] at h
    by_cases h3 : 1 < n ∧ cont b1
    · rw [if_pos h3] at h
      by_cases h5 : 2 < n ∧ cont b2
      · rw [if_pos h5] at h
        obtain ⟨e1, e2⟩ := sm h
        exact .inr (.inr (.inl ⟨e2.symm, by omega, h4, h5.1, h3.2, h5.2, e1.symm⟩))
      · rw [if_neg h5] at h; exact nn h
    · rw [if_neg h3] at h; exact nn h
  rw [if_neg h4] at h
  by_cases h6 : b0 < 248
  · rw [if_pos h6] at h
    by_cases h3 : 1 < n ∧ cont b1
    · rw [if_pos h3] at h
      by_cases h5 : 2 < n ∧ cont b2
      · rw [if_pos h5] at h
        by_cases h7 : 3 < n ∧ cont b3
        · rw [if_pos h7] at h
          by_cases h8 : (b0 - 240) * 262144 + (b1 - 128) * 4096 + (b2 - 128) * 64 + (b3 - 128) ≤ 1114111
          · rw [if_pos h8] at h
            obtain ⟨e1, e2⟩ := sm h
            exact .inr (.inr (.inr ⟨e2.symm, by omega, h6, h7.1, h3.2, h5.2, h7.2, e1.symm, by rw [← e1]; exact h8⟩))
          · rw [if_neg h8] at h; exact nn h
        · rw [if_neg h7] at h; exact nn h
      · rw [if_neg h5] at h; exact nn h
    · rw [if_neg h3] at h; exact nn h
  · rw [if_neg h6] at h; exact nn h
theorem plen_le {c k : Nat} (h : (k = 1 ∧ c < 128) ∨ (k = 2 ∧ c < 2048) ∨ (k = 3 ∧ c < 65536) ∨ k = 4) : plen c ≤ k := by
  unfold plen
  repeat' split
  all_goals omega
theorem ld_spec {n b0 b1 b2 b3 c k : Nat} (hn : 0 < n) (h : ld n b0 b1 b2 b3 = some (c, k)) : 1 ≤ k ∧ k ≤ n ∧ k ≤ 4 ∧ plen c ≤ k ∧ c ≤ 1114111 := by
  have h := ld_inv h
  unfold cont at h
  refine ⟨by omega, by omega, by omega, plen_le (by omega), by omega⟩
theorem plen_inv {c : Nat} : (plen c = 1 ∧ c < 128) ∨ (plen c = 2 ∧ 128 ≤ c ∧ c < 2048) ∨ (plen c = 3 ∧ 2048 ≤ c ∧ c < 65536) ∨ (plen c = 4 ∧ 65536 ≤ c) := by
  unfold plen
  repeat' split
  all_goals omega
def ldL (l : List Nat) : Option (Nat × Nat) := ld l.length (l.getD 0 0) (l.getD 1 0) (l.getD 2 0) (l.getD 3 0)
theorem ldL_take {l : List Nat} {c k : Nat} (hl : l ≠ []) (hb : ∀ b ∈ l, b < 256) (h : ldL l = some (c, k)) (hk : k = plen c) : l.take k = putC c := by
  have h := ld_inv h
  have hp := plen_inv (c := c)
  rw [← hk] at hp
  rcases h with ⟨rfl, h1, h2⟩ | ⟨rfl, h1, h2, h3, h4, h5⟩ | ⟨rfl, h1, h2, h3, h4, h5, h6⟩ | ⟨rfl, h1, h2, h3, h4, h5, h6, h7, h8⟩
  · rcases l with _ | ⟨b0, r⟩
    · exact absurd rfl hl
    · simp only [List.getD_cons_zero] at h1 h2
      subst h2
      unfold putC
      rw [if_pos h1]; rfl
  · rcases l with _ | ⟨b0, _ | ⟨b1, r⟩⟩
    · exact absurd rfl hl
    · simp at h3
    · simp only [List.getD_cons_zero, List.getD_cons_succ] at h1 h2 h4 h5
      unfold cont at h4
      unfold putC
      rw [if_neg (by omega), if_pos (by omega)]
      simp only [List.take_succ_cons, List.take_zero, List.cons.injEq, and_true]
      omega
  · rcases l with _ | ⟨b0, _ | ⟨b1, _ | ⟨b2, r⟩⟩⟩
    · exact absurd rfl hl
    · simp at h3
    · simp at h3
    · simp only [List.getD_cons_zero, List.getD_cons_succ] at h1 h2 h4 h5 h6
      unfold cont at h4 h5
      unfold putC
      rw [if_neg (by omega), if_neg (by omega), if_pos (by omega)]
      simp only [List.take_succ_cons, List.take_zero, List.cons.injEq, and_true]
      omega
  · rcases l with _ | ⟨b0, _ | ⟨b1, _ | ⟨b2, _ | ⟨b3, r⟩⟩⟩⟩
    · exact absurd rfl hl
    · simp at h3
    · simp at h3
    · simp at h3
    · simp only [List.getD_cons_zero, List.getD_cons_succ] at h1 h2 h4 h5 h6 h7
      unfold cont at h4 h5 h6
      unfold putC
      rw [if_neg (by omega), if_neg (by omega), if_neg (by omega)]
      simp only [List.take_succ_cons, List.take_zero, List.cons.injEq, and_true]
      omega
/-- All code points of some bytes, each with its number of bytes. -/
def dec : Nat → List Nat → Option (List (Nat × Nat))
  | 0, l => if l = [] then some [] else none
  | m + 1, l => if l = [] then some [] else match ldL l with
    | none => none
    | some (c, k) => (dec m (l.drop k)).map ((c, k) :: ·)
def hi (c : Nat) : Bool := decide (55296 ≤ c) && decide (c < 56320)
def lo (c : Nat) : Bool := decide (56320 ≤ c) && decide (c < 57344)
def noadj : Nat → List Nat → Bool
  | _, [] => true
  | a, c :: r => !(hi a && lo c) && noadj c r
def units (c : Nat) : List Nat := if 65536 ≤ c then [55296 + (c - 65536) / 1024, 56320 + (c - 65536) % 1024] else [c]
def rowC : List Nat → List Nat
  | [] => []
  | [a] => [a]
  | a :: b :: r => if hi a && lo b then (65536 + 1024 * (a - 55296) + (b - 56320)) :: rowC r else a :: rowC (b :: r)
def merge : List Nat → List Nat
  | [] => []
  | [a] => [a]
  | a :: b :: r => if hi a && lo b then (65536 + 1024 * (a - 55296) + (b - 56320)) :: merge r else a :: merge (b :: r)
theorem row_high {a : Nat} (ha : hi a = false) (l : List Nat) : rowC (a :: l) = a :: rowC l := by
  cases l with
  | nil => rfl
  | cons b r => simp [rowC, ha]
theorem row_pair {c : Nat} (hc : 65536 ≤ c) (hm : c ≤ 1114111) (l : List Nat) : rowC (units c ++ l) = c :: rowC l := by
  unfold units
  rw [if_pos hc]
  have h1 : hi (55296 + (c - 65536) / 1024) = true := by unfold hi; simp; omega
  have h2 : lo (56320 + (c - 65536) % 1024) = true := by unfold lo; simp; omega
  simp only [List.cons_append, List.nil_append, rowC, h1, h2, Bool.and_self, if_true, List.cons.injEq, and_true]
  omega
theorem row_units : ∀ (n : Nat) (cs : List Nat), cs.length ≤ n → (∀ c ∈ cs, c ≤ 1114111) → rowC (cs.flatMap units) = merge cs
  | 0, [], _, _ => rfl
  | n + 1, [], _, _ => rfl
  | n + 1, [a], _, h => by
    simp only [List.flatMap_cons, List.flatMap_nil]
    by_cases ha : 65536 ≤ a
    · rw [row_pair ha (h a (by simp))]; rfl
    · rw [List.append_nil]; unfold units; rw [if_neg ha]; rfl
  | n + 1, a :: b :: r, hl, h => by
    have ih := row_units n (b :: r) (by simp at hl ⊢; omega) (fun c hc => h c (List.mem_cons_of_mem _ hc))
    by_cases ha : 65536 ≤ a
    · have hh : hi a = false := by unfold hi; simp; omega
      rw [List.flatMap_cons, row_pair ha (h a (by simp)), ih]
      simp [merge, hh]
    · have e : units a = [a] := by unfold units; rw [if_neg ha]
      rw [List.flatMap_cons, e, List.singleton_append]
      cases hh : hi a with
      | false => rw [row_high hh, ih]; simp [merge, hh]
      | true =>
        by_cases hb : 65536 ≤ b
        · have hl2 : lo b = false := by unfold lo; simp; omega
          rw [show merge (a :: b :: r) = a :: merge (b :: r) from by simp [merge, hh, hl2], ← ih]
          have e2 : units b = [55296 + (b - 65536) / 1024, 56320 + (b - 65536) % 1024] := by unfold units; rw [if_pos hb]
          have h3 : lo (55296 + (b - 65536) / 1024) = false := by
            have := h b (by simp)
            unfold lo; simp; omega
          rw [List.flatMap_cons, e2]
          simp [rowC, hh, h3]
        · have e2 : units b = [b] := by unfold units; rw [if_neg hb]
          cases hl2 : lo b with
          | false =>
            rw [show merge (a :: b :: r) = a :: merge (b :: r) from by simp [merge, hh, hl2], ← ih, List.flatMap_cons, e2]
            simp [rowC, hh, hl2]
          | true =>
            rw [show merge (a :: b :: r) = (65536 + 1024 * (a - 55296) + (b - 56320)) :: merge r from by simp [merge, hh, hl2], List.flatMap_cons, e2]
            have ih2 := row_units n r (by simp at hl ⊢; omega) (fun c hc => h c (List.mem_cons_of_mem _ (List.mem_cons_of_mem _ hc)))
            simp [rowC, hh, hl2, ih2]
def psum (l : List Nat) : Nat := (l.map plen).sum
theorem merge_sum : ∀ (n : Nat) (cs : List Nat), cs.length ≤ n → psum (merge cs) ≤ psum cs ∧ (psum (merge cs) = psum cs → merge cs = cs ∧ ∀ a, hi a = false → noadj a cs = true)
  | 0, [], _ => ⟨Nat.le_refl _, fun _ => ⟨rfl, fun _ _ => rfl⟩⟩
  | n + 1, [], _ => ⟨Nat.le_refl _, fun _ => ⟨rfl, fun _ _ => rfl⟩⟩
  | n + 1, [a], _ => ⟨Nat.le_refl _, fun _ => ⟨rfl, fun x hx => by simp [noadj, hx]⟩⟩
  | n + 1, a :: b :: r, hl => by
    obtain ⟨i1, i2⟩ := merge_sum n (b :: r) (by simp at hl ⊢; omega)
    cases hh : hi a && lo b with
    | true =>
      obtain ⟨j1, j2⟩ := merge_sum n r (by simp at hl ⊢; omega)
      rw [Bool.and_eq_true] at hh
      have e : merge (a :: b :: r) = (65536 + 1024 * (a - 55296) + (b - 56320)) :: merge r := by simp [merge, hh]
      have p1 : plen a = 3 := by
        have := hh.1
        unfold hi at this
        simp at this
        unfold plen
        rw [if_neg (by omega), if_neg (by omega), if_pos (by omega)]
      have p2 : plen b = 3 := by
        have := hh.2
        unfold lo at this
        simp at this
        unfold plen
        rw [if_neg (by omega), if_neg (by omega), if_pos (by omega)]
      have p3 : ∀ x, plen (65536 + x) = 4 := fun x => by
        unfold plen
        rw [if_neg (by omega), if_neg (by omega), if_neg (by omega)]
      have s1 : psum (merge (a :: b :: r)) = 4 + psum (merge r) := by
        rw [e]
        simp only [psum, List.map_cons, List.sum_cons]
        rw [Nat.add_assoc, p3]
      have s2 : psum (a :: b :: r) = 3 + (3 + psum r) := by simp [psum, p1, p2]
      rw [s1, s2]
      exact ⟨by omega, fun h => by omega⟩
    | false =>
      have e : merge (a :: b :: r) = a :: merge (b :: r) := by simp [merge, hh]
      have s1 : psum (merge (a :: b :: r)) = plen a + psum (merge (b :: r)) := by rw [e]; simp [psum]
      have s2 : psum (a :: b :: r) = plen a + psum (b :: r) := by simp [psum]
      rw [s1, s2]
      refine ⟨by omega, fun h => ?_⟩
      obtain ⟨k1, k2⟩ := i2 (by omega)
      refine ⟨by rw [e, k1], fun x hx => ?_⟩
      have k3 := k2 0 rfl
      have hz : hi 0 = false := rfl
      simp only [noadj, hx, hh, hz, Bool.false_and, Bool.not_false, Bool.true_and] at k3 ⊢
      exact k3
theorem merge_noadj : ∀ (cs : List Nat) (a : Nat), noadj a cs = true → merge cs = cs
  | [], _, _ => rfl
  | [a], _, _ => rfl
  | a :: b :: r, x, h => by
    simp only [noadj, Bool.and_eq_true, Bool.not_eq_true'] at h
    have e : merge (a :: b :: r) = a :: merge (b :: r) := by simp [merge, h.2.1]
    rw [e, merge_noadj (b :: r) a (by simp only [noadj, Bool.and_eq_true, Bool.not_eq_true']; exact h.2)]
theorem dec_spec : ∀ (m : Nat) (l : List Nat) (cs : List (Nat × Nat)), (∀ b ∈ l, b < 256) → dec m l = some cs →
    (cs.map (·.2)).sum = l.length ∧ psum (cs.map (·.1)) ≤ l.length ∧ (psum (cs.map (·.1)) = l.length → ∀ p ∈ cs, p.2 = plen p.1) ∧ (∀ p ∈ cs, p.1 ≤ 1114111) ∧ ((∀ p ∈ cs, p.2 = plen p.1) → (cs.map (·.1)).flatMap putC = l ∧ psum (cs.map (·.1)) = l.length)
  | 0, l, cs, hb, h => by
    unfold dec at h
    split at h
    · rename_i hl
      subst hl
      simp only [Option.some.injEq] at h
      subst h
      simp [psum]
    · cases h
  | m + 1, l, cs, hb, h => by
    unfold dec at h
    split at h
    · rename_i hl
      subst hl
      simp only [Option.some.injEq] at h
      subst h
      simp [psum]
    · rename_i hl
      split at h
      · cases h
      · rename_i c k hld
        obtain ⟨cs', hd, rfl⟩ := Option.map_eq_some_iff.1 h
        have hn : 0 < l.length := by cases l <;> simp_all
        obtain ⟨s1, s2, s3, s4, s5⟩ := ld_spec hn hld
        obtain ⟨i1, i2, i3, i4, i5⟩ := dec_spec m (l.drop k) cs' (fun b h => hb b (List.mem_of_mem_drop h)) hd
        rw [List.length_drop] at i1 i2 i3 i5
        refine ⟨by simp [i1]; omega, ?_, ?_, ?_, ?_⟩
        · simp only [psum, List.map_cons, List.sum_cons] at i2 ⊢
          omega
        · intro he
          simp only [psum, List.map_cons, List.sum_cons] at i2 i3 he
          intro p hp
          rcases List.mem_cons.1 hp with rfl | hp
          · show k = plen c
            omega
          · exact i3 (by omega) p hp
        · intro p hp
          rcases List.mem_cons.1 hp with rfl | hp
          · exact s5
          · exact i4 p hp
        · intro hall
          have h1 : k = plen c := hall (c, k) (by simp)
          obtain ⟨j1, j2⟩ := i5 fun p hp => hall p (by simp [hp])
          refine ⟨?_, ?_⟩
          · rw [List.map_cons, List.flatMap_cons, j1, ← ldL_take hl hb hld h1, List.take_append_drop]
          · simp only [psum, List.map_cons, List.sum_cons] at j2 ⊢
            omega
theorem flat_len (l : List Nat) : (l.flatMap putC).length = psum l := by
  induction l with
  | nil => rfl
  | cons a r ih => rw [List.flatMap_cons, List.length_append, ih, putC_len]; rfl
/-- Written anew, they are the same bytes just where all is as short as may be, and no halves stand side by side. -/
theorem back_iff {m : Nat} {l : List Nat} {cs : List (Nat × Nat)} (hb : ∀ b ∈ l, b < 256) (h : dec m l = some cs) :
    (rowC ((cs.map (·.1)).flatMap units)).flatMap putC = l ↔ (∀ p ∈ cs, p.2 = plen p.1) ∧ noadj 0 (cs.map (·.1)) = true := by
  obtain ⟨d1, d2, d3, d4, d5⟩ := dec_spec m l cs hb h
  have e := row_units (cs.map (·.1)).length (cs.map (·.1)) (Nat.le_refl _) (fun c hc => by
    obtain ⟨p, hp, rfl⟩ := List.mem_map.1 hc
    exact d4 p hp)
  rw [e]
  obtain ⟨m1, m2⟩ := merge_sum (cs.map (·.1)).length (cs.map (·.1)) (Nat.le_refl _)
  constructor
  · intro he
    have hl := congrArg List.length he
    rw [flat_len] at hl
    obtain ⟨_, hna⟩ := m2 (by omega)
    exact ⟨d3 (by omega), hna 0 rfl⟩
  · rintro ⟨h1, h2⟩
    rw [merge_noadj _ 0 h2]
    exact (d5 h1).1
end Go.Proofs.YtaojjpdlfnphiaaDoor.Utf
/-! #### part U1 -/
/- units.Valid: every code point written as shortly as may be, and no two halves side by side. -/
set_option linter.unusedSimpArgs false
set_option linter.unusedVariables false
namespace Go.Proofs.YtaojjpdlfnphiaaDoor.Utf
open Go.RowKit Go.Proofs.YtaojjpdlfnphiaaDoorW.PrintWords Go.Proofs.YtaojjpdlfnphiaaDoor.PDescKinds
def nums (s : ByteArray) : List Nat := s.data.toList.map UInt8.toNat
theorem nums_len (s : ByteArray) : (nums s).length = s.size := by
  rw [nums, List.length_map, Array.length_toList]; rfl
theorem nums_lt (s : ByteArray) : ∀ b ∈ nums s, b < 256 := fun b hb => by
  obtain ⟨u, _, rfl⟩ := List.mem_map.1 hb
  exact u.toNat_lt
theorem nums_get (s : ByteArray) (i : Nat) : (s.get! i).toNat = (nums s).getD i 0 := by
  obtain ⟨d⟩ := s
  show (d[i]!).toNat = ((d.toList.map UInt8.toNat).getD i 0)
  rw [getElem!_def]
  cases h : d[i]? with
  | none =>
    have : d.toList[i]? = none := by simpa using h
    simp only [List.getD_eq_getElem?_getD, List.getElem?_map, this, Option.map_none, Option.getD_none]
    rfl
  | some u =>
    have : d.toList[i]? = some u := by simpa using h
    simp only [List.getD_eq_getElem?_getD, List.getElem?_map, this, Option.map_some, Option.getD_some]
theorem nums_bt (s : ByteArray) (i : Nat) : bt s (i : Int) = ((nums s).getD i 0 : Nat) := by
  unfold bt
  rw [Int.toNat_natCast]
  split
  · rename_i h
    have h2 : s.data.toList[i]? = some s[i] := by
      rw [Array.getElem?_toList]
      exact Array.getElem?_eq_getElem h
    simp only [nums, List.getD_eq_getElem?_getD, List.getElem?_map, h2, Option.map_some, Option.getD_some]
  · rename_i h
    have h2 : s.data.toList[i]? = none := by
      rw [Array.getElem?_toList]
      exact Array.getElem?_eq_none (Nat.le_of_not_lt h)
    simp only [nums, List.getD_eq_getElem?_getD, List.getElem?_map, h2, Option.map_none, Option.getD_none]
    rfl
theorem drop_getD (l : List Nat) (i j : Nat) : (l.drop i).getD j 0 = l.getD (i + j) 0 := by
  simp [List.getD_eq_getElem?_getD]
theorem nums_extract (s : ByteArray) (i : Nat) : nums (units_Valid.slc s i) = (nums s).drop i := by
  unfold nums units_Valid.slc
  rw [Lib.extract_data, List.map_take, List.map_drop, List.take_of_length_le]
  rw [List.length_drop, List.length_map, Array.length_toList]
  exact Nat.le_refl _
theorem getD_lt (s : ByteArray) (i : Nat) : (nums s).getD i 0 < 256 := by
  rw [List.getD_eq_getElem?_getD]
  cases h : (nums s)[i]? with
  | none => decide
  | some b => exact nums_lt s b (List.mem_of_getElem? h)
set_option maxRecDepth 100000 in
set_option maxHeartbeats 8000000 in
theorem decodeN_ld (n b0 b1 b2 b3 : Nat) (h0 : b0 < 256) (h1 : b1 < 256) (h2 : b2 < 256) (h3 : b3 < 256) :
    Lib.decodeN n b0 b1 b2 b3 = match ld n b0 b1 b2 b3 with
      | some (c, k) => if k = plen c ∧ ¬ (55296 ≤ c ∧ c < 57344) then (c, k) else (65533, 1)
      | none => (65533, 1) := by
  unfold Lib.decodeN ld cont
  by_cases c0 : b0 < 128
  · rw [if_pos c0, if_pos c0]
    simp only
    have : plen b0 = 1 := by unfold plen; rw [if_pos c0]
    rw [this, if_pos ⟨rfl, by omega⟩]
  rw [if_neg c0, if_neg c0]
  by_cases c1 : b0 < 192
  · rw [if_pos c1, if_neg (by omega), if_neg (by omega), if_neg (by omega)]
  rw [if_neg c1]
  by_cases c2 : b0 < 224
  · rw [if_pos c2]
    by_cases d1 : 1 < n ∧ 128 ≤ b1 ∧ b1 ≤ 191
    · rw [if_pos d1, if_pos (by omega)]
      have e : b0 % 32 * 64 + b1 % 64 = (b0 - 192) * 64 + (b1 - 128) := by omega
      rw [e]
      simp only
      have hp := plen_inv (c := (b0 - 192) * 64 + (b1 - 128))
      by_cases d2 : (b0 - 192) * 64 + (b1 - 128) ≥ 128
      · rw [if_pos d2, if_pos (by omega)]
      · rw [if_neg d2, if_neg (by omega)]
    · rw [if_neg d1, if_neg (by omega), if_neg (by omega), if_neg (by omega)]
  rw [if_neg c2]
  by_cases c3 : b0 < 240
  · rw [if_pos c3, if_neg (by omega)]
    by_cases d1 : 1 < n ∧ 128 ≤ b1 ∧ b1 ≤ 191
    · rw [if_pos d1]
      by_cases d2 : 2 < n ∧ 128 ≤ b2 ∧ b2 ≤ 191
      · rw [if_pos d2, if_pos (by omega)]
        have e : b0 % 16 * 4096 + b1 % 64 * 64 + b2 % 64 = (b0 - 224) * 4096 + (b1 - 128) * 64 + (b2 - 128) := by omega
        rw [e]
        simp only
        have hp := plen_inv (c := (b0 - 224) * 4096 + (b1 - 128) * 64 + (b2 - 128))
        generalize hc : (b0 - 224) * 4096 + (b1 - 128) * 64 + (b2 - 128) = c at hp ⊢
        by_cases d3 : c ≥ 2048 ∧ (c < 55296 ∨ 57344 ≤ c ∧ c ≤ 1114111)
        · rw [if_pos d3, if_pos (by omega)]
        · rw [if_neg d3, if_neg (by omega)]
      · rw [if_neg d2, if_neg (by omega), if_neg (by omega)]
    · rw [if_neg d1, if_neg (by omega), if_neg (by omega)]
  rw [if_neg c3]
  by_cases c4 : b0 < 248
  · rw [if_pos c4, if_neg (by omega), if_neg (by omega)]
    by_cases d1 : 1 < n ∧ 128 ≤ b1 ∧ b1 ≤ 191
    · rw [if_pos d1]
      by_cases d2 : 2 < n ∧ 128 ≤ b2 ∧ b2 ≤ 191
      · rw [if_pos d2]
        by_cases d3 : 3 < n ∧ 128 ≤ b3 ∧ b3 ≤ 191
        · rw [if_pos d3, if_pos (by omega)]
          have e : b0 % 8 * 262144 + b1 % 64 * 4096 + b2 % 64 * 64 + b3 % 64 = (b0 - 240) * 262144 + (b1 - 128) * 4096 + (b2 - 128) * 64 + (b3 - 128) := by omega
          rw [e]
          have hp := plen_inv (c := (b0 - 240) * 262144 + (b1 - 128) * 4096 + (b2 - 128) * 64 + (b3 - 128))
          generalize hc : (b0 - 240) * 262144 + (b1 - 128) * 4096 + (b2 - 128) * 64 + (b3 - 128) = c at hp ⊢
          by_cases d4 : c ≤ 1114111
          · rw [if_pos d4]
            simp only
            by_cases d5 : c ≥ 65536 ∧ (c < 55296 ∨ 57344 ≤ c ∧ c ≤ 1114111)
            · rw [if_pos d5, if_pos (by omega)]
            · rw [if_neg d5, if_neg (by omega)]
          · rw [if_neg d4, if_neg (by omega)]
        · rw [if_neg d3, if_neg (by omega)]
      · rw [if_neg d2, if_neg (by omega)]
    · rw [if_neg d1, if_neg (by omega)]
  · rw [if_neg c4, if_neg (by omega), if_neg (by omega), if_neg (by omega)]
theorem and192 : ∀ b : Fin 256, (Go.bits .and .u8 (b.val : Int) 192 = 128) ↔ (128 ≤ b.val ∧ b.val ≤ 191) := by decide +kernel
theorem or_low : ∀ (a : Fin 32) (b : Fin 64), Go.bits .or .i32 (Go.bits .or .i32 53248 (wrap32 ((wrap32 (Go.bits .and .u8 ((160 + a.val : Nat) : Int) 63)) * 64))) (wrap32 (Go.bits .and .u8 ((128 + b.val : Nat) : Int) 63)) = 53248 + ((32 + a.val : Nat) : Int) * 64 + (b.val : Int) := by decide +kernel
/-- The code point at a place. -/
theorem pt_eq (s : ByteArray) (i : Nat) (hi : i < s.size) : units_Valid.pt (units_Valid.slc s i) = match ldL ((nums s).drop i) with
    | some (c, k) => if k = plen c then ((c : Int), (k : Int)) else (0, 0)
    | none => (0, 0) := by
  have hd : Lib.decodeGo (units_Valid.slc s i) = Lib.decodeN (s.size - i) ((nums s).getD i 0) ((nums s).getD (i + 1) 0) ((nums s).getD (i + 2) 0) ((nums s).getD (i + 3) 0) := by
    unfold units_Valid.slc
    unfold Lib.decodeGo
    have hsz : (s.extract i s.size).size = s.size - i := by simp
    rw [if_neg (by rw [hsz]; omega)]
    rw [Lib.decode_at]
    have hx := nums_extract s i
    unfold units_Valid.slc at hx
    rw [nums_get, nums_get, nums_get, nums_get, hx, hsz, drop_getD, drop_getD, drop_getD, drop_getD]
    rfl
  have hlen : ((nums s).drop i).length = s.size - i := by rw [List.length_drop, nums_len]
  have hs : (units_Valid.slc s i).size = s.size - i := by unfold units_Valid.slc; simp
  have b0 : bt (units_Valid.slc s i) 0 = ((nums s).getD i 0 : Nat) := by
    have := nums_bt (units_Valid.slc s i) 0
    rw [nums_extract, drop_getD] at this
    exact this
  have b1 : bt (units_Valid.slc s i) 1 = ((nums s).getD (i + 1) 0 : Nat) := by
    have := nums_bt (units_Valid.slc s i) 1
    rw [nums_extract, drop_getD] at this
    exact this
  have b2 : bt (units_Valid.slc s i) 2 = ((nums s).getD (i + 2) 0 : Nat) := by
    have := nums_bt (units_Valid.slc s i) 2
    rw [nums_extract, drop_getD] at this
    exact this
  unfold units_Valid.pt units_point.f utf8_DecodeRuneInString.f
  rw [hd]
  have l0 := getD_lt s i
  have l1 := getD_lt s (i + 1)
  have l2 := getD_lt s (i + 2)
  have l3 := getD_lt s (i + 3)
  rw [decodeN_ld _ _ _ _ _ l0 l1 l2 l3]
  unfold ldL
  rw [hlen, drop_getD, drop_getD, drop_getD, drop_getD, Nat.add_zero]
  simp only [Option.bind_some, units_point.j0, hs, b0, b1, b2]
  generalize (nums s).getD i 0 = x0 at *
  generalize (nums s).getD (i + 1) 0 = x1 at *
  generalize (nums s).getD (i + 2) 0 = x2 at *
  generalize (nums s).getD (i + 3) 0 = x3 at *
  have hn : 0 < s.size - i := by omega
  generalize s.size - i = n at *
  have a192 := and192 ⟨x2, l2⟩
  simp only at a192
  -- what is left to be looked at where Go's decoder says RuneError
  have tail : (if (n : Int) ≥ 3 then if 0 < (n : Int) then if (x0 : Int) = 237 then if 1 < (n : Int) then if (x1 : Int) ≥ 160 then if (x1 : Int) ≤ 191 then if 2 < (n : Int) then if Go.bits .and .u8 (x2 : Int) 192 = 128 then some (Go.bits .or .i32 (Go.bits .or .i32 53248 (wrap32 ((wrap32 (Go.bits .and .u8 (x1 : Int) 63)) * 64))) (wrap32 (Go.bits .and .u8 (x2 : Int) 63)), (3 : Int)) else some (0, 0) else none else some (0, 0) else some (0, 0) else none else some (0, 0) else none else some (0, 0)) =
      if (n ≥ 3 ∧ x0 = 237 ∧ 160 ≤ x1 ∧ x1 ≤ 191) ∧ 128 ≤ x2 ∧ x2 ≤ 191 then some ((53248 + ((x1 : Int) - 128) * 64 + ((x2 : Int) - 128)), 3) else some (0, 0) := by
    by_cases g : (n ≥ 3 ∧ x0 = 237 ∧ 160 ≤ x1 ∧ x1 ≤ 191)
    · rw [if_pos (by omega), if_pos (by omega), if_pos (by omega), if_pos (by omega), if_pos (by omega), if_pos (by omega), if_pos (by omega)]
      by_cases g2 : 128 ≤ x2 ∧ x2 ≤ 191
      · rw [if_pos (a192.2 g2), if_pos ⟨g, g2⟩]
        have := or_low ⟨x1 - 160, by omega⟩ ⟨x2 - 128, by omega⟩
        simp only [show 160 + (x1 - 160) = x1 by omega, show 128 + (x2 - 128) = x2 by omega] at this
        rw [this]
        congr 2
        omega
      · rw [if_neg (fun h => g2 (a192.1 h)), if_neg (fun h => g2 h.2)]
    · refine Eq.trans ?_ (if_neg (fun h => g h.1)).symm
      by_cases g1 : (n : Int) ≥ 3
      · rw [if_pos g1, if_pos (by omega)]
        by_cases g2 : (x0 : Int) = 237
        · rw [if_pos g2, if_pos (by omega)]
          by_cases g3 : (x1 : Int) ≥ 160
          · rw [if_pos g3, if_neg (by omega)]
          · rw [if_neg g3]
        · rw [if_neg g2]
      · rw [if_neg g1]
  have key : ∀ (r : Nat × Nat) (v : Int × Int), (r.1 = 65533 → r.2 ≠ 3 → (if (n ≥ 3 ∧ x0 = 237 ∧ 160 ≤ x1 ∧ x1 ≤ 191) ∧ 128 ≤ x2 ∧ x2 ≤ 191 then some ((53248 + ((x1 : Int) - 128) * 64 + ((x2 : Int) - 128)), (3 : Int)) else some (0, 0)) = some v) → (¬ (r.1 = 65533 ∧ r.2 ≠ 3) → ((r.1 : Int), (r.2 : Int)) = v) →
      ((if (r.1 : Int) = 65533 then (if ((r.2 : Int) == 3) = true then some ((r.1 : Int), (r.2 : Int)) else if (n : Int) ≥ 3 then if 0 < (n : Int) then if (x0 : Int) = 237 then if 1 < (n : Int) then if (x1 : Int) ≥ 160 then if (x1 : Int) ≤ 191 then if 2 < (n : Int) then if Go.bits .and .u8 (x2 : Int) 192 = 128 then some (Go.bits .or .i32 (Go.bits .or .i32 53248 (wrap32 ((wrap32 (Go.bits .and .u8 (x1 : Int) 63)) * 64))) (wrap32 (Go.bits .and .u8 (x2 : Int) 63)), (3 : Int)) else some (0, 0) else none else some (0, 0) else some (0, 0) else none else some (0, 0) else none else some (0, 0)) else (if true = true then some ((r.1 : Int), (r.2 : Int)) else if (n : Int) ≥ 3 then if 0 < (n : Int) then if (x0 : Int) = 237 then if 1 < (n : Int) then if (x1 : Int) ≥ 160 then if (x1 : Int) ≤ 191 then if 2 < (n : Int) then if Go.bits .and .u8 (x2 : Int) 192 = 128 then some (Go.bits .or .i32 (Go.bits .or .i32 53248 (wrap32 ((wrap32 (Go.bits .and .u8 (x1 : Int) 63)) * 64))) (wrap32 (Go.bits .and .u8 (x2 : Int) 63)), (3 : Int)) else some (0, 0) else none else some (0, 0) else some (0, 0) else none else some (0, 0) else none else some (0, 0))).getD (0, 0)) = v := by
    intro r v h1 h2
    rw [tail]
    by_cases e : r.1 = 65533
    · rw [if_pos (by omega)]
      by_cases e3 : r.2 = 3
      · have : ((r.2 : Int) == 3) = true := by simp [e3]
        rw [if_pos this]
        exact h2 (fun hh => hh.2 e3)
      · have : ¬ ((r.2 : Int) == 3) = true := by simp; omega
        rw [if_neg this, h1 e e3]
        rfl
    · rw [if_neg (by omega), if_pos rfl]
      exact h2 (fun hh => e hh.1)
  refine key _ _ ?_ ?_
  · cases hl : ld n x0 x1 x2 x3 with
    | none =>
      intro _ _
      simp only
      have : ¬ ((n ≥ 3 ∧ x0 = 237 ∧ 160 ≤ x1 ∧ x1 ≤ 191) ∧ 128 ≤ x2 ∧ x2 ≤ 191) := by
        intro hh
        unfold ld cont at hl
        rw [if_neg (by omega), if_neg (by omega), if_neg (by omega), if_pos (by omega), if_pos (by omega), if_pos (by omega)] at hl
        cases hl
      rw [if_neg this]
    | some p =>
      obtain ⟨c, k⟩ := p
      simp only
      have hinv := ld_inv hl
      unfold cont at hinv
      have hp := plen_inv (c := c)
      by_cases g : k = plen c ∧ ¬ (55296 ≤ c ∧ c < 57344)
      · rw [if_pos g]
        intro e1 e2
        exfalso
        simp only at e1 e2
        omega
      · rw [if_neg g]
        intro _ _
        by_cases g2 : k = plen c
        · rw [if_pos g2]
          have : (n ≥ 3 ∧ x0 = 237 ∧ 160 ≤ x1 ∧ x1 ≤ 191) ∧ 128 ≤ x2 ∧ x2 ≤ 191 := by omega
          rw [if_pos this]
          congr 2
          · omega
          · omega
        · rw [if_neg g2]
          have : ¬ ((n ≥ 3 ∧ x0 = 237 ∧ 160 ≤ x1 ∧ x1 ≤ 191) ∧ 128 ≤ x2 ∧ x2 ≤ 191) := by omega
          rw [if_neg this]
  · cases hl : ld n x0 x1 x2 x3 with
    | none => intro h; exact absurd ⟨rfl, by decide⟩ h
    | some p =>
      obtain ⟨c, k⟩ := p
      simp only
      by_cases g : k = plen c ∧ ¬ (55296 ≤ c ∧ c < 57344)
      · rw [if_pos g, if_pos g.1]
        intro _; rfl
      · rw [if_neg g]
        intro h
        exact absurd ⟨rfl, by decide⟩ h
theorem hi_eq (c : Nat) : units_Valid.hi (c : Int) = hi c := by
  unfold units_Valid.hi hi
  rw [Bool.eq_iff_iff]; simp; omega
theorem lo_eq (c : Nat) : units_Valid.lo (c : Int) = lo c := by
  unfold units_Valid.lo lo
  rw [Bool.eq_iff_iff]; simp; omega
theorem val_iff (s : ByteArray) : ∀ (m : Nat) (last i : Nat), s.size < m + i → (units_Valid.val m s (last : Int) i = true ↔ ∃ cs, dec m ((nums s).drop i) = some cs ∧ (∀ p ∈ cs, p.2 = plen p.1) ∧ noadj last (cs.map (·.1)) = true)
  | 0, last, i, h => by
    have he : (nums s).drop i = [] := List.drop_eq_nil_of_le (by rw [nums_len]; omega)
    rw [he]
    simp [units_Valid.val, dec, noadj]
  | m + 1, last, i, h => by
    unfold units_Valid.val dec
    by_cases hi' : i < s.size
    · rw [if_pos hi', pt_eq s i hi']
      have hne : ¬ (nums s).drop i = [] := by
        intro he
        have := congrArg List.length he
        rw [List.length_drop, nums_len] at this
        simp at this
        omega
      rw [if_neg hne]
      have hn : 0 < ((nums s).drop i).length := by rw [List.length_drop, nums_len]; omega
      cases hl : ldL ((nums s).drop i) with
      | none => simp
      | some p =>
        obtain ⟨c, k⟩ := p
        simp only
        obtain ⟨s1, s2, s3, s4, s5⟩ := ld_spec hn hl
        by_cases hk : k = plen c
        · simp only [if_pos hk]
          rw [if_neg (by omega), hi_eq, lo_eq]
          have ih := val_iff s m c (i + k) (by omega)
          rw [Int.toNat_natCast, List.drop_drop]
          cases hh : hi last && lo c with
          | true =>
            rw [Bool.and_eq_true] at hh
            rw [if_pos hh]
            simp only [Bool.false_eq_true, false_iff]
            rintro ⟨cs, h1, h2, h3⟩
            obtain ⟨cs', _, rfl⟩ := Option.map_eq_some_iff.1 h1
            simp [noadj, hh] at h3
          | false =>
            rw [if_neg (by rw [← Bool.and_eq_true, hh]; simp), ih]
            constructor
            · rintro ⟨cs, h1, h2, h3⟩
              refine ⟨(c, k) :: cs, by rw [h1]; rfl, ?_, ?_⟩
              · intro p hp
                rcases List.mem_cons.1 hp with rfl | hp
                · exact hk
                · exact h2 p hp
              · simp [noadj, hh, h3]
            · rintro ⟨cs, h1, h2, h3⟩
              obtain ⟨cs', h4, rfl⟩ := Option.map_eq_some_iff.1 h1
              refine ⟨cs', h4, fun p hp => h2 p (List.mem_cons_of_mem _ hp), ?_⟩
              simp only [List.map_cons, noadj, hh, Bool.not_false, Bool.true_and] at h3
              exact h3
        · simp only [if_neg hk]
          rw [if_pos trivial]
          simp only [Bool.false_eq_true, false_iff]
          rintro ⟨cs, h1, h2, h3⟩
          obtain ⟨cs', _, rfl⟩ := Option.map_eq_some_iff.1 h1
          exact hk (h2 (c, k) List.mem_cons_self)
    · rw [if_neg hi']
      have he : (nums s).drop i = [] := List.drop_eq_nil_of_le (by rw [nums_len]; omega)
      rw [if_pos he]
      simp [noadj]
end Go.Proofs.YtaojjpdlfnphiaaDoor.Utf
/-! #### part U2 -/
/- The reference's Valid is the program's. -/
set_option linter.unusedSimpArgs false
set_option linter.unusedVariables false
namespace Go.Proofs.YtaojjpdlfnphiaaDoor.Utf
open Go.RowKit Go.Proofs.YtaojjpdlfnphiaaDoorW.PrintWords Go.Proofs.YtaojjpdlfnphiaaDoor.PDescKinds
theorem w64 {x : Int} (h : -9223372036854775808 ≤ x ∧ x ≤ 9223372036854775807) : wrap64 x = x := by unfold wrap64; omega
theorem w16 {x : Int} (h : 0 ≤ x ∧ x < 65536) : IntKind.u16.wrap x = x := by rw [IntKind.wrap_u16]; omega
/-- So many bytes that go on, as one number. -/
def tl (s : ByteArray) (a : Nat) : Nat → Nat → Nat → Option Nat
  | 0, _, c => some c
  | r + 1, i, c => if a + i < s.size ∧ cont ((nums s).getD (a + i) 0) then tl s a r (i + 1) (64 * c + ((nums s).getD (a + i) 0 - 128)) else none
def toI : Option Nat → Int
  | some c => c
  | none => -1
theorem tail_ev (s : ByteArray) (a : Nat) (hs : s.size ≤ 1048576) (ha : a ≤ 1048580) : ∀ (r i c : Nat), i + r ≤ 3 → c < 64 ^ i →
    Ev (fun k => cameoref01_tail.l0 k s (a : Int) ((i + r : Nat) : Int) (c : Int) (i : Int)) (toI (tl s a r i c))
  | 0, i, c, h, hc => by
    refine Ev.step (f := fun _ => some (c : Int)) (fun k => ?_) (Ev.now _)
    simp only [cameoref01_tail.l0]
    rw [if_neg (by omega)]
  | r + 1, i, c, h, hc => by
    have hw : wrap64 ((a : Int) + (i : Int)) = ((a + i : Nat) : Int) := by rw [w64 (by omega)]; omega
    have h64 : 64 ^ i ≤ 262144 := by
      have : i ≤ 3 := by omega
      rcases Nat.lt_or_ge i 1 with h1 | h1
      · have : i = 0 := by omega
        subst this; decide
      rcases Nat.lt_or_ge i 2 with h2 | h2
      · have : i = 1 := by omega
        subst this; decide
      rcases Nat.lt_or_ge i 3 with h3 | h3
      · have : i = 2 := by omega
        subst this; decide
      · have : i = 3 := by omega
        subst this; decide
    have hb := getD_lt s (a + i)
    have step : ∀ k, cameoref01_tail.l0 (k + 1) s (a : Int) ((i + (r + 1) : Nat) : Int) (c : Int) (i : Int) =
        if a + i < s.size ∧ cont ((nums s).getD (a + i) 0) then cameoref01_tail.l0 k s (a : Int) ((i + (r + 1) : Nat) : Int) ((64 * c + ((nums s).getD (a + i) 0 - 128) : Nat) : Int) ((i + 1 : Nat) : Int) else some (-1) := by
      intro k
      simp only [cameoref01_tail.l0, hw, nums_bt]
      rw [if_pos (by omega)]
      unfold cont
      by_cases g : a + i < s.size
      · rw [if_neg (by omega), if_pos (by omega), if_pos (by omega)]
        by_cases g1 : (nums s).getD (a + i) 0 < 128
        · rw [if_pos (by omega), if_neg (by omega)]
        · rw [if_neg (by omega)]
          by_cases g2 : (nums s).getD (a + i) 0 ≤ 191
          · rw [if_neg (by omega), if_pos (by omega)]
            have e1 : wrap64 (wrap64 (wrap64 (64 * (c : Int)) + wrap64 (((nums s).getD (a + i) 0 : Nat) : Int)) - 128) = ((64 * c + ((nums s).getD (a + i) 0 - 128) : Nat) : Int) := by
              rw [w64 (x := 64 * (c : Int)) (by omega), w64 (x := (((nums s).getD (a + i) 0 : Nat) : Int)) (by omega), w64 (x := 64 * (c : Int) + _) (by omega), w64 (by omega)]
              omega
            have e2 : wrap64 ((i : Int) + 1) = ((i + 1 : Nat) : Int) := by rw [w64 (by omega)]; omega
            rw [e1, e2]
          · rw [if_pos (by omega), if_neg (by omega)]
      · rw [if_pos (by omega), if_neg (by omega)]
    refine Ev.step step ?_
    by_cases g : a + i < s.size ∧ cont ((nums s).getD (a + i) 0)
    · have et : tl s a (r + 1) i c = tl s a r (i + 1) (64 * c + ((nums s).getD (a + i) 0 - 128)) := by simp only [tl]; rw [if_pos g]
      rw [et]
      refine Ev.congr (fun k => if_pos g) ?_
      have hg := g.2
      unfold cont at hg
      have ih := tail_ev s a hs ha r (i + 1) (64 * c + ((nums s).getD (a + i) 0 - 128)) (by omega) (by rw [Nat.pow_succ]; omega)
      rw [show i + (r + 1) = (i + 1) + r by omega]
      exact ih
    · have et : tl s a (r + 1) i c = none := by simp only [tl]; rw [if_neg g]
      rw [et]
      exact Ev.congr (fun k => if_neg g) (Ev.now _)
def U (c : Nat) : List Int := (units c).map fun n : Nat => (n : Int)
theorem l1_ev (s : ByteArray) (acc : List Int) (at_ n t : Nat) (hs : s.size ≤ 1048576) (ha : at_ ≤ 1048576) (hn : n ≤ 3) (ht : t < 262144) (hacc : acc.length ≤ 4194304) (R : List Int × Bool) : ∀ (r i base : Nat), i + r = n → base * 64 ^ r < 4194304 →
    (t + base * 64 ^ r ≤ 1114111 → Ev (fun k => cameoref01_read.l0 k s (acc ++ U (t + base * 64 ^ r)) ((at_ + (1 + n) : Nat) : Int)) R) → (¬ t + base * 64 ^ r ≤ 1114111 → R = ([], false)) →
    Ev (fun k => cameoref01_read.l1 k s acc (at_ : Int) (n : Int) (base : Int) (t : Int) (i : Int)) R
  | 0, i, base, hi, hb, h1, h2 => by
    simp only [Nat.pow_zero, Nat.mul_one] at hb h1 h2
    have e1 : wrap64 ((t : Int) + (base : Int)) = ((t + base : Nat) : Int) := by rw [w64 (by omega)]; omega
    have e2 : wrap64 ((at_ : Int) + wrap64 (1 + (n : Int))) = ((at_ + (1 + n) : Nat) : Int) := by rw [w64 (x := 1 + (n : Int)) (by omega), w64 (by omega)]; omega
    by_cases g : t + base ≤ 1114111
    · refine Ev.step (fun k => ?_) (h1 g)
      simp only [cameoref01_read.l1]
      rw [if_neg (by omega), e1, if_neg (by omega), e2]
      by_cases g2 : 65536 ≤ t + base
      · rw [if_pos (by omega)]
        simp only [Option.bind_some]
        rw [if_pos (by simp; omega)]
        have e3 : wrap64 (((t + base : Nat) : Int) - 65536) = ((t + base - 65536 : Nat) : Int) := by rw [w64 (by omega)]; omega
        rw [e3]
        have e4 : IntKind.u16.wrap (wrap64 (55296 + wrap64 (Int.tdiv ((t + base - 65536 : Nat) : Int) 1024))) = ((55296 + (t + base - 65536) / 1024 : Nat) : Int) := by
          have : Int.tdiv ((t + base - 65536 : Nat) : Int) 1024 = (((t + base - 65536) / 1024 : Nat) : Int) := by
            rw [Int.tdiv_eq_ediv_of_nonneg (by omega)]; omega
          rw [this, w64 (x := (((t + base - 65536) / 1024 : Nat) : Int)) (by omega), w64 (by omega), w16 (by omega)]
          omega
        have e5 : IntKind.u16.wrap (wrap64 (56320 + Int.tmod ((t + base - 65536 : Nat) : Int) 1024)) = ((56320 + (t + base - 65536) % 1024 : Nat) : Int) := by
          have : Int.tmod ((t + base - 65536 : Nat) : Int) 1024 = (((t + base - 65536) % 1024 : Nat) : Int) := by
            rw [Int.tmod_eq_emod_of_nonneg (by omega)]; omega
          rw [this, w64 (by omega), w16 (by omega)]
          omega
        rw [e4, e5]
        unfold U units
        rw [if_pos g2]
        rfl
      · rw [if_neg (by omega), if_pos (by omega), w16 (by omega)]
        unfold U units
        rw [if_neg g2]
        rfl
    · rw [h2 g]
      refine Ev.step (f := fun _ => some ([], false)) (fun k => ?_) (Ev.now _)
      simp only [cameoref01_read.l1]
      rw [if_neg (by omega), e1, if_pos (by omega)]
  | r + 1, i, base, hi, hb, h1, h2 => by
    have hb' : base * 64 * 64 ^ r = base * 64 ^ (r + 1) := by rw [Nat.pow_succ, Nat.mul_assoc, Nat.mul_comm 64]
    have hle : base * 64 ≤ base * 64 * 64 ^ r := Nat.le_mul_of_pos_right _ (Nat.pow_pos (by decide))
    have e1 : wrap64 ((base : Int) * 64) = ((base * 64 : Nat) : Int) := by rw [w64 (by omega)]; omega
    have e2 : wrap64 ((i : Int) + 1) = ((i + 1 : Nat) : Int) := by rw [w64 (by omega)]; omega
    refine Ev.step (fun k => ?_) (l1_ev s acc at_ n t hs ha hn ht hacc R r (i + 1) (base * 64) (by omega) (by omega) (by rw [hb']; exact h1) (by rw [hb']; exact h2))
    simp only [cameoref01_read.l1]
    rw [if_pos (by omega), e1, e2]
theorem tl_lt (s : ByteArray) (a : Nat) : ∀ (r i c v : Nat), c < 64 ^ i → tl s a r i c = some v → v < 64 ^ (i + r)
  | 0, i, c, v, hc, h => by
    simp only [tl, Option.some.injEq] at h
    subst h; exact hc
  | r + 1, i, c, v, hc, h => by
    simp only [tl] at h
    split at h
    · rename_i g
      have := g.2
      unfold cont at this
      have := tl_lt s a r (i + 1) _ v (by rw [Nat.pow_succ]; omega) h
      rwa [show i + (r + 1) = i + 1 + r by omega]
    · cases h
theorem j3_ev (s : ByteArray) (acc : List Int) (at_ n base : Nat) (hs : s.size ≤ 1048576) (ha : at_ ≤ 1048576) (hn : n ≤ 3) (hacc : acc.length ≤ 4194304) (hb : base * 64 ^ n < 4194304) (R : List Int × Bool)
    (h0 : tl s (at_ + 1) n 0 0 = none → R = ([], false))
    (h1 : ∀ t, tl s (at_ + 1) n 0 0 = some t → t + base * 64 ^ n ≤ 1114111 → Ev (fun k => cameoref01_read.l0 k s (acc ++ U (t + base * 64 ^ n)) ((at_ + (1 + n) : Nat) : Int)) R)
    (h2 : ∀ t, tl s (at_ + 1) n 0 0 = some t → ¬ t + base * 64 ^ n ≤ 1114111 → R = ([], false)) :
    Ev (fun k => cameoref01_read.j3 k s acc (at_ : Int) (n : Int) (base : Int)) R := by
  have e1 : wrap64 ((at_ : Int) + 1) = ((at_ + 1 : Nat) : Int) := by rw [w64 (by omega)]; omega
  have ht := tail_ev s (at_ + 1) hs (by omega) n 0 0 (by omega) (by decide)
  rw [Nat.zero_add] at ht
  refine Ev.step (f := fun k => (cameoref01_tail.f k s ((at_ + 1 : Nat) : Int) (n : Int)).bind fun t264 => (if t264 < 0 then (some (([] : List Int), false)) else (cameoref01_read.l1 k s acc (at_ : Int) (n : Int) (base : Int) t264 0))) (fun k => ?_) ?_
  · simp only [cameoref01_read.j3]
    rw [e1]
  · refine Ev.bind (a := toI (tl s (at_ + 1) n 0 0)) ht ?_
    cases hv : tl s (at_ + 1) n 0 0 with
    | none =>
      rw [h0 hv]
      refine Ev.congr (fun k => if_pos ?_) (Ev.now _)
      show (-1 : Int) < 0
      decide
    | some t =>
      have hlt := tl_lt s (at_ + 1) n 0 0 t (by decide) hv
      have h64 : 64 ^ (0 + n) ≤ 262144 := by
        rw [Nat.zero_add]
        exact Nat.pow_le_pow_right (n := 64) (by decide) hn
      refine Ev.congr (f := fun k => cameoref01_read.l1 k s acc (at_ : Int) (n : Int) (base : Int) (t : Int) ((0 : Nat) : Int)) (fun k => if_neg ?_) ?_
      · show ¬ (t : Int) < 0
        omega
      · exact l1_ev s acc at_ n t hs ha hn (by omega) hacc R n 0 base (by omega) hb (h1 t hv) (h2 t hv)
set_option maxRecDepth 100000 in
/-- The lead byte tells how many more there are. -/
theorem ldL_tl (s : ByteArray) (i : Nat) (hi : i < s.size) : ldL ((nums s).drop i) =
    if (nums s).getD i 0 < 128 then some ((nums s).getD i 0, 1) else if (nums s).getD i 0 < 192 then none else
    if (nums s).getD i 0 < 224 then (match tl s (i + 1) 1 0 0 with | none => none | some t => some (t + ((nums s).getD i 0 - 192) * 64 ^ 1, 2)) else
    if (nums s).getD i 0 < 240 then (match tl s (i + 1) 2 0 0 with | none => none | some t => some (t + ((nums s).getD i 0 - 224) * 64 ^ 2, 3)) else
    if (nums s).getD i 0 < 248 then (match tl s (i + 1) 3 0 0 with | none => none | some t => if t + ((nums s).getD i 0 - 240) * 64 ^ 3 ≤ 1114111 then some (t + ((nums s).getD i 0 - 240) * 64 ^ 3, 4) else none) else none := by
  have hlen : ((nums s).drop i).length = s.size - i := by rw [List.length_drop, nums_len]
  unfold ldL
  rw [hlen, drop_getD, drop_getD, drop_getD, drop_getD, Nat.add_zero]
  simp only [tl, Nat.add_zero]
  rw [show i + 1 + 1 = i + 2 from rfl, show i + 2 + 1 = i + 3 from rfl, show i + 1 + 2 = i + 3 from rfl] at *
  generalize (nums s).getD i 0 = b0
  generalize (nums s).getD (i + 1) 0 = b1
  generalize (nums s).getD (i + 2) 0 = b2
  generalize (nums s).getD (i + 3) 0 = b3
  have c1 : (1 < s.size - i) = (i + 1 < s.size) := propext ⟨fun h => by omega, fun h => by omega⟩
  have c2 : (2 < s.size - i) = (i + 2 < s.size) := propext ⟨fun h => by omega, fun h => by omega⟩
  have c3 : (3 < s.size - i) = (i + 3 < s.size) := propext ⟨fun h => by omega, fun h => by omega⟩
  unfold ld
  simp only [c1, c2, c3]
  by_cases g0 : b0 < 128
  · rw [if_pos g0, if_pos g0]
  rw [if_neg g0, if_neg g0]
  by_cases g1 : b0 < 192
  · rw [if_pos g1, if_pos g1]
  rw [if_neg g1, if_neg g1]
  by_cases d1 : i + 1 < s.size ∧ cont b1
  · by_cases d2 : i + 2 < s.size ∧ cont b2
    · by_cases d3 : i + 3 < s.size ∧ cont b3
      · simp only [if_pos d1, if_pos d2, if_pos d3, Nat.mul_zero, Nat.zero_add]
        have z1 : (b0 - 192) * 64 + (b1 - 128) = b1 - 128 + (b0 - 192) * 64 ^ 1 := by omega
        have z2 : (b0 - 224) * 4096 + (b1 - 128) * 64 + (b2 - 128) = 64 * (b1 - 128) + (b2 - 128) + (b0 - 224) * 64 ^ 2 := by omega
        have z3 : (b0 - 240) * 262144 + (b1 - 128) * 4096 + (b2 - 128) * 64 + (b3 - 128) = 64 * (64 * (b1 - 128) + (b2 - 128)) + (b3 - 128) + (b0 - 240) * 64 ^ 3 := by
          rw [show (64 : Nat) ^ 3 = 262144 from by decide]
          omega
        rw [z1, z2, z3]
      · simp only [if_pos d1, if_pos d2, if_neg d3, Nat.mul_zero, Nat.zero_add]
        have z1 : (b0 - 192) * 64 + (b1 - 128) = b1 - 128 + (b0 - 192) * 64 ^ 1 := by omega
        have z2 : (b0 - 224) * 4096 + (b1 - 128) * 64 + (b2 - 128) = 64 * (b1 - 128) + (b2 - 128) + (b0 - 224) * 64 ^ 2 := by omega
        rw [z1, z2]
    · simp only [if_pos d1, if_neg d2, Nat.mul_zero, Nat.zero_add]
      have z1 : (b0 - 192) * 64 + (b1 - 128) = b1 - 128 + (b0 - 192) * 64 ^ 1 := by omega
      rw [z1]
  · simp only [if_neg d1]
def outOf (acc : List Int) : Option (List (Nat × Nat)) → List Int × Bool
  | none => ([], false)
  | some cs => (acc ++ (cs.map (·.1)).flatMap U, true)
theorem U_len (c : Nat) : (U c).length ≤ 2 := by
  unfold U units
  split <;> simp
theorem read_ev (s : ByteArray) (hs : s.size ≤ 1048576) : ∀ (m i : Nat) (acc : List Int), s.size ≤ m + i → i ≤ s.size → acc.length ≤ 2 * i →
    Ev (fun k => cameoref01_read.l0 k s acc (i : Int)) (outOf acc (dec m ((nums s).drop i)))
  | m, i, acc, hm, hi, hacc => by
    by_cases hlt : i < s.size
    · have hne : ¬ (nums s).drop i = [] := by
        intro he
        have := congrArg List.length he
        rw [List.length_drop, nums_len] at this
        simp at this
        omega
      cases m with
      | zero => exact absurd hlt (by omega)
      | succ m =>
        have hd : dec (m + 1) ((nums s).drop i) = match ldL ((nums s).drop i) with
          | none => none
          | some (c, k) => (dec m ((nums s).drop (i + k))).map ((c, k) :: ·) := by
          show (if (nums s).drop i = [] then some [] else _) = _
          rw [if_neg hne]
          first | (simp only [List.drop_drop]; done) | (simp only [List.drop_drop]; cases ldL ((nums s).drop i) <;> rfl)
        have hb := getD_lt s i
        have hl := ldL_tl s i hlt
        have ebt : wrap64 (bt s (i : Int)) = (((nums s).getD i 0 : Nat) : Int) := by rw [nums_bt, w64 (by omega)]
        -- what comes behind one code point
        have next : ∀ (c k : Nat), ldL ((nums s).drop i) = some (c, k) → ∀ n, k = n + 1 → Ev (fun k => cameoref01_read.l0 k s (acc ++ U c) ((i + (1 + n) : Nat) : Int)) (outOf acc (dec (m + 1) ((nums s).drop i))) := by
          intro c k hck n hk
          have hn : 0 < ((nums s).drop i).length := by rw [List.length_drop, nums_len]; omega
          obtain ⟨s1, s2, _, _, _⟩ := ld_spec hn hck
          rw [List.length_drop, nums_len] at s2
          have hU := U_len c
          have ih := read_ev s hs m (i + (1 + n)) (acc ++ U c) (by omega) (by omega) (by rw [List.length_append]; omega)
          rw [hd, hck]
          simp only
          have e : dec m ((nums s).drop (i + k)) = dec m ((nums s).drop (i + (1 + n))) := by rw [hk, Nat.add_comm n 1]
          rw [e]
          cases hdm : dec m ((nums s).drop (i + (1 + n))) with
          | none => rw [hdm] at ih; exact ih
          | some cs =>
            rw [hdm] at ih
            have : outOf (acc ++ U c) (some cs) = outOf acc (Option.map ((c, k) :: ·) (some cs)) := by
              simp only [outOf, Option.map_some, List.map_cons, List.flatMap_cons, List.append_assoc]
            rw [← this]
            exact ih
        have stop : ldL ((nums s).drop i) = none → outOf acc (dec (m + 1) ((nums s).drop i)) = ([], false) := by
          intro h0
          rw [hd, h0]; rfl
        have lead : ∀ (n base : Nat), n ≤ 3 → base * 64 ^ n < 4194304 → (ldL ((nums s).drop i) = match tl s (i + 1) n 0 0 with | none => none | some t => if t + base * 64 ^ n ≤ 1114111 then some (t + base * 64 ^ n, n + 1) else none) →
            Ev (fun k => cameoref01_read.j3 k s acc (i : Int) (n : Int) (base : Int)) (outOf acc (dec (m + 1) ((nums s).drop i))) := by
          intro n base hn hbb he
          refine j3_ev s acc i n base hs (by omega) hn (by omega) hbb _ (fun h0 => stop (by rw [he, h0])) (fun t ht hle => ?_) (fun t ht hle => stop (by rw [he, ht]; exact if_neg hle))
          exact next _ _ (by rw [he, ht]; exact if_pos hle) n rfl
        generalize hR : outOf acc (dec (m + 1) ((nums s).drop i)) = R at *
        generalize (nums s).getD i 0 = b0 at *
        by_cases g0 : b0 < 128
        · rw [if_pos g0] at hl
          have h3 := lead 0 b0 (by omega) (by omega) (by simp only [tl, hl, Nat.pow_zero, Nat.mul_one, Nat.zero_add]; rw [if_pos (by omega)])
          refine Ev.step (fun k => ?_) h3
          simp only [cameoref01_read.l0]
          rw [if_pos (by omega), if_pos (by omega), ebt, if_pos (by omega)]
          rfl
        rw [if_neg g0] at hl
        by_cases g1 : b0 < 192
        · rw [if_pos g1] at hl
          rw [stop hl]
          refine Ev.step (f := fun k => cameoref01_read.j1 k s acc (i : Int) (b0 : Int) false) (fun k => ?_) (Ev.step (f := fun k => cameoref01_read.j2 k s acc (i : Int) (b0 : Int) false) (fun k => ?_) (Ev.step (f := fun _ => some ([], false)) (fun k => ?_) (Ev.now _)))
          · simp only [cameoref01_read.l0]
            rw [if_pos (by omega), if_pos (by omega), ebt, if_neg (by omega), if_neg (by omega)]
          · simp only [cameoref01_read.j1]
            rw [if_neg (by simp), if_neg (by omega)]
          · simp only [cameoref01_read.j2]
            rw [if_neg (by simp), if_neg (by omega)]
        rw [if_neg g1] at hl
        have st1 : ∀ k, cameoref01_read.l0 (k + 1) s acc (i : Int) = cameoref01_read.j1 k s acc (i : Int) (b0 : Int) (decide ((b0 : Int) < 224)) := by
          intro k
          simp only [cameoref01_read.l0]
          rw [if_pos (by omega), if_pos (by omega), ebt, if_neg (by omega), if_pos (by omega)]
        by_cases g2 : b0 < 224
        · rw [if_pos g2] at hl
          have h3 := lead 1 (b0 - 192) (by omega) (by omega) (by
            rw [hl]
            cases htl : tl s (i + 1) 1 0 0 with
            | none => rfl
            | some t =>
              have := tl_lt s (i + 1) 1 0 0 t (by decide) htl
              simp only
              rw [if_pos (by omega)])
          refine Ev.step st1 (Ev.step (fun k => ?_) h3)
          simp only [cameoref01_read.j1]
          rw [if_pos (by simp; omega), w64 (by omega)]
          congr 1
          omega
        rw [if_neg g2] at hl
        have st2 : ∀ k, cameoref01_read.j1 (k + 1) s acc (i : Int) (b0 : Int) (decide ((b0 : Int) < 224)) = cameoref01_read.j2 k s acc (i : Int) (b0 : Int) (decide ((b0 : Int) < 240)) := by
          intro k
          simp only [cameoref01_read.j1]
          rw [if_neg (by simp; omega), if_pos (by omega)]
        by_cases g3 : b0 < 240
        · rw [if_pos g3] at hl
          have h3 := lead 2 (b0 - 224) (by omega) (by omega) (by
            rw [hl]
            cases htl : tl s (i + 1) 2 0 0 with
            | none => rfl
            | some t =>
              have := tl_lt s (i + 1) 2 0 0 t (by decide) htl
              simp only
              rw [if_pos (by omega)])
          refine Ev.step st1 (Ev.step st2 (Ev.step (fun k => ?_) h3))
          simp only [cameoref01_read.j2]
          rw [if_pos (by simp; omega), w64 (by omega)]
          congr 1
          omega
        rw [if_neg g3] at hl
        by_cases g4 : b0 < 248
        · rw [if_pos g4] at hl
          have h3 := lead 3 (b0 - 240) (by omega) (by omega) hl
          refine Ev.step st1 (Ev.step st2 (Ev.step (fun k => ?_) h3))
          simp only [cameoref01_read.j2]
          rw [if_neg (by simp; omega), if_pos (by omega), if_pos (by omega), w64 (by omega)]
          congr 1
          omega
        · rw [if_neg g4] at hl
          rw [stop hl]
          refine Ev.step st1 (Ev.step st2 (Ev.step (f := fun _ => some ([], false)) (fun k => ?_) (Ev.now _)))
          simp only [cameoref01_read.j2]
          rw [if_neg (by simp; omega), if_pos (by omega), if_neg (by omega)]
    · have he : (nums s).drop i = [] := List.drop_eq_nil_of_le (by rw [nums_len]; omega)
      have hd : dec m ((nums s).drop i) = some [] := by
        rw [he]
        cases m <;> simp [dec]
      rw [hd]
      refine Ev.step (f := fun _ => some (acc, true)) (fun k => ?_) ?_
      · simp only [cameoref01_read.l0]
        rw [if_neg (by omega)]
      · have : outOf acc (some []) = (acc, true) := by simp [outOf]
        rw [this]
        exact Ev.now _
end Go.Proofs.YtaojjpdlfnphiaaDoor.Utf
/-! #### part U3 -/
/- The reference's Valid is the program's: what is read is written anew. -/
set_option linter.unusedSimpArgs false
set_option linter.unusedVariables false
namespace Go.Proofs.YtaojjpdlfnphiaaDoor.Utf
open Go.RowKit Go.Proofs.YtaojjpdlfnphiaaDoorW.PrintWords Go.Proofs.YtaojjpdlfnphiaaDoor.PDescKinds
def ints (l : List Nat) : List Int := l.map fun n : Nat => (n : Int)
theorem ints_len (l : List Nat) : (ints l).length = l.length := List.length_map _
theorem high_eq (a : Nat) : cameoref01_high.f (a : Int) = some (hi a) := by
  unfold cameoref01_high.f hi
  by_cases h : (a : Int) ≥ 55296
  · rw [if_pos h]
    congr 1
    rw [Bool.eq_iff_iff]; simp; omega
  · rw [if_neg h]
    have : ¬ 55296 ≤ a := by omega
    simp [this]
theorem low_eq (a : Nat) : cameoref01_low.f (a : Int) = some (lo a) := by
  unfold cameoref01_low.f lo
  by_cases h : (a : Int) ≥ 56320
  · rw [if_pos h]
    congr 1
    rw [Bool.eq_iff_iff]; simp; omega
  · rw [if_neg h]
    have : ¬ 56320 ≤ a := by omega
    simp [this]
theorem rd_ints (us : List Nat) (j : Nat) : rd (ints us) (j : Int) = ((us.getD j 0 : Nat) : Int) := by
  unfold rd ints
  rw [Int.toNat_natCast]
  simp only [List.getD_eq_getElem?_getD, List.getElem?_map]
  cases us[j]? <;> rfl
theorem drop_cons (us : List Nat) (j : Nat) (h : j < us.length) : us.drop j = us.getD j 0 :: us.drop (j + 1) := by
  rw [List.drop_eq_getElem_cons h, List.getD_eq_getElem?_getD, List.getElem?_eq_getElem h]
  rfl
theorem getD_lt' {us : List Nat} {B : Nat} (hu : ∀ u ∈ us, u < B) (hB : 0 < B) (j : Nat) : us.getD j 0 < B := by
  rw [List.getD_eq_getElem?_getD]
  cases h : us[j]? with
  | none => exact hB
  | some b => exact hu b (List.mem_of_getElem? h)
theorem row_two {a b : Nat} (l : List Nat) (h : (hi a && lo b) = false) : rowC (a :: b :: l) = a :: rowC (b :: l) := by
  simp only [rowC, h]; rfl
theorem row_one {a b : Nat} (l : List Nat) (h : (hi a && lo b) = true) : rowC (a :: b :: l) = (65536 + 1024 * (a - 55296) + (b - 56320)) :: rowC l := by
  simp only [rowC, h]; rfl
theorem hi_ge {a : Nat} (h : hi a = true) : 55296 ≤ a ∧ a < 56320 := by
  unfold hi at h
  rw [Bool.and_eq_true, decide_eq_true_eq, decide_eq_true_eq] at h
  exact h
theorem lo_ge {a : Nat} (h : lo a = true) : 56320 ≤ a ∧ a < 57344 := by
  unfold lo at h
  rw [Bool.and_eq_true, decide_eq_true_eq, decide_eq_true_eq] at h
  exact h
theorem pair_w (a b : Nat) (ha : 55296 ≤ a ∧ a < 56320) (hb : 56320 ≤ b ∧ b < 57344) :
    wrap64 (wrap64 (wrap64 (65536 + wrap64 (1024 * wrap64 (wrap64 (a : Int) - 55296))) + wrap64 (b : Int)) - 56320) = ((65536 + 1024 * (a - 55296) + (b - 56320) : Nat) : Int) := by
  have z1 : wrap64 (a : Int) = (a : Int) := w64 (by omega)
  have z2 : wrap64 (b : Int) = (b : Int) := w64 (by omega)
  rw [z1, z2]
  have z3 : wrap64 ((a : Int) - 55296) = (a : Int) - 55296 := w64 (by omega)
  rw [z3]
  have z4 : wrap64 (1024 * ((a : Int) - 55296)) = 1024 * ((a : Int) - 55296) := w64 (by omega)
  rw [z4]
  have z5 : wrap64 (65536 + 1024 * ((a : Int) - 55296)) = 65536 + 1024 * ((a : Int) - 55296) := w64 (by omega)
  rw [z5]
  have z6 : wrap64 (65536 + 1024 * ((a : Int) - 55296) + (b : Int)) = 65536 + 1024 * ((a : Int) - 55296) + (b : Int) := w64 (by omega)
  rw [z6]
  have z7 : wrap64 (65536 + 1024 * ((a : Int) - 55296) + (b : Int) - 56320) = 65536 + 1024 * ((a : Int) - 55296) + (b : Int) - 56320 := w64 (by omega)
  rw [z7]
  omega
theorem row_ev (us : List Nat) (hu : ∀ u ∈ us, u < 65536) (hlen : us.length ≤ 4194304) : ∀ (n j : Nat) (out : List S138), us.length ≤ n + j → j ≤ us.length → out.length ≤ j →
    ∃ pts : List S138, Ev (fun k => cameoref01_Row.l0 k (ints us) out (j : Int)) (out ++ pts) ∧ pts.map (·.f1) = ints (rowC (us.drop j)) ∧ pts.length ≤ us.length - j
  | n, j, out, hn, hj, ho => by
    by_cases hlt : j < us.length
    · cases n with
      | zero => exact absurd hlt (by omega)
      | succ n =>
        have ha := getD_lt' hu (by decide) j
        have e1 : wrap64 ((j : Int) + 1) = ((j + 1 : Nat) : Int) := by rw [w64 (by omega)]; omega
        have e2 : wrap64 (((j + 1 : Nat) : Int) + 1) = ((j + 2 : Nat) : Int) := by rw [w64 (by omega)]; omega
        have e3 : wrap64 (rd (ints us) (j : Int)) = ((us.getD j 0 : Nat) : Int) := by rw [rd_ints, w64 (by omega)]
        -- one unit alone
        have alone : (∀ k, cameoref01_Row.l0 (k + 1) (ints us) out (j : Int) = cameoref01_Row.l0 k (ints us) (out ++ [(⟨(j : Int), ((us.getD j 0 : Nat) : Int)⟩ : S138)]) ((j + 1 : Nat) : Int)) → rowC (us.drop j) = us.getD j 0 :: rowC (us.drop (j + 1)) →
            ∃ pts : List S138, Ev (fun k => cameoref01_Row.l0 k (ints us) out (j : Int)) (out ++ pts) ∧ pts.map (·.f1) = ints (rowC (us.drop j)) ∧ pts.length ≤ us.length - j := by
          intro hs hr
          obtain ⟨pts, p1, p2, p3⟩ := row_ev us hu hlen n (j + 1) (out ++ [(⟨(j : Int), ((us.getD j 0 : Nat) : Int)⟩ : S138)]) (by omega) (by omega) (by rw [List.length_append]; simp; omega)
          refine ⟨(⟨(j : Int), ((us.getD j 0 : Nat) : Int)⟩ : S138) :: pts, ?_, ?_, by simp; omega⟩
          · rw [List.append_assoc] at p1
            exact Ev.step hs p1
          · rw [List.map_cons, p2, hr]; rfl
        cases hh : hi (us.getD j 0) with
        | false =>
          refine alone (fun k => ?_) ?_
          · simp only [cameoref01_Row.l0, ints_len]
            rw [if_pos (by omega), if_pos (by omega), rd_ints, high_eq, hh]
            simp only [Option.bind_some, Bool.false_eq_true, if_false]
            rw [if_pos (by omega), e1, w64 (by omega)]
          · rw [drop_cons us j hlt, row_high hh]
        | true =>
          by_cases hl2 : j + 1 < us.length
          · have hb := getD_lt' hu (by decide) (j + 1)
            cases hlo : lo (us.getD (j + 1) 0) with
            | false =>
              refine alone (fun k => ?_) ?_
              · simp only [cameoref01_Row.l0, ints_len]
                rw [if_pos (by omega), if_pos (by omega), rd_ints, high_eq, hh]
                simp only [Option.bind_some, if_true, e1]
                rw [if_pos (by omega), if_pos (by omega), rd_ints, low_eq, hlo]
                simp only [Option.bind_some, Bool.false_eq_true, if_false]
                rw [if_pos (by omega), w64 (by omega)]
              · rw [drop_cons us j hlt, drop_cons us (j + 1) hl2]
                exact row_two _ (by rw [hh, hlo]; rfl)
            | true =>
              obtain ⟨pts, p1, p2, p3⟩ := row_ev us hu hlen n (j + 2) (out ++ [(⟨(j : Int), ((65536 + 1024 * (us.getD j 0 - 55296) + (us.getD (j + 1) 0 - 56320) : Nat) : Int)⟩ : S138)]) (by omega) (by omega) (by rw [List.length_append]; simp; omega)
              refine ⟨(⟨(j : Int), ((65536 + 1024 * (us.getD j 0 - 55296) + (us.getD (j + 1) 0 - 56320) : Nat) : Int)⟩ : S138) :: pts, ?_, ?_, by simp; omega⟩
              · rw [List.append_assoc] at p1
                refine Ev.step (fun k => ?_) p1
                simp only [cameoref01_Row.l0, ints_len]
                rw [if_pos (by omega), if_pos (by omega), rd_ints, high_eq, hh]
                simp only [Option.bind_some, if_true, e1]
                rw [if_pos (by omega), if_pos (by omega), rd_ints, low_eq, hlo]
                simp only [Option.bind_some, if_true]
                rw [if_pos (by omega), e2]
                rw [pair_w _ _ (hi_ge hh) (lo_ge hlo)]
              · rw [List.map_cons, p2, drop_cons us j hlt, drop_cons us (j + 1) hl2, row_one _ (by rw [hh, hlo]; rfl)]
                rfl
          · refine alone (fun k => ?_) ?_
            · simp only [cameoref01_Row.l0, ints_len]
              rw [if_pos (by omega), if_pos (by omega), rd_ints, high_eq, hh]
              simp only [Option.bind_some, if_true, e1]
              rw [if_neg (by omega), if_pos (by omega), w64 (by omega)]
            · have he : us.drop (j + 1) = [] := List.drop_eq_nil_of_le (by omega)
              rw [drop_cons us j hlt, he]
              rfl
    · have he : us.drop j = [] := List.drop_eq_nil_of_le (by omega)
      refine ⟨[], Ev.step (f := fun _ => some out) (fun k => ?_) (by rw [List.append_nil]; exact Ev.now _), by rw [he]; rfl, by simp⟩
      simp only [cameoref01_Row.l0, ints_len]
      rw [if_neg (by omega)]
theorem pe_d64 (c : Nat) (hc : c ≤ 1114111) : Int.tdiv (c : Int) 64 = ((c / 64 : Nat) : Int) := by rw [Int.tdiv_eq_ediv_of_nonneg (by omega)]; omega
theorem pe_d4096 (c : Nat) (hc : c ≤ 1114111) : Int.tdiv (c : Int) 4096 = ((c / 4096 : Nat) : Int) := by rw [Int.tdiv_eq_ediv_of_nonneg (by omega)]; omega
theorem pe_d262144 (c : Nat) (hc : c ≤ 1114111) : Int.tdiv (c : Int) 262144 = ((c / 262144 : Nat) : Int) := by rw [Int.tdiv_eq_ediv_of_nonneg (by omega)]; omega
theorem pe_m64 (c : Nat) (hc : c ≤ 1114111) : Int.tmod (c : Int) 64 = ((c % 64 : Nat) : Int) := by rw [Int.tmod_eq_emod_of_nonneg (by omega)]; omega
theorem pe_w1 (c : Nat) (hc : c ≤ 1114111) : wrap64 (((c / 64 : Nat) : Int)) = ((c / 64 : Nat) : Int) := w64 (by omega)
theorem pe_w2 (c : Nat) (hc : c ≤ 1114111) : wrap64 (((c / 4096 : Nat) : Int)) = ((c / 4096 : Nat) : Int) := w64 (by omega)
theorem pe_m64a (c : Nat) (hc : c ≤ 1114111) : Int.tmod (((c / 64 : Nat) : Int)) 64 = ((c / 64 % 64 : Nat) : Int) := by rw [Int.tmod_eq_emod_of_nonneg (by omega)]; omega
theorem pe_m64b (c : Nat) (hc : c ≤ 1114111) : Int.tmod (((c / 4096 : Nat) : Int)) 64 = ((c / 4096 % 64 : Nat) : Int) := by rw [Int.tmod_eq_emod_of_nonneg (by omega)]; omega
theorem pe_v1 (c : Nat) (hc : c ≤ 1114111) : wrap64 (128 + ((c % 64 : Nat) : Int)) % 256 = ((128 + c % 64 : Nat) : Int) := by rw [w64 (by omega)]; omega
theorem pe_v2 (c : Nat) (hc : c ≤ 1114111) : wrap64 (128 + ((c / 64 % 64 : Nat) : Int)) % 256 = ((128 + c / 64 % 64 : Nat) : Int) := by rw [w64 (by omega)]; omega
theorem pe_v3 (c : Nat) (hc : c ≤ 1114111) : wrap64 (128 + ((c / 4096 % 64 : Nat) : Int)) % 256 = ((128 + c / 4096 % 64 : Nat) : Int) := by rw [w64 (by omega)]; omega
theorem pe_a2 (c : Nat) (hc : c < 2048) : wrap64 (192 + ((c / 64 : Nat) : Int)) % 256 = ((192 + c / 64 : Nat) : Int) := by rw [w64 (by omega)]; omega
theorem pe_a3 (c : Nat) (hc : c < 65536) : wrap64 (224 + ((c / 4096 : Nat) : Int)) % 256 = ((224 + c / 4096 : Nat) : Int) := by rw [w64 (by omega)]; omega
theorem pe_a0 (c : Nat) (hc : c ≤ 1114111) : wrap64 ((c / 262144 : Nat) : Int) = ((c / 262144 : Nat) : Int) := w64 (by omega)
theorem pe_a4 (c : Nat) (hc : c ≤ 1114111) : wrap64 (240 + ((c / 262144 : Nat) : Int)) % 256 = ((240 + c / 262144 : Nat) : Int) := by rw [w64 (by omega)]; omega
theorem put_eq (l : List Int) (c : Nat) (hl : l.length ≤ 8388608) (hc : c ≤ 1114111) : cameoref01_put.f l (c : Int) = some (l ++ ints (putC c)) := by
  unfold cameoref01_put.f putC
  rw [pe_d64 c hc, pe_d4096 c hc, pe_d262144 c hc, pe_m64 c hc, pe_w1 c hc, pe_w2 c hc, pe_m64a c hc, pe_m64b c hc, pe_v1 c hc, pe_v2 c hc, pe_v3 c hc, pe_a0 c hc, pe_a4 c hc]
  by_cases h1 : c < 128
  · rw [if_pos (show (c : Int) < 128 by omega), if_pos (show l.length < 140737488355328 by omega), if_pos h1, show (c : Int) % 256 = (c : Int) by omega]
    rfl
  rw [if_neg (show ¬ (c : Int) < 128 by omega), if_neg h1]
  simp only [Option.bind_some, List.length_cons, List.length_nil]
  by_cases h2 : c < 2048
  · rw [if_pos (show (c : Int) < 2048 by omega), if_pos h2, if_pos (show l.length + (0 + 1 + 1) < 140737488355328 by omega), pe_a2 c h2]
    rfl
  rw [if_neg (show ¬ (c : Int) < 2048 by omega), if_neg h2]
  by_cases h3 : c < 65536
  · rw [if_pos (show (c : Int) < 65536 by omega), if_pos h3, if_pos (show l.length + (0 + 1 + 1 + 1) < 140737488355328 by omega), pe_a3 c h3]
    rfl
  rw [if_neg (show ¬ (c : Int) < 65536 by omega), if_neg h3, if_pos (show l.length + (0 + 1 + 1 + 1 + 1) < 140737488355328 by omega)]
  rfl
theorem of_ev (pts : List S138) (cs : List Nat) (hc : ∀ c ∈ cs, c ≤ 1114111) (he : pts.map (·.f1) = ints cs) (hl : cs.length ≤ 1048576) : ∀ (n j : Nat) (bs : List Int), cs.length ≤ n + j → j ≤ cs.length → bs.length ≤ 4 * j →
    Ev (fun k => cameoref01_Of.l0 k bs pts (j : Int)) (strOfNums (bs ++ ints ((cs.drop j).flatMap putC)))
  | n, j, bs, hn, hj, hb => by
    have hpl : pts.length = cs.length := by
      have := congrArg List.length he
      rwa [List.length_map, ints_len] at this
    by_cases hlt : j < cs.length
    · cases n with
      | zero => exact absurd hlt (by omega)
      | succ n =>
        have hcj : cs.getD j 0 ≤ 1114111 := by
          have := getD_lt' (B := 1114112) (fun u hu => by have := hc u hu; omega) (by decide) j
          omega
        have e1 : wrap64 ((j : Int) + 1) = ((j + 1 : Nat) : Int) := by rw [w64 (by omega)]; omega
        have hf : (rd_T138 pts (j : Int)).f1 = ((cs.getD j 0 : Nat) : Int) := by
          unfold rd_T138
          rw [Int.toNat_natCast]
          have h1 : pts[j]? = some pts[j] := List.getElem?_eq_getElem (by omega)
          have h2 : (pts.map (·.f1))[j]? = some pts[j].f1 := by rw [List.getElem?_map, h1]; rfl
          rw [he] at h2
          unfold ints at h2
          rw [List.getElem?_map, List.getElem?_eq_getElem hlt] at h2
          simp only [Option.map_some, Option.some.injEq] at h2
          rw [List.getD_eq_getElem?_getD, h1, Option.getD_some, ← h2, List.getD_eq_getElem?_getD, List.getElem?_eq_getElem hlt, Option.getD_some]
        have ih := of_ev pts cs hc he hl n (j + 1) (bs ++ ints (putC (cs.getD j 0))) (by omega) (by omega) (by
          rw [List.length_append, ints_len, putC_len]
          have := plen_inv (c := cs.getD j 0)
          omega)
        have e2 : bs ++ ints ((cs.drop j).flatMap putC) = bs ++ ints (putC (cs.getD j 0)) ++ ints ((cs.drop (j + 1)).flatMap putC) := by
          rw [drop_cons cs j hlt, List.flatMap_cons, List.append_assoc]
          simp [ints]
        rw [e2]
        refine Ev.step (fun k => ?_) ih
        simp only [cameoref01_Of.l0]
        rw [if_pos (by omega), if_pos (by omega), hf, put_eq _ _ (by omega) hcj, e1]
        rfl
    · have hd : cs.drop j = [] := List.drop_eq_nil_of_le (by omega)
      rw [hd]
      refine Ev.step (f := fun _ => some (strOfNums bs)) (fun k => ?_) (by simpa [ints] using Ev.now (strOfNums bs))
      simp only [cameoref01_Of.l0]
      rw [if_neg (by omega)]
theorem toList_iff (s : ByteArray) (l : List Nat) (hl : ∀ b ∈ l, b < 256) : ((strOfNums (ints l)).toList == s.toList) = true ↔ l = nums s := by
  rw [beq_iff_eq]
  have h1 : (strOfNums (ints l)).toList = (strOfNums (ints l)).data.toList := by simp [ByteArray.toList_eq]
  have h2 : s.toList = s.data.toList := by simp [ByteArray.toList_eq]
  rw [h1, h2, strOfNums_data]
  unfold ints nums
  rw [List.map_map]
  have h3 : (l.map ((fun n : Int => UInt8.ofNat n.toNat) ∘ fun n : Nat => (n : Int))).map UInt8.toNat = l := by
    rw [List.map_map]
    refine (List.map_congr_left fun b hb => ?_).trans (List.map_id l)
    have := hl b hb
    simp [Nat.mod_eq_of_lt this]
  constructor
  · intro h
    have := congrArg (List.map UInt8.toNat) h
    rw [h3] at this
    exact this
  · intro h
    have : l.map UInt8.ofNat = s.data.toList := by
      rw [h, List.map_map]
      refine (List.map_congr_left fun b hb => ?_).trans (List.map_id _)
      simp
    rw [← this]
    refine List.map_congr_left fun b hb => ?_
    simp
theorem putC_lt {c : Nat} (hc : c ≤ 1114111) : ∀ b ∈ putC c, b < 256 := by
  intro b hb
  unfold putC at hb
  split at hb
  · simp at hb; omega
  · split at hb
    · simp at hb; omega
    · split at hb
      · simp at hb; omega
      · simp at hb; omega
theorem units_lt {c : Nat} (hc : c ≤ 1114111) : ∀ u ∈ units c, u < 65536 := by
  intro u hu
  unfold units at hu
  split at hu
  · simp at hu; omega
  · simp at hu; omega
set_option maxRecDepth 100000 in
theorem rowC_le : ∀ (n : Nat) (us : List Nat), us.length ≤ n → (∀ u ∈ us, u < 65536) → (∀ c ∈ rowC us, c ≤ 1114111) ∧ (rowC us).length ≤ us.length
  | 0, [], _, _ => by simp [rowC]
  | n + 1, [], _, _ => by simp [rowC]
  | n + 1, [a], _, h => by
    refine ⟨fun c hc => ?_, Nat.le_refl _⟩
    have := h a (by simp)
    simp only [rowC, List.mem_singleton] at hc
    omega
  | n + 1, a :: b :: r, hl, h => by
    have ha := h a (by simp)
    have hb := h b (by simp)
    obtain ⟨i1, i2⟩ := rowC_le n (b :: r) (by simp at hl ⊢; omega) (fun u hu => h u (List.mem_cons_of_mem _ hu))
    obtain ⟨j1, j2⟩ := rowC_le n r (by simp at hl ⊢; omega) (fun u hu => h u (List.mem_cons_of_mem _ (List.mem_cons_of_mem _ hu)))
    cases hh : hi a && lo b with
    | true =>
      have e : rowC (a :: b :: r) = (65536 + 1024 * (a - 55296) + (b - 56320)) :: rowC r := by simp [rowC, hh]
      rw [Bool.and_eq_true] at hh
      have g1 := hh.1
      have g2 := hh.2
      unfold hi at g1
      unfold lo at g2
      simp at g1 g2
      rw [e]
      refine ⟨fun c hc => ?_, by simp; omega⟩
      rcases List.mem_cons.1 hc with hc | hc
      · omega
      · exact j1 c hc
    | false =>
      have e : rowC (a :: b :: r) = a :: rowC (b :: r) := by simp [rowC, hh]
      rw [e]
      refine ⟨fun c hc => ?_, by simp at i2 ⊢; omega⟩
      rcases List.mem_cons.1 hc with rfl | hc
      · omega
      · exact i1 c hc
theorem flatU (cs : List Nat) : cs.flatMap U = ints (cs.flatMap units) := by
  induction cs with
  | nil => rfl
  | cons a r ih =>
    rw [List.flatMap_cons, List.flatMap_cons, ih]
    simp [ints, U]
set_option maxRecDepth 100000 in
/-- Both say the same of every string of not more than 2^20 bytes. -/
theorem valid_eq (s : ByteArray) (hs : s.size ≤ 1048576) : ∃ k, cameoref01_Valid.f k s = some (units_Valid.val (s.size + 1) s 0 0) := by
  have hv := val_iff s (s.size + 1) 0 0 (by omega)
  rw [List.drop_zero] at hv
  have hr := read_ev s hs (s.size + 1) 0 [] (by omega) (by omega) (by simp)
  rw [List.drop_zero] at hr
  refine Ev.rounds ?_
  unfold cameoref01_Valid.f
  refine Ev.bind (f := fun k (bt323 : List Int × Bool) => (if bt323.2 = true then ((cameoref01_Of.f k bt323.1).bind fun t327 => (some (t327.toList == s.toList))) else (some false))) (g := fun k => cameoref01_read.f k s) (a := outOf [] (dec (s.size + 1) (nums s))) hr ?_
  cases hd : dec (s.size + 1) (nums s) with
  | none =>
    have : units_Valid.val (s.size + 1) s 0 0 = false := by
      rw [Bool.eq_false_iff]
      intro h
      obtain ⟨cs, h1, _⟩ := hv.1 h
      rw [hd] at h1
      cases h1
    rw [this]
    exact Ev.congr (fun k => if_neg (by simp [outOf])) (Ev.now _)
  | some cs =>
    obtain ⟨d1, d2, d3, d4, d5⟩ := dec_spec _ _ cs (nums_lt s) hd
    rw [nums_len] at d1
    have hcl : (cs.map (·.1)).length ≤ s.size := by
      rw [List.length_map, ← d1]
      have : ∀ (l : List (Nat × Nat)), (∀ p ∈ l, 1 ≤ p.2) → l.length ≤ (l.map (·.2)).sum := by
        intro l
        induction l with
        | nil => intro _; simp
        | cons a r ih =>
          intro h
          have h1 := h a (by simp)
          have h2 := ih fun p hp => h p (List.mem_cons_of_mem _ hp)
          simp only [List.length_cons, List.map_cons, List.sum_cons]
          omega
      refine this cs ?_
      have : ∀ (m : Nat) (l : List Nat) (cs : List (Nat × Nat)), dec m l = some cs → ∀ p ∈ cs, 1 ≤ p.2 := by
        intro m
        induction m with
        | zero =>
          intro l cs h p hp
          unfold dec at h
          split at h
          · cases h; cases hp
          · cases h
        | succ m ih =>
          intro l cs h p hp
          unfold dec at h
          split at h
          · cases h; cases hp
          · rename_i hl
            split at h
            · cases h
            · rename_i c k hld
              obtain ⟨cs', hd', rfl⟩ := Option.map_eq_some_iff.1 h
              rcases List.mem_cons.1 hp with rfl | hp
              · exact (ld_spec (by cases l <;> simp_all) hld).1
              · exact ih _ _ hd' p hp
      exact this _ _ cs hd
    have hle : ∀ c ∈ cs.map (·.1), c ≤ 1114111 := fun c hc => by
      obtain ⟨p, hp, rfl⟩ := List.mem_map.1 hc
      exact d4 p hp
    have hul : ∀ u ∈ (cs.map (·.1)).flatMap units, u < 65536 := fun u hu => by
      obtain ⟨c, hc, hcu⟩ := List.mem_flatMap.1 hu
      exact units_lt (hle c hc) u hcu
    have hulen : ((cs.map (·.1)).flatMap units).length ≤ 2 * (cs.map (·.1)).length := by
      have : ∀ l : List Nat, (l.flatMap units).length ≤ 2 * l.length := by
        intro l
        induction l with
        | nil => simp
        | cons a r ih =>
          rw [List.flatMap_cons, List.length_append, List.length_cons]
          have : (units a).length ≤ 2 := by unfold units; split <;> simp
          omega
      exact this _
    obtain ⟨r1, r2⟩ := rowC_le _ ((cs.map (·.1)).flatMap units) (Nat.le_refl _) hul
    have r3 : (rowC ((cs.map (·.1)).flatMap units)).length ≤ 1048576 := by
      rw [row_units (cs.map (·.1)).length (cs.map (·.1)) (Nat.le_refl _) hle]
      have : ∀ (n : Nat) (l : List Nat), l.length ≤ n → (merge l).length ≤ l.length := by
        intro n
        induction n with
        | zero => intro l hl; cases l with
          | nil => simp [merge]
          | cons a r => simp at hl
        | succ n ih =>
          intro l hl
          rcases l with _ | ⟨a, _ | ⟨b, r⟩⟩
          · simp [merge]
          · simp [merge]
          · have h1 := ih (b :: r) (by simp at hl ⊢; omega)
            have h2 := ih r (by simp at hl ⊢; omega)
            simp only [merge]
            split
            · simp; omega
            · simp at h1 ⊢; omega
      have := this _ (cs.map (·.1)) (Nat.le_refl _)
      omega
    have hout : outOf [] (some cs) = (ints ((cs.map (·.1)).flatMap units), true) := by
      simp only [outOf, List.nil_append]
      rw [flatU]
    rw [hout]
    refine Ev.congr (f := fun k => (cameoref01_Of.f k (ints ((cs.map (·.1)).flatMap units))).bind fun t327 => (some (t327.toList == s.toList))) (fun k => if_pos rfl) ?_
    obtain ⟨pts, p1, p2, p3⟩ := row_ev ((cs.map (·.1)).flatMap units) hul (by omega) _ 0 [] (Nat.le_refl _) (Nat.zero_le _) (by simp)
    rw [List.drop_zero] at p2
    rw [List.nil_append] at p1
    have ho := of_ev pts _ r1 p2 r3 _ 0 [] (Nat.le_refl _) (Nat.zero_le _) (by simp)
    rw [List.drop_zero, List.nil_append] at ho
    have hof : Ev (fun k => cameoref01_Of.f k (ints ((cs.map (·.1)).flatMap units))) (strOfNums (ints ((rowC ((cs.map (·.1)).flatMap units)).flatMap putC))) := by
      unfold cameoref01_Of.f cameoref01_Row.f
      exact Ev.bind (f := fun k t316 => cameoref01_Of.l0 k ([] : List Int) t316 0) p1 ho
    refine Ev.bind (f := fun _ (t327 : ByteArray) => some (t327.toList == s.toList)) hof ?_
    have hb : ∀ b ∈ (rowC ((cs.map (·.1)).flatMap units)).flatMap putC, b < 256 := fun b hb => by
      obtain ⟨c, hc, hcb⟩ := List.mem_flatMap.1 hb
      exact putC_lt (r1 c hc) b hcb
    have hfin : ((strOfNums (ints ((rowC ((cs.map (·.1)).flatMap units)).flatMap putC))).toList == s.toList) = units_Valid.val (s.size + 1) s 0 0 := by
      rw [Bool.eq_iff_iff, toList_iff s _ hb, back_iff (nums_lt s) hd, ]
      rw [show units_Valid.val (s.size + 1) s 0 0 = units_Valid.val (s.size + 1) s ((0 : Nat) : Int) 0 from rfl, hv]
      constructor
      · rintro ⟨h1, h2⟩
        exact ⟨cs, hd, h1, h2⟩
      · rintro ⟨cs', h0, h1, h2⟩
        rw [hd] at h0
        obtain rfl := Option.some.inj h0
        exact ⟨h1, h2⟩
    rw [hfin]
    exact Ev.now _
end Go.Proofs.YtaojjpdlfnphiaaDoor.Utf
end
section
/- What the reference's functions on descriptors answer. -/
set_option linter.unusedSimpArgs false
set_option linter.unusedVariables false
namespace Go.Proofs.YtaojjpdlfnphiaaDoor.PDescKinds
open Go.RowKit Go.Ev
theorem szle (n : Nat) : ((n : Int) ≤ 1048576) = (n ≤ 1048576) := propext ⟨fun h => by omega, fun h => by omega⟩
namespace R
def neg0 (n : Nat) : Bool := Op.floatEq FloatKind.f64 n 0 && FloatKind.f64.format.order ((Ieee.double.div 4607182418800017408 n).getD 0) 0 == some Ordering.lt
/-- Is a value well formed? By the document. -/
def good (v : V) : Bool :=
  bif decide (v.k < 1) || decide (v.k > 7) then false
  else bif (v.k != 3 && v.b) || (v.k != 4 && (!(Op.floatEq FloatKind.f64 v.n 0) || neg0 v.n)) || (v.k != 5 && !S.emp v.s) || (v.k != 6 && v.k != 7 && v.id != 0) then false
  else bif v.k == 5 then leafIn.strOk v.s
  else bif v.k == 6 then leafIn.idOk v.id
  else bif v.k == 7 then leafIn.idOk v.id
  else true
def slot (v : V) : Bool := good v && (v.k == 1 || v.k == 7)
def check (d : D) : Bool := ((S.absent d.v || good d.v) && ((S.absent d.g || slot d.g) && ((S.absent d.t || slot d.t) && (S.tri d.w && (S.tri d.e && S.tri d.c))))) && !(S.hasD d && S.hasA d)
def isA (d : D) : Bool := check d && S.hasA d
def isD (d : D) : Bool := check d && S.hasD d
def isG (d : D) : Bool := check d && (!isA d && !isD d)
def whole (d : D) : Bool := check d && ((d.e != 0 && d.c != 0) && (S.there d.g && S.there d.t || S.there d.v && d.w != 0))
def filled (d : D) : D := bif isA d then ⟨d.v, S.fill d.g, S.fill d.t, d.w, S.no d.e 1, S.no d.c 1⟩ else ⟨S.fill d.v, d.g, d.t, S.no d.w 1, S.no d.e 1, S.no d.c 1⟩
def numIs (a b : Nat) : Bool := bif S.nan a || S.nan b then S.nan a && S.nan b else S.feq a b && (neg0 a == neg0 b)
def is (a b : V) : Bool := bif a.k != b.k then false else bif a.k == 4 then numIs a.n b.n else a.b == b.b && (a.s.toList == b.s.toList && a.id == b.id)
def same (a b : V) : Bool := bif S.there a && S.there b then is a b else S.there a == S.there b
def isDD (a b : D) : Bool := same a.v b.v && (same a.g b.g && (same a.t b.t && (a.w == b.w && (a.e == b.e && a.c == b.c))))
def zero (d : D) : Bool := S.absent d.v && (S.absent d.g && (S.absent d.t && (d.w == 0 && (d.e == 0 && d.c == 0))))
def refused (now d : D) : Bool :=
  bif d.c == 2 || (d.e != 0 && d.e != now.e) then true
  else bif (isA d && isD now) || (isD d && isA now) then true
  else bif isA now then (S.there d.g && !same d.g now.g) || (S.there d.t && !same d.t now.t)
  else now.w == 1 && (d.w == 2 || (S.there d.v && !same d.v now.v))
def become (now d : D) : D := bif (isD now && isA d) || (isA now && isD d) then filled (S.turn now d) else S.over now d
def okA (now d : D) : Bool := check d && (zero now || whole now)
def apply (x : Bool) (now d : D) : D × Bool :=
  bif zero now then (bif x then (filled d, true) else (now, false))
  else bif now.c == 1 && refused now d then (now, false)
  else (become now d, true)
def okK (a b : D) : Bool := (zero a || whole a) && (zero b || whole b)
def keeps (a b : D) : Bool :=
  bif zero a || a.c == 2 then true
  else bif zero b || (b.c != 1 || (b.e != a.e || isA a != isA b)) then false
  else bif isA a then same a.g b.g && same a.t b.t
  else a.w == 2 || (same a.v b.v && b.w == 1)
end R
namespace T
def valid (s : ByteArray) : DT Value := .node (decide ((s.size : Int) ≤ 1048576)) (.leaf (.bool (units_Valid.val (s.size + 1) s 0 0))) .bad
def fillV (v : V) : DT Value := .leaf (S.fill v).agg
def noT (t : Int) : DT Value := .leaf (.int .i64 (S.no t 1))
def there (v : V) : DT Value := B (S.there v)
def rgood (v : V) : DT Value := B (R.good v)
def rslot (v : V) : DT Value := B (R.slot v)
def rcheck (d : D) : DT Value := B (R.check d)
def risA (d : D) : DT Value := B (R.isA d)
def risD (d : D) : DT Value := B (R.isD d)
def risG (d : D) : DT Value := B (R.isG d)
def rwhole (d : D) : DT Value := B (R.whole d)
def filled (d : D) : DT Value := .leaf (R.filled d).agg
def rfreeze (d : D) : DT Value := .node (R.whole d) (.node (R.isD d) (.leaf (.tuple #[(D.mk S.V0 S.V0 S.V0 1 0 1).agg, .int .i64 0])) (.leaf (.tuple #[(D.mk S.V0 S.V0 S.V0 0 0 1).agg, .int .i64 0]))) (.leaf (.tuple #[S.D0.agg, .int .i64 5]))
def rminus (n : Nat) : DT Value := .node (Op.floatEq FloatKind.f64 n 0) (.leaf (.bool (FloatKind.f64.format.order ((Ieee.double.div 4607182418800017408 n).getD 0) 0 == some Ordering.lt))) (.leaf (.bool false))
def ris (a b : V) : DT Value := B (R.is a b)
def rsame (a b : V) : DT Value := B (R.same a b)
def risDD (a b : D) : DT Value := B (R.isDD a b)
def rzero (d : D) : DT Value := B (R.zero d)
def rrefused (a b : D) : DT Value := B (R.refused a b)
def rbecome (a b : D) : DT Value := .leaf (R.become a b).agg
def rapply (x : Bool) (now d : D) : DT Value := .node (R.okA now d) (.leaf (.tuple #[(R.apply x now d).1.agg, .bool (R.apply x now d).2, .int .i64 0])) (.leaf (.tuple #[S.D0.agg, .bool false, .int .i64 5]))
def rkeeps (a b : D) : DT Value := .node (R.okK a b) (.leaf (.tuple #[.bool (R.keeps a b), .int .i64 0])) (.leaf (.tuple #[.bool false, .int .i64 5]))
end T
end Go.Proofs.YtaojjpdlfnphiaaDoor.PDescKinds
end
section
/- The contract of the reference's Valid. -/
set_option linter.unusedSimpArgs false
set_option linter.unusedVariables false
namespace Go.Proofs.YtaojjpdlfnphiaaDoor.PDescKinds
open Go.RowKit Go.Ev
theorem ent_valid : E (98, onS T.valid) := fun args t v h hv w hI => by
  obtain ⟨s, rfl, rfl⟩ := onS_eq h
  unfold T.valid at hv
  rw [DT.val_node, DT.val_leaf, DT.val_bad] at hv
  cases hs : decide ((s.size : Int) ≤ 1048576)
  · rw [hs] at hv
    cases hv
  · rw [hs] at hv
    obtain rfl := Option.some.inj hv
    have hs' : s.size ≤ 1048576 := by
      rw [decide_eq_true_eq] at hs
      omega
    obtain ⟨k, hk⟩ := Utf.valid_eq s hs'
    exact cameoref01_Valid.calls k s _ w hk
end Go.Proofs.YtaojjpdlfnphiaaDoor.PDescKinds
end
section
/- Contracts by evaluation: what each function of a list answers. Written by a program of this session. -/
namespace Go.Proofs.YtaojjpdlfnphiaaDoor.PDescKinds
open Go.RowKit Go.Ev
set_option linter.unusedSimpArgs false
set_option linter.unusedVariables false
set_option maxRecDepth 100000
abbrev IL0 : Tab := [(98, onS T.valid)]
theorem Ients0 : ∀ p ∈ IL0, E p := entries_cons (ent_valid) (entries_nil)
set_option maxHeartbeats 4000000 in
theorem ev_rminus (a : Nat) : evFn Tryd.prog ext (tab IL0) 40 97 [.float .f64 a] = (T.rminus a).val :=
  Eq.trans (b := 
    (bif FloatKind.f64.format.order a 0 == some Ordering.eq then 
     (bif (Ieee.double.div 4607182418800017408 a).isSome then some (Value.bool (FloatKind.f64.format.order ((Ieee.double.div 4607182418800017408 a).getD 0) 0 == some Ordering.lt)) else none) else some (Value.bool false))) (by kernel_rfl) (by
    simp only [T.rminus, DT.val_node, DT.val_leaf]
    refine bif_eq (fun h => ?_) (fun h => ?_)
    · have hf : Op.floatEq FloatKind.f64 a 0 = true := h
      rw [show (Ieee.double.div 4607182418800017408 a).isSome = true from FloatEq.div_isSome hf, hf]
      rfl
    · have hf : Op.floatEq FloatKind.f64 a 0 = false := h
      rw [hf]
      rfl)
theorem ent_rminus : E (97, onF T.rminus) := byEv Ients0 40 fun args t h => by
  obtain ⟨a, rfl, rfl⟩ := onF_eq h
  exact ev_rminus a
abbrev IL1 : Tab := (97, onF T.rminus) :: IL0
theorem Ients1 : ∀ p ∈ IL1, E p := entries_cons ent_rminus Ients0
set_option maxHeartbeats 4000000 in
theorem ev_there (v : V) : evFn Tryd.prog ext (tab IL1) 40 59 [v.agg] = (T.there v).val :=
  Eq.trans (b := some (Value.bool (v.k != 0))) (by kernel_rfl) (by
    simp only [T.there, T.B, DT.val_leaf, S.there])
theorem ent_there : E (59, onV T.there) := byEv Ients1 40 fun args t h => by
  obtain ⟨v, rfl, rfl⟩ := onV_eq h
  exact ev_there v
abbrev IL2 : Tab := (59, onV T.there) :: IL1
theorem Ients2 : ∀ p ∈ IL2, E p := entries_cons ent_there Ients1
set_option maxHeartbeats 4000000 in
theorem ev_rtri (t : Int) : evFn Tryd.prog ext (tab IL2) 40 58 [.int .i64 t] = (T.tri t).val :=
  Eq.trans (b := 
    (bif t == 0 then some (Value.bool true) else 
     (bif t == 1 then some (Value.bool true) else some (Value.bool (t == 2))))) (by kernel_rfl) (by
    simp only [T.tri, T.B, DT.val_leaf]
    repeat' (with_reducible refine bif_eq (fun h => ?_) (fun h => ?_))
    all_goals simp only [Option.some.injEq, Value.bool.injEq, S.tri, beq_iff_eq, beq_eq_false_iff_ne, ne_eq] at *
    all_goals (rw [Bool.eq_iff_iff]; simp; omega))
theorem ent_rtri : E (58, onI T.tri) := byEv Ients2 40 fun args t h => by
  obtain ⟨t, rfl, rfl⟩ := onI_eq h
  exact ev_rtri t
abbrev IL3 : Tab := (58, onI T.tri) :: IL2
theorem Ients3 : ∀ p ∈ IL3, E p := entries_cons ent_rtri Ients2
set_option maxHeartbeats 4000000 in
theorem ev_none (v : V) : evFn Tryd.prog ext (tab IL3) 40 55 [v.agg] = (T.absent v).val :=
  Eq.trans (b := 
    (bif v.k == 0 then 
     (bif !v.b then 
      (bif FloatKind.f64.format.order v.n 0 == some Ordering.eq then 
       (bif (Ieee.double.div 4607182418800017408 v.n).isSome then 
        (bif FloatKind.f64.format.order ((Ieee.double.div 4607182418800017408 v.n).getD 0) 0 == some Ordering.gt then 
         (bif v.s.toList == (ByteArray.mk #[]).toList then some (Value.bool (v.id == 0)) else some (Value.bool false)) else some (Value.bool false)) else none) else some (Value.bool false)) else some (Value.bool false)) else some (Value.bool false))) (by kernel_rfl) (by
    simp only [T.absent, T.B, DT.val_node, DT.val_leaf, DT.val_bad, DT.bind]
    repeat' (first | (with_reducible refine bif_neq (fun h => ?_) (fun h => ?_)) | (with_reducible refine bif_and (fun h => ?_) (fun h => ?_)) | (with_reducible refine bif_eq (fun h => ?_) (fun h => ?_)))
    all_goals first | (simp only [*, S.absent, S.isV0, S.pos, cond_true, cond_false, Bool.and_true, Bool.true_and, Bool.and_false, Bool.false_and, Bool.or_true, Bool.true_or, Bool.or_false, Bool.false_or, Bool.not_true, Bool.not_false, beq_self_eq_true, bne_self_eq_false, Bool.not_not]; done) | (exfalso; simp_all [S.absent, S.isV0, S.pos, Op.floatEq, beq_toListBytes, FloatKind.format, FloatEq.div_some', FloatEq.div_none']; done) | (simp_all [S.absent, S.isV0, S.pos, Op.floatEq, beq_toListBytes, FloatKind.format, FloatEq.div_some', FloatEq.div_none']; done) | grind [S.absent, S.isV0, S.pos])
theorem ent_none : E (55, onV T.absent) := byEv Ients3 40 fun args t h => by
  obtain ⟨v, rfl, rfl⟩ := onV_eq h
  exact ev_none v
abbrev IL4 : Tab := (55, onV T.absent) :: IL3
theorem Ients4 : ∀ p ∈ IL4, E p := entries_cons ent_none Ients3
set_option maxHeartbeats 4000000 in
theorem ev_rgood (v : V) : evFn Tryd.prog ext (tab IL4) 60 56 [v.agg] = (T.rgood v).val :=
  Eq.trans (b := 
    (bif decide (v.k < 1) then some (Value.bool false) else 
     (bif decide (v.k > 7) then some (Value.bool false) else 
      (bif v.k != 3 then 
       (bif v.b then some (Value.bool false) else 
        (bif v.k != 4 then 
         (bif FloatKind.f64.format.order v.n 0 != some Ordering.eq then some (Value.bool false) else 
          (bif Op.floatEq FloatKind.f64 v.n 0 then 
           (bif FloatKind.f64.format.order ((Ieee.double.div 4607182418800017408 v.n).getD 0) 0 == some Ordering.lt then some (Value.bool false) else 
            (bif v.k != 5 then 
             (bif !v.s.toList == (ByteArray.mk #[]).toList then some (Value.bool false) else 
              (bif v.k != 6 then 
               (bif v.k != 7 then 
                (bif v.id != 0 then some (Value.bool false) else 
                 (bif v.k == 5 then 
                  (bif decide ((↑v.s.size : Int) ≤ 1048576) then 
                   (bif decide ((↑v.s.size : Int) ≤ 1048576) then some (Value.bool (units_Valid.val (v.s.size + 1) v.s 0 0)) else none) else some (Value.bool false)) else 
                  (bif v.k == 6 then 
                   (bif decide (v.id ≥ 1) then some (Value.bool (decide (v.id ≤ 65536))) else some (Value.bool false)) else 
                   (bif v.k == 7 then 
                    (bif decide (v.id ≥ 1) then some (Value.bool (decide (v.id ≤ 65536))) else some (Value.bool false)) else some (Value.bool true))))) else 
                (bif v.k == 5 then 
                 (bif decide ((↑v.s.size : Int) ≤ 1048576) then 
                  (bif decide ((↑v.s.size : Int) ≤ 1048576) then some (Value.bool (units_Valid.val (v.s.size + 1) v.s 0 0)) else none) else some (Value.bool false)) else 
                 (bif v.k == 6 then 
                  (bif decide (v.id ≥ 1) then some (Value.bool (decide (v.id ≤ 65536))) else some (Value.bool false)) else 
                  (bif v.k == 7 then 
                   (bif decide (v.id ≥ 1) then some (Value.bool (decide (v.id ≤ 65536))) else some (Value.bool false)) else some (Value.bool true))))) else 
               (bif v.k == 5 then 
                (bif decide ((↑v.s.size : Int) ≤ 1048576) then 
                 (bif decide ((↑v.s.size : Int) ≤ 1048576) then some (Value.bool (units_Valid.val (v.s.size + 1) v.s 0 0)) else none) else some (Value.bool false)) else 
                (bif v.k == 6 then 
                 (bif decide (v.id ≥ 1) then some (Value.bool (decide (v.id ≤ 65536))) else some (Value.bool false)) else 
                 (bif v.k == 7 then 
                  (bif decide (v.id ≥ 1) then some (Value.bool (decide (v.id ≤ 65536))) else some (Value.bool false)) else some (Value.bool true)))))) else 
             (bif v.k != 6 then 
              (bif v.k != 7 then 
               (bif v.id != 0 then some (Value.bool false) else 
                (bif v.k == 5 then 
                 (bif decide ((↑v.s.size : Int) ≤ 1048576) then 
                  (bif decide ((↑v.s.size : Int) ≤ 1048576) then some (Value.bool (units_Valid.val (v.s.size + 1) v.s 0 0)) else none) else some (Value.bool false)) else 
                 (bif v.k == 6 then 
                  (bif decide (v.id ≥ 1) then some (Value.bool (decide (v.id ≤ 65536))) else some (Value.bool false)) else 
                  (bif v.k == 7 then 
                   (bif decide (v.id ≥ 1) then some (Value.bool (decide (v.id ≤ 65536))) else some (Value.bool false)) else some (Value.bool true))))) else 
               (bif v.k == 5 then 
                (bif decide ((↑v.s.size : Int) ≤ 1048576) then 
                 (bif decide ((↑v.s.size : Int) ≤ 1048576) then some (Value.bool (units_Valid.val (v.s.size + 1) v.s 0 0)) else none) else some (Value.bool false)) else 
                (bif v.k == 6 then 
                 (bif decide (v.id ≥ 1) then some (Value.bool (decide (v.id ≤ 65536))) else some (Value.bool false)) else 
                 (bif v.k == 7 then 
                  (bif decide (v.id ≥ 1) then some (Value.bool (decide (v.id ≤ 65536))) else some (Value.bool false)) else some (Value.bool true))))) else 
              (bif v.k == 5 then 
               (bif decide ((↑v.s.size : Int) ≤ 1048576) then 
                (bif decide ((↑v.s.size : Int) ≤ 1048576) then some (Value.bool (units_Valid.val (v.s.size + 1) v.s 0 0)) else none) else some (Value.bool false)) else 
               (bif v.k == 6 then 
                (bif decide (v.id ≥ 1) then some (Value.bool (decide (v.id ≤ 65536))) else some (Value.bool false)) else 
                (bif v.k == 7 then 
                 (bif decide (v.id ≥ 1) then some (Value.bool (decide (v.id ≤ 65536))) else some (Value.bool false)) else some (Value.bool true))))))) else 
           (bif v.k != 5 then 
            (bif !v.s.toList == (ByteArray.mk #[]).toList then some (Value.bool false) else 
             (bif v.k != 6 then 
              (bif v.k != 7 then 
               (bif v.id != 0 then some (Value.bool false) else 
                (bif v.k == 5 then 
                 (bif decide ((↑v.s.size : Int) ≤ 1048576) then 
                  (bif decide ((↑v.s.size : Int) ≤ 1048576) then some (Value.bool (units_Valid.val (v.s.size + 1) v.s 0 0)) else none) else some (Value.bool false)) else 
                 (bif v.k == 6 then 
                  (bif decide (v.id ≥ 1) then some (Value.bool (decide (v.id ≤ 65536))) else some (Value.bool false)) else 
                  (bif v.k == 7 then 
                   (bif decide (v.id ≥ 1) then some (Value.bool (decide (v.id ≤ 65536))) else some (Value.bool false)) else some (Value.bool true))))) else 
               (bif v.k == 5 then 
                (bif decide ((↑v.s.size : Int) ≤ 1048576) then 
                 (bif decide ((↑v.s.size : Int) ≤ 1048576) then some (Value.bool (units_Valid.val (v.s.size + 1) v.s 0 0)) else none) else some (Value.bool false)) else 
                (bif v.k == 6 then 
                 (bif decide (v.id ≥ 1) then some (Value.bool (decide (v.id ≤ 65536))) else some (Value.bool false)) else 
                 (bif v.k == 7 then 
                  (bif decide (v.id ≥ 1) then some (Value.bool (decide (v.id ≤ 65536))) else some (Value.bool false)) else some (Value.bool true))))) else 
              (bif v.k == 5 then 
               (bif decide ((↑v.s.size : Int) ≤ 1048576) then 
                (bif decide ((↑v.s.size : Int) ≤ 1048576) then some (Value.bool (units_Valid.val (v.s.size + 1) v.s 0 0)) else none) else some (Value.bool false)) else 
               (bif v.k == 6 then 
                (bif decide (v.id ≥ 1) then some (Value.bool (decide (v.id ≤ 65536))) else some (Value.bool false)) else 
                (bif v.k == 7 then 
                 (bif decide (v.id ≥ 1) then some (Value.bool (decide (v.id ≤ 65536))) else some (Value.bool false)) else some (Value.bool true)))))) else 
            (bif v.k != 6 then 
             (bif v.k != 7 then 
              (bif v.id != 0 then some (Value.bool false) else 
               (bif v.k == 5 then 
                (bif decide ((↑v.s.size : Int) ≤ 1048576) then 
                 (bif decide ((↑v.s.size : Int) ≤ 1048576) then some (Value.bool (units_Valid.val (v.s.size + 1) v.s 0 0)) else none) else some (Value.bool false)) else 
                (bif v.k == 6 then 
                 (bif decide (v.id ≥ 1) then some (Value.bool (decide (v.id ≤ 65536))) else some (Value.bool false)) else 
                 (bif v.k == 7 then 
                  (bif decide (v.id ≥ 1) then some (Value.bool (decide (v.id ≤ 65536))) else some (Value.bool false)) else some (Value.bool true))))) else 
              (bif v.k == 5 then 
               (bif decide ((↑v.s.size : Int) ≤ 1048576) then 
                (bif decide ((↑v.s.size : Int) ≤ 1048576) then some (Value.bool (units_Valid.val (v.s.size + 1) v.s 0 0)) else none) else some (Value.bool false)) else 
               (bif v.k == 6 then 
                (bif decide (v.id ≥ 1) then some (Value.bool (decide (v.id ≤ 65536))) else some (Value.bool false)) else 
                (bif v.k == 7 then 
                 (bif decide (v.id ≥ 1) then some (Value.bool (decide (v.id ≤ 65536))) else some (Value.bool false)) else some (Value.bool true))))) else 
             (bif v.k == 5 then 
              (bif decide ((↑v.s.size : Int) ≤ 1048576) then 
               (bif decide ((↑v.s.size : Int) ≤ 1048576) then some (Value.bool (units_Valid.val (v.s.size + 1) v.s 0 0)) else none) else some (Value.bool false)) else 
              (bif v.k == 6 then 
               (bif decide (v.id ≥ 1) then some (Value.bool (decide (v.id ≤ 65536))) else some (Value.bool false)) else 
               (bif v.k == 7 then 
                (bif decide (v.id ≥ 1) then some (Value.bool (decide (v.id ≤ 65536))) else some (Value.bool false)) else some (Value.bool true)))))))) else 
         (bif v.k != 5 then 
          (bif !v.s.toList == (ByteArray.mk #[]).toList then some (Value.bool false) else 
           (bif v.k != 6 then 
            (bif v.k != 7 then 
             (bif v.id != 0 then some (Value.bool false) else 
              (bif v.k == 5 then 
               (bif decide ((↑v.s.size : Int) ≤ 1048576) then 
                (bif decide ((↑v.s.size : Int) ≤ 1048576) then some (Value.bool (units_Valid.val (v.s.size + 1) v.s 0 0)) else none) else some (Value.bool false)) else 
               (bif v.k == 6 then 
                (bif decide (v.id ≥ 1) then some (Value.bool (decide (v.id ≤ 65536))) else some (Value.bool false)) else 
                (bif v.k == 7 then 
                 (bif decide (v.id ≥ 1) then some (Value.bool (decide (v.id ≤ 65536))) else some (Value.bool false)) else some (Value.bool true))))) else 
             (bif v.k == 5 then 
              (bif decide ((↑v.s.size : Int) ≤ 1048576) then 
               (bif decide ((↑v.s.size : Int) ≤ 1048576) then some (Value.bool (units_Valid.val (v.s.size + 1) v.s 0 0)) else none) else some (Value.bool false)) else 
              (bif v.k == 6 then 
               (bif decide (v.id ≥ 1) then some (Value.bool (decide (v.id ≤ 65536))) else some (Value.bool false)) else 
               (bif v.k == 7 then 
                (bif decide (v.id ≥ 1) then some (Value.bool (decide (v.id ≤ 65536))) else some (Value.bool false)) else some (Value.bool true))))) else 
            (bif v.k == 5 then 
             (bif decide ((↑v.s.size : Int) ≤ 1048576) then 
              (bif decide ((↑v.s.size : Int) ≤ 1048576) then some (Value.bool (units_Valid.val (v.s.size + 1) v.s 0 0)) else none) else some (Value.bool false)) else 
             (bif v.k == 6 then 
              (bif decide (v.id ≥ 1) then some (Value.bool (decide (v.id ≤ 65536))) else some (Value.bool false)) else 
              (bif v.k == 7 then 
               (bif decide (v.id ≥ 1) then some (Value.bool (decide (v.id ≤ 65536))) else some (Value.bool false)) else some (Value.bool true)))))) else 
          (bif v.k != 6 then 
           (bif v.k != 7 then 
            (bif v.id != 0 then some (Value.bool false) else 
             (bif v.k == 5 then 
              (bif decide ((↑v.s.size : Int) ≤ 1048576) then 
               (bif decide ((↑v.s.size : Int) ≤ 1048576) then some (Value.bool (units_Valid.val (v.s.size + 1) v.s 0 0)) else none) else some (Value.bool false)) else 
              (bif v.k == 6 then 
               (bif decide (v.id ≥ 1) then some (Value.bool (decide (v.id ≤ 65536))) else some (Value.bool false)) else 
               (bif v.k == 7 then 
                (bif decide (v.id ≥ 1) then some (Value.bool (decide (v.id ≤ 65536))) else some (Value.bool false)) else some (Value.bool true))))) else 
            (bif v.k == 5 then 
             (bif decide ((↑v.s.size : Int) ≤ 1048576) then 
              (bif decide ((↑v.s.size : Int) ≤ 1048576) then some (Value.bool (units_Valid.val (v.s.size + 1) v.s 0 0)) else none) else some (Value.bool false)) else 
             (bif v.k == 6 then 
              (bif decide (v.id ≥ 1) then some (Value.bool (decide (v.id ≤ 65536))) else some (Value.bool false)) else 
              (bif v.k == 7 then 
               (bif decide (v.id ≥ 1) then some (Value.bool (decide (v.id ≤ 65536))) else some (Value.bool false)) else some (Value.bool true))))) else 
           (bif v.k == 5 then 
            (bif decide ((↑v.s.size : Int) ≤ 1048576) then 
             (bif decide ((↑v.s.size : Int) ≤ 1048576) then some (Value.bool (units_Valid.val (v.s.size + 1) v.s 0 0)) else none) else some (Value.bool false)) else 
            (bif v.k == 6 then 
             (bif decide (v.id ≥ 1) then some (Value.bool (decide (v.id ≤ 65536))) else some (Value.bool false)) else 
             (bif v.k == 7 then 
              (bif decide (v.id ≥ 1) then some (Value.bool (decide (v.id ≤ 65536))) else some (Value.bool false)) else some (Value.bool true)))))))) else 
       (bif v.k != 4 then 
        (bif FloatKind.f64.format.order v.n 0 != some Ordering.eq then some (Value.bool false) else 
         (bif Op.floatEq FloatKind.f64 v.n 0 then 
          (bif FloatKind.f64.format.order ((Ieee.double.div 4607182418800017408 v.n).getD 0) 0 == some Ordering.lt then some (Value.bool false) else 
           (bif v.k != 5 then 
            (bif !v.s.toList == (ByteArray.mk #[]).toList then some (Value.bool false) else 
             (bif v.k != 6 then 
              (bif v.k != 7 then 
               (bif v.id != 0 then some (Value.bool false) else 
                (bif v.k == 5 then 
                 (bif decide ((↑v.s.size : Int) ≤ 1048576) then 
                  (bif decide ((↑v.s.size : Int) ≤ 1048576) then some (Value.bool (units_Valid.val (v.s.size + 1) v.s 0 0)) else none) else some (Value.bool false)) else 
                 (bif v.k == 6 then 
                  (bif decide (v.id ≥ 1) then some (Value.bool (decide (v.id ≤ 65536))) else some (Value.bool false)) else 
                  (bif v.k == 7 then 
                   (bif decide (v.id ≥ 1) then some (Value.bool (decide (v.id ≤ 65536))) else some (Value.bool false)) else some (Value.bool true))))) else 
               (bif v.k == 5 then 
                (bif decide ((↑v.s.size : Int) ≤ 1048576) then 
                 (bif decide ((↑v.s.size : Int) ≤ 1048576) then some (Value.bool (units_Valid.val (v.s.size + 1) v.s 0 0)) else none) else some (Value.bool false)) else 
                (bif v.k == 6 then 
                 (bif decide (v.id ≥ 1) then some (Value.bool (decide (v.id ≤ 65536))) else some (Value.bool false)) else 
                 (bif v.k == 7 then 
                  (bif decide (v.id ≥ 1) then some (Value.bool (decide (v.id ≤ 65536))) else some (Value.bool false)) else some (Value.bool true))))) else 
              (bif v.k == 5 then 
               (bif decide ((↑v.s.size : Int) ≤ 1048576) then 
                (bif decide ((↑v.s.size : Int) ≤ 1048576) then some (Value.bool (units_Valid.val (v.s.size + 1) v.s 0 0)) else none) else some (Value.bool false)) else 
               (bif v.k == 6 then 
                (bif decide (v.id ≥ 1) then some (Value.bool (decide (v.id ≤ 65536))) else some (Value.bool false)) else 
                (bif v.k == 7 then 
                 (bif decide (v.id ≥ 1) then some (Value.bool (decide (v.id ≤ 65536))) else some (Value.bool false)) else some (Value.bool true)))))) else 
            (bif v.k != 6 then 
             (bif v.k != 7 then 
              (bif v.id != 0 then some (Value.bool false) else 
               (bif v.k == 5 then 
                (bif decide ((↑v.s.size : Int) ≤ 1048576) then 
                 (bif decide ((↑v.s.size : Int) ≤ 1048576) then some (Value.bool (units_Valid.val (v.s.size + 1) v.s 0 0)) else none) else some (Value.bool false)) else 
                (bif v.k == 6 then 
                 (bif decide (v.id ≥ 1) then some (Value.bool (decide (v.id ≤ 65536))) else some (Value.bool false)) else 
                 (bif v.k == 7 then 
                  (bif decide (v.id ≥ 1) then some (Value.bool (decide (v.id ≤ 65536))) else some (Value.bool false)) else some (Value.bool true))))) else 
              (bif v.k == 5 then 
               (bif decide ((↑v.s.size : Int) ≤ 1048576) then 
                (bif decide ((↑v.s.size : Int) ≤ 1048576) then some (Value.bool (units_Valid.val (v.s.size + 1) v.s 0 0)) else none) else some (Value.bool false)) else 
               (bif v.k == 6 then 
                (bif decide (v.id ≥ 1) then some (Value.bool (decide (v.id ≤ 65536))) else some (Value.bool false)) else 
                (bif v.k == 7 then 
                 (bif decide (v.id ≥ 1) then some (Value.bool (decide (v.id ≤ 65536))) else some (Value.bool false)) else some (Value.bool true))))) else 
             (bif v.k == 5 then 
              (bif decide ((↑v.s.size : Int) ≤ 1048576) then 
               (bif decide ((↑v.s.size : Int) ≤ 1048576) then some (Value.bool (units_Valid.val (v.s.size + 1) v.s 0 0)) else none) else some (Value.bool false)) else 
              (bif v.k == 6 then 
               (bif decide (v.id ≥ 1) then some (Value.bool (decide (v.id ≤ 65536))) else some (Value.bool false)) else 
               (bif v.k == 7 then 
                (bif decide (v.id ≥ 1) then some (Value.bool (decide (v.id ≤ 65536))) else some (Value.bool false)) else some (Value.bool true))))))) else 
          (bif v.k != 5 then 
           (bif !v.s.toList == (ByteArray.mk #[]).toList then some (Value.bool false) else 
            (bif v.k != 6 then 
             (bif v.k != 7 then 
              (bif v.id != 0 then some (Value.bool false) else 
               (bif v.k == 5 then 
                (bif decide ((↑v.s.size : Int) ≤ 1048576) then 
                 (bif decide ((↑v.s.size : Int) ≤ 1048576) then some (Value.bool (units_Valid.val (v.s.size + 1) v.s 0 0)) else none) else some (Value.bool false)) else 
                (bif v.k == 6 then 
                 (bif decide (v.id ≥ 1) then some (Value.bool (decide (v.id ≤ 65536))) else some (Value.bool false)) else 
                 (bif v.k == 7 then 
                  (bif decide (v.id ≥ 1) then some (Value.bool (decide (v.id ≤ 65536))) else some (Value.bool false)) else some (Value.bool true))))) else 
              (bif v.k == 5 then 
               (bif decide ((↑v.s.size : Int) ≤ 1048576) then 
                (bif decide ((↑v.s.size : Int) ≤ 1048576) then some (Value.bool (units_Valid.val (v.s.size + 1) v.s 0 0)) else none) else some (Value.bool false)) else 
               (bif v.k == 6 then 
                (bif decide (v.id ≥ 1) then some (Value.bool (decide (v.id ≤ 65536))) else some (Value.bool false)) else 
                (bif v.k == 7 then 
                 (bif decide (v.id ≥ 1) then some (Value.bool (decide (v.id ≤ 65536))) else some (Value.bool false)) else some (Value.bool true))))) else 
             (bif v.k == 5 then 
              (bif decide ((↑v.s.size : Int) ≤ 1048576) then 
               (bif decide ((↑v.s.size : Int) ≤ 1048576) then some (Value.bool (units_Valid.val (v.s.size + 1) v.s 0 0)) else none) else some (Value.bool false)) else 
              (bif v.k == 6 then 
               (bif decide (v.id ≥ 1) then some (Value.bool (decide (v.id ≤ 65536))) else some (Value.bool false)) else 
               (bif v.k == 7 then 
                (bif decide (v.id ≥ 1) then some (Value.bool (decide (v.id ≤ 65536))) else some (Value.bool false)) else some (Value.bool true)))))) else 
           (bif v.k != 6 then 
            (bif v.k != 7 then 
             (bif v.id != 0 then some (Value.bool false) else 
              (bif v.k == 5 then 
               (bif decide ((↑v.s.size : Int) ≤ 1048576) then 
                (bif decide ((↑v.s.size : Int) ≤ 1048576) then some (Value.bool (units_Valid.val (v.s.size + 1) v.s 0 0)) else none) else some (Value.bool false)) else 
               (bif v.k == 6 then 
                (bif decide (v.id ≥ 1) then some (Value.bool (decide (v.id ≤ 65536))) else some (Value.bool false)) else 
                (bif v.k == 7 then 
                 (bif decide (v.id ≥ 1) then some (Value.bool (decide (v.id ≤ 65536))) else some (Value.bool false)) else some (Value.bool true))))) else 
             (bif v.k == 5 then 
              (bif decide ((↑v.s.size : Int) ≤ 1048576) then 
               (bif decide ((↑v.s.size : Int) ≤ 1048576) then some (Value.bool (units_Valid.val (v.s.size + 1) v.s 0 0)) else none) else some (Value.bool false)) else 
              (bif v.k == 6 then 
               (bif decide (v.id ≥ 1) then some (Value.bool (decide (v.id ≤ 65536))) else some (Value.bool false)) else 
               (bif v.k == 7 then 
                (bif decide (v.id ≥ 1) then some (Value.bool (decide (v.id ≤ 65536))) else some (Value.bool false)) else some (Value.bool true))))) else 
            (bif v.k == 5 then 
             (bif decide ((↑v.s.size : Int) ≤ 1048576) then 
              (bif decide ((↑v.s.size : Int) ≤ 1048576) then some (Value.bool (units_Valid.val (v.s.size + 1) v.s 0 0)) else none) else some (Value.bool false)) else 
             (bif v.k == 6 then 
              (bif decide (v.id ≥ 1) then some (Value.bool (decide (v.id ≤ 65536))) else some (Value.bool false)) else 
              (bif v.k == 7 then 
               (bif decide (v.id ≥ 1) then some (Value.bool (decide (v.id ≤ 65536))) else some (Value.bool false)) else some (Value.bool true)))))))) else 
        (bif v.k != 5 then 
         (bif !v.s.toList == (ByteArray.mk #[]).toList then some (Value.bool false) else 
          (bif v.k != 6 then 
           (bif v.k != 7 then 
            (bif v.id != 0 then some (Value.bool false) else 
             (bif v.k == 5 then 
              (bif decide ((↑v.s.size : Int) ≤ 1048576) then 
               (bif decide ((↑v.s.size : Int) ≤ 1048576) then some (Value.bool (units_Valid.val (v.s.size + 1) v.s 0 0)) else none) else some (Value.bool false)) else 
              (bif v.k == 6 then 
               (bif decide (v.id ≥ 1) then some (Value.bool (decide (v.id ≤ 65536))) else some (Value.bool false)) else 
               (bif v.k == 7 then 
                (bif decide (v.id ≥ 1) then some (Value.bool (decide (v.id ≤ 65536))) else some (Value.bool false)) else some (Value.bool true))))) else 
            (bif v.k == 5 then 
             (bif decide ((↑v.s.size : Int) ≤ 1048576) then 
              (bif decide ((↑v.s.size : Int) ≤ 1048576) then some (Value.bool (units_Valid.val (v.s.size + 1) v.s 0 0)) else none) else some (Value.bool false)) else 
             (bif v.k == 6 then 
              (bif decide (v.id ≥ 1) then some (Value.bool (decide (v.id ≤ 65536))) else some (Value.bool false)) else 
              (bif v.k == 7 then 
               (bif decide (v.id ≥ 1) then some (Value.bool (decide (v.id ≤ 65536))) else some (Value.bool false)) else some (Value.bool true))))) else 
           (bif v.k == 5 then 
            (bif decide ((↑v.s.size : Int) ≤ 1048576) then 
             (bif decide ((↑v.s.size : Int) ≤ 1048576) then some (Value.bool (units_Valid.val (v.s.size + 1) v.s 0 0)) else none) else some (Value.bool false)) else 
            (bif v.k == 6 then 
             (bif decide (v.id ≥ 1) then some (Value.bool (decide (v.id ≤ 65536))) else some (Value.bool false)) else 
             (bif v.k == 7 then 
              (bif decide (v.id ≥ 1) then some (Value.bool (decide (v.id ≤ 65536))) else some (Value.bool false)) else some (Value.bool true)))))) else 
         (bif v.k != 6 then 
          (bif v.k != 7 then 
           (bif v.id != 0 then some (Value.bool false) else 
            (bif v.k == 5 then 
             (bif decide ((↑v.s.size : Int) ≤ 1048576) then 
              (bif decide ((↑v.s.size : Int) ≤ 1048576) then some (Value.bool (units_Valid.val (v.s.size + 1) v.s 0 0)) else none) else some (Value.bool false)) else 
             (bif v.k == 6 then 
              (bif decide (v.id ≥ 1) then some (Value.bool (decide (v.id ≤ 65536))) else some (Value.bool false)) else 
              (bif v.k == 7 then 
               (bif decide (v.id ≥ 1) then some (Value.bool (decide (v.id ≤ 65536))) else some (Value.bool false)) else some (Value.bool true))))) else 
           (bif v.k == 5 then 
            (bif decide ((↑v.s.size : Int) ≤ 1048576) then 
             (bif decide ((↑v.s.size : Int) ≤ 1048576) then some (Value.bool (units_Valid.val (v.s.size + 1) v.s 0 0)) else none) else some (Value.bool false)) else 
            (bif v.k == 6 then 
             (bif decide (v.id ≥ 1) then some (Value.bool (decide (v.id ≤ 65536))) else some (Value.bool false)) else 
             (bif v.k == 7 then 
              (bif decide (v.id ≥ 1) then some (Value.bool (decide (v.id ≤ 65536))) else some (Value.bool false)) else some (Value.bool true))))) else 
          (bif v.k == 5 then 
           (bif decide ((↑v.s.size : Int) ≤ 1048576) then 
            (bif decide ((↑v.s.size : Int) ≤ 1048576) then some (Value.bool (units_Valid.val (v.s.size + 1) v.s 0 0)) else none) else some (Value.bool false)) else 
           (bif v.k == 6 then 
            (bif decide (v.id ≥ 1) then some (Value.bool (decide (v.id ≤ 65536))) else some (Value.bool false)) else 
            (bif v.k == 7 then 
             (bif decide (v.id ≥ 1) then some (Value.bool (decide (v.id ≤ 65536))) else some (Value.bool false)) else some (Value.bool true))))))))))) (by kernel_rfl) (by
    simp only [T.rgood, T.B, DT.val_node, DT.val_leaf, DT.val_bad, DT.bind]
    repeat' (first | (with_reducible refine bif_neq (fun h => ?_) (fun h => ?_)) | (with_reducible refine bif_and (fun h => ?_) (fun h => ?_)) | (with_reducible refine bif_eq (fun h => ?_) (fun h => ?_)))
    all_goals first | (simp only [*, R.good, R.neg0, S.emp, cond_true, cond_false, Bool.and_true, Bool.true_and, Bool.and_false, Bool.false_and, Bool.or_true, Bool.true_or, Bool.or_false, Bool.false_or, Bool.not_true, Bool.not_false, beq_self_eq_true, bne_self_eq_false, Bool.not_not]; done) | (exfalso; simp_all [R.good, R.neg0, S.emp, Op.floatEq, leafIn.strOk, leafIn.idOk, szle, FloatEq.div_some', FloatEq.div_none']; done) | (simp_all [R.good, R.neg0, S.emp, Op.floatEq, leafIn.strOk, leafIn.idOk, szle, FloatEq.div_some', FloatEq.div_none']; done) | (simp_all [R.good, R.neg0, S.emp, Op.floatEq, leafIn.strOk, leafIn.idOk, szle, FloatEq.div_some', FloatEq.div_none']; omega) | grind [R.good, R.neg0, S.emp])
theorem ent_rgood : E (56, onV T.rgood) := byEv Ients4 60 fun args t h => by
  obtain ⟨v, rfl, rfl⟩ := onV_eq h
  exact ev_rgood v
abbrev IL5 : Tab := (56, onV T.rgood) :: IL4
theorem Ients5 : ∀ p ∈ IL5, E p := entries_cons ent_rgood Ients4
set_option maxHeartbeats 4000000 in
theorem ev_rslot (v : V) : evFn Tryd.prog ext (tab IL5) 40 57 [v.agg] = (T.rslot v).val :=
  Eq.trans (b := 
    (bif R.good v then 
     (bif v.k == 1 then some (Value.bool true) else some (Value.bool (v.k == 7))) else some (Value.bool false))) (by kernel_rfl) (by
    simp only [T.rslot, T.B, DT.val_node, DT.val_leaf, DT.val_bad, DT.bind]
    repeat' (first | (with_reducible refine bif_neq (fun h => ?_) (fun h => ?_)) | (with_reducible refine bif_and (fun h => ?_) (fun h => ?_)) | (with_reducible refine bif_eq (fun h => ?_) (fun h => ?_)))
    all_goals first | (simp only [*, R.slot, cond_true, cond_false, Bool.and_true, Bool.true_and, Bool.and_false, Bool.false_and, Bool.or_true, Bool.true_or, Bool.or_false, Bool.false_or, Bool.not_true, Bool.not_false, beq_self_eq_true, bne_self_eq_false, Bool.not_not]; done) | (exfalso; simp_all [R.slot]; done) | (simp_all [R.slot]; done) | grind [R.slot])
theorem ent_rslot : E (57, onV T.rslot) := byEv Ients5 40 fun args t h => by
  obtain ⟨v, rfl, rfl⟩ := onV_eq h
  exact ev_rslot v
abbrev IL6 : Tab := (57, onV T.rslot) :: IL5
theorem Ients6 : ∀ p ∈ IL6, E p := entries_cons ent_rslot Ients5
set_option maxHeartbeats 4000000 in
theorem ev_rcheck (d : D) : evFn Tryd.prog ext (tab IL6) 40 15 [d.agg] = (T.rcheck d).val :=
  Eq.trans (b := 
    (bif !S.absent d.v then 
     (bif !R.good d.v then some (Value.bool false) else 
      (bif !S.absent d.g then 
       (bif !R.slot d.g then some (Value.bool false) else 
        (bif !S.absent d.t then 
         (bif !R.slot d.t then some (Value.bool false) else 
          (bif !S.tri d.w then some (Value.bool false) else 
           (bif !S.tri d.e then some (Value.bool false) else 
            (bif !S.tri d.c then some (Value.bool false) else 
             (bif S.there d.v then 
              (bif S.there d.g then some (Value.bool !true) else some (Value.bool !S.there d.t)) else 
              (bif d.w != 0 then 
               (bif S.there d.g then some (Value.bool !true) else some (Value.bool !S.there d.t)) else some (Value.bool !false))))))) else 
         (bif !S.tri d.w then some (Value.bool false) else 
          (bif !S.tri d.e then some (Value.bool false) else 
           (bif !S.tri d.c then some (Value.bool false) else 
            (bif S.there d.v then 
             (bif S.there d.g then some (Value.bool !true) else some (Value.bool !S.there d.t)) else 
             (bif d.w != 0 then 
              (bif S.there d.g then some (Value.bool !true) else some (Value.bool !S.there d.t)) else some (Value.bool !false)))))))) else 
       (bif !S.absent d.t then 
        (bif !R.slot d.t then some (Value.bool false) else 
         (bif !S.tri d.w then some (Value.bool false) else 
          (bif !S.tri d.e then some (Value.bool false) else 
           (bif !S.tri d.c then some (Value.bool false) else 
            (bif S.there d.v then 
             (bif S.there d.g then some (Value.bool !true) else some (Value.bool !S.there d.t)) else 
             (bif d.w != 0 then 
              (bif S.there d.g then some (Value.bool !true) else some (Value.bool !S.there d.t)) else some (Value.bool !false))))))) else 
        (bif !S.tri d.w then some (Value.bool false) else 
         (bif !S.tri d.e then some (Value.bool false) else 
          (bif !S.tri d.c then some (Value.bool false) else 
           (bif S.there d.v then 
            (bif S.there d.g then some (Value.bool !true) else some (Value.bool !S.there d.t)) else 
            (bif d.w != 0 then 
             (bif S.there d.g then some (Value.bool !true) else some (Value.bool !S.there d.t)) else some (Value.bool !false))))))))) else 
     (bif !S.absent d.g then 
      (bif !R.slot d.g then some (Value.bool false) else 
       (bif !S.absent d.t then 
        (bif !R.slot d.t then some (Value.bool false) else 
         (bif !S.tri d.w then some (Value.bool false) else 
          (bif !S.tri d.e then some (Value.bool false) else 
           (bif !S.tri d.c then some (Value.bool false) else 
            (bif S.there d.v then 
             (bif S.there d.g then some (Value.bool !true) else some (Value.bool !S.there d.t)) else 
             (bif d.w != 0 then 
              (bif S.there d.g then some (Value.bool !true) else some (Value.bool !S.there d.t)) else some (Value.bool !false))))))) else 
        (bif !S.tri d.w then some (Value.bool false) else 
         (bif !S.tri d.e then some (Value.bool false) else 
          (bif !S.tri d.c then some (Value.bool false) else 
           (bif S.there d.v then 
            (bif S.there d.g then some (Value.bool !true) else some (Value.bool !S.there d.t)) else 
            (bif d.w != 0 then 
             (bif S.there d.g then some (Value.bool !true) else some (Value.bool !S.there d.t)) else some (Value.bool !false)))))))) else 
      (bif !S.absent d.t then 
       (bif !R.slot d.t then some (Value.bool false) else 
        (bif !S.tri d.w then some (Value.bool false) else 
         (bif !S.tri d.e then some (Value.bool false) else 
          (bif !S.tri d.c then some (Value.bool false) else 
           (bif S.there d.v then 
            (bif S.there d.g then some (Value.bool !true) else some (Value.bool !S.there d.t)) else 
            (bif d.w != 0 then 
             (bif S.there d.g then some (Value.bool !true) else some (Value.bool !S.there d.t)) else some (Value.bool !false))))))) else 
       (bif !S.tri d.w then some (Value.bool false) else 
        (bif !S.tri d.e then some (Value.bool false) else 
         (bif !S.tri d.c then some (Value.bool false) else 
          (bif S.there d.v then 
           (bif S.there d.g then some (Value.bool !true) else some (Value.bool !S.there d.t)) else 
           (bif d.w != 0 then 
            (bif S.there d.g then some (Value.bool !true) else some (Value.bool !S.there d.t)) else some (Value.bool !false)))))))))) (by kernel_rfl) (by
    simp only [T.rcheck, T.B, DT.val_node, DT.val_leaf, DT.val_bad, DT.bind]
    repeat' (first | (with_reducible refine bif_neq (fun h => ?_) (fun h => ?_)) | (with_reducible refine bif_and (fun h => ?_) (fun h => ?_)) | (with_reducible refine bif_eq (fun h => ?_) (fun h => ?_)))
    all_goals first | (simp only [*, R.check, S.hasD, S.hasA, cond_true, cond_false, Bool.and_true, Bool.true_and, Bool.and_false, Bool.false_and, Bool.or_true, Bool.true_or, Bool.or_false, Bool.false_or, Bool.not_true, Bool.not_false, beq_self_eq_true, bne_self_eq_false, Bool.not_not]; done) | (exfalso; simp_all [R.check, S.hasD, S.hasA]; done) | (simp_all [R.check, S.hasD, S.hasA]; done) | grind [R.check, S.hasD, S.hasA])
theorem ent_rcheck : E (15, onD T.rcheck) := byEv Ients6 40 fun args t h => by
  obtain ⟨d, rfl, rfl⟩ := onD_eq h
  exact ev_rcheck d
abbrev IL7 : Tab := (15, onD T.rcheck) :: IL6
theorem Ients7 : ∀ p ∈ IL7, E p := entries_cons ent_rcheck Ients6
set_option maxHeartbeats 4000000 in
theorem ev_risA (d : D) : evFn Tryd.prog ext (tab IL7) 40 20 [d.agg] = (T.risA d).val :=
  Eq.trans (b := 
    (bif R.check d then 
     (bif S.there d.g then some (Value.bool true) else some (Value.bool (S.there d.t))) else some (Value.bool false))) (by kernel_rfl) (by
    simp only [T.risA, T.B, DT.val_node, DT.val_leaf, DT.val_bad, DT.bind]
    repeat' (first | (with_reducible refine bif_neq (fun h => ?_) (fun h => ?_)) | (with_reducible refine bif_and (fun h => ?_) (fun h => ?_)) | (with_reducible refine bif_eq (fun h => ?_) (fun h => ?_)))
    all_goals first | (simp only [*, R.isA, S.hasA, cond_true, cond_false, Bool.and_true, Bool.true_and, Bool.and_false, Bool.false_and, Bool.or_true, Bool.true_or, Bool.or_false, Bool.false_or, Bool.not_true, Bool.not_false, beq_self_eq_true, bne_self_eq_false, Bool.not_not]; done) | (exfalso; simp_all [R.isA, S.hasA]; done) | (simp_all [R.isA, S.hasA]; done) | grind [R.isA, S.hasA])
theorem ent_risA : E (20, onD T.risA) := byEv Ients7 40 fun args t h => by
  obtain ⟨d, rfl, rfl⟩ := onD_eq h
  exact ev_risA d
abbrev IL8 : Tab := (20, onD T.risA) :: IL7
theorem Ients8 : ∀ p ∈ IL8, E p := entries_cons ent_risA Ients7
set_option maxHeartbeats 4000000 in
theorem ev_risD (d : D) : evFn Tryd.prog ext (tab IL8) 40 22 [d.agg] = (T.risD d).val :=
  Eq.trans (b := 
    (bif R.check d then 
     (bif S.there d.v then some (Value.bool true) else some (Value.bool (d.w != 0))) else some (Value.bool false))) (by kernel_rfl) (by
    simp only [T.risD, T.B, DT.val_node, DT.val_leaf, DT.val_bad, DT.bind]
    repeat' (first | (with_reducible refine bif_neq (fun h => ?_) (fun h => ?_)) | (with_reducible refine bif_and (fun h => ?_) (fun h => ?_)) | (with_reducible refine bif_eq (fun h => ?_) (fun h => ?_)))
    all_goals first | (simp only [*, R.isD, S.hasD, cond_true, cond_false, Bool.and_true, Bool.true_and, Bool.and_false, Bool.false_and, Bool.or_true, Bool.true_or, Bool.or_false, Bool.false_or, Bool.not_true, Bool.not_false, beq_self_eq_true, bne_self_eq_false, Bool.not_not]; done) | (exfalso; simp_all [R.isD, S.hasD]; done) | (simp_all [R.isD, S.hasD]; done) | grind [R.isD, S.hasD])
theorem ent_risD : E (22, onD T.risD) := byEv Ients8 40 fun args t h => by
  obtain ⟨d, rfl, rfl⟩ := onD_eq h
  exact ev_risD d
abbrev IL9 : Tab := (22, onD T.risD) :: IL8
theorem Ients9 : ∀ p ∈ IL9, E p := entries_cons ent_risD Ients8
set_option maxHeartbeats 4000000 in
theorem ev_risG (d : D) : evFn Tryd.prog ext (tab IL9) 40 24 [d.agg] = (T.risG d).val :=
  Eq.trans (b := 
    (bif R.check d then 
     (bif !R.isA d then some (Value.bool !R.isD d) else some (Value.bool false)) else some (Value.bool false))) (by kernel_rfl) (by
    simp only [T.risG, T.B, DT.val_node, DT.val_leaf, DT.val_bad, DT.bind]
    repeat' (first | (with_reducible refine bif_neq (fun h => ?_) (fun h => ?_)) | (with_reducible refine bif_and (fun h => ?_) (fun h => ?_)) | (with_reducible refine bif_eq (fun h => ?_) (fun h => ?_)))
    all_goals first | (simp only [*, R.isG, cond_true, cond_false, Bool.and_true, Bool.true_and, Bool.and_false, Bool.false_and, Bool.or_true, Bool.true_or, Bool.or_false, Bool.false_or, Bool.not_true, Bool.not_false, beq_self_eq_true, bne_self_eq_false, Bool.not_not]; done) | (exfalso; simp_all [R.isG]; done) | (simp_all [R.isG]; done) | grind [R.isG])
theorem ent_risG : E (24, onD T.risG) := byEv Ients9 40 fun args t h => by
  obtain ⟨d, rfl, rfl⟩ := onD_eq h
  exact ev_risG d
abbrev IL10 : Tab := (24, onD T.risG) :: IL9
theorem Ients10 : ∀ p ∈ IL10, E p := entries_cons ent_risG Ients9
set_option maxHeartbeats 4000000 in
theorem ev_rwhole (d : D) : evFn Tryd.prog ext (tab IL10) 40 26 [d.agg] = (T.rwhole d).val :=
  Eq.trans (b := 
    (bif !R.check d then some (Value.bool false) else 
     (bif d.e == 0 then some (Value.bool false) else 
      (bif d.c == 0 then some (Value.bool false) else 
       (bif S.there d.g then 
        (bif S.there d.t then some (Value.bool true) else 
         (bif S.there d.v then some (Value.bool (d.w != 0)) else some (Value.bool false))) else 
        (bif S.there d.v then some (Value.bool (d.w != 0)) else some (Value.bool false))))))) (by kernel_rfl) (by
    simp only [T.rwhole, T.B, DT.val_node, DT.val_leaf, DT.val_bad, DT.bind]
    repeat' (first | (with_reducible refine bif_neq (fun h => ?_) (fun h => ?_)) | (with_reducible refine bif_and (fun h => ?_) (fun h => ?_)) | (with_reducible refine bif_eq (fun h => ?_) (fun h => ?_)))
    all_goals first | (simp only [*, R.whole, cond_true, cond_false, Bool.and_true, Bool.true_and, Bool.and_false, Bool.false_and, Bool.or_true, Bool.true_or, Bool.or_false, Bool.false_or, Bool.not_true, Bool.not_false, beq_self_eq_true, bne_self_eq_false, Bool.not_not]; done) | (exfalso; simp_all [R.whole]; done) | (simp_all [R.whole]; done) | grind [R.whole])
theorem ent_rwhole : E (26, onD T.rwhole) := byEv Ients10 40 fun args t h => by
  obtain ⟨d, rfl, rfl⟩ := onD_eq h
  exact ev_rwhole d
abbrev IL11 : Tab := (26, onD T.rwhole) :: IL10
theorem Ients11 : ∀ p ∈ IL11, E p := entries_cons ent_rwhole Ients10
set_option maxHeartbeats 4000000 in
theorem ev_fillV (v : V) : evFn Tryd.prog ext (tab IL11) 40 60 [v.agg] = (T.fillV v).val :=
  Eq.trans (b := 
    (bif S.there v then some (v.agg) else some ((V.mk 1 false 0 (ByteArray.mk #[]) 0).agg))) (by kernel_rfl) (by
    simp only [T.fillV, DT.val_node, DT.val_leaf, DT.val_bad, DT.bind]
    repeat' (first | (with_reducible refine bif_neq (fun h => ?_) (fun h => ?_)) | (with_reducible refine bif_and (fun h => ?_) (fun h => ?_)) | (with_reducible refine bif_eq (fun h => ?_) (fun h => ?_)))
    all_goals first | (simp only [*, S.fill, S.VU, cond_true, cond_false, Bool.and_true, Bool.true_and, Bool.and_false, Bool.false_and, Bool.or_true, Bool.true_or, Bool.or_false, Bool.false_or, Bool.not_true, Bool.not_false, beq_self_eq_true, bne_self_eq_false, Bool.not_not]; done) | (exfalso; simp_all [S.fill, S.VU]; done) | (simp_all [S.fill, S.VU]; done) | grind [S.fill, S.VU])
theorem ent_fillV : E (60, onV T.fillV) := byEv Ients11 40 fun args t h => by
  obtain ⟨v, rfl, rfl⟩ := onV_eq h
  exact ev_fillV v
abbrev IL12 : Tab := (60, onV T.fillV) :: IL11
theorem Ients12 : ∀ p ∈ IL12, E p := entries_cons ent_fillV Ients11
set_option maxHeartbeats 4000000 in
theorem ev_noT (t : Int) : evFn Tryd.prog ext (tab IL12) 40 61 [.int .i64 t] = (T.noT t).val :=
  Eq.trans (b := 
    (bif t == 0 then some (Value.int IntKind.i64 1) else some (Value.int IntKind.i64 t))) (by kernel_rfl) (by
    simp only [T.noT, DT.val_node, DT.val_leaf, DT.val_bad, DT.bind]
    repeat' (first | (with_reducible refine bif_neq (fun h => ?_) (fun h => ?_)) | (with_reducible refine bif_and (fun h => ?_) (fun h => ?_)) | (with_reducible refine bif_eq (fun h => ?_) (fun h => ?_)))
    all_goals first | (simp only [*, S.no, cond_true, cond_false, Bool.and_true, Bool.true_and, Bool.and_false, Bool.false_and, Bool.or_true, Bool.true_or, Bool.or_false, Bool.false_or, Bool.not_true, Bool.not_false, beq_self_eq_true, bne_self_eq_false, Bool.not_not]; done) | (exfalso; simp_all [S.no]; done) | (simp_all [S.no]; done) | grind [S.no])
theorem ent_noT : E (61, onI T.noT) := byEv Ients12 40 fun args t h => by
  obtain ⟨t, rfl, rfl⟩ := onI_eq h
  exact ev_noT t
abbrev IL13 : Tab := (61, onI T.noT) :: IL12
theorem Ients13 : ∀ p ∈ IL13, E p := entries_cons ent_noT Ients12
set_option maxHeartbeats 4000000 in
theorem ev_filled (d : D) : evFn Tryd.prog ext (tab IL13) 60 18 [d.agg] = (T.filled d).val :=
  Eq.trans (b := 
    (bif R.isA d then some ((D.mk d.v (S.fill d.g) (S.fill d.t) d.w (S.no d.e 1) (S.no d.c 1)).agg) else some ((D.mk (S.fill d.v) d.g d.t (S.no d.w 1) (S.no d.e 1) (S.no d.c 1)).agg))) (by kernel_rfl) (by
    simp only [T.filled, DT.val_node, DT.val_leaf, DT.val_bad, DT.bind]
    repeat' (first | (with_reducible refine bif_neq (fun h => ?_) (fun h => ?_)) | (with_reducible refine bif_and (fun h => ?_) (fun h => ?_)) | (with_reducible refine bif_eq (fun h => ?_) (fun h => ?_)))
    all_goals first | (simp only [*, R.filled, cond_true, cond_false, Bool.and_true, Bool.true_and, Bool.and_false, Bool.false_and, Bool.or_true, Bool.true_or, Bool.or_false, Bool.false_or, Bool.not_true, Bool.not_false, beq_self_eq_true, bne_self_eq_false, Bool.not_not]; done) | (exfalso; simp_all [R.filled]; done) | (simp_all [R.filled]; done) | grind [R.filled])
theorem ent_filled : E (18, onD T.filled) := byEv Ients13 60 fun args t h => by
  obtain ⟨d, rfl, rfl⟩ := onD_eq h
  exact ev_filled d
abbrev IL14 : Tab := (18, onD T.filled) :: IL13
theorem Ients14 : ∀ p ∈ IL14, E p := entries_cons ent_filled Ients13
set_option maxHeartbeats 4000000 in
theorem ev_rfreeze (d : D) : evFn Tryd.prog ext (tab IL14) 60 14 [d.agg] = (T.rfreeze d).val :=
  Eq.trans (b := 
    (bif !R.whole d then some (Value.tuple #[(D.mk (V.mk 0 false 0 (ByteArray.mk #[]) 0) (V.mk 0 false 0 (ByteArray.mk #[]) 0) (V.mk 0 false 0 (ByteArray.mk #[]) 0) 0 0 0).agg, Value.int IntKind.i64 5]) else 
     (bif R.isD d then some (Value.tuple #[(D.mk (V.mk 0 false 0 (ByteArray.mk #[]) 0) (V.mk 0 false 0 (ByteArray.mk #[]) 0) (V.mk 0 false 0 (ByteArray.mk #[]) 0) 1 0 1).agg, Value.int IntKind.i64 0]) else some (Value.tuple #[(D.mk (V.mk 0 false 0 (ByteArray.mk #[]) 0) (V.mk 0 false 0 (ByteArray.mk #[]) 0) (V.mk 0 false 0 (ByteArray.mk #[]) 0) 0 0 1).agg, Value.int IntKind.i64 0])))) (by kernel_rfl) (by
    simp only [T.rfreeze, DT.val_node, DT.val_leaf, DT.val_bad, DT.bind]
    repeat' (first | (with_reducible refine bif_neq (fun h => ?_) (fun h => ?_)) | (with_reducible refine bif_and (fun h => ?_) (fun h => ?_)) | (with_reducible refine bif_eq (fun h => ?_) (fun h => ?_)))
    all_goals first | (simp only [*, S.V0, S.D0, cond_true, cond_false, Bool.and_true, Bool.true_and, Bool.and_false, Bool.false_and, Bool.or_true, Bool.true_or, Bool.or_false, Bool.false_or, Bool.not_true, Bool.not_false, beq_self_eq_true, bne_self_eq_false, Bool.not_not]; done) | (exfalso; simp_all [S.V0, S.D0]; done) | (simp_all [S.V0, S.D0]; done) | grind [S.V0, S.D0])
theorem ent_rfreeze : E (14, onD T.rfreeze) := byEv Ients14 60 fun args t h => by
  obtain ⟨d, rfl, rfl⟩ := onD_eq h
  exact ev_rfreeze d
abbrev IL15 : Tab := (14, onD T.rfreeze) :: IL14
theorem Ients15 : ∀ p ∈ IL15, E p := entries_cons ent_rfreeze Ients14
end Go.Proofs.YtaojjpdlfnphiaaDoor.PDescKinds
end
section
/- Contracts by evaluation: what each function of a list answers. Written by a program of this session. -/
namespace Go.Proofs.YtaojjpdlfnphiaaDoor.PDescKinds
open Go.RowKit Go.Ev
set_option linter.unusedSimpArgs false
set_option linter.unusedVariables false
set_option maxRecDepth 100000
set_option maxHeartbeats 4000000 in
theorem ev_ris (a b : V) : evFn Tryd.prog ext (tab IL15) 40 100 [a.agg, b.agg] = (T.ris a b).val :=
  Eq.trans (b := 
    (bif a.k != b.k then some (Value.bool false) else 
     (bif a.k == 4 then 
      (bif FloatKind.f64.format.order a.n a.n != some Ordering.eq then 
       (bif FloatKind.f64.format.order a.n a.n != some Ordering.eq then some (Value.bool (FloatKind.f64.format.order b.n b.n != some Ordering.eq)) else some (Value.bool false)) else 
       (bif FloatKind.f64.format.order b.n b.n != some Ordering.eq then 
        (bif FloatKind.f64.format.order a.n a.n != some Ordering.eq then some (Value.bool (FloatKind.f64.format.order b.n b.n != some Ordering.eq)) else some (Value.bool false)) else 
        (bif FloatKind.f64.format.order a.n b.n == some Ordering.eq then 
         (bif Op.floatEq FloatKind.f64 a.n 0 then 
          (bif Op.floatEq FloatKind.f64 b.n 0 then some (Value.bool ((FloatKind.f64.format.order ((Ieee.double.div 4607182418800017408 a.n).getD 0) 0 == some Ordering.lt) == (FloatKind.f64.format.order ((Ieee.double.div 4607182418800017408 b.n).getD 0) 0 == some Ordering.lt))) else some (Value.bool ((FloatKind.f64.format.order ((Ieee.double.div 4607182418800017408 a.n).getD 0) 0 == some Ordering.lt) == false))) else 
          (bif Op.floatEq FloatKind.f64 b.n 0 then some (Value.bool (false == (FloatKind.f64.format.order ((Ieee.double.div 4607182418800017408 b.n).getD 0) 0 == some Ordering.lt))) else some (Value.bool (false == false)))) else some (Value.bool false)))) else 
      (bif a.b == b.b then 
       (bif a.s.toList == b.s.toList then some (Value.bool (a.id == b.id)) else some (Value.bool false)) else some (Value.bool false))))) (by kernel_rfl) (by
    simp only [T.ris, T.B, DT.val_node, DT.val_leaf, DT.val_bad, DT.bind]
    repeat' (first | (with_reducible refine bif_neq (fun h => ?_) (fun h => ?_)) | (with_reducible refine bif_and (fun h => ?_) (fun h => ?_)) | (with_reducible refine bif_eq (fun h => ?_) (fun h => ?_)))
    all_goals first | (simp only [*, R.is, R.numIs, S.nan, S.feq, R.neg0, cond_true, cond_false, Bool.and_true, Bool.true_and, Bool.and_false, Bool.false_and, Bool.or_true, Bool.true_or, Bool.or_false, Bool.false_or, Bool.not_true, Bool.not_false, beq_self_eq_true, bne_self_eq_false, Bool.not_not]; done) | (exfalso; simp_all [R.is, R.numIs, S.nan, S.feq, R.neg0]; done) | (simp_all [R.is, R.numIs, S.nan, S.feq, R.neg0]; done) | grind [R.is, R.numIs, S.nan, S.feq, R.neg0])
theorem ent_ris : E (100, onVV T.ris) := byEv Ients15 40 fun args t h => by
  obtain ⟨a, b, rfl, rfl⟩ := onVV_eq h
  exact ev_ris a b
abbrev IL16 : Tab := (100, onVV T.ris) :: IL15
theorem Ients16 : ∀ p ∈ IL16, E p := entries_cons ent_ris Ients15
set_option maxHeartbeats 4000000 in
theorem ev_rsame (a b : V) : evFn Tryd.prog ext (tab IL16) 40 72 [a.agg, b.agg] = (T.rsame a b).val :=
  Eq.trans (b := 
    (bif !S.there a then some (Value.bool (S.there a == S.there b)) else 
     (bif !S.there b then some (Value.bool (S.there a == S.there b)) else some (Value.bool (R.is a b))))) (by kernel_rfl) (by
    simp only [T.rsame, T.B, DT.val_node, DT.val_leaf, DT.val_bad, DT.bind]
    repeat' (first | (with_reducible refine bif_neq (fun h => ?_) (fun h => ?_)) | (with_reducible refine bif_and (fun h => ?_) (fun h => ?_)) | (with_reducible refine bif_eq (fun h => ?_) (fun h => ?_)))
    all_goals first | (simp only [*, R.same, cond_true, cond_false, Bool.and_true, Bool.true_and, Bool.and_false, Bool.false_and, Bool.or_true, Bool.true_or, Bool.or_false, Bool.false_or, Bool.not_true, Bool.not_false, beq_self_eq_true, bne_self_eq_false, Bool.not_not]; done) | (exfalso; simp_all [R.same]; done) | (simp_all [R.same]; done) | grind [R.same])
theorem ent_rsame : E (72, onVV T.rsame) := byEv Ients16 40 fun args t h => by
  obtain ⟨a, b, rfl, rfl⟩ := onVV_eq h
  exact ev_rsame a b
abbrev IL17 : Tab := (72, onVV T.rsame) :: IL16
theorem Ients17 : ∀ p ∈ IL17, E p := entries_cons ent_rsame Ients16
set_option maxHeartbeats 4000000 in
theorem ev_risDD (a b : D) : evFn Tryd.prog ext (tab IL17) 40 34 [a.agg, b.agg] = (T.risDD a b).val :=
  Eq.trans (b := 
    (bif R.same a.v b.v then 
     (bif R.same a.g b.g then 
      (bif R.same a.t b.t then 
       (bif a.w == b.w then 
        (bif a.e == b.e then some (Value.bool (a.c == b.c)) else some (Value.bool false)) else some (Value.bool false)) else some (Value.bool false)) else some (Value.bool false)) else some (Value.bool false))) (by kernel_rfl) (by
    simp only [T.risDD, T.B, DT.val_node, DT.val_leaf, DT.val_bad, DT.bind]
    repeat' (first | (with_reducible refine bif_neq (fun h => ?_) (fun h => ?_)) | (with_reducible refine bif_and (fun h => ?_) (fun h => ?_)) | (with_reducible refine bif_eq (fun h => ?_) (fun h => ?_)))
    all_goals first | (simp only [*, R.isDD, cond_true, cond_false, Bool.and_true, Bool.true_and, Bool.and_false, Bool.false_and, Bool.or_true, Bool.true_or, Bool.or_false, Bool.false_or, Bool.not_true, Bool.not_false, beq_self_eq_true, bne_self_eq_false, Bool.not_not]; done) | (exfalso; simp_all [R.isDD]; done) | (simp_all [R.isDD]; done) | grind [R.isDD])
theorem ent_risDD : E (34, onDD T.risDD) := byEv Ients17 40 fun args t h => by
  obtain ⟨a, b, rfl, rfl⟩ := onDD_eq h
  exact ev_risDD a b
abbrev IL18 : Tab := (34, onDD T.risDD) :: IL17
theorem Ients18 : ∀ p ∈ IL18, E p := entries_cons ent_risDD Ients17
set_option maxHeartbeats 4000000 in
theorem ev_rzero (d : D) : evFn Tryd.prog ext (tab IL18) 40 69 [d.agg] = (T.rzero d).val :=
  Eq.trans (b := 
    (bif S.absent d.v then 
     (bif S.absent d.g then 
      (bif S.absent d.t then 
       (bif d.w == 0 then 
        (bif d.e == 0 then some (Value.bool (d.c == 0)) else some (Value.bool false)) else some (Value.bool false)) else some (Value.bool false)) else some (Value.bool false)) else some (Value.bool false))) (by kernel_rfl) (by
    simp only [T.rzero, T.B, DT.val_node, DT.val_leaf, DT.val_bad, DT.bind]
    repeat' (first | (with_reducible refine bif_neq (fun h => ?_) (fun h => ?_)) | (with_reducible refine bif_and (fun h => ?_) (fun h => ?_)) | (with_reducible refine bif_eq (fun h => ?_) (fun h => ?_)))
    all_goals first | (simp only [*, R.zero, cond_true, cond_false, Bool.and_true, Bool.true_and, Bool.and_false, Bool.false_and, Bool.or_true, Bool.true_or, Bool.or_false, Bool.false_or, Bool.not_true, Bool.not_false, beq_self_eq_true, bne_self_eq_false, Bool.not_not]; done) | (exfalso; simp_all [R.zero]; done) | (simp_all [R.zero]; done) | grind [R.zero])
theorem ent_rzero : E (69, onD T.rzero) := byEv Ients18 40 fun args t h => by
  obtain ⟨d, rfl, rfl⟩ := onD_eq h
  exact ev_rzero d
abbrev IL19 : Tab := (69, onD T.rzero) :: IL18
theorem Ients19 : ∀ p ∈ IL19, E p := entries_cons ent_rzero Ients18
set_option maxHeartbeats 4000000 in
theorem ev_rrefused (a b : D) : evFn Tryd.prog ext (tab IL19) 60 70 [a.agg, b.agg] = (T.rrefused a b).val :=
  Eq.trans (b := 
    (bif b.c == 2 then some (Value.bool true) else 
     (bif b.e != 0 then 
      (bif b.e != a.e then some (Value.bool true) else 
       (bif R.isA b then 
        (bif R.isD a then some (Value.bool true) else 
         (bif R.isD b then 
          (bif R.isA a then some (Value.bool true) else 
           (bif R.isA a then 
            (bif S.there b.g then 
             (bif !R.same b.g a.g then some (Value.bool true) else 
              (bif S.there b.t then some (Value.bool !R.same b.t a.t) else some (Value.bool false))) else 
             (bif S.there b.t then some (Value.bool !R.same b.t a.t) else some (Value.bool false))) else 
            (bif a.w == 1 then 
             (bif b.w == 2 then some (Value.bool true) else 
              (bif S.there b.v then some (Value.bool !R.same b.v a.v) else some (Value.bool false))) else some (Value.bool false)))) else 
          (bif R.isA a then 
           (bif S.there b.g then 
            (bif !R.same b.g a.g then some (Value.bool true) else 
             (bif S.there b.t then some (Value.bool !R.same b.t a.t) else some (Value.bool false))) else 
            (bif S.there b.t then some (Value.bool !R.same b.t a.t) else some (Value.bool false))) else 
           (bif a.w == 1 then 
            (bif b.w == 2 then some (Value.bool true) else 
             (bif S.there b.v then some (Value.bool !R.same b.v a.v) else some (Value.bool false))) else some (Value.bool false))))) else 
        (bif R.isD b then 
         (bif R.isA a then some (Value.bool true) else 
          (bif R.isA a then 
           (bif S.there b.g then 
            (bif !R.same b.g a.g then some (Value.bool true) else 
             (bif S.there b.t then some (Value.bool !R.same b.t a.t) else some (Value.bool false))) else 
            (bif S.there b.t then some (Value.bool !R.same b.t a.t) else some (Value.bool false))) else 
           (bif a.w == 1 then 
            (bif b.w == 2 then some (Value.bool true) else 
             (bif S.there b.v then some (Value.bool !R.same b.v a.v) else some (Value.bool false))) else some (Value.bool false)))) else 
         (bif R.isA a then 
          (bif S.there b.g then 
           (bif !R.same b.g a.g then some (Value.bool true) else 
            (bif S.there b.t then some (Value.bool !R.same b.t a.t) else some (Value.bool false))) else 
           (bif S.there b.t then some (Value.bool !R.same b.t a.t) else some (Value.bool false))) else 
          (bif a.w == 1 then 
           (bif b.w == 2 then some (Value.bool true) else 
            (bif S.there b.v then some (Value.bool !R.same b.v a.v) else some (Value.bool false))) else some (Value.bool false)))))) else 
      (bif R.isA b then 
       (bif R.isD a then some (Value.bool true) else 
        (bif R.isD b then 
         (bif R.isA a then some (Value.bool true) else 
          (bif R.isA a then 
           (bif S.there b.g then 
            (bif !R.same b.g a.g then some (Value.bool true) else 
             (bif S.there b.t then some (Value.bool !R.same b.t a.t) else some (Value.bool false))) else 
            (bif S.there b.t then some (Value.bool !R.same b.t a.t) else some (Value.bool false))) else 
           (bif a.w == 1 then 
            (bif b.w == 2 then some (Value.bool true) else 
             (bif S.there b.v then some (Value.bool !R.same b.v a.v) else some (Value.bool false))) else some (Value.bool false)))) else 
         (bif R.isA a then 
          (bif S.there b.g then 
           (bif !R.same b.g a.g then some (Value.bool true) else 
            (bif S.there b.t then some (Value.bool !R.same b.t a.t) else some (Value.bool false))) else 
           (bif S.there b.t then some (Value.bool !R.same b.t a.t) else some (Value.bool false))) else 
          (bif a.w == 1 then 
           (bif b.w == 2 then some (Value.bool true) else 
            (bif S.there b.v then some (Value.bool !R.same b.v a.v) else some (Value.bool false))) else some (Value.bool false))))) else 
       (bif R.isD b then 
        (bif R.isA a then some (Value.bool true) else 
         (bif R.isA a then 
          (bif S.there b.g then 
           (bif !R.same b.g a.g then some (Value.bool true) else 
            (bif S.there b.t then some (Value.bool !R.same b.t a.t) else some (Value.bool false))) else 
           (bif S.there b.t then some (Value.bool !R.same b.t a.t) else some (Value.bool false))) else 
          (bif a.w == 1 then 
           (bif b.w == 2 then some (Value.bool true) else 
            (bif S.there b.v then some (Value.bool !R.same b.v a.v) else some (Value.bool false))) else some (Value.bool false)))) else 
        (bif R.isA a then 
         (bif S.there b.g then 
          (bif !R.same b.g a.g then some (Value.bool true) else 
           (bif S.there b.t then some (Value.bool !R.same b.t a.t) else some (Value.bool false))) else 
          (bif S.there b.t then some (Value.bool !R.same b.t a.t) else some (Value.bool false))) else 
         (bif a.w == 1 then 
          (bif b.w == 2 then some (Value.bool true) else 
           (bif S.there b.v then some (Value.bool !R.same b.v a.v) else some (Value.bool false))) else some (Value.bool false)))))))) (by kernel_rfl) (by
    simp only [T.rrefused, T.B, DT.val_node, DT.val_leaf, DT.val_bad, DT.bind]
    repeat' (first | (with_reducible refine bif_neq (fun h => ?_) (fun h => ?_)) | (with_reducible refine bif_and (fun h => ?_) (fun h => ?_)) | (with_reducible refine bif_eq (fun h => ?_) (fun h => ?_)))
    all_goals first | (simp only [*, R.refused, cond_true, cond_false, Bool.and_true, Bool.true_and, Bool.and_false, Bool.false_and, Bool.or_true, Bool.true_or, Bool.or_false, Bool.false_or, Bool.not_true, Bool.not_false, beq_self_eq_true, bne_self_eq_false, Bool.not_not]; done) | (exfalso; simp_all [R.refused]; done) | (simp_all [R.refused]; done) | grind [R.refused])
theorem ent_rrefused : E (70, onDD T.rrefused) := byEv Ients19 60 fun args t h => by
  obtain ⟨a, b, rfl, rfl⟩ := onDD_eq h
  exact ev_rrefused a b
abbrev IL20 : Tab := (70, onDD T.rrefused) :: IL19
theorem Ients20 : ∀ p ∈ IL20, E p := entries_cons ent_rrefused Ients19
set_option maxHeartbeats 4000000 in
theorem ev_rbecome (a b : D) : evFn Tryd.prog ext (tab IL20) 80 71 [a.agg, b.agg] = (T.rbecome a b).val :=
  Eq.trans (b := 
    (bif R.isD a then 
     (bif R.isA b then 
      (bif b.e == 0 then 
       (bif b.c == 0 then some ((R.filled (D.mk b.v b.g b.t b.w a.e a.c)).agg) else some ((R.filled (D.mk b.v b.g b.t b.w a.e b.c)).agg)) else 
       (bif b.c == 0 then some ((R.filled (D.mk b.v b.g b.t b.w b.e a.c)).agg) else some ((R.filled b).agg))) else 
      (bif R.isA a then 
       (bif R.isD b then 
        (bif b.e == 0 then 
         (bif b.c == 0 then some ((R.filled (D.mk b.v b.g b.t b.w a.e a.c)).agg) else some ((R.filled (D.mk b.v b.g b.t b.w a.e b.c)).agg)) else 
         (bif b.c == 0 then some ((R.filled (D.mk b.v b.g b.t b.w b.e a.c)).agg) else some ((R.filled b).agg))) else 
        (bif S.there b.v then 
         (bif S.there b.g then 
          (bif S.there b.t then 
           (bif b.w != 0 then 
            (bif b.e != 0 then 
             (bif b.c != 0 then some (b.agg) else some ((D.mk b.v b.g b.t b.w b.e a.c).agg)) else 
             (bif b.c != 0 then some ((D.mk b.v b.g b.t b.w a.e b.c).agg) else some ((D.mk b.v b.g b.t b.w a.e a.c).agg))) else 
            (bif b.e != 0 then 
             (bif b.c != 0 then some ((D.mk b.v b.g b.t a.w b.e b.c).agg) else some ((D.mk b.v b.g b.t a.w b.e a.c).agg)) else 
             (bif b.c != 0 then some ((D.mk b.v b.g b.t a.w a.e b.c).agg) else some ((D.mk b.v b.g b.t a.w a.e a.c).agg)))) else 
           (bif b.w != 0 then 
            (bif b.e != 0 then 
             (bif b.c != 0 then some ((D.mk b.v b.g a.t b.w b.e b.c).agg) else some ((D.mk b.v b.g a.t b.w b.e a.c).agg)) else 
             (bif b.c != 0 then some ((D.mk b.v b.g a.t b.w a.e b.c).agg) else some ((D.mk b.v b.g a.t b.w a.e a.c).agg))) else 
            (bif b.e != 0 then 
             (bif b.c != 0 then some ((D.mk b.v b.g a.t a.w b.e b.c).agg) else some ((D.mk b.v b.g a.t a.w b.e a.c).agg)) else 
             (bif b.c != 0 then some ((D.mk b.v b.g a.t a.w a.e b.c).agg) else some ((D.mk b.v b.g a.t a.w a.e a.c).agg))))) else 
          (bif S.there b.t then 
           (bif b.w != 0 then 
            (bif b.e != 0 then 
             (bif b.c != 0 then some ((D.mk b.v a.g b.t b.w b.e b.c).agg) else some ((D.mk b.v a.g b.t b.w b.e a.c).agg)) else 
             (bif b.c != 0 then some ((D.mk b.v a.g b.t b.w a.e b.c).agg) else some ((D.mk b.v a.g b.t b.w a.e a.c).agg))) else 
            (bif b.e != 0 then 
             (bif b.c != 0 then some ((D.mk b.v a.g b.t a.w b.e b.c).agg) else some ((D.mk b.v a.g b.t a.w b.e a.c).agg)) else 
             (bif b.c != 0 then some ((D.mk b.v a.g b.t a.w a.e b.c).agg) else some ((D.mk b.v a.g b.t a.w a.e a.c).agg)))) else 
           (bif b.w != 0 then 
            (bif b.e != 0 then 
             (bif b.c != 0 then some ((D.mk b.v a.g a.t b.w b.e b.c).agg) else some ((D.mk b.v a.g a.t b.w b.e a.c).agg)) else 
             (bif b.c != 0 then some ((D.mk b.v a.g a.t b.w a.e b.c).agg) else some ((D.mk b.v a.g a.t b.w a.e a.c).agg))) else 
            (bif b.e != 0 then 
             (bif b.c != 0 then some ((D.mk b.v a.g a.t a.w b.e b.c).agg) else some ((D.mk b.v a.g a.t a.w b.e a.c).agg)) else 
             (bif b.c != 0 then some ((D.mk b.v a.g a.t a.w a.e b.c).agg) else some ((D.mk b.v a.g a.t a.w a.e a.c).agg)))))) else 
         (bif S.there b.g then 
          (bif S.there b.t then 
           (bif b.w != 0 then 
            (bif b.e != 0 then 
             (bif b.c != 0 then some ((D.mk a.v b.g b.t b.w b.e b.c).agg) else some ((D.mk a.v b.g b.t b.w b.e a.c).agg)) else 
             (bif b.c != 0 then some ((D.mk a.v b.g b.t b.w a.e b.c).agg) else some ((D.mk a.v b.g b.t b.w a.e a.c).agg))) else 
            (bif b.e != 0 then 
             (bif b.c != 0 then some ((D.mk a.v b.g b.t a.w b.e b.c).agg) else some ((D.mk a.v b.g b.t a.w b.e a.c).agg)) else 
             (bif b.c != 0 then some ((D.mk a.v b.g b.t a.w a.e b.c).agg) else some ((D.mk a.v b.g b.t a.w a.e a.c).agg)))) else 
           (bif b.w != 0 then 
            (bif b.e != 0 then 
             (bif b.c != 0 then some ((D.mk a.v b.g a.t b.w b.e b.c).agg) else some ((D.mk a.v b.g a.t b.w b.e a.c).agg)) else 
             (bif b.c != 0 then some ((D.mk a.v b.g a.t b.w a.e b.c).agg) else some ((D.mk a.v b.g a.t b.w a.e a.c).agg))) else 
            (bif b.e != 0 then 
             (bif b.c != 0 then some ((D.mk a.v b.g a.t a.w b.e b.c).agg) else some ((D.mk a.v b.g a.t a.w b.e a.c).agg)) else 
             (bif b.c != 0 then some ((D.mk a.v b.g a.t a.w a.e b.c).agg) else some ((D.mk a.v b.g a.t a.w a.e a.c).agg))))) else 
          (bif S.there b.t then 
           (bif b.w != 0 then 
            (bif b.e != 0 then 
             (bif b.c != 0 then some ((D.mk a.v a.g b.t b.w b.e b.c).agg) else some ((D.mk a.v a.g b.t b.w b.e a.c).agg)) else 
             (bif b.c != 0 then some ((D.mk a.v a.g b.t b.w a.e b.c).agg) else some ((D.mk a.v a.g b.t b.w a.e a.c).agg))) else 
            (bif b.e != 0 then 
             (bif b.c != 0 then some ((D.mk a.v a.g b.t a.w b.e b.c).agg) else some ((D.mk a.v a.g b.t a.w b.e a.c).agg)) else 
             (bif b.c != 0 then some ((D.mk a.v a.g b.t a.w a.e b.c).agg) else some ((D.mk a.v a.g b.t a.w a.e a.c).agg)))) else 
           (bif b.w != 0 then 
            (bif b.e != 0 then 
             (bif b.c != 0 then some ((D.mk a.v a.g a.t b.w b.e b.c).agg) else some ((D.mk a.v a.g a.t b.w b.e a.c).agg)) else 
             (bif b.c != 0 then some ((D.mk a.v a.g a.t b.w a.e b.c).agg) else some ((D.mk a.v a.g a.t b.w a.e a.c).agg))) else 
            (bif b.e != 0 then 
             (bif b.c != 0 then some ((D.mk a.v a.g a.t a.w b.e b.c).agg) else some ((D.mk a.v a.g a.t a.w b.e a.c).agg)) else 
             (bif b.c != 0 then some ((D.mk a.v a.g a.t a.w a.e b.c).agg) else some (a.agg)))))))) else 
       (bif S.there b.v then 
        (bif S.there b.g then 
         (bif S.there b.t then 
          (bif b.w != 0 then 
           (bif b.e != 0 then 
            (bif b.c != 0 then some (b.agg) else some ((D.mk b.v b.g b.t b.w b.e a.c).agg)) else 
            (bif b.c != 0 then some ((D.mk b.v b.g b.t b.w a.e b.c).agg) else some ((D.mk b.v b.g b.t b.w a.e a.c).agg))) else 
           (bif b.e != 0 then 
            (bif b.c != 0 then some ((D.mk b.v b.g b.t a.w b.e b.c).agg) else some ((D.mk b.v b.g b.t a.w b.e a.c).agg)) else 
            (bif b.c != 0 then some ((D.mk b.v b.g b.t a.w a.e b.c).agg) else some ((D.mk b.v b.g b.t a.w a.e a.c).agg)))) else 
          (bif b.w != 0 then 
           (bif b.e != 0 then 
            (bif b.c != 0 then some ((D.mk b.v b.g a.t b.w b.e b.c).agg) else some ((D.mk b.v b.g a.t b.w b.e a.c).agg)) else 
            (bif b.c != 0 then some ((D.mk b.v b.g a.t b.w a.e b.c).agg) else some ((D.mk b.v b.g a.t b.w a.e a.c).agg))) else 
           (bif b.e != 0 then 
            (bif b.c != 0 then some ((D.mk b.v b.g a.t a.w b.e b.c).agg) else some ((D.mk b.v b.g a.t a.w b.e a.c).agg)) else 
            (bif b.c != 0 then some ((D.mk b.v b.g a.t a.w a.e b.c).agg) else some ((D.mk b.v b.g a.t a.w a.e a.c).agg))))) else 
         (bif S.there b.t then 
          (bif b.w != 0 then 
           (bif b.e != 0 then 
            (bif b.c != 0 then some ((D.mk b.v a.g b.t b.w b.e b.c).agg) else some ((D.mk b.v a.g b.t b.w b.e a.c).agg)) else 
            (bif b.c != 0 then some ((D.mk b.v a.g b.t b.w a.e b.c).agg) else some ((D.mk b.v a.g b.t b.w a.e a.c).agg))) else 
           (bif b.e != 0 then 
            (bif b.c != 0 then some ((D.mk b.v a.g b.t a.w b.e b.c).agg) else some ((D.mk b.v a.g b.t a.w b.e a.c).agg)) else 
            (bif b.c != 0 then some ((D.mk b.v a.g b.t a.w a.e b.c).agg) else some ((D.mk b.v a.g b.t a.w a.e a.c).agg)))) else 
          (bif b.w != 0 then 
           (bif b.e != 0 then 
            (bif b.c != 0 then some ((D.mk b.v a.g a.t b.w b.e b.c).agg) else some ((D.mk b.v a.g a.t b.w b.e a.c).agg)) else 
            (bif b.c != 0 then some ((D.mk b.v a.g a.t b.w a.e b.c).agg) else some ((D.mk b.v a.g a.t b.w a.e a.c).agg))) else 
           (bif b.e != 0 then 
            (bif b.c != 0 then some ((D.mk b.v a.g a.t a.w b.e b.c).agg) else some ((D.mk b.v a.g a.t a.w b.e a.c).agg)) else 
            (bif b.c != 0 then some ((D.mk b.v a.g a.t a.w a.e b.c).agg) else some ((D.mk b.v a.g a.t a.w a.e a.c).agg)))))) else 
        (bif S.there b.g then 
         (bif S.there b.t then 
          (bif b.w != 0 then 
           (bif b.e != 0 then 
            (bif b.c != 0 then some ((D.mk a.v b.g b.t b.w b.e b.c).agg) else some ((D.mk a.v b.g b.t b.w b.e a.c).agg)) else 
            (bif b.c != 0 then some ((D.mk a.v b.g b.t b.w a.e b.c).agg) else some ((D.mk a.v b.g b.t b.w a.e a.c).agg))) else 
           (bif b.e != 0 then 
            (bif b.c != 0 then some ((D.mk a.v b.g b.t a.w b.e b.c).agg) else some ((D.mk a.v b.g b.t a.w b.e a.c).agg)) else 
            (bif b.c != 0 then some ((D.mk a.v b.g b.t a.w a.e b.c).agg) else some ((D.mk a.v b.g b.t a.w a.e a.c).agg)))) else 
          (bif b.w != 0 then 
           (bif b.e != 0 then 
            (bif b.c != 0 then some ((D.mk a.v b.g a.t b.w b.e b.c).agg) else some ((D.mk a.v b.g a.t b.w b.e a.c).agg)) else 
            (bif b.c != 0 then some ((D.mk a.v b.g a.t b.w a.e b.c).agg) else some ((D.mk a.v b.g a.t b.w a.e a.c).agg))) else 
           (bif b.e != 0 then 
            (bif b.c != 0 then some ((D.mk a.v b.g a.t a.w b.e b.c).agg) else some ((D.mk a.v b.g a.t a.w b.e a.c).agg)) else 
            (bif b.c != 0 then some ((D.mk a.v b.g a.t a.w a.e b.c).agg) else some ((D.mk a.v b.g a.t a.w a.e a.c).agg))))) else 
         (bif S.there b.t then 
          (bif b.w != 0 then 
           (bif b.e != 0 then 
            (bif b.c != 0 then some ((D.mk a.v a.g b.t b.w b.e b.c).agg) else some ((D.mk a.v a.g b.t b.w b.e a.c).agg)) else 
            (bif b.c != 0 then some ((D.mk a.v a.g b.t b.w a.e b.c).agg) else some ((D.mk a.v a.g b.t b.w a.e a.c).agg))) else 
           (bif b.e != 0 then 
            (bif b.c != 0 then some ((D.mk a.v a.g b.t a.w b.e b.c).agg) else some ((D.mk a.v a.g b.t a.w b.e a.c).agg)) else 
            (bif b.c != 0 then some ((D.mk a.v a.g b.t a.w a.e b.c).agg) else some ((D.mk a.v a.g b.t a.w a.e a.c).agg)))) else 
          (bif b.w != 0 then 
           (bif b.e != 0 then 
            (bif b.c != 0 then some ((D.mk a.v a.g a.t b.w b.e b.c).agg) else some ((D.mk a.v a.g a.t b.w b.e a.c).agg)) else 
            (bif b.c != 0 then some ((D.mk a.v a.g a.t b.w a.e b.c).agg) else some ((D.mk a.v a.g a.t b.w a.e a.c).agg))) else 
           (bif b.e != 0 then 
            (bif b.c != 0 then some ((D.mk a.v a.g a.t a.w b.e b.c).agg) else some ((D.mk a.v a.g a.t a.w b.e a.c).agg)) else 
            (bif b.c != 0 then some ((D.mk a.v a.g a.t a.w a.e b.c).agg) else some (a.agg))))))))) else 
     (bif R.isA a then 
      (bif R.isD b then 
       (bif b.e == 0 then 
        (bif b.c == 0 then some ((R.filled (D.mk b.v b.g b.t b.w a.e a.c)).agg) else some ((R.filled (D.mk b.v b.g b.t b.w a.e b.c)).agg)) else 
        (bif b.c == 0 then some ((R.filled (D.mk b.v b.g b.t b.w b.e a.c)).agg) else some ((R.filled b).agg))) else 
       (bif S.there b.v then 
        (bif S.there b.g then 
         (bif S.there b.t then 
          (bif b.w != 0 then 
           (bif b.e != 0 then 
            (bif b.c != 0 then some (b.agg) else some ((D.mk b.v b.g b.t b.w b.e a.c).agg)) else 
            (bif b.c != 0 then some ((D.mk b.v b.g b.t b.w a.e b.c).agg) else some ((D.mk b.v b.g b.t b.w a.e a.c).agg))) else 
           (bif b.e != 0 then 
            (bif b.c != 0 then some ((D.mk b.v b.g b.t a.w b.e b.c).agg) else some ((D.mk b.v b.g b.t a.w b.e a.c).agg)) else 
            (bif b.c != 0 then some ((D.mk b.v b.g b.t a.w a.e b.c).agg) else some ((D.mk b.v b.g b.t a.w a.e a.c).agg)))) else 
          (bif b.w != 0 then 
           (bif b.e != 0 then 
            (bif b.c != 0 then some ((D.mk b.v b.g a.t b.w b.e b.c).agg) else some ((D.mk b.v b.g a.t b.w b.e a.c).agg)) else 
            (bif b.c != 0 then some ((D.mk b.v b.g a.t b.w a.e b.c).agg) else some ((D.mk b.v b.g a.t b.w a.e a.c).agg))) else 
           (bif b.e != 0 then 
            (bif b.c != 0 then some ((D.mk b.v b.g a.t a.w b.e b.c).agg) else some ((D.mk b.v b.g a.t a.w b.e a.c).agg)) else 
            (bif b.c != 0 then some ((D.mk b.v b.g a.t a.w a.e b.c).agg) else some ((D.mk b.v b.g a.t a.w a.e a.c).agg))))) else 
         (bif S.there b.t then 
          (bif b.w != 0 then 
           (bif b.e != 0 then 
            (bif b.c != 0 then some ((D.mk b.v a.g b.t b.w b.e b.c).agg) else some ((D.mk b.v a.g b.t b.w b.e a.c).agg)) else 
            (bif b.c != 0 then some ((D.mk b.v a.g b.t b.w a.e b.c).agg) else some ((D.mk b.v a.g b.t b.w a.e a.c).agg))) else 
           (bif b.e != 0 then 
            (bif b.c != 0 then some ((D.mk b.v a.g b.t a.w b.e b.c).agg) else some ((D.mk b.v a.g b.t a.w b.e a.c).agg)) else 
            (bif b.c != 0 then some ((D.mk b.v a.g b.t a.w a.e b.c).agg) else some ((D.mk b.v a.g b.t a.w a.e a.c).agg)))) else 
          (bif b.w != 0 then 
           (bif b.e != 0 then 
            (bif b.c != 0 then some ((D.mk b.v a.g a.t b.w b.e b.c).agg) else some ((D.mk b.v a.g a.t b.w b.e a.c).agg)) else 
            (bif b.c != 0 then some ((D.mk b.v a.g a.t b.w a.e b.c).agg) else some ((D.mk b.v a.g a.t b.w a.e a.c).agg))) else 
           (bif b.e != 0 then 
            (bif b.c != 0 then some ((D.mk b.v a.g a.t a.w b.e b.c).agg) else some ((D.mk b.v a.g a.t a.w b.e a.c).agg)) else 
            (bif b.c != 0 then some ((D.mk b.v a.g a.t a.w a.e b.c).agg) else some ((D.mk b.v a.g a.t a.w a.e a.c).agg)))))) else 
        (bif S.there b.g then 
         (bif S.there b.t then 
          (bif b.w != 0 then 
           (bif b.e != 0 then 
            (bif b.c != 0 then some ((D.mk a.v b.g b.t b.w b.e b.c).agg) else some ((D.mk a.v b.g b.t b.w b.e a.c).agg)) else 
            (bif b.c != 0 then some ((D.mk a.v b.g b.t b.w a.e b.c).agg) else some ((D.mk a.v b.g b.t b.w a.e a.c).agg))) else 
           (bif b.e != 0 then 
            (bif b.c != 0 then some ((D.mk a.v b.g b.t a.w b.e b.c).agg) else some ((D.mk a.v b.g b.t a.w b.e a.c).agg)) else 
            (bif b.c != 0 then some ((D.mk a.v b.g b.t a.w a.e b.c).agg) else some ((D.mk a.v b.g b.t a.w a.e a.c).agg)))) else 
          (bif b.w != 0 then 
           (bif b.e != 0 then 
            (bif b.c != 0 then some ((D.mk a.v b.g a.t b.w b.e b.c).agg) else some ((D.mk a.v b.g a.t b.w b.e a.c).agg)) else 
            (bif b.c != 0 then some ((D.mk a.v b.g a.t b.w a.e b.c).agg) else some ((D.mk a.v b.g a.t b.w a.e a.c).agg))) else 
           (bif b.e != 0 then 
            (bif b.c != 0 then some ((D.mk a.v b.g a.t a.w b.e b.c).agg) else some ((D.mk a.v b.g a.t a.w b.e a.c).agg)) else 
            (bif b.c != 0 then some ((D.mk a.v b.g a.t a.w a.e b.c).agg) else some ((D.mk a.v b.g a.t a.w a.e a.c).agg))))) else 
         (bif S.there b.t then 
          (bif b.w != 0 then 
           (bif b.e != 0 then 
            (bif b.c != 0 then some ((D.mk a.v a.g b.t b.w b.e b.c).agg) else some ((D.mk a.v a.g b.t b.w b.e a.c).agg)) else 
            (bif b.c != 0 then some ((D.mk a.v a.g b.t b.w a.e b.c).agg) else some ((D.mk a.v a.g b.t b.w a.e a.c).agg))) else 
           (bif b.e != 0 then 
            (bif b.c != 0 then some ((D.mk a.v a.g b.t a.w b.e b.c).agg) else some ((D.mk a.v a.g b.t a.w b.e a.c).agg)) else 
            (bif b.c != 0 then some ((D.mk a.v a.g b.t a.w a.e b.c).agg) else some ((D.mk a.v a.g b.t a.w a.e a.c).agg)))) else 
          (bif b.w != 0 then 
           (bif b.e != 0 then 
            (bif b.c != 0 then some ((D.mk a.v a.g a.t b.w b.e b.c).agg) else some ((D.mk a.v a.g a.t b.w b.e a.c).agg)) else 
            (bif b.c != 0 then some ((D.mk a.v a.g a.t b.w a.e b.c).agg) else some ((D.mk a.v a.g a.t b.w a.e a.c).agg))) else 
           (bif b.e != 0 then 
            (bif b.c != 0 then some ((D.mk a.v a.g a.t a.w b.e b.c).agg) else some ((D.mk a.v a.g a.t a.w b.e a.c).agg)) else 
            (bif b.c != 0 then some ((D.mk a.v a.g a.t a.w a.e b.c).agg) else some (a.agg)))))))) else 
      (bif S.there b.v then 
       (bif S.there b.g then 
        (bif S.there b.t then 
         (bif b.w != 0 then 
          (bif b.e != 0 then 
           (bif b.c != 0 then some (b.agg) else some ((D.mk b.v b.g b.t b.w b.e a.c).agg)) else 
           (bif b.c != 0 then some ((D.mk b.v b.g b.t b.w a.e b.c).agg) else some ((D.mk b.v b.g b.t b.w a.e a.c).agg))) else 
          (bif b.e != 0 then 
           (bif b.c != 0 then some ((D.mk b.v b.g b.t a.w b.e b.c).agg) else some ((D.mk b.v b.g b.t a.w b.e a.c).agg)) else 
           (bif b.c != 0 then some ((D.mk b.v b.g b.t a.w a.e b.c).agg) else some ((D.mk b.v b.g b.t a.w a.e a.c).agg)))) else 
         (bif b.w != 0 then 
          (bif b.e != 0 then 
           (bif b.c != 0 then some ((D.mk b.v b.g a.t b.w b.e b.c).agg) else some ((D.mk b.v b.g a.t b.w b.e a.c).agg)) else 
           (bif b.c != 0 then some ((D.mk b.v b.g a.t b.w a.e b.c).agg) else some ((D.mk b.v b.g a.t b.w a.e a.c).agg))) else 
          (bif b.e != 0 then 
           (bif b.c != 0 then some ((D.mk b.v b.g a.t a.w b.e b.c).agg) else some ((D.mk b.v b.g a.t a.w b.e a.c).agg)) else 
           (bif b.c != 0 then some ((D.mk b.v b.g a.t a.w a.e b.c).agg) else some ((D.mk b.v b.g a.t a.w a.e a.c).agg))))) else 
        (bif S.there b.t then 
         (bif b.w != 0 then 
          (bif b.e != 0 then 
           (bif b.c != 0 then some ((D.mk b.v a.g b.t b.w b.e b.c).agg) else some ((D.mk b.v a.g b.t b.w b.e a.c).agg)) else 
           (bif b.c != 0 then some ((D.mk b.v a.g b.t b.w a.e b.c).agg) else some ((D.mk b.v a.g b.t b.w a.e a.c).agg))) else 
          (bif b.e != 0 then 
           (bif b.c != 0 then some ((D.mk b.v a.g b.t a.w b.e b.c).agg) else some ((D.mk b.v a.g b.t a.w b.e a.c).agg)) else 
           (bif b.c != 0 then some ((D.mk b.v a.g b.t a.w a.e b.c).agg) else some ((D.mk b.v a.g b.t a.w a.e a.c).agg)))) else 
         (bif b.w != 0 then 
          (bif b.e != 0 then 
           (bif b.c != 0 then some ((D.mk b.v a.g a.t b.w b.e b.c).agg) else some ((D.mk b.v a.g a.t b.w b.e a.c).agg)) else 
           (bif b.c != 0 then some ((D.mk b.v a.g a.t b.w a.e b.c).agg) else some ((D.mk b.v a.g a.t b.w a.e a.c).agg))) else 
          (bif b.e != 0 then 
           (bif b.c != 0 then some ((D.mk b.v a.g a.t a.w b.e b.c).agg) else some ((D.mk b.v a.g a.t a.w b.e a.c).agg)) else 
           (bif b.c != 0 then some ((D.mk b.v a.g a.t a.w a.e b.c).agg) else some ((D.mk b.v a.g a.t a.w a.e a.c).agg)))))) else 
       (bif S.there b.g then 
        (bif S.there b.t then 
         (bif b.w != 0 then 
          (bif b.e != 0 then 
           (bif b.c != 0 then some ((D.mk a.v b.g b.t b.w b.e b.c).agg) else some ((D.mk a.v b.g b.t b.w b.e a.c).agg)) else 
           (bif b.c != 0 then some ((D.mk a.v b.g b.t b.w a.e b.c).agg) else some ((D.mk a.v b.g b.t b.w a.e a.c).agg))) else 
          (bif b.e != 0 then 
           (bif b.c != 0 then some ((D.mk a.v b.g b.t a.w b.e b.c).agg) else some ((D.mk a.v b.g b.t a.w b.e a.c).agg)) else 
           (bif b.c != 0 then some ((D.mk a.v b.g b.t a.w a.e b.c).agg) else some ((D.mk a.v b.g b.t a.w a.e a.c).agg)))) else 
         (bif b.w != 0 then 
          (bif b.e != 0 then 
           (bif b.c != 0 then some ((D.mk a.v b.g a.t b.w b.e b.c).agg) else some ((D.mk a.v b.g a.t b.w b.e a.c).agg)) else 
           (bif b.c != 0 then some ((D.mk a.v b.g a.t b.w a.e b.c).agg) else some ((D.mk a.v b.g a.t b.w a.e a.c).agg))) else 
          (bif b.e != 0 then 
           (bif b.c != 0 then some ((D.mk a.v b.g a.t a.w b.e b.c).agg) else some ((D.mk a.v b.g a.t a.w b.e a.c).agg)) else 
           (bif b.c != 0 then some ((D.mk a.v b.g a.t a.w a.e b.c).agg) else some ((D.mk a.v b.g a.t a.w a.e a.c).agg))))) else 
        (bif S.there b.t then 
         (bif b.w != 0 then 
          (bif b.e != 0 then 
           (bif b.c != 0 then some ((D.mk a.v a.g b.t b.w b.e b.c).agg) else some ((D.mk a.v a.g b.t b.w b.e a.c).agg)) else 
           (bif b.c != 0 then some ((D.mk a.v a.g b.t b.w a.e b.c).agg) else some ((D.mk a.v a.g b.t b.w a.e a.c).agg))) else 
          (bif b.e != 0 then 
           (bif b.c != 0 then some ((D.mk a.v a.g b.t a.w b.e b.c).agg) else some ((D.mk a.v a.g b.t a.w b.e a.c).agg)) else 
           (bif b.c != 0 then some ((D.mk a.v a.g b.t a.w a.e b.c).agg) else some ((D.mk a.v a.g b.t a.w a.e a.c).agg)))) else 
         (bif b.w != 0 then 
          (bif b.e != 0 then 
           (bif b.c != 0 then some ((D.mk a.v a.g a.t b.w b.e b.c).agg) else some ((D.mk a.v a.g a.t b.w b.e a.c).agg)) else 
           (bif b.c != 0 then some ((D.mk a.v a.g a.t b.w a.e b.c).agg) else some ((D.mk a.v a.g a.t b.w a.e a.c).agg))) else 
          (bif b.e != 0 then 
           (bif b.c != 0 then some ((D.mk a.v a.g a.t a.w b.e b.c).agg) else some ((D.mk a.v a.g a.t a.w b.e a.c).agg)) else 
           (bif b.c != 0 then some ((D.mk a.v a.g a.t a.w a.e b.c).agg) else some (a.agg)))))))))) (by kernel_rfl) (by
    obtain ⟨bv, bg, bt, bw, be, bc⟩ := b
    simp only [T.rbecome, DT.val_node, DT.val_leaf, DT.val_bad, DT.bind]
    repeat' (first | (with_reducible refine bif_neq (fun h => ?_) (fun h => ?_)) | (with_reducible refine bif_and (fun h => ?_) (fun h => ?_)) | (with_reducible refine bif_eq (fun h => ?_) (fun h => ?_)))
    all_goals first | (simp only [*, R.become, S.turn, S.no, S.over, S.orV, S.orT, S.there, cond_true, cond_false, Bool.and_true, Bool.true_and, Bool.and_false, Bool.false_and, Bool.or_true, Bool.true_or, Bool.or_false, Bool.false_or, Bool.not_true, Bool.not_false, beq_self_eq_true, bne_self_eq_false, Bool.not_not]; done) | (exfalso; simp_all [R.become, S.turn, S.no, S.over, S.orV, S.orT, S.there]; done) | (simp_all [R.become, S.turn, S.no, S.over, S.orV, S.orT, S.there]; done) | grind [R.become, S.turn, S.no, S.over, S.orV, S.orT, S.there])
theorem ent_rbecome : E (71, onDD T.rbecome) := byEv Ients20 80 fun args t h => by
  obtain ⟨a, b, rfl, rfl⟩ := onDD_eq h
  exact ev_rbecome a b
abbrev IL21 : Tab := (71, onDD T.rbecome) :: IL20
theorem Ients21 : ∀ p ∈ IL21, E p := entries_cons ent_rbecome Ients20
set_option maxHeartbeats 4000000 in
theorem ev_rapply (x : Bool) (a b : D) : evFn Tryd.prog ext (tab IL21) 60 32 [.bool x, a.agg, b.agg] = (T.rapply x a b).val :=
  Eq.trans (b := 
    (bif !R.check b then some (Value.tuple #[(D.mk (V.mk 0 false 0 (ByteArray.mk #[]) 0) (V.mk 0 false 0 (ByteArray.mk #[]) 0) (V.mk 0 false 0 (ByteArray.mk #[]) 0) 0 0 0).agg, Value.bool false, Value.int IntKind.i64 5]) else 
     (bif !R.zero a then 
      (bif !R.whole a then some (Value.tuple #[(D.mk (V.mk 0 false 0 (ByteArray.mk #[]) 0) (V.mk 0 false 0 (ByteArray.mk #[]) 0) (V.mk 0 false 0 (ByteArray.mk #[]) 0) 0 0 0).agg, Value.bool false, Value.int IntKind.i64 5]) else 
       (bif R.zero a then 
        (bif !x then some (Value.tuple #[a.agg, Value.bool false, Value.int IntKind.i64 0]) else some (Value.tuple #[(R.filled b).agg, Value.bool true, Value.int IntKind.i64 0])) else 
        (bif a.c == 1 then 
         (bif R.refused a b then some (Value.tuple #[a.agg, Value.bool false, Value.int IntKind.i64 0]) else some (Value.tuple #[(R.become a b).agg, Value.bool true, Value.int IntKind.i64 0])) else some (Value.tuple #[(R.become a b).agg, Value.bool true, Value.int IntKind.i64 0])))) else 
      (bif R.zero a then 
       (bif !x then some (Value.tuple #[a.agg, Value.bool false, Value.int IntKind.i64 0]) else some (Value.tuple #[(R.filled b).agg, Value.bool true, Value.int IntKind.i64 0])) else 
       (bif a.c == 1 then 
        (bif R.refused a b then some (Value.tuple #[a.agg, Value.bool false, Value.int IntKind.i64 0]) else some (Value.tuple #[(R.become a b).agg, Value.bool true, Value.int IntKind.i64 0])) else some (Value.tuple #[(R.become a b).agg, Value.bool true, Value.int IntKind.i64 0])))))) (by kernel_rfl) (by
    simp only [T.rapply, DT.val_node, DT.val_leaf, DT.val_bad, DT.bind]
    repeat' (first | (with_reducible refine bif_neq (fun h => ?_) (fun h => ?_)) | (with_reducible refine bif_and (fun h => ?_) (fun h => ?_)) | (with_reducible refine bif_eq (fun h => ?_) (fun h => ?_)))
    all_goals first | (simp only [*, R.apply, R.okA, S.V0, S.D0, cond_true, cond_false, Bool.and_true, Bool.true_and, Bool.and_false, Bool.false_and, Bool.or_true, Bool.true_or, Bool.or_false, Bool.false_or, Bool.not_true, Bool.not_false, beq_self_eq_true, bne_self_eq_false, Bool.not_not]; done) | (exfalso; simp_all [R.apply, R.okA, S.V0, S.D0]; done) | (simp_all [R.apply, R.okA, S.V0, S.D0]; done) | grind [R.apply, R.okA, S.V0, S.D0])
theorem ent_rapply : E (32, onBDD T.rapply) := byEv Ients21 60 fun args t h => by
  obtain ⟨x, a, b, rfl, rfl⟩ := onBDD_eq h
  exact ev_rapply x a b
abbrev IL22 : Tab := (32, onBDD T.rapply) :: IL21
theorem Ients22 : ∀ p ∈ IL22, E p := entries_cons ent_rapply Ients21
set_option maxHeartbeats 4000000 in
theorem ev_rkeeps (a b : D) : evFn Tryd.prog ext (tab IL22) 60 33 [a.agg, b.agg] = (T.rkeeps a b).val :=
  Eq.trans (b := 
    (bif !R.zero a then 
     (bif !R.whole a then some (Value.tuple #[Value.bool false, Value.int IntKind.i64 5]) else 
      (bif !R.zero b then 
       (bif !R.whole b then some (Value.tuple #[Value.bool false, Value.int IntKind.i64 5]) else 
        (bif R.zero a then some (Value.tuple #[Value.bool true, Value.int IntKind.i64 0]) else 
         (bif a.c == 2 then some (Value.tuple #[Value.bool true, Value.int IntKind.i64 0]) else 
          (bif R.zero b then some (Value.tuple #[Value.bool false, Value.int IntKind.i64 0]) else 
           (bif b.c != 1 then some (Value.tuple #[Value.bool false, Value.int IntKind.i64 0]) else 
            (bif b.e != a.e then some (Value.tuple #[Value.bool false, Value.int IntKind.i64 0]) else 
             (bif !R.isA a == R.isA b then some (Value.tuple #[Value.bool false, Value.int IntKind.i64 0]) else 
              (bif R.isA a then 
               (bif R.same a.g b.g then some (Value.tuple #[Value.bool (R.same a.t b.t), Value.int IntKind.i64 0]) else some (Value.tuple #[Value.bool false, Value.int IntKind.i64 0])) else 
               (bif a.w == 2 then some (Value.tuple #[Value.bool true, Value.int IntKind.i64 0]) else 
                (bif R.same a.v b.v then some (Value.tuple #[Value.bool (b.w == 1), Value.int IntKind.i64 0]) else some (Value.tuple #[Value.bool false, Value.int IntKind.i64 0]))))))))))) else 
       (bif R.zero a then some (Value.tuple #[Value.bool true, Value.int IntKind.i64 0]) else 
        (bif a.c == 2 then some (Value.tuple #[Value.bool true, Value.int IntKind.i64 0]) else 
         (bif R.zero b then some (Value.tuple #[Value.bool false, Value.int IntKind.i64 0]) else 
          (bif b.c != 1 then some (Value.tuple #[Value.bool false, Value.int IntKind.i64 0]) else 
           (bif b.e != a.e then some (Value.tuple #[Value.bool false, Value.int IntKind.i64 0]) else 
            (bif !R.isA a == R.isA b then some (Value.tuple #[Value.bool false, Value.int IntKind.i64 0]) else 
             (bif R.isA a then 
              (bif R.same a.g b.g then some (Value.tuple #[Value.bool (R.same a.t b.t), Value.int IntKind.i64 0]) else some (Value.tuple #[Value.bool false, Value.int IntKind.i64 0])) else 
              (bif a.w == 2 then some (Value.tuple #[Value.bool true, Value.int IntKind.i64 0]) else 
               (bif R.same a.v b.v then some (Value.tuple #[Value.bool (b.w == 1), Value.int IntKind.i64 0]) else some (Value.tuple #[Value.bool false, Value.int IntKind.i64 0])))))))))))) else 
     (bif !R.zero b then 
      (bif !R.whole b then some (Value.tuple #[Value.bool false, Value.int IntKind.i64 5]) else 
       (bif R.zero a then some (Value.tuple #[Value.bool true, Value.int IntKind.i64 0]) else 
        (bif a.c == 2 then some (Value.tuple #[Value.bool true, Value.int IntKind.i64 0]) else 
         (bif R.zero b then some (Value.tuple #[Value.bool false, Value.int IntKind.i64 0]) else 
          (bif b.c != 1 then some (Value.tuple #[Value.bool false, Value.int IntKind.i64 0]) else 
           (bif b.e != a.e then some (Value.tuple #[Value.bool false, Value.int IntKind.i64 0]) else 
            (bif !R.isA a == R.isA b then some (Value.tuple #[Value.bool false, Value.int IntKind.i64 0]) else 
             (bif R.isA a then 
              (bif R.same a.g b.g then some (Value.tuple #[Value.bool (R.same a.t b.t), Value.int IntKind.i64 0]) else some (Value.tuple #[Value.bool false, Value.int IntKind.i64 0])) else 
              (bif a.w == 2 then some (Value.tuple #[Value.bool true, Value.int IntKind.i64 0]) else 
               (bif R.same a.v b.v then some (Value.tuple #[Value.bool (b.w == 1), Value.int IntKind.i64 0]) else some (Value.tuple #[Value.bool false, Value.int IntKind.i64 0]))))))))))) else 
      (bif R.zero a then some (Value.tuple #[Value.bool true, Value.int IntKind.i64 0]) else 
       (bif a.c == 2 then some (Value.tuple #[Value.bool true, Value.int IntKind.i64 0]) else 
        (bif R.zero b then some (Value.tuple #[Value.bool false, Value.int IntKind.i64 0]) else 
         (bif b.c != 1 then some (Value.tuple #[Value.bool false, Value.int IntKind.i64 0]) else 
          (bif b.e != a.e then some (Value.tuple #[Value.bool false, Value.int IntKind.i64 0]) else 
           (bif !R.isA a == R.isA b then some (Value.tuple #[Value.bool false, Value.int IntKind.i64 0]) else 
            (bif R.isA a then 
             (bif R.same a.g b.g then some (Value.tuple #[Value.bool (R.same a.t b.t), Value.int IntKind.i64 0]) else some (Value.tuple #[Value.bool false, Value.int IntKind.i64 0])) else 
             (bif a.w == 2 then some (Value.tuple #[Value.bool true, Value.int IntKind.i64 0]) else 
              (bif R.same a.v b.v then some (Value.tuple #[Value.bool (b.w == 1), Value.int IntKind.i64 0]) else some (Value.tuple #[Value.bool false, Value.int IntKind.i64 0]))))))))))))) (by kernel_rfl) (by
    simp only [T.rkeeps, DT.val_node, DT.val_leaf, DT.val_bad, DT.bind]
    repeat' (first | (with_reducible refine bif_neq (fun h => ?_) (fun h => ?_)) | (with_reducible refine bif_and (fun h => ?_) (fun h => ?_)) | (with_reducible refine bif_eq (fun h => ?_) (fun h => ?_)))
    all_goals first | (simp only [*, R.keeps, R.okK, cond_true, cond_false, Bool.and_true, Bool.true_and, Bool.and_false, Bool.false_and, Bool.or_true, Bool.true_or, Bool.or_false, Bool.false_or, Bool.not_true, Bool.not_false, beq_self_eq_true, bne_self_eq_false, Bool.not_not]; done) | (exfalso; simp_all [R.keeps, R.okK]; done) | (simp_all [R.keeps, R.okK]; done) | grind [R.keeps, R.okK])
theorem ent_rkeeps : E (33, onDD T.rkeeps) := byEv Ients22 60 fun args t h => by
  obtain ⟨a, b, rfl, rfl⟩ := onDD_eq h
  exact ev_rkeeps a b
abbrev IL23 : Tab := (33, onDD T.rkeeps) :: IL22
theorem Ients23 : ∀ p ∈ IL23, E p := entries_cons ent_rkeeps Ients22
end Go.Proofs.YtaojjpdlfnphiaaDoor.PDescKinds
end
section
/- The same contracts without branches, for the laws. -/
set_option linter.unusedSimpArgs false
set_option linter.unusedVariables false
namespace Go.Proofs.YtaojjpdlfnphiaaDoor.PDescKinds
open Go.RowKit Go.Ev
theorem onD_val {f : Nat} {g g' : D → DT Value} (h : E (f, onD g)) (e : ∀ d, (g' d).val = (g d).val) : E (f, onD g') := by
  intro args t v ht hv
  obtain ⟨d, rfl, rfl⟩ := onD_eq ht
  rw [e d] at hv
  exact h [d.agg] (g d) v rfl hv
namespace S
def err (b : Bool) : Int := bif b then 0 else 5
def freezeD (d : D) : D := ⟨V0, V0, V0, bif whole d && isD d then 1 else 0, 0, bif whole d then 1 else 0⟩
end S
namespace R
def freezeD (d : D) : D := ⟨S.V0, S.V0, S.V0, bif whole d && isD d then 1 else 0, 0, bif whole d then 1 else 0⟩
end R
namespace T
def check1 (d : D) : DT Value := .leaf (.int .i64 (S.err (S.check d)))
def complete1 (d : D) : DT Value := .leaf (.tuple #[(S.compl d).agg, .int .i64 (S.err (S.check d))])
def freeze1 (d : D) : DT Value := .leaf (.tuple #[(S.freezeD d).agg, .int .i64 (S.err (S.whole d))])
def rfreeze1 (d : D) : DT Value := .leaf (.tuple #[(R.freezeD d).agg, .int .i64 (S.err (R.whole d))])
end T
theorem ent_check1 : E (16, onD T.check1) := onD_val ent_check fun d => by
  simp only [T.check1, T.check, T.err, DT.val_node, DT.val_leaf, S.err]
  cases S.check d <;> rfl
theorem ent_complete1 : E (12, onD T.complete1) := onD_val ent_complete fun d => by
  simp only [T.complete1, T.complete, DT.val_node, DT.val_leaf, S.err, S.compl]
  cases S.check d <;> rfl
theorem ent_freeze1 : E (13, onD T.freeze1) := onD_val ent_freeze fun d => by
  simp only [T.freeze1, T.freeze, DT.val_node, DT.val_leaf, S.err, S.freezeD]
  cases S.whole d <;> cases S.isD d <;> rfl
theorem ent_rfreeze1 : E (14, onD T.rfreeze1) := onD_val ent_rfreeze fun d => by
  simp only [T.rfreeze1, T.rfreeze, DT.val_node, DT.val_leaf, S.err, R.freezeD]
  cases R.whole d <;> cases R.isD d <;> rfl
theorem ents_app {l r : Tab} (hl : ∀ p ∈ l, E p) (hr : ∀ p ∈ r, E p) : ∀ p ∈ l ++ r, E p := fun p hp => by
  rcases List.mem_append.1 hp with h | h
  · exact hl p h
  · exact hr p h
abbrev AL : Tab := [(16, onD T.check1), (12, onD T.complete1), (13, onD T.freeze1), (14, onD T.rfreeze1)] ++ (IL23 ++ HL27)
theorem entsAL : ∀ p ∈ AL, E p := ents_app (entries_cons ent_check1 (entries_cons ent_complete1 (entries_cons ent_freeze1 (entries_cons ent_rfreeze1 entries_nil)))) (ents_app Ients23 Hents27)
end Go.Proofs.YtaojjpdlfnphiaaDoor.PDescKinds
end
