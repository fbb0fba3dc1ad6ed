/- Parts of the proof, joined (5). -/
import Derived.Test.YtbpdpnoekkkapaaDoorZ4
set_option linter.unusedSectionVars false
set_option linter.unusedSimpArgs false
set_option linter.unusedVariables false
section
namespace Go.Proofs.YtbpdpnoekkkapaaDoor.PDescKinds
open Go.RowKit Go.Proofs.YtbpdpnoekkkapaaDoorW.PrintWords Go.Proofs.YtbpdpnoekkkapaaDoorW.PrintLast Go.Proofs.YtbpdpnoekkkapaaDoorW.PrintMore
attribute [local go_sem] max2_int min2_int max_two min_two max_three min_three max_four min_four   -- for this text's walks alone
def cameoref04_Compare.f (k : Nat) (a0_0 : ByteArray) (a0_1 : Int) (a1_0 : ByteArray) (a1_1 : Int) : Option (Int) := (cameoref04_rank.f k a0_0 a0_1).bind fun t245 => ((cameoref04_rank.f k a1_0 a1_1).bind fun t246 => (if t245 = t246 then ((cameoref04_rank.f k a0_0 a0_1).bind fun t250 => (if t250 = 0 then ((cameoref04_Index.f k a0_0).bind fun bt251 => ((cameoref04_Index.f k a1_0).bind fun bt253 => ((cameoref04_sign.f (wrap64 ((wrap64 (bt251.1)) - (wrap64 (bt253.1))))).bind fun t255 => (some t255)))) else (if t250 = 1 then ((cameoref01_Compare.f k a0_0 a1_0).bind fun bt256 => (some bt256.1)) else ((cameoref04_sign.f (wrap64 (a0_1 - a1_1))).bind fun t258 => (some t258))))) else ((cameoref04_rank.f k a0_0 a0_1).bind fun t247 => ((cameoref04_rank.f k a1_0 a1_1).bind fun t248 => ((cameoref04_sign.f (wrap64 (t247 - t248))).bind fun t249 => (some t249))))))
set_option maxHeartbeats 8000000 in
set_option maxRecDepth 100000 in
theorem cameoref04_Compare.calls (k : Nat) (a0_0 : ByteArray) (a0_1 : Int) (a1_0 : ByteArray) (a1_1 : Int) (r : Int) (w : World) (h : cameoref04_Compare.f k a0_0 a0_1 a1_0 a1_1 = some r) :
    Calls Tryd.prog 75 #[.agg #[.string a0_0, .int .i64 a0_1], .agg #[.string a1_0, .int .i64 a1_1]] w fun e w' => e = .returned (.int .i64 r) ∧ Below w.heap.size w w' := by
  have hu34 := Tryd.underlying34
  have HB := Aside0.mk (Below.refl w.heap.size w)
  have H : ((cameoref04_rank.f k a0_0 a0_1).bind fun t245 => ((cameoref04_rank.f k a1_0 a1_1).bind fun t246 => (if t245 = t246 then ((cameoref04_rank.f k a0_0 a0_1).bind fun t250 => (if t250 = 0 then ((cameoref04_Index.f k a0_0).bind fun bt251 => ((cameoref04_Index.f k a1_0).bind fun bt253 => ((cameoref04_sign.f (wrap64 ((wrap64 (bt251.1)) - (wrap64 (bt253.1))))).bind fun t255 => (some t255)))) else (if t250 = 1 then ((cameoref01_Compare.f k a0_0 a1_0).bind fun bt256 => (some bt256.1)) else ((cameoref04_sign.f (wrap64 (a0_1 - a1_1))).bind fun t258 => (some t258))))) else ((cameoref04_rank.f k a0_0 a0_1).bind fun t247 => ((cameoref04_rank.f k a1_0 a1_1).bind fun t248 => ((cameoref04_sign.f (wrap64 (t247 - t248))).bind fun t249 => (some t249))))))) = some r := h
  clear h
  replace H := Option.bind_eq_some_iff.mp H
  obtain ⟨t245, A30, H⟩ := H
  replace H : ((cameoref04_rank.f k a1_0 a1_1).bind fun t246 => (if t245 = t246 then ((cameoref04_rank.f k a0_0 a0_1).bind fun t250 => (if t250 = 0 then ((cameoref04_Index.f k a0_0).bind fun bt251 => ((cameoref04_Index.f k a1_0).bind fun bt253 => ((cameoref04_sign.f (wrap64 ((wrap64 (bt251.1)) - (wrap64 (bt253.1))))).bind fun t255 => (some t255)))) else (if t250 = 1 then ((cameoref01_Compare.f k a0_0 a1_0).bind fun bt256 => (some bt256.1)) else ((cameoref04_sign.f (wrap64 (a0_1 - a1_1))).bind fun t258 => (some t258))))) else ((cameoref04_rank.f k a0_0 a0_1).bind fun t247 => ((cameoref04_rank.f k a1_0 a1_1).bind fun t248 => ((cameoref04_sign.f (wrap64 (t247 - t248))).bind fun t249 => (some t249)))))) = some r := H
  have A3 := Aside0.mk A30
  clear A30
  replace H := Option.bind_eq_some_iff.mp H
  obtain ⟨t246, A40, H⟩ := H
  replace H : (if t245 = t246 then ((cameoref04_rank.f k a0_0 a0_1).bind fun t250 => (if t250 = 0 then ((cameoref04_Index.f k a0_0).bind fun bt251 => ((cameoref04_Index.f k a1_0).bind fun bt253 => ((cameoref04_sign.f (wrap64 ((wrap64 (bt251.1)) - (wrap64 (bt253.1))))).bind fun t255 => (some t255)))) else (if t250 = 1 then ((cameoref01_Compare.f k a0_0 a1_0).bind fun bt256 => (some bt256.1)) else ((cameoref04_sign.f (wrap64 (a0_1 - a1_1))).bind fun t258 => (some t258))))) else ((cameoref04_rank.f k a0_0 a0_1).bind fun t247 => ((cameoref04_rank.f k a1_0 a1_1).bind fun t248 => ((cameoref04_sign.f (wrap64 (t247 - t248))).bind fun t249 => (some t249))))) = some r := H
  have A4 := Aside0.mk A40
  clear A40
  by_cases c5 : t245 = t246
  · rw [if_pos c5] at H
    have c5b0 : (t245 == t246) = true := beq_iff_eq.mpr c5
    have c5b1 : (t245 != t246) = false := bne_eq_false_iff_eq.mpr c5
    clear c5
    replace H := Option.bind_eq_some_iff.mp H
    obtain ⟨t250, A60, H⟩ := H
    replace H : (if t250 = 0 then ((cameoref04_Index.f k a0_0).bind fun bt251 => ((cameoref04_Index.f k a1_0).bind fun bt253 => ((cameoref04_sign.f (wrap64 ((wrap64 (bt251.1)) - (wrap64 (bt253.1))))).bind fun t255 => (some t255)))) else (if t250 = 1 then ((cameoref01_Compare.f k a0_0 a1_0).bind fun bt256 => (some bt256.1)) else ((cameoref04_sign.f (wrap64 (a0_1 - a1_1))).bind fun t258 => (some t258)))) = some r := H
    have A6 := Aside0.mk A60
    clear A60
    by_cases c7 : t250 = 0
    · rw [if_pos c7] at H
      have c7b0 : (t250 == 0) = true := beq_iff_eq.mpr c7
      have c7b1 : (t250 != 0) = false := bne_eq_false_iff_eq.mpr c7
      clear c7
      replace H := Option.bind_eq_some_iff.mp H
      obtain ⟨⟨t251, t252⟩, A80, H⟩ := H
      replace H : ((cameoref04_Index.f k a1_0).bind fun bt253 => ((cameoref04_sign.f (wrap64 ((wrap64 (t251)) - (wrap64 (bt253.1))))).bind fun t255 => (some t255))) = some r := H
      have A8 := Aside0.mk A80
      clear A80
      replace H := Option.bind_eq_some_iff.mp H
      obtain ⟨⟨t253, t254⟩, A90, H⟩ := H
      replace H : ((cameoref04_sign.f (wrap64 ((wrap64 (t251)) - (wrap64 (t253))))).bind fun t255 => (some t255)) = some r := H
      have A9 := Aside0.mk A90
      clear A90
      replace H := Option.bind_eq_some_iff.mp H
      obtain ⟨t255, A100, H⟩ := H
      replace H : (some t255) = some r := H
      have A10 := Aside0.mk A100
      clear A100
      obtain rfl := Option.some.inj H
      go_enter Tryd.func75, Tryd.ntmps75
      try go_wp2_with (first | ((with_reducible refine gate_dst (N := 2) rfl ?_); refine box_event ?hg (N := 2) ?hd (cs := #[.string a0_0, .int .i64 a0_1]) (t := 34) ?hr ?_; (case hd => rfl); (case hg => rfl); (case hr => first | (go_simp; done) | (go_simp; rfl)); intro gb243 hg w11 hbox hb; have n0_ := Aside0.mk (below_step (by repeat (first | (with_reducible first | exact HB.out | apply below_alloc | apply pw_below_drewN | apply below_drew1) | exact HB.out)) hb); have n1_ := Aside0.mk (hbox); have n2_ := Aside0.mk ((by rw [hg]; exact (below_size (by repeat (first | (with_reducible first | exact HB.out | apply below_alloc | apply pw_below_drewN | apply below_drew1) | exact HB.out))) : w.heap.size ≤ gb243)); have n3_ := Aside0.mk ((by rw [hg]; exact (below_size (by repeat (first | (with_reducible first | exact HB.out | apply below_alloc | apply pw_below_drewN | apply below_drew1) | exact HB.out))) : w.heap.size ≤ gb243)); clear HB; have HB := n0_; have BK243 := n1_; have GW243 := n2_; have GE243 := n3_; clear n0_ n1_ n2_ n3_; clear hb hbox hg) | ((with_reducible refine gate_dst (N := 3) rfl ?_); refine box_event ?hg (N := 3) ?hd (cs := #[.string a1_0, .int .i64 a1_1]) (t := 34) ?hr ?_; (case hd => rfl); (case hg => rfl); (case hr => first | (go_simp; done) | (go_simp; rfl)); intro gb244 hg w12 hbox hb; have n0_ := Aside0.mk (blk_below (g := gb243) (o := .cells #[.string a0_0, .int .i64 a0_1] 34 (0, 0)) (by (with_reducible repeat (first | refine blk_drewN ?_ _ | refine blk_drew ?_ | refine blk_alloc ?_ _)); exact BK243.out) hb); have n1_ := Aside0.mk (below_step (by repeat (first | (with_reducible first | exact HB.out | apply below_alloc | apply pw_below_drewN | apply below_drew1 | refine below_set ?_ GE243.out) | exact HB.out)) hb); have n2_ := Aside0.mk (hbox); have n3_ := Aside0.mk ((by rw [hg]; exact (below_size (by repeat (first | (with_reducible first | exact HB.out | apply below_alloc | apply pw_below_drewN | apply below_drew1 | refine below_set ?_ GE243.out) | exact HB.out))) : w.heap.size ≤ gb244)); have n4_ := Aside0.mk ((by rw [hg]; exact (below_size (by repeat (first | (with_reducible first | exact HB.out | apply below_alloc | apply pw_below_drewN | apply below_drew1 | refine below_set ?_ GE243.out) | exact HB.out))) : w.heap.size ≤ gb244)); have n5_ := Aside0.mk ((by rw [hg]; exact Nat.ne_of_lt (blk_lt (g := gb243) (o := .cells #[.string a0_0, .int .i64 a0_1] 34 (0, 0)) (by (with_reducible repeat (first | refine blk_drewN ?_ _ | refine blk_drew ?_ | refine blk_alloc ?_ _)); exact BK243.out)) : gb243 ≠ gb244)); have n6_ := Aside0.mk ((by rw [hg]; exact Nat.ne_of_gt (blk_lt (g := gb243) (o := .cells #[.string a0_0, .int .i64 a0_1] 34 (0, 0)) (by (with_reducible repeat (first | refine blk_drewN ?_ _ | refine blk_drew ?_ | refine blk_alloc ?_ _)); exact BK243.out)) : gb244 ≠ gb243)); clear BK243; clear HB; have BK243 := n0_; have HB := n1_; have BK244 := n2_; have GW244 := n3_; have GE244 := n4_; have NB243_244 := n5_; have NB244_243 := n6_; clear n0_ n1_ n2_ n3_ n4_ n5_ n6_; clear hb hbox hg))
      have n0_ := Aside0.mk (blk_drew BK243.out)
      have n1_ := Aside0.mk (blk_drew BK244.out)
      have n2_ := Aside0.mk (below_drew1 HB.out)
      clear BK243
      clear BK244
      clear HB
      have BK243 := n0_
      have BK244 := n1_
      have HB := n2_
      clear n0_ n1_ n2_
      refine start_ (n := 5) (S := fun w' => w'.cell? ⟨gb243, 0, none⟩ = some (.string a0_0) ∧ w'.cell? ⟨gb243, 1, none⟩ = some (.int .i64 a0_1) ∧ w'.cell? ⟨gb244, 0, none⟩ = some (.string a1_0) ∧ w'.cell? ⟨gb244, 1, none⟩ = some (.int .i64 a1_1)) (ds := []) #[false, false, false, false, false] (by kernel_rfl) rfl rfl ⟨(blk_cell BK243.out 0).trans rfl, (blk_cell BK243.out 1).trans rfl, (blk_cell BK244.out 0).trans rfl, (blk_cell BK244.out 1).trans rfl⟩ (fun hHeld => ?_)
      generalize w12.drew = w13 at BK243 BK244 HB hHeld ⊢
      refine take_ (i := 0) (N := some 11) (v := .agg #[.string a0_0, .int .i64 a0_1]) (a' := ?_) #[true, false, false, false, false] rfl rfl (by kernel_rfl) (fun _ _ _ h => h) (Or.inl ⟨by rfl, ?_⟩) hHeld ?_ ?_
      · rintro w' ⟨s0, s1, s2, s3⟩
        apply exec_load_cells Tryd.underlying34 2
        case ho => rfl
        case hx => rfl
        case hc => exact CellsAt.cons s0 (CellsAt.cons s1 (CellsAt.nil))
        case hn => rfl
        case hi => kernel_rfl
      rotate_left
      · simp only [Act.put, List.setIfInBounds_toArray, List.set_cons_zero, List.set_cons_succ, i64_w, i32_w]
        rfl
      refine take_ (i := 2) (N := some 13) (v := .agg #[.string a1_0, .int .i64 a1_1]) (a' := ?_) #[true, false, true, false, false] rfl rfl (by kernel_rfl) (fun _ _ _ h => h) (Or.inl ⟨by rfl, ?_⟩) hHeld ?_ ?_
      · rintro w' ⟨s0, s1, s2, s3⟩
        apply exec_load_cells Tryd.underlying34 2
        case ho => rfl
        case hx => rfl
        case hc => exact CellsAt.cons s2 (CellsAt.cons s3 (CellsAt.nil))
        case hn => rfl
        case hi => kernel_rfl
      rotate_left
      · simp only [Act.put, List.setIfInBounds_toArray, List.set_cons_zero, List.set_cons_succ, i64_w, i32_w]
        rfl
      refine one_ (i := 1) (N := some 12) #[true, true, true, false, false] rfl rfl (by kernel_rfl) (by decide) (fun K hK => ?_)
      refine goes_ Tryd.func74 (by kernel_rfl) rfl #[.agg #[.string a0_0, .int .i64 a0_1]] (by rfl) rfl rfl (by (try simp only [List.map_toArray, List.map_cons, List.map_nil]); first | done | rfl | (simp only [List.length_drop, List.length_take]; rfl)) ?_
      with_reducible refine (cameoref04_rank.calls k a0_0 a0_1 t245 _ A3.out).mono ?_
      rintro e w14 ⟨rfl, hb⟩
      refine ⟨_, rfl, ?_⟩
      have n0_ := Aside0.mk (blk_below (g := gb243) (o := .cells #[.string a0_0, .int .i64 a0_1] 34 (0, 0)) (by (with_reducible repeat (first | refine blk_drewN ?_ _ | refine blk_drew ?_ | refine blk_alloc ?_ _)); exact BK243.out) hb)
      have n1_ := Aside0.mk (blk_below (g := gb244) (o := .cells #[.string a1_0, .int .i64 a1_1] 34 (0, 0)) (by (with_reducible repeat (first | refine blk_drewN ?_ _ | refine blk_drew ?_ | refine blk_alloc ?_ _)); exact BK244.out) hb)
      have n2_ := Aside0.mk (below_step (by repeat (first | (with_reducible first | exact HB.out | apply below_alloc | apply pw_below_drewN | apply below_drew1 | refine below_set ?_ GE243.out | refine below_set ?_ GE244.out) | exact HB.out)) hb)
      clear BK243
      clear BK244
      clear HB
      have BK243 := n0_
      have BK244 := n1_
      have HB := n2_
      clear n0_ n1_ n2_
      (try clear hb)
      (try clear hb2)
      (try clear hk)
      (try clear hi)
      refine hK.out _ _ ⟨(blk_cell BK243.out 0).trans rfl, (blk_cell BK243.out 1).trans rfl, (blk_cell BK244.out 0).trans rfl, (blk_cell BK244.out 1).trans rfl⟩ (fun hHeld => ?_)
      clear hK K
      refine norm_ (a' := ?_) ?_ ?_
      rotate_left
      · show Act.put _ (some 12) _ = _
        simp only [Act.put, List.setIfInBounds_toArray, List.set_cons_zero, List.set_cons_succ, i64_w, i32_w]
        rfl
      refine one_ (i := 3) (N := some 14) #[true, true, true, true, false] rfl rfl (by kernel_rfl) (by decide) (fun K hK => ?_)
      refine goes_ Tryd.func74 (by kernel_rfl) rfl #[.agg #[.string a1_0, .int .i64 a1_1]] (by rfl) rfl rfl (by (try simp only [List.map_toArray, List.map_cons, List.map_nil]); first | done | rfl | (simp only [List.length_drop, List.length_take]; rfl)) ?_
      with_reducible refine (cameoref04_rank.calls k a1_0 a1_1 t246 _ A4.out).mono ?_
      rintro e w15 ⟨rfl, hb⟩
      refine ⟨_, rfl, ?_⟩
      have n0_ := Aside0.mk (blk_below (g := gb243) (o := .cells #[.string a0_0, .int .i64 a0_1] 34 (0, 0)) (by (with_reducible repeat (first | refine blk_drewN ?_ _ | refine blk_drew ?_ | refine blk_alloc ?_ _)); exact BK243.out) hb)
      have n1_ := Aside0.mk (blk_below (g := gb244) (o := .cells #[.string a1_0, .int .i64 a1_1] 34 (0, 0)) (by (with_reducible repeat (first | refine blk_drewN ?_ _ | refine blk_drew ?_ | refine blk_alloc ?_ _)); exact BK244.out) hb)
      have n2_ := Aside0.mk (below_step (by repeat (first | (with_reducible first | exact HB.out | apply below_alloc | apply pw_below_drewN | apply below_drew1 | refine below_set ?_ GE243.out | refine below_set ?_ GE244.out) | exact HB.out)) hb)
      clear BK243
      clear BK244
      clear HB
      have BK243 := n0_
      have BK244 := n1_
      have HB := n2_
      clear n0_ n1_ n2_
      (try clear hb)
      (try clear hb2)
      (try clear hk)
      (try clear hi)
      refine hK.out _ _ ⟨(blk_cell BK243.out 0).trans rfl, (blk_cell BK243.out 1).trans rfl, (blk_cell BK244.out 0).trans rfl, (blk_cell BK244.out 1).trans rfl⟩ (fun hHeld => ?_)
      clear hK K
      refine norm_ (a' := ?_) ?_ ?_
      rotate_left
      · show Act.put _ (some 14) _ = _
        simp only [Act.put, List.setIfInBounds_toArray, List.set_cons_zero, List.set_cons_succ, i64_w, i32_w]
        rfl
      refine pure_ (i := 4) (N := some 15) (v := ?_) (a' := ?_) #[true, true, true, true, true] rfl rfl (by kernel_rfl) (fun _ _ _ h => h) (Or.inl ⟨by rfl, ?_⟩) ?_ ?_
      rotate_left
      · intro w'
        go_simp
        with_reducible rfl
      rotate_left
      · simp only [Act.put, List.setIfInBounds_toArray, List.set_cons_zero, List.set_cons_succ, i64_w, i32_w]
        rfl
      refine done_ (by kernel_rfl) ?_
      have hnb16 := NB243_244.out
      have hnc16 := NB244_243.out
      try go_wp2_with (first | ((with_reducible refine gate_dst (N := 22) rfl ?_); (try (refine gate_guard (by rfl) ?_; dsimp only)); refine load_cells_event ?hg (N := 22) ?hd (ty := 34) (x := ?lx259) (b := ⟨gb243, 0, none⟩) (cs := [.string a0_0, .int .i64 a0_1]) ?ho ?hc ?hx (n := 2) ?hn ?hi Tryd.underlying34 ?_; (case ho => rfl); (case hd => rfl); (case hg => rfl); (case hc => refine blk_cells (arr := #[.string a0_0, .int .i64 a0_1]) (t := 34) (fr := (0, 0)) (off := 0) (n := 2) ?_ rfl; exact by (with_reducible repeat (first | refine blk_drewN ?_ _ | refine blk_drew ?_ | refine blk_alloc ?_ _)); exact BK243.out); (case hx => first | rfl | (go_simp; done)); (case hn => rfl); (case hi => kernel_rfl)) | ((with_reducible refine gate_callee (f := 74) rfl ?_); refine goesL_ (some 23) rfl rfl Tryd.func74 (by kernel_rfl) rfl #[.agg #[.string a0_0, .int .i64 a0_1]] rfl (by (try simp only [List.map_toArray, List.map_cons, List.map_nil]); first | done | rfl | (simp only [List.length_drop, List.length_take]; rfl)) ?_; (with_reducible refine (cameoref04_rank.calls k a0_0 a0_1 t250 _ A6.out).mono ?_); rintro e w17 ⟨rfl, hb⟩; refine ⟨_, rfl, ?_⟩; have n0_ := Aside0.mk (blk_below (g := gb243) (o := .cells #[.string a0_0, .int .i64 a0_1] 34 (0, 0)) (by (with_reducible repeat (first | refine blk_drewN ?_ _ | refine blk_drew ?_ | refine blk_alloc ?_ _)); exact BK243.out) hb); have n1_ := Aside0.mk (blk_below (g := gb244) (o := .cells #[.string a1_0, .int .i64 a1_1] 34 (0, 0)) (by (with_reducible repeat (first | refine blk_drewN ?_ _ | refine blk_drew ?_ | refine blk_alloc ?_ _)); exact BK244.out) hb); have n2_ := Aside0.mk (below_step (by repeat (first | (with_reducible first | exact HB.out | apply below_alloc | apply pw_below_drewN | apply below_drew1 | refine below_set ?_ GE243.out | refine below_set ?_ GE244.out) | exact HB.out)) hb); clear BK243; clear BK244; clear HB; have BK243 := n0_; have BK244 := n1_; have HB := n2_; clear n0_ n1_ n2_; (try clear hb); (try clear hb2); (try clear hk); (try clear hi); have hcz18_0 : w17.cell? ⟨gb243, 0, none⟩ = some (.string a0_0) := (blk_cell BK243.out 0).trans rfl) | ((with_reducible refine gate_callee (f := 82) rfl ?_); refine goesL_ (some 29) rfl rfl Tryd.func82 (by kernel_rfl) rfl #[.string a0_0] rfl (by (try simp only [List.map_toArray, List.map_cons, List.map_nil]); first | done | rfl | (simp only [List.length_drop, List.length_take]; rfl)) ?_; (with_reducible refine (cameoref04_Index.calls k a0_0 t251 t252 _ A8.out).mono ?_); rintro e w' ⟨rfl, ⟨nd, rfl⟩⟩; refine ⟨_, rfl, ?_⟩; have hcz19_0 : w17.cell? ⟨gb244, 0, none⟩ = some (.string a1_0) := (blk_cell BK244.out 0).trans rfl) | ((with_reducible refine gate_callee (f := 82) rfl ?_); refine goesL_ (some 35) rfl rfl Tryd.func82 (by kernel_rfl) rfl #[.string a1_0] rfl (by (try simp only [List.map_toArray, List.map_cons, List.map_nil]); first | done | rfl | (simp only [List.length_drop, List.length_take]; rfl)) ?_; (with_reducible refine (cameoref04_Index.calls k a1_0 t253 t254 _ A9.out).mono ?_); rintro e w' ⟨rfl, ⟨nd, rfl⟩⟩; refine ⟨_, rfl, ?_⟩) | ((with_reducible refine gate_callee (f := 83) rfl ?_); refine goesL_ (some 43) rfl rfl Tryd.func83 (by kernel_rfl) rfl #[.int .i64 (wrap64 ((wrap64 (t251)) - (wrap64 (t253))))] rfl (by (try simp only [List.map_toArray, List.map_cons, List.map_nil]); first | done | rfl | (simp only [List.length_drop, List.length_take]; rfl)) ?_; (with_reducible refine (cameoref04_sign.calls (wrap64 ((wrap64 (t251)) - (wrap64 (t253)))) t255 _ A10.out).mono ?_); rintro e w20 ⟨rfl, hb⟩; refine ⟨_, rfl, ?_⟩; have n0_ := Aside0.mk (blk_below (g := gb243) (o := .cells #[.string a0_0, .int .i64 a0_1] 34 (0, 0)) (by (with_reducible repeat (first | refine blk_drewN ?_ _ | refine blk_drew ?_ | refine blk_alloc ?_ _)); exact BK243.out) hb); have n1_ := Aside0.mk (blk_below (g := gb244) (o := .cells #[.string a1_0, .int .i64 a1_1] 34 (0, 0)) (by (with_reducible repeat (first | refine blk_drewN ?_ _ | refine blk_drew ?_ | refine blk_alloc ?_ _)); exact BK244.out) hb); have n2_ := Aside0.mk (below_step (by repeat (first | (with_reducible first | exact HB.out | apply below_alloc | apply pw_below_drewN | apply below_drew1 | refine below_set ?_ GE243.out | refine below_set ?_ GE244.out) | exact HB.out)) hb); clear BK243; clear BK244; clear HB; have BK243 := n0_; have BK244 := n1_; have HB := n2_; clear n0_ n1_ n2_; (try clear hb); (try clear hb2); (try clear hk); (try clear hi)))
      go_ret
      exact ⟨by first | rfl | (simp [errW_none, errW_some] <;> rfl) | (simp [*, errW_none, errW_some] <;> rfl), by repeat (first | (with_reducible first | exact HB.out | apply below_alloc | apply pw_below_drewN | apply below_drew1 | refine below_set ?_ GE243.out | refine below_set ?_ GE244.out) | exact HB.out)⟩
    · rw [if_neg c7] at H
      have c7b0 : (t250 == 0) = false := beq_eq_false_iff_ne.mpr c7
      have c7b1 : (t250 != 0) = true := bne_iff_ne.mpr c7
      by_cases c21 : t250 = 1
      · rw [if_pos c21] at H
        have c21b0 : (t250 == 1) = true := beq_iff_eq.mpr c21
        have c21b1 : (t250 != 1) = false := bne_eq_false_iff_eq.mpr c21
        clear c21
        replace H := Option.bind_eq_some_iff.mp H
        obtain ⟨⟨t256, t257⟩, A220, H⟩ := H
        replace H : (some t256) = some r := H
        have A22 := Aside0.mk A220
        clear A220
        obtain rfl := Option.some.inj H
        go_enter Tryd.func75, Tryd.ntmps75
        try go_wp2_with (first | ((with_reducible refine gate_dst (N := 2) rfl ?_); refine box_event ?hg (N := 2) ?hd (cs := #[.string a0_0, .int .i64 a0_1]) (t := 34) ?hr ?_; (case hd => rfl); (case hg => rfl); (case hr => first | (go_simp; done) | (go_simp; rfl)); intro gb243 hg w23 hbox hb; have n0_ := Aside0.mk (below_step (by repeat (first | (with_reducible first | exact HB.out | apply below_alloc | apply pw_below_drewN | apply below_drew1) | exact HB.out)) hb); have n1_ := Aside0.mk (hbox); have n2_ := Aside0.mk ((by rw [hg]; exact (below_size (by repeat (first | (with_reducible first | exact HB.out | apply below_alloc | apply pw_below_drewN | apply below_drew1) | exact HB.out))) : w.heap.size ≤ gb243)); have n3_ := Aside0.mk ((by rw [hg]; exact (below_size (by repeat (first | (with_reducible first | exact HB.out | apply below_alloc | apply pw_below_drewN | apply below_drew1) | exact HB.out))) : w.heap.size ≤ gb243)); clear HB; have HB := n0_; have BK243 := n1_; have GW243 := n2_; have GE243 := n3_; clear n0_ n1_ n2_ n3_; clear hb hbox hg) | ((with_reducible refine gate_dst (N := 3) rfl ?_); refine box_event ?hg (N := 3) ?hd (cs := #[.string a1_0, .int .i64 a1_1]) (t := 34) ?hr ?_; (case hd => rfl); (case hg => rfl); (case hr => first | (go_simp; done) | (go_simp; rfl)); intro gb244 hg w24 hbox hb; have n0_ := Aside0.mk (blk_below (g := gb243) (o := .cells #[.string a0_0, .int .i64 a0_1] 34 (0, 0)) (by (with_reducible repeat (first | refine blk_drewN ?_ _ | refine blk_drew ?_ | refine blk_alloc ?_ _)); exact BK243.out) hb); have n1_ := Aside0.mk (below_step (by repeat (first | (with_reducible first | exact HB.out | apply below_alloc | apply pw_below_drewN | apply below_drew1 | refine below_set ?_ GE243.out) | exact HB.out)) hb); have n2_ := Aside0.mk (hbox); have n3_ := Aside0.mk ((by rw [hg]; exact (below_size (by repeat (first | (with_reducible first | exact HB.out | apply below_alloc | apply pw_below_drewN | apply below_drew1 | refine below_set ?_ GE243.out) | exact HB.out))) : w.heap.size ≤ gb244)); have n4_ := Aside0.mk ((by rw [hg]; exact (below_size (by repeat (first | (with_reducible first | exact HB.out | apply below_alloc | apply pw_below_drewN | apply below_drew1 | refine below_set ?_ GE243.out) | exact HB.out))) : w.heap.size ≤ gb244)); have n5_ := Aside0.mk ((by rw [hg]; exact Nat.ne_of_lt (blk_lt (g := gb243) (o := .cells #[.string a0_0, .int .i64 a0_1] 34 (0, 0)) (by (with_reducible repeat (first | refine blk_drewN ?_ _ | refine blk_drew ?_ | refine blk_alloc ?_ _)); exact BK243.out)) : gb243 ≠ gb244)); have n6_ := Aside0.mk ((by rw [hg]; exact Nat.ne_of_gt (blk_lt (g := gb243) (o := .cells #[.string a0_0, .int .i64 a0_1] 34 (0, 0)) (by (with_reducible repeat (first | refine blk_drewN ?_ _ | refine blk_drew ?_ | refine blk_alloc ?_ _)); exact BK243.out)) : gb244 ≠ gb243)); clear BK243; clear HB; have BK243 := n0_; have HB := n1_; have BK244 := n2_; have GW244 := n3_; have GE244 := n4_; have NB243_244 := n5_; have NB244_243 := n6_; clear n0_ n1_ n2_ n3_ n4_ n5_ n6_; clear hb hbox hg))
        have n0_ := Aside0.mk (blk_drew BK243.out)
        have n1_ := Aside0.mk (blk_drew BK244.out)
        have n2_ := Aside0.mk (below_drew1 HB.out)
        clear BK243
        clear BK244
        clear HB
        have BK243 := n0_
        have BK244 := n1_
        have HB := n2_
        clear n0_ n1_ n2_
        refine start_ (n := 5) (S := fun w' => w'.cell? ⟨gb243, 0, none⟩ = some (.string a0_0) ∧ w'.cell? ⟨gb243, 1, none⟩ = some (.int .i64 a0_1) ∧ w'.cell? ⟨gb244, 0, none⟩ = some (.string a1_0) ∧ w'.cell? ⟨gb244, 1, none⟩ = some (.int .i64 a1_1)) (ds := []) #[false, false, false, false, false] (by kernel_rfl) rfl rfl ⟨(blk_cell BK243.out 0).trans rfl, (blk_cell BK243.out 1).trans rfl, (blk_cell BK244.out 0).trans rfl, (blk_cell BK244.out 1).trans rfl⟩ (fun hHeld => ?_)
        generalize w24.drew = w25 at BK243 BK244 HB hHeld ⊢
        refine take_ (i := 0) (N := some 11) (v := .agg #[.string a0_0, .int .i64 a0_1]) (a' := ?_) #[true, false, false, false, false] rfl rfl (by kernel_rfl) (fun _ _ _ h => h) (Or.inl ⟨by rfl, ?_⟩) hHeld ?_ ?_
        · rintro w' ⟨s0, s1, s2, s3⟩
          apply exec_load_cells Tryd.underlying34 2
          case ho => rfl
          case hx => rfl
          case hc => exact CellsAt.cons s0 (CellsAt.cons s1 (CellsAt.nil))
          case hn => rfl
          case hi => kernel_rfl
        rotate_left
        · simp only [Act.put, List.setIfInBounds_toArray, List.set_cons_zero, List.set_cons_succ, i64_w, i32_w]
          rfl
        refine take_ (i := 2) (N := some 13) (v := .agg #[.string a1_0, .int .i64 a1_1]) (a' := ?_) #[true, false, true, false, false] rfl rfl (by kernel_rfl) (fun _ _ _ h => h) (Or.inl ⟨by rfl, ?_⟩) hHeld ?_ ?_
        · rintro w' ⟨s0, s1, s2, s3⟩
          apply exec_load_cells Tryd.underlying34 2
          case ho => rfl
          case hx => rfl
          case hc => exact CellsAt.cons s2 (CellsAt.cons s3 (CellsAt.nil))
          case hn => rfl
          case hi => kernel_rfl
        rotate_left
        · simp only [Act.put, List.setIfInBounds_toArray, List.set_cons_zero, List.set_cons_succ, i64_w, i32_w]
          rfl
        refine one_ (i := 1) (N := some 12) #[true, true, true, false, false] rfl rfl (by kernel_rfl) (by decide) (fun K hK => ?_)
        refine goes_ Tryd.func74 (by kernel_rfl) rfl #[.agg #[.string a0_0, .int .i64 a0_1]] (by rfl) rfl rfl (by (try simp only [List.map_toArray, List.map_cons, List.map_nil]); first | done | rfl | (simp only [List.length_drop, List.length_take]; rfl)) ?_
        with_reducible refine (cameoref04_rank.calls k a0_0 a0_1 t245 _ A3.out).mono ?_
        rintro e w26 ⟨rfl, hb⟩
        refine ⟨_, rfl, ?_⟩
        have n0_ := Aside0.mk (blk_below (g := gb243) (o := .cells #[.string a0_0, .int .i64 a0_1] 34 (0, 0)) (by (with_reducible repeat (first | refine blk_drewN ?_ _ | refine blk_drew ?_ | refine blk_alloc ?_ _)); exact BK243.out) hb)
        have n1_ := Aside0.mk (blk_below (g := gb244) (o := .cells #[.string a1_0, .int .i64 a1_1] 34 (0, 0)) (by (with_reducible repeat (first | refine blk_drewN ?_ _ | refine blk_drew ?_ | refine blk_alloc ?_ _)); exact BK244.out) hb)
        have n2_ := Aside0.mk (below_step (by repeat (first | (with_reducible first | exact HB.out | apply below_alloc | apply pw_below_drewN | apply below_drew1 | refine below_set ?_ GE243.out | refine below_set ?_ GE244.out) | exact HB.out)) hb)
        clear BK243
        clear BK244
        clear HB
        have BK243 := n0_
        have BK244 := n1_
        have HB := n2_
        clear n0_ n1_ n2_
        (try clear hb)
        (try clear hb2)
        (try clear hk)
        (try clear hi)
        refine hK.out _ _ ⟨(blk_cell BK243.out 0).trans rfl, (blk_cell BK243.out 1).trans rfl, (blk_cell BK244.out 0).trans rfl, (blk_cell BK244.out 1).trans rfl⟩ (fun hHeld => ?_)
        clear hK K
        refine norm_ (a' := ?_) ?_ ?_
        rotate_left
        · show Act.put _ (some 12) _ = _
          simp only [Act.put, List.setIfInBounds_toArray, List.set_cons_zero, List.set_cons_succ, i64_w, i32_w]
          rfl
        refine one_ (i := 3) (N := some 14) #[true, true, true, true, false] rfl rfl (by kernel_rfl) (by decide) (fun K hK => ?_)
        refine goes_ Tryd.func74 (by kernel_rfl) rfl #[.agg #[.string a1_0, .int .i64 a1_1]] (by rfl) rfl rfl (by (try simp only [List.map_toArray, List.map_cons, List.map_nil]); first | done | rfl | (simp only [List.length_drop, List.length_take]; rfl)) ?_
        with_reducible refine (cameoref04_rank.calls k a1_0 a1_1 t246 _ A4.out).mono ?_
        rintro e w27 ⟨rfl, hb⟩
        refine ⟨_, rfl, ?_⟩
        have n0_ := Aside0.mk (blk_below (g := gb243) (o := .cells #[.string a0_0, .int .i64 a0_1] 34 (0, 0)) (by (with_reducible repeat (first | refine blk_drewN ?_ _ | refine blk_drew ?_ | refine blk_alloc ?_ _)); exact BK243.out) hb)
        have n1_ := Aside0.mk (blk_below (g := gb244) (o := .cells #[.string a1_0, .int .i64 a1_1] 34 (0, 0)) (by (with_reducible repeat (first | refine blk_drewN ?_ _ | refine blk_drew ?_ | refine blk_alloc ?_ _)); exact BK244.out) hb)
        have n2_ := Aside0.mk (below_step (by repeat (first | (with_reducible first | exact HB.out | apply below_alloc | apply pw_below_drewN | apply below_drew1 | refine below_set ?_ GE243.out | refine below_set ?_ GE244.out) | exact HB.out)) hb)
        clear BK243
        clear BK244
        clear HB
        have BK243 := n0_
        have BK244 := n1_
        have HB := n2_
        clear n0_ n1_ n2_
        (try clear hb)
        (try clear hb2)
        (try clear hk)
        (try clear hi)
        refine hK.out _ _ ⟨(blk_cell BK243.out 0).trans rfl, (blk_cell BK243.out 1).trans rfl, (blk_cell BK244.out 0).trans rfl, (blk_cell BK244.out 1).trans rfl⟩ (fun hHeld => ?_)
        clear hK K
        refine norm_ (a' := ?_) ?_ ?_
        rotate_left
        · show Act.put _ (some 14) _ = _
          simp only [Act.put, List.setIfInBounds_toArray, List.set_cons_zero, List.set_cons_succ, i64_w, i32_w]
          rfl
        refine pure_ (i := 4) (N := some 15) (v := ?_) (a' := ?_) #[true, true, true, true, true] rfl rfl (by kernel_rfl) (fun _ _ _ h => h) (Or.inl ⟨by rfl, ?_⟩) ?_ ?_
        rotate_left
        · intro w'
          go_simp
          with_reducible rfl
        rotate_left
        · simp only [Act.put, List.setIfInBounds_toArray, List.set_cons_zero, List.set_cons_succ, i64_w, i32_w]
          rfl
        refine done_ (by kernel_rfl) ?_
        have hnb28 := NB243_244.out
        have hnc28 := NB244_243.out
        try go_wp2_with (first | ((with_reducible refine gate_dst (N := 22) rfl ?_); (try (refine gate_guard (by rfl) ?_; dsimp only)); refine load_cells_event ?hg (N := 22) ?hd (ty := 34) (x := ?lx260) (b := ⟨gb243, 0, none⟩) (cs := [.string a0_0, .int .i64 a0_1]) ?ho ?hc ?hx (n := 2) ?hn ?hi Tryd.underlying34 ?_; (case ho => rfl); (case hd => rfl); (case hg => rfl); (case hc => refine blk_cells (arr := #[.string a0_0, .int .i64 a0_1]) (t := 34) (fr := (0, 0)) (off := 0) (n := 2) ?_ rfl; exact by (with_reducible repeat (first | refine blk_drewN ?_ _ | refine blk_drew ?_ | refine blk_alloc ?_ _)); exact BK243.out); (case hx => first | rfl | (go_simp; done)); (case hn => rfl); (case hi => kernel_rfl)) | ((with_reducible refine gate_callee (f := 74) rfl ?_); refine goesL_ (some 23) rfl rfl Tryd.func74 (by kernel_rfl) rfl #[.agg #[.string a0_0, .int .i64 a0_1]] rfl (by (try simp only [List.map_toArray, List.map_cons, List.map_nil]); first | done | rfl | (simp only [List.length_drop, List.length_take]; rfl)) ?_; (with_reducible refine (cameoref04_rank.calls k a0_0 a0_1 t250 _ A6.out).mono ?_); rintro e w29 ⟨rfl, hb⟩; refine ⟨_, rfl, ?_⟩; have n0_ := Aside0.mk (blk_below (g := gb243) (o := .cells #[.string a0_0, .int .i64 a0_1] 34 (0, 0)) (by (with_reducible repeat (first | refine blk_drewN ?_ _ | refine blk_drew ?_ | refine blk_alloc ?_ _)); exact BK243.out) hb); have n1_ := Aside0.mk (blk_below (g := gb244) (o := .cells #[.string a1_0, .int .i64 a1_1] 34 (0, 0)) (by (with_reducible repeat (first | refine blk_drewN ?_ _ | refine blk_drew ?_ | refine blk_alloc ?_ _)); exact BK244.out) hb); have n2_ := Aside0.mk (below_step (by repeat (first | (with_reducible first | exact HB.out | apply below_alloc | apply pw_below_drewN | apply below_drew1 | refine below_set ?_ GE243.out | refine below_set ?_ GE244.out) | exact HB.out)) hb); clear BK243; clear BK244; clear HB; have BK243 := n0_; have BK244 := n1_; have HB := n2_; clear n0_ n1_ n2_; (try clear hb); (try clear hb2); (try clear hk); (try clear hi); have hcz30_0 : w29.cell? ⟨gb243, 0, none⟩ = some (.string a0_0) := (blk_cell BK243.out 0).trans rfl; have hcz31_0 : w29.cell? ⟨gb244, 0, none⟩ = some (.string a1_0) := (blk_cell BK244.out 0).trans rfl) | ((with_reducible refine gate_callee (f := 84) rfl ?_); refine goesL_ (some 51) rfl rfl Tryd.func84 (by kernel_rfl) rfl #[.string a0_0, .string a1_0] rfl (by (try simp only [List.map_toArray, List.map_cons, List.map_nil]); first | done | rfl | (simp only [List.length_drop, List.length_take]; rfl)) ?_; (with_reducible refine (cameoref01_Compare.calls k a0_0 a1_0 t256 t257 _ A22.out).mono ?_); rintro e w32 ⟨rfl, hb⟩; refine ⟨_, rfl, ?_⟩; have n0_ := Aside0.mk (blk_below (g := gb243) (o := .cells #[.string a0_0, .int .i64 a0_1] 34 (0, 0)) (by (with_reducible repeat (first | refine blk_drewN ?_ _ | refine blk_drew ?_ | refine blk_alloc ?_ _)); exact BK243.out) hb); have n1_ := Aside0.mk (blk_below (g := gb244) (o := .cells #[.string a1_0, .int .i64 a1_1] 34 (0, 0)) (by (with_reducible repeat (first | refine blk_drewN ?_ _ | refine blk_drew ?_ | refine blk_alloc ?_ _)); exact BK244.out) hb); have n2_ := Aside0.mk (below_step (by repeat (first | (with_reducible first | exact HB.out | apply below_alloc | apply pw_below_drewN | apply below_drew1 | refine below_set ?_ GE243.out | refine below_set ?_ GE244.out) | exact HB.out)) hb); clear BK243; clear BK244; clear HB; have BK243 := n0_; have BK244 := n1_; have HB := n2_; clear n0_ n1_ n2_; (try clear hb); (try clear hb2); (try clear hk); (try clear hi)))
        go_ret
        exact ⟨by first | rfl | (simp [errW_none, errW_some] <;> rfl) | (simp [*, errW_none, errW_some] <;> rfl), by repeat (first | (with_reducible first | exact HB.out | apply below_alloc | apply pw_below_drewN | apply below_drew1 | refine below_set ?_ GE243.out | refine below_set ?_ GE244.out) | exact HB.out)⟩
      · rw [if_neg c21] at H
        have c21b0 : (t250 == 1) = false := beq_eq_false_iff_ne.mpr c21
        have c21b1 : (t250 != 1) = true := bne_iff_ne.mpr c21
        replace H := Option.bind_eq_some_iff.mp H
        obtain ⟨t258, A330, H⟩ := H
        replace H : (some t258) = some r := H
        have A33 := Aside0.mk A330
        clear A330
        obtain rfl := Option.some.inj H
        go_enter Tryd.func75, Tryd.ntmps75
        try go_wp2_with (first | ((with_reducible refine gate_dst (N := 2) rfl ?_); refine box_event ?hg (N := 2) ?hd (cs := #[.string a0_0, .int .i64 a0_1]) (t := 34) ?hr ?_; (case hd => rfl); (case hg => rfl); (case hr => first | (go_simp; done) | (go_simp; rfl)); intro gb243 hg w34 hbox hb; have n0_ := Aside0.mk (below_step (by repeat (first | (with_reducible first | exact HB.out | apply below_alloc | apply pw_below_drewN | apply below_drew1) | exact HB.out)) hb); have n1_ := Aside0.mk (hbox); have n2_ := Aside0.mk ((by rw [hg]; exact (below_size (by repeat (first | (with_reducible first | exact HB.out | apply below_alloc | apply pw_below_drewN | apply below_drew1) | exact HB.out))) : w.heap.size ≤ gb243)); have n3_ := Aside0.mk ((by rw [hg]; exact (below_size (by repeat (first | (with_reducible first | exact HB.out | apply below_alloc | apply pw_below_drewN | apply below_drew1) | exact HB.out))) : w.heap.size ≤ gb243)); clear HB; have HB := n0_; have BK243 := n1_; have GW243 := n2_; have GE243 := n3_; clear n0_ n1_ n2_ n3_; clear hb hbox hg) | ((with_reducible refine gate_dst (N := 3) rfl ?_); refine box_event ?hg (N := 3) ?hd (cs := #[.string a1_0, .int .i64 a1_1]) (t := 34) ?hr ?_; (case hd => rfl); (case hg => rfl); (case hr => first | (go_simp; done) | (go_simp; rfl)); intro gb244 hg w35 hbox hb; have n0_ := Aside0.mk (blk_below (g := gb243) (o := .cells #[.string a0_0, .int .i64 a0_1] 34 (0, 0)) (by (with_reducible repeat (first | refine blk_drewN ?_ _ | refine blk_drew ?_ | refine blk_alloc ?_ _)); exact BK243.out) hb); have n1_ := Aside0.mk (below_step (by repeat (first | (with_reducible first | exact HB.out | apply below_alloc | apply pw_below_drewN | apply below_drew1 | refine below_set ?_ GE243.out) | exact HB.out)) hb); have n2_ := Aside0.mk (hbox); have n3_ := Aside0.mk ((by rw [hg]; exact (below_size (by repeat (first | (with_reducible first | exact HB.out | apply below_alloc | apply pw_below_drewN | apply below_drew1 | refine below_set ?_ GE243.out) | exact HB.out))) : w.heap.size ≤ gb244)); have n4_ := Aside0.mk ((by rw [hg]; exact (below_size (by repeat (first | (with_reducible first | exact HB.out | apply below_alloc | apply pw_below_drewN | apply below_drew1 | refine below_set ?_ GE243.out) | exact HB.out))) : w.heap.size ≤ gb244)); have n5_ := Aside0.mk ((by rw [hg]; exact Nat.ne_of_lt (blk_lt (g := gb243) (o := .cells #[.string a0_0, .int .i64 a0_1] 34 (0, 0)) (by (with_reducible repeat (first | refine blk_drewN ?_ _ | refine blk_drew ?_ | refine blk_alloc ?_ _)); exact BK243.out)) : gb243 ≠ gb244)); have n6_ := Aside0.mk ((by rw [hg]; exact Nat.ne_of_gt (blk_lt (g := gb243) (o := .cells #[.string a0_0, .int .i64 a0_1] 34 (0, 0)) (by (with_reducible repeat (first | refine blk_drewN ?_ _ | refine blk_drew ?_ | refine blk_alloc ?_ _)); exact BK243.out)) : gb244 ≠ gb243)); clear BK243; clear HB; have BK243 := n0_; have HB := n1_; have BK244 := n2_; have GW244 := n3_; have GE244 := n4_; have NB243_244 := n5_; have NB244_243 := n6_; clear n0_ n1_ n2_ n3_ n4_ n5_ n6_; clear hb hbox hg))
        have n0_ := Aside0.mk (blk_drew BK243.out)
        have n1_ := Aside0.mk (blk_drew BK244.out)
        have n2_ := Aside0.mk (below_drew1 HB.out)
        clear BK243
        clear BK244
        clear HB
        have BK243 := n0_
        have BK244 := n1_
        have HB := n2_
        clear n0_ n1_ n2_
        refine start_ (n := 5) (S := fun w' => w'.cell? ⟨gb243, 0, none⟩ = some (.string a0_0) ∧ w'.cell? ⟨gb243, 1, none⟩ = some (.int .i64 a0_1) ∧ w'.cell? ⟨gb244, 0, none⟩ = some (.string a1_0) ∧ w'.cell? ⟨gb244, 1, none⟩ = some (.int .i64 a1_1)) (ds := []) #[false, false, false, false, false] (by kernel_rfl) rfl rfl ⟨(blk_cell BK243.out 0).trans rfl, (blk_cell BK243.out 1).trans rfl, (blk_cell BK244.out 0).trans rfl, (blk_cell BK244.out 1).trans rfl⟩ (fun hHeld => ?_)
        generalize w35.drew = w36 at BK243 BK244 HB hHeld ⊢
        refine take_ (i := 0) (N := some 11) (v := .agg #[.string a0_0, .int .i64 a0_1]) (a' := ?_) #[true, false, false, false, false] rfl rfl (by kernel_rfl) (fun _ _ _ h => h) (Or.inl ⟨by rfl, ?_⟩) hHeld ?_ ?_
        · rintro w' ⟨s0, s1, s2, s3⟩
          apply exec_load_cells Tryd.underlying34 2
          case ho => rfl
          case hx => rfl
          case hc => exact CellsAt.cons s0 (CellsAt.cons s1 (CellsAt.nil))
          case hn => rfl
          case hi => kernel_rfl
        rotate_left
        · simp only [Act.put, List.setIfInBounds_toArray, List.set_cons_zero, List.set_cons_succ, i64_w, i32_w]
          rfl
        refine take_ (i := 2) (N := some 13) (v := .agg #[.string a1_0, .int .i64 a1_1]) (a' := ?_) #[true, false, true, false, false] rfl rfl (by kernel_rfl) (fun _ _ _ h => h) (Or.inl ⟨by rfl, ?_⟩) hHeld ?_ ?_
        · rintro w' ⟨s0, s1, s2, s3⟩
          apply exec_load_cells Tryd.underlying34 2
          case ho => rfl
          case hx => rfl
          case hc => exact CellsAt.cons s2 (CellsAt.cons s3 (CellsAt.nil))
          case hn => rfl
          case hi => kernel_rfl
        rotate_left
        · simp only [Act.put, List.setIfInBounds_toArray, List.set_cons_zero, List.set_cons_succ, i64_w, i32_w]
          rfl
        refine one_ (i := 1) (N := some 12) #[true, true, true, false, false] rfl rfl (by kernel_rfl) (by decide) (fun K hK => ?_)
        refine goes_ Tryd.func74 (by kernel_rfl) rfl #[.agg #[.string a0_0, .int .i64 a0_1]] (by rfl) rfl rfl (by (try simp only [List.map_toArray, List.map_cons, List.map_nil]); first | done | rfl | (simp only [List.length_drop, List.length_take]; rfl)) ?_
        with_reducible refine (cameoref04_rank.calls k a0_0 a0_1 t245 _ A3.out).mono ?_
        rintro e w37 ⟨rfl, hb⟩
        refine ⟨_, rfl, ?_⟩
        have n0_ := Aside0.mk (blk_below (g := gb243) (o := .cells #[.string a0_0, .int .i64 a0_1] 34 (0, 0)) (by (with_reducible repeat (first | refine blk_drewN ?_ _ | refine blk_drew ?_ | refine blk_alloc ?_ _)); exact BK243.out) hb)
        have n1_ := Aside0.mk (blk_below (g := gb244) (o := .cells #[.string a1_0, .int .i64 a1_1] 34 (0, 0)) (by (with_reducible repeat (first | refine blk_drewN ?_ _ | refine blk_drew ?_ | refine blk_alloc ?_ _)); exact BK244.out) hb)
        have n2_ := Aside0.mk (below_step (by repeat (first | (with_reducible first | exact HB.out | apply below_alloc | apply pw_below_drewN | apply below_drew1 | refine below_set ?_ GE243.out | refine below_set ?_ GE244.out) | exact HB.out)) hb)
        clear BK243
        clear BK244
        clear HB
        have BK243 := n0_
        have BK244 := n1_
        have HB := n2_
        clear n0_ n1_ n2_
        (try clear hb)
        (try clear hb2)
        (try clear hk)
        (try clear hi)
        refine hK.out _ _ ⟨(blk_cell BK243.out 0).trans rfl, (blk_cell BK243.out 1).trans rfl, (blk_cell BK244.out 0).trans rfl, (blk_cell BK244.out 1).trans rfl⟩ (fun hHeld => ?_)
        clear hK K
        refine norm_ (a' := ?_) ?_ ?_
        rotate_left
        · show Act.put _ (some 12) _ = _
          simp only [Act.put, List.setIfInBounds_toArray, List.set_cons_zero, List.set_cons_succ, i64_w, i32_w]
          rfl
        refine one_ (i := 3) (N := some 14) #[true, true, true, true, false] rfl rfl (by kernel_rfl) (by decide) (fun K hK => ?_)
        refine goes_ Tryd.func74 (by kernel_rfl) rfl #[.agg #[.string a1_0, .int .i64 a1_1]] (by rfl) rfl rfl (by (try simp only [List.map_toArray, List.map_cons, List.map_nil]); first | done | rfl | (simp only [List.length_drop, List.length_take]; rfl)) ?_
        with_reducible refine (cameoref04_rank.calls k a1_0 a1_1 t246 _ A4.out).mono ?_
        rintro e w38 ⟨rfl, hb⟩
        refine ⟨_, rfl, ?_⟩
        have n0_ := Aside0.mk (blk_below (g := gb243) (o := .cells #[.string a0_0, .int .i64 a0_1] 34 (0, 0)) (by (with_reducible repeat (first | refine blk_drewN ?_ _ | refine blk_drew ?_ | refine blk_alloc ?_ _)); exact BK243.out) hb)
        have n1_ := Aside0.mk (blk_below (g := gb244) (o := .cells #[.string a1_0, .int .i64 a1_1] 34 (0, 0)) (by (with_reducible repeat (first | refine blk_drewN ?_ _ | refine blk_drew ?_ | refine blk_alloc ?_ _)); exact BK244.out) hb)
        have n2_ := Aside0.mk (below_step (by repeat (first | (with_reducible first | exact HB.out | apply below_alloc | apply pw_below_drewN | apply below_drew1 | refine below_set ?_ GE243.out | refine below_set ?_ GE244.out) | exact HB.out)) hb)
        clear BK243
        clear BK244
        clear HB
        have BK243 := n0_
        have BK244 := n1_
        have HB := n2_
        clear n0_ n1_ n2_
        (try clear hb)
        (try clear hb2)
        (try clear hk)
        (try clear hi)
        refine hK.out _ _ ⟨(blk_cell BK243.out 0).trans rfl, (blk_cell BK243.out 1).trans rfl, (blk_cell BK244.out 0).trans rfl, (blk_cell BK244.out 1).trans rfl⟩ (fun hHeld => ?_)
        clear hK K
        refine norm_ (a' := ?_) ?_ ?_
        rotate_left
        · show Act.put _ (some 14) _ = _
          simp only [Act.put, List.setIfInBounds_toArray, List.set_cons_zero, List.set_cons_succ, i64_w, i32_w]
          rfl
        refine pure_ (i := 4) (N := some 15) (v := ?_) (a' := ?_) #[true, true, true, true, true] rfl rfl (by kernel_rfl) (fun _ _ _ h => h) (Or.inl ⟨by rfl, ?_⟩) ?_ ?_
        rotate_left
        · intro w'
          go_simp
          with_reducible rfl
        rotate_left
        · simp only [Act.put, List.setIfInBounds_toArray, List.set_cons_zero, List.set_cons_succ, i64_w, i32_w]
          rfl
        refine done_ (by kernel_rfl) ?_
        have hnb39 := NB243_244.out
        have hnc39 := NB244_243.out
        try go_wp2_with (first | ((with_reducible refine gate_dst (N := 22) rfl ?_); (try (refine gate_guard (by rfl) ?_; dsimp only)); refine load_cells_event ?hg (N := 22) ?hd (ty := 34) (x := ?lx261) (b := ⟨gb243, 0, none⟩) (cs := [.string a0_0, .int .i64 a0_1]) ?ho ?hc ?hx (n := 2) ?hn ?hi Tryd.underlying34 ?_; (case ho => rfl); (case hd => rfl); (case hg => rfl); (case hc => refine blk_cells (arr := #[.string a0_0, .int .i64 a0_1]) (t := 34) (fr := (0, 0)) (off := 0) (n := 2) ?_ rfl; exact by (with_reducible repeat (first | refine blk_drewN ?_ _ | refine blk_drew ?_ | refine blk_alloc ?_ _)); exact BK243.out); (case hx => first | rfl | (go_simp; done)); (case hn => rfl); (case hi => kernel_rfl)) | ((with_reducible refine gate_callee (f := 74) rfl ?_); refine goesL_ (some 23) rfl rfl Tryd.func74 (by kernel_rfl) rfl #[.agg #[.string a0_0, .int .i64 a0_1]] rfl (by (try simp only [List.map_toArray, List.map_cons, List.map_nil]); first | done | rfl | (simp only [List.length_drop, List.length_take]; rfl)) ?_; (with_reducible refine (cameoref04_rank.calls k a0_0 a0_1 t250 _ A6.out).mono ?_); rintro e w40 ⟨rfl, hb⟩; refine ⟨_, rfl, ?_⟩; have n0_ := Aside0.mk (blk_below (g := gb243) (o := .cells #[.string a0_0, .int .i64 a0_1] 34 (0, 0)) (by (with_reducible repeat (first | refine blk_drewN ?_ _ | refine blk_drew ?_ | refine blk_alloc ?_ _)); exact BK243.out) hb); have n1_ := Aside0.mk (blk_below (g := gb244) (o := .cells #[.string a1_0, .int .i64 a1_1] 34 (0, 0)) (by (with_reducible repeat (first | refine blk_drewN ?_ _ | refine blk_drew ?_ | refine blk_alloc ?_ _)); exact BK244.out) hb); have n2_ := Aside0.mk (below_step (by repeat (first | (with_reducible first | exact HB.out | apply below_alloc | apply pw_below_drewN | apply below_drew1 | refine below_set ?_ GE243.out | refine below_set ?_ GE244.out) | exact HB.out)) hb); clear BK243; clear BK244; clear HB; have BK243 := n0_; have BK244 := n1_; have HB := n2_; clear n0_ n1_ n2_; (try clear hb); (try clear hb2); (try clear hk); (try clear hi); have hcz41_1 : w40.cell? ⟨gb243, 1, none⟩ = some (.int .i64 a0_1) := (blk_cell BK243.out 1).trans rfl; have hcz42_1 : w40.cell? ⟨gb244, 1, none⟩ = some (.int .i64 a1_1) := (blk_cell BK244.out 1).trans rfl) | ((with_reducible refine gate_callee (f := 83) rfl ?_); refine goesL_ (some 60) rfl rfl Tryd.func83 (by kernel_rfl) rfl #[.int .i64 (wrap64 (a0_1 - a1_1))] rfl (by (try simp only [List.map_toArray, List.map_cons, List.map_nil]); first | done | rfl | (simp only [List.length_drop, List.length_take]; rfl)) ?_; (with_reducible refine (cameoref04_sign.calls (wrap64 (a0_1 - a1_1)) t258 _ A33.out).mono ?_); rintro e w43 ⟨rfl, hb⟩; refine ⟨_, rfl, ?_⟩; have n0_ := Aside0.mk (blk_below (g := gb243) (o := .cells #[.string a0_0, .int .i64 a0_1] 34 (0, 0)) (by (with_reducible repeat (first | refine blk_drewN ?_ _ | refine blk_drew ?_ | refine blk_alloc ?_ _)); exact BK243.out) hb); have n1_ := Aside0.mk (blk_below (g := gb244) (o := .cells #[.string a1_0, .int .i64 a1_1] 34 (0, 0)) (by (with_reducible repeat (first | refine blk_drewN ?_ _ | refine blk_drew ?_ | refine blk_alloc ?_ _)); exact BK244.out) hb); have n2_ := Aside0.mk (below_step (by repeat (first | (with_reducible first | exact HB.out | apply below_alloc | apply pw_below_drewN | apply below_drew1 | refine below_set ?_ GE243.out | refine below_set ?_ GE244.out) | exact HB.out)) hb); clear BK243; clear BK244; clear HB; have BK243 := n0_; have BK244 := n1_; have HB := n2_; clear n0_ n1_ n2_; (try clear hb); (try clear hb2); (try clear hk); (try clear hi)))
        go_ret
        exact ⟨by first | rfl | (simp [errW_none, errW_some] <;> rfl) | (simp [*, errW_none, errW_some] <;> rfl), by repeat (first | (with_reducible first | exact HB.out | apply below_alloc | apply pw_below_drewN | apply below_drew1 | refine below_set ?_ GE243.out | refine below_set ?_ GE244.out) | exact HB.out)⟩
  · rw [if_neg c5] at H
    have c5b0 : (t245 == t246) = false := beq_eq_false_iff_ne.mpr c5
    have c5b1 : (t245 != t246) = true := bne_iff_ne.mpr c5
    replace H := Option.bind_eq_some_iff.mp H
    obtain ⟨t247, A440, H⟩ := H
    replace H : ((cameoref04_rank.f k a1_0 a1_1).bind fun t248 => ((cameoref04_sign.f (wrap64 (t247 - t248))).bind fun t249 => (some t249))) = some r := H
    have A44 := Aside0.mk A440
    clear A440
    replace H := Option.bind_eq_some_iff.mp H
    obtain ⟨t248, A450, H⟩ := H
    replace H : ((cameoref04_sign.f (wrap64 (t247 - t248))).bind fun t249 => (some t249)) = some r := H
    have A45 := Aside0.mk A450
    clear A450
    replace H := Option.bind_eq_some_iff.mp H
    obtain ⟨t249, A460, H⟩ := H
    replace H : (some t249) = some r := H
    have A46 := Aside0.mk A460
    clear A460
    obtain rfl := Option.some.inj H
    go_enter Tryd.func75, Tryd.ntmps75
    try go_wp2_with (first | ((with_reducible refine gate_dst (N := 2) rfl ?_); refine box_event ?hg (N := 2) ?hd (cs := #[.string a0_0, .int .i64 a0_1]) (t := 34) ?hr ?_; (case hd => rfl); (case hg => rfl); (case hr => first | (go_simp; done) | (go_simp; rfl)); intro gb243 hg w47 hbox hb; have n0_ := Aside0.mk (below_step (by repeat (first | (with_reducible first | exact HB.out | apply below_alloc | apply pw_below_drewN | apply below_drew1) | exact HB.out)) hb); have n1_ := Aside0.mk (hbox); have n2_ := Aside0.mk ((by rw [hg]; exact (below_size (by repeat (first | (with_reducible first | exact HB.out | apply below_alloc | apply pw_below_drewN | apply below_drew1) | exact HB.out))) : w.heap.size ≤ gb243)); have n3_ := Aside0.mk ((by rw [hg]; exact (below_size (by repeat (first | (with_reducible first | exact HB.out | apply below_alloc | apply pw_below_drewN | apply below_drew1) | exact HB.out))) : w.heap.size ≤ gb243)); clear HB; have HB := n0_; have BK243 := n1_; have GW243 := n2_; have GE243 := n3_; clear n0_ n1_ n2_ n3_; clear hb hbox hg) | ((with_reducible refine gate_dst (N := 3) rfl ?_); refine box_event ?hg (N := 3) ?hd (cs := #[.string a1_0, .int .i64 a1_1]) (t := 34) ?hr ?_; (case hd => rfl); (case hg => rfl); (case hr => first | (go_simp; done) | (go_simp; rfl)); intro gb244 hg w48 hbox hb; have n0_ := Aside0.mk (blk_below (g := gb243) (o := .cells #[.string a0_0, .int .i64 a0_1] 34 (0, 0)) (by (with_reducible repeat (first | refine blk_drewN ?_ _ | refine blk_drew ?_ | refine blk_alloc ?_ _)); exact BK243.out) hb); have n1_ := Aside0.mk (below_step (by repeat (first | (with_reducible first | exact HB.out | apply below_alloc | apply pw_below_drewN | apply below_drew1 | refine below_set ?_ GE243.out) | exact HB.out)) hb); have n2_ := Aside0.mk (hbox); have n3_ := Aside0.mk ((by rw [hg]; exact (below_size (by repeat (first | (with_reducible first | exact HB.out | apply below_alloc | apply pw_below_drewN | apply below_drew1 | refine below_set ?_ GE243.out) | exact HB.out))) : w.heap.size ≤ gb244)); have n4_ := Aside0.mk ((by rw [hg]; exact (below_size (by repeat (first | (with_reducible first | exact HB.out | apply below_alloc | apply pw_below_drewN | apply below_drew1 | refine below_set ?_ GE243.out) | exact HB.out))) : w.heap.size ≤ gb244)); have n5_ := Aside0.mk ((by rw [hg]; exact Nat.ne_of_lt (blk_lt (g := gb243) (o := .cells #[.string a0_0, .int .i64 a0_1] 34 (0, 0)) (by (with_reducible repeat (first | refine blk_drewN ?_ _ | refine blk_drew ?_ | refine blk_alloc ?_ _)); exact BK243.out)) : gb243 ≠ gb244)); have n6_ := Aside0.mk ((by rw [hg]; exact Nat.ne_of_gt (blk_lt (g := gb243) (o := .cells #[.string a0_0, .int .i64 a0_1] 34 (0, 0)) (by (with_reducible repeat (first | refine blk_drewN ?_ _ | refine blk_drew ?_ | refine blk_alloc ?_ _)); exact BK243.out)) : gb244 ≠ gb243)); clear BK243; clear HB; have BK243 := n0_; have HB := n1_; have BK244 := n2_; have GW244 := n3_; have GE244 := n4_; have NB243_244 := n5_; have NB244_243 := n6_; clear n0_ n1_ n2_ n3_ n4_ n5_ n6_; clear hb hbox hg))
    have n0_ := Aside0.mk (blk_drew BK243.out)
    have n1_ := Aside0.mk (blk_drew BK244.out)
    have n2_ := Aside0.mk (below_drew1 HB.out)
    clear BK243
    clear BK244
    clear HB
    have BK243 := n0_
    have BK244 := n1_
    have HB := n2_
    clear n0_ n1_ n2_
    refine start_ (n := 5) (S := fun w' => w'.cell? ⟨gb243, 0, none⟩ = some (.string a0_0) ∧ w'.cell? ⟨gb243, 1, none⟩ = some (.int .i64 a0_1) ∧ w'.cell? ⟨gb244, 0, none⟩ = some (.string a1_0) ∧ w'.cell? ⟨gb244, 1, none⟩ = some (.int .i64 a1_1)) (ds := []) #[false, false, false, false, false] (by kernel_rfl) rfl rfl ⟨(blk_cell BK243.out 0).trans rfl, (blk_cell BK243.out 1).trans rfl, (blk_cell BK244.out 0).trans rfl, (blk_cell BK244.out 1).trans rfl⟩ (fun hHeld => ?_)
    generalize w48.drew = w49 at BK243 BK244 HB hHeld ⊢
    refine take_ (i := 0) (N := some 11) (v := .agg #[.string a0_0, .int .i64 a0_1]) (a' := ?_) #[true, false, false, false, false] rfl rfl (by kernel_rfl) (fun _ _ _ h => h) (Or.inl ⟨by rfl, ?_⟩) hHeld ?_ ?_
    · rintro w' ⟨s0, s1, s2, s3⟩
      apply exec_load_cells Tryd.underlying34 2
      case ho => rfl
      case hx => rfl
      case hc => exact CellsAt.cons s0 (CellsAt.cons s1 (CellsAt.nil))
      case hn => rfl
      case hi => kernel_rfl
    rotate_left
    · simp only [Act.put, List.setIfInBounds_toArray, List.set_cons_zero, List.set_cons_succ, i64_w, i32_w]
      rfl
    refine take_ (i := 2) (N := some 13) (v := .agg #[.string a1_0, .int .i64 a1_1]) (a' := ?_) #[true, false, true, false, false] rfl rfl (by kernel_rfl) (fun _ _ _ h => h) (Or.inl ⟨by rfl, ?_⟩) hHeld ?_ ?_
    · rintro w' ⟨s0, s1, s2, s3⟩
      apply exec_load_cells Tryd.underlying34 2
      case ho => rfl
      case hx => rfl
      case hc => exact CellsAt.cons s2 (CellsAt.cons s3 (CellsAt.nil))
      case hn => rfl
      case hi => kernel_rfl
    rotate_left
    · simp only [Act.put, List.setIfInBounds_toArray, List.set_cons_zero, List.set_cons_succ, i64_w, i32_w]
      rfl
    refine one_ (i := 1) (N := some 12) #[true, true, true, false, false] rfl rfl (by kernel_rfl) (by decide) (fun K hK => ?_)
    refine goes_ Tryd.func74 (by kernel_rfl) rfl #[.agg #[.string a0_0, .int .i64 a0_1]] (by rfl) rfl rfl (by (try simp only [List.map_toArray, List.map_cons, List.map_nil]); first | done | rfl | (simp only [List.length_drop, List.length_take]; rfl)) ?_
    with_reducible refine (cameoref04_rank.calls k a0_0 a0_1 t245 _ A3.out).mono ?_
    rintro e w50 ⟨rfl, hb⟩
    refine ⟨_, rfl, ?_⟩
    have n0_ := Aside0.mk (blk_below (g := gb243) (o := .cells #[.string a0_0, .int .i64 a0_1] 34 (0, 0)) (by (with_reducible repeat (first | refine blk_drewN ?_ _ | refine blk_drew ?_ | refine blk_alloc ?_ _)); exact BK243.out) hb)
    have n1_ := Aside0.mk (blk_below (g := gb244) (o := .cells #[.string a1_0, .int .i64 a1_1] 34 (0, 0)) (by (with_reducible repeat (first | refine blk_drewN ?_ _ | refine blk_drew ?_ | refine blk_alloc ?_ _)); exact BK244.out) hb)
    have n2_ := Aside0.mk (below_step (by repeat (first | (with_reducible first | exact HB.out | apply below_alloc | apply pw_below_drewN | apply below_drew1 | refine below_set ?_ GE243.out | refine below_set ?_ GE244.out) | exact HB.out)) hb)
    clear BK243
    clear BK244
    clear HB
    have BK243 := n0_
    have BK244 := n1_
    have HB := n2_
    clear n0_ n1_ n2_
    (try clear hb)
    (try clear hb2)
    (try clear hk)
    (try clear hi)
    refine hK.out _ _ ⟨(blk_cell BK243.out 0).trans rfl, (blk_cell BK243.out 1).trans rfl, (blk_cell BK244.out 0).trans rfl, (blk_cell BK244.out 1).trans rfl⟩ (fun hHeld => ?_)
    clear hK K
    refine norm_ (a' := ?_) ?_ ?_
    rotate_left
    · show Act.put _ (some 12) _ = _
      simp only [Act.put, List.setIfInBounds_toArray, List.set_cons_zero, List.set_cons_succ, i64_w, i32_w]
      rfl
    refine one_ (i := 3) (N := some 14) #[true, true, true, true, false] rfl rfl (by kernel_rfl) (by decide) (fun K hK => ?_)
    refine goes_ Tryd.func74 (by kernel_rfl) rfl #[.agg #[.string a1_0, .int .i64 a1_1]] (by rfl) rfl rfl (by (try simp only [List.map_toArray, List.map_cons, List.map_nil]); first | done | rfl | (simp only [List.length_drop, List.length_take]; rfl)) ?_
    with_reducible refine (cameoref04_rank.calls k a1_0 a1_1 t246 _ A4.out).mono ?_
    rintro e w51 ⟨rfl, hb⟩
    refine ⟨_, rfl, ?_⟩
    have n0_ := Aside0.mk (blk_below (g := gb243) (o := .cells #[.string a0_0, .int .i64 a0_1] 34 (0, 0)) (by (with_reducible repeat (first | refine blk_drewN ?_ _ | refine blk_drew ?_ | refine blk_alloc ?_ _)); exact BK243.out) hb)
    have n1_ := Aside0.mk (blk_below (g := gb244) (o := .cells #[.string a1_0, .int .i64 a1_1] 34 (0, 0)) (by (with_reducible repeat (first | refine blk_drewN ?_ _ | refine blk_drew ?_ | refine blk_alloc ?_ _)); exact BK244.out) hb)
    have n2_ := Aside0.mk (below_step (by repeat (first | (with_reducible first | exact HB.out | apply below_alloc | apply pw_below_drewN | apply below_drew1 | refine below_set ?_ GE243.out | refine below_set ?_ GE244.out) | exact HB.out)) hb)
    clear BK243
    clear BK244
    clear HB
    have BK243 := n0_
    have BK244 := n1_
    have HB := n2_
    clear n0_ n1_ n2_
    (try clear hb)
    (try clear hb2)
    (try clear hk)
    (try clear hi)
    refine hK.out _ _ ⟨(blk_cell BK243.out 0).trans rfl, (blk_cell BK243.out 1).trans rfl, (blk_cell BK244.out 0).trans rfl, (blk_cell BK244.out 1).trans rfl⟩ (fun hHeld => ?_)
    clear hK K
    refine norm_ (a' := ?_) ?_ ?_
    rotate_left
    · show Act.put _ (some 14) _ = _
      simp only [Act.put, List.setIfInBounds_toArray, List.set_cons_zero, List.set_cons_succ, i64_w, i32_w]
      rfl
    refine pure_ (i := 4) (N := some 15) (v := ?_) (a' := ?_) #[true, true, true, true, true] rfl rfl (by kernel_rfl) (fun _ _ _ h => h) (Or.inl ⟨by rfl, ?_⟩) ?_ ?_
    rotate_left
    · intro w'
      go_simp
      with_reducible rfl
    rotate_left
    · simp only [Act.put, List.setIfInBounds_toArray, List.set_cons_zero, List.set_cons_succ, i64_w, i32_w]
      rfl
    refine done_ (by kernel_rfl) ?_
    try go_wp2
    have n0_ := Aside0.mk (blk_drew BK243.out)
    have n1_ := Aside0.mk (blk_drew BK244.out)
    have n2_ := Aside0.mk (below_drew1 HB.out)
    clear BK243
    clear BK244
    clear HB
    have BK243 := n0_
    have BK244 := n1_
    have HB := n2_
    clear n0_ n1_ n2_
    refine start_ (n := 7) (S := fun w' => w'.cell? ⟨gb243, 0, none⟩ = some (.string a0_0) ∧ w'.cell? ⟨gb243, 1, none⟩ = some (.int .i64 a0_1) ∧ w'.cell? ⟨gb244, 0, none⟩ = some (.string a1_0) ∧ w'.cell? ⟨gb244, 1, none⟩ = some (.int .i64 a1_1)) (ds := []) #[false, false, false, false, false, false, false] (by kernel_rfl) rfl rfl ⟨(blk_cell BK243.out 0).trans rfl, (blk_cell BK243.out 1).trans rfl, (blk_cell BK244.out 0).trans rfl, (blk_cell BK244.out 1).trans rfl⟩ (fun hHeld => ?_)
    generalize w51.drew = w52 at BK243 BK244 HB hHeld ⊢
    refine take_ (i := 0) (N := some 16) (v := .agg #[.string a0_0, .int .i64 a0_1]) (a' := ?_) #[true, false, false, false, false, false, false] rfl rfl (by kernel_rfl) (fun _ _ _ h => h) (Or.inl ⟨by rfl, ?_⟩) hHeld ?_ ?_
    · rintro w' ⟨s0, s1, s2, s3⟩
      apply exec_load_cells Tryd.underlying34 2
      case ho => rfl
      case hx => rfl
      case hc => exact CellsAt.cons s0 (CellsAt.cons s1 (CellsAt.nil))
      case hn => rfl
      case hi => kernel_rfl
    rotate_left
    · simp only [Act.put, List.setIfInBounds_toArray, List.set_cons_zero, List.set_cons_succ, i64_w, i32_w]
      rfl
    refine take_ (i := 2) (N := some 18) (v := .agg #[.string a1_0, .int .i64 a1_1]) (a' := ?_) #[true, false, true, false, false, false, false] rfl rfl (by kernel_rfl) (fun _ _ _ h => h) (Or.inl ⟨by rfl, ?_⟩) hHeld ?_ ?_
    · rintro w' ⟨s0, s1, s2, s3⟩
      apply exec_load_cells Tryd.underlying34 2
      case ho => rfl
      case hx => rfl
      case hc => exact CellsAt.cons s2 (CellsAt.cons s3 (CellsAt.nil))
      case hn => rfl
      case hi => kernel_rfl
    rotate_left
    · simp only [Act.put, List.setIfInBounds_toArray, List.set_cons_zero, List.set_cons_succ, i64_w, i32_w]
      rfl
    refine one_ (i := 1) (N := some 17) #[true, true, true, false, false, false, false] rfl rfl (by kernel_rfl) (by decide) (fun K hK => ?_)
    refine goes_ Tryd.func74 (by kernel_rfl) rfl #[.agg #[.string a0_0, .int .i64 a0_1]] (by rfl) rfl rfl (by (try simp only [List.map_toArray, List.map_cons, List.map_nil]); first | done | rfl | (simp only [List.length_drop, List.length_take]; rfl)) ?_
    with_reducible refine (cameoref04_rank.calls k a0_0 a0_1 t247 _ A44.out).mono ?_
    rintro e w53 ⟨rfl, hb⟩
    refine ⟨_, rfl, ?_⟩
    have n0_ := Aside0.mk (blk_below (g := gb243) (o := .cells #[.string a0_0, .int .i64 a0_1] 34 (0, 0)) (by (with_reducible repeat (first | refine blk_drewN ?_ _ | refine blk_drew ?_ | refine blk_alloc ?_ _)); exact BK243.out) hb)
    have n1_ := Aside0.mk (blk_below (g := gb244) (o := .cells #[.string a1_0, .int .i64 a1_1] 34 (0, 0)) (by (with_reducible repeat (first | refine blk_drewN ?_ _ | refine blk_drew ?_ | refine blk_alloc ?_ _)); exact BK244.out) hb)
    have n2_ := Aside0.mk (below_step (by repeat (first | (with_reducible first | exact HB.out | apply below_alloc | apply pw_below_drewN | apply below_drew1 | refine below_set ?_ GE243.out | refine below_set ?_ GE244.out) | exact HB.out)) hb)
    clear BK243
    clear BK244
    clear HB
    have BK243 := n0_
    have BK244 := n1_
    have HB := n2_
    clear n0_ n1_ n2_
    (try clear hb)
    (try clear hb2)
    (try clear hk)
    (try clear hi)
    refine hK.out _ _ ⟨(blk_cell BK243.out 0).trans rfl, (blk_cell BK243.out 1).trans rfl, (blk_cell BK244.out 0).trans rfl, (blk_cell BK244.out 1).trans rfl⟩ (fun hHeld => ?_)
    clear hK K
    refine norm_ (a' := ?_) ?_ ?_
    rotate_left
    · show Act.put _ (some 17) _ = _
      simp only [Act.put, List.setIfInBounds_toArray, List.set_cons_zero, List.set_cons_succ, i64_w, i32_w]
      rfl
    refine one_ (i := 3) (N := some 19) #[true, true, true, true, false, false, false] rfl rfl (by kernel_rfl) (by decide) (fun K hK => ?_)
    refine goes_ Tryd.func74 (by kernel_rfl) rfl #[.agg #[.string a1_0, .int .i64 a1_1]] (by rfl) rfl rfl (by (try simp only [List.map_toArray, List.map_cons, List.map_nil]); first | done | rfl | (simp only [List.length_drop, List.length_take]; rfl)) ?_
    with_reducible refine (cameoref04_rank.calls k a1_0 a1_1 t248 _ A45.out).mono ?_
    rintro e w54 ⟨rfl, hb⟩
    refine ⟨_, rfl, ?_⟩
    have n0_ := Aside0.mk (blk_below (g := gb243) (o := .cells #[.string a0_0, .int .i64 a0_1] 34 (0, 0)) (by (with_reducible repeat (first | refine blk_drewN ?_ _ | refine blk_drew ?_ | refine blk_alloc ?_ _)); exact BK243.out) hb)
    have n1_ := Aside0.mk (blk_below (g := gb244) (o := .cells #[.string a1_0, .int .i64 a1_1] 34 (0, 0)) (by (with_reducible repeat (first | refine blk_drewN ?_ _ | refine blk_drew ?_ | refine blk_alloc ?_ _)); exact BK244.out) hb)
    have n2_ := Aside0.mk (below_step (by repeat (first | (with_reducible first | exact HB.out | apply below_alloc | apply pw_below_drewN | apply below_drew1 | refine below_set ?_ GE243.out | refine below_set ?_ GE244.out) | exact HB.out)) hb)
    clear BK243
    clear BK244
    clear HB
    have BK243 := n0_
    have BK244 := n1_
    have HB := n2_
    clear n0_ n1_ n2_
    (try clear hb)
    (try clear hb2)
    (try clear hk)
    (try clear hi)
    refine hK.out _ _ ⟨(blk_cell BK243.out 0).trans rfl, (blk_cell BK243.out 1).trans rfl, (blk_cell BK244.out 0).trans rfl, (blk_cell BK244.out 1).trans rfl⟩ (fun hHeld => ?_)
    clear hK K
    refine norm_ (a' := ?_) ?_ ?_
    rotate_left
    · show Act.put _ (some 19) _ = _
      simp only [Act.put, List.setIfInBounds_toArray, List.set_cons_zero, List.set_cons_succ, i64_w, i32_w]
      rfl
    refine pure_ (i := 4) (N := some 20) (v := ?_) (a' := ?_) #[true, true, true, true, true, false, false] rfl rfl (by kernel_rfl) (fun _ _ _ h => h) (Or.inl ⟨by rfl, ?_⟩) ?_ ?_
    rotate_left
    · intro w'
      go_simp
      with_reducible rfl
    rotate_left
    · simp only [Act.put, List.setIfInBounds_toArray, List.set_cons_zero, List.set_cons_succ, i64_w, i32_w]
      rfl
    refine one_ (i := 5) (N := some 21) #[true, true, true, true, true, true, false] rfl rfl (by kernel_rfl) (by decide) (fun K hK => ?_)
    refine goes_ Tryd.func83 (by kernel_rfl) rfl #[.int .i64 (wrap64 (t247 - t248))] (by rfl) rfl rfl (by (try simp only [List.map_toArray, List.map_cons, List.map_nil]); first | done | rfl | (simp only [List.length_drop, List.length_take]; rfl)) ?_
    with_reducible refine (cameoref04_sign.calls (wrap64 (t247 - t248)) t249 _ A46.out).mono ?_
    rintro e w55 ⟨rfl, hb⟩
    refine ⟨_, rfl, ?_⟩
    have n0_ := Aside0.mk (blk_below (g := gb243) (o := .cells #[.string a0_0, .int .i64 a0_1] 34 (0, 0)) (by (with_reducible repeat (first | refine blk_drewN ?_ _ | refine blk_drew ?_ | refine blk_alloc ?_ _)); exact BK243.out) hb)
    have n1_ := Aside0.mk (blk_below (g := gb244) (o := .cells #[.string a1_0, .int .i64 a1_1] 34 (0, 0)) (by (with_reducible repeat (first | refine blk_drewN ?_ _ | refine blk_drew ?_ | refine blk_alloc ?_ _)); exact BK244.out) hb)
    have n2_ := Aside0.mk (below_step (by repeat (first | (with_reducible first | exact HB.out | apply below_alloc | apply pw_below_drewN | apply below_drew1 | refine below_set ?_ GE243.out | refine below_set ?_ GE244.out) | exact HB.out)) hb)
    clear BK243
    clear BK244
    clear HB
    have BK243 := n0_
    have BK244 := n1_
    have HB := n2_
    clear n0_ n1_ n2_
    (try clear hb)
    (try clear hb2)
    (try clear hk)
    (try clear hi)
    refine hK.out _ _ ⟨(blk_cell BK243.out 0).trans rfl, (blk_cell BK243.out 1).trans rfl, (blk_cell BK244.out 0).trans rfl, (blk_cell BK244.out 1).trans rfl⟩ (fun hHeld => ?_)
    clear hK K
    refine norm_ (a' := ?_) ?_ ?_
    rotate_left
    · show Act.put _ (some 21) _ = _
      simp only [Act.put, List.setIfInBounds_toArray, List.set_cons_zero, List.set_cons_succ, i64_w, i32_w]
      rfl
    refine pure_ (i := 6) (N := some 4) (v := ?_) (a' := ?_) #[true, true, true, true, true, true, true] rfl rfl (by kernel_rfl) (fun _ _ _ h => h) (Or.inl ⟨by rfl, ?_⟩) ?_ ?_
    rotate_left
    · intro w'
      go_simp
      with_reducible rfl
    rotate_left
    · simp only [Act.put, List.setIfInBounds_toArray, List.set_cons_zero, List.set_cons_succ, i64_w, i32_w]
      rfl
    refine done_ (by kernel_rfl) ?_
    try go_wp2
    go_ret
    exact ⟨by first | rfl | (simp [errW_none, errW_some] <;> rfl) | (simp [*, errW_none, errW_some] <;> rfl), by repeat (first | (with_reducible first | exact HB.out | apply below_alloc | apply pw_below_drewN | apply below_drew1 | refine below_set ?_ GE243.out | refine below_set ?_ GE244.out) | exact HB.out)⟩
end Go.Proofs.YtbpdpnoekkkapaaDoor.PDescKinds
end
section
namespace Go.Proofs.YtbpdpnoekkkapaaDoor.PDescKinds
open Go.RowKit Go.Proofs.YtbpdpnoekkkapaaDoorW.PrintWords Go.Proofs.YtbpdpnoekkkapaaDoorW.PrintLast Go.Proofs.YtbpdpnoekkkapaaDoorW.PrintMore
attribute [local go_sem] max2_int min2_int max_two min_two max_three min_three max_four min_four   -- for this text's walks alone
mutual
def cameoref04_Order.l0 : Nat → List (S34) → List (S34) → Int → Option ((List (S34)))
  | 0, _, _, _ => none
  | k + 1, x0, x3, x4 => if x4 < (x0.length : Int) then (if 0 ≤ x4 then ((cameoref04_rank.f k ((rd_T34 x0 x4).f0) ((rd_T34 x0 x4).f1)).bind fun t263 => (if t263 = 0 then (cameoref04_Order.l1 k x0 x3 x4 (x3.length : Int)) else (cameoref04_Order.l0 k x0 x3 (wrap64 (x4 + 1))))) else (none)) else (cameoref04_Order.l2 k x0 x3 1)
def cameoref04_Order.l1 : Nat → List (S34) → List (S34) → Int → Int → Option ((List (S34)))
  | 0, _, _, _, _ => none
  | k + 1, x0, x3, x4, x5 => if x5 > 0 then (if 0 ≤ (wrap64 (x5 - 1)) then (if (wrap64 (x5 - 1)) < (x3.length : Int) then (if 0 ≤ x4 then (if x4 < (x0.length : Int) then ((cameoref04_Compare.f k ((rd_T34 x3 (wrap64 (x5 - 1))).f0) ((rd_T34 x3 (wrap64 (x5 - 1))).f1) ((rd_T34 x0 x4).f0) ((rd_T34 x0 x4).f1)).bind fun t266 => (if t266 > 0 then (cameoref04_Order.l1 k x0 x3 x4 (wrap64 (x5 - 1))) else ((some (([] : List (S34)) : List (S34))).bind fun y267 => (if 0 ≤ x5 then (if x5 ≤ (x3.length : Int) then ((some (x3.drop (x5 : Int).toNat : List (S34))).bind fun y270 => (if y267.length + y270.length < 5864062014805 then ((some (y267 ++ y270 : List (S34))).bind fun y274 => ((some (x3.take (x5 : Int).toNat : List (S34))).bind fun y277 => (if y277.length < 5864062014805 then ((some (y277 ++ [(⟨(rd_T34 x0 x4).f0, (rd_T34 x0 x4).f1⟩ : S34)] : List (S34))).bind fun y281 => (if y281.length + y274.length < 5864062014805 then (cameoref04_Order.l0 k x0 (y281 ++ y274) (wrap64 (x4 + 1))) else (none))) else (none)))) else (none))) else (none)) else (none))))) else (none)) else (none)) else (none)) else (none)) else ((some (([] : List (S34)) : List (S34))).bind fun y287 => (if 0 ≤ x5 then (if x5 ≤ (x3.length : Int) then ((some (x3.drop (x5 : Int).toNat : List (S34))).bind fun y290 => (if y287.length + y290.length < 5864062014805 then ((some (y287 ++ y290 : List (S34))).bind fun y294 => ((some (x3.take (x5 : Int).toNat : List (S34))).bind fun y297 => (if 0 ≤ x4 then (if x4 < (x0.length : Int) then (if y297.length < 5864062014805 then ((some (y297 ++ [(⟨(rd_T34 x0 x4).f0, (rd_T34 x0 x4).f1⟩ : S34)] : List (S34))).bind fun y301 => (if y301.length + y294.length < 5864062014805 then (cameoref04_Order.l0 k x0 (y301 ++ y294) (wrap64 (x4 + 1))) else (none))) else (none)) else (none)) else (none)))) else (none))) else (none)) else (none)))
def cameoref04_Order.l2 : Nat → List (S34) → List (S34) → Int → Option ((List (S34)))
  | 0, _, _, _ => none
  | k + 1, x0, x3, x7 => if x7 ≤ 2 then (cameoref04_Order.l3 k x0 x3 x7 0) else (some x3)
def cameoref04_Order.l3 : Nat → List (S34) → List (S34) → Int → Int → Option ((List (S34)))
  | 0, _, _, _, _ => none
  | k + 1, x0, x3, x7, x8 => if x8 < (x0.length : Int) then (if 0 ≤ x8 then ((cameoref04_rank.f k ((rd_T34 x0 x8).f0) ((rd_T34 x0 x8).f1)).bind fun t308 => (if t308 = x7 then (if x3.length < 5864062014805 then (cameoref04_Order.l3 k x0 (x3 ++ [(⟨(rd_T34 x0 x8).f0, (rd_T34 x0 x8).f1⟩ : S34)]) x7 (wrap64 (x8 + 1))) else (none)) else (cameoref04_Order.l3 k x0 x3 x7 (wrap64 (x8 + 1))))) else (none)) else (cameoref04_Order.l2 k x0 x3 (wrap64 (x7 + 1)))
end
def cameoref04_Order.f (k : Nat) (l0 : List (S34)) : Option ((List (S34))) := cameoref04_Order.l0 k l0 ([] : List (S34)) 0
def cameoref04_Order.T7 : Bool × List (List Nat × List Nat) := (true, [([], []), ([0], [0]), ([1], [1]), ([2], [2]), ([2], [2]), ([4, 2], [2, 4]), ([3, 5, 2], [2, 3, 5]), ([6, 2], [2, 6]), ([2], [2]), ([2], [2]), ([8, 9, 2], [2, 8, 9]), ([10, 2], [2, 10]), ([7, 11, 2, 2], [2, 7, 11]), ([12, 2], [2, 12]), ([2, 13], [2, 13])])
def cameoref04_Order.B7 : List Nat := [0, 1, 3, 7, 7, 23, 63, 127, 7, 7, 775, 1799, 4095, 8191, 16383]
theorem cameoref04_Order.tab7 : rtab .any (Go.Proofs.YtbpdpnoekkkapaaDoorW.PrintLast.opsOf Tryd.f67 7) = cameoref04_Order.T7 := by kernel_rfl
theorem cameoref04_Order.bits7 : waitsOk cameoref04_Order.T7.2 cameoref04_Order.B7 = true := by kernel_rfl
def cameoref04_Order.T10 : Bool × List (List Nat × List Nat) := (true, [([], []), ([], []), ([0, 1], [0, 1]), ([], []), ([], []), ([3, 4], [3, 4]), ([5], [5]), ([6], [6]), ([2, 7], [2, 7]), ([], []), ([8, 9, 8], [8, 9]), ([10, 10, 0, 1, 2, 3, 4, 5, 6, 7, 8, 9, 10], [0, 10])])
def cameoref04_Order.B10 : List Nat := [0, 0, 3, 0, 0, 24, 56, 120, 255, 0, 1023, 2047]
theorem cameoref04_Order.tab10 : rtab .any (Go.Proofs.YtbpdpnoekkkapaaDoorW.PrintLast.opsOf Tryd.f67 10) = cameoref04_Order.T10 := by kernel_rfl
theorem cameoref04_Order.bits10 : waitsOk cameoref04_Order.T10.2 cameoref04_Order.B10 = true := by kernel_rfl
set_option maxHeartbeats 8000000 in
set_option maxRecDepth 100000 in
theorem cameoref04_Order.calls (k : Nat) (A0 : Option Addr) (c0 : Nat) (l0 : List (S34)) (r : List (S34)) (w : World) (hr0 : Kd.C k34 w A0 l0.length l0) (hc0 : l0.length ≤ c0) (h : cameoref04_Order.f k l0 = some r) :
    Calls Tryd.prog 67 #[.slice A0 l0.length c0] w fun e w' => ∃ v0_ : Value, e = .returned (v0_) ∧ Kd.R k34 34 w' w.heap.size (fun _ => True) v0_ r ∧ Below w.heap.size w w' := by
  have hu34 := Tryd.underlying34
  have HR0 := Aside0.mk hr0
  have HC0 := Aside0.mk hc0
  clear hr0 hc0
  have HB := Aside0.mk (Below.refl w.heap.size w)
  have H : (cameoref04_Order.l0 k l0 ([] : List (S34)) 0) = some r := h
  clear h
  have H' := Aside0.mk H
  clear H
  go_enter Tryd.func67, Tryd.ntmps67
  go_wp2
  go_loopg [3, 4] k (fun kq v3 v4 w' => ∃ (x3_1 : List (S34)) (x4_1 : Int), v4 = .int .i64 x4_1 ∧ Aside0 (cameoref04_Order.l0 kq l0 x3_1 x4_1 = some r) ∧ Aside0 (kq ≤ k) ∧ Aside0 (Kd.R k34 34 w' w.heap.size (fun _ => True) v3 x3_1) ∧ Aside0 (Below w.heap.size w w'))
  case atStart => exact ⟨(([] : List (S34))), (0), (by first | rfl | (simp; done) | (simp [*]; done)), H', ⟨Nat.le_refl _⟩, ⟨by first | exact Kd.R_nil _ _ _ _ _ | exact Kd.N_nil _ _ _ _ _ | exact Kd.V_nil _ _ _ _ _ | exact Kd.Q_nil _ _ _ _ _ | exact Kd.S_nil _ _ _ _ _⟩, ⟨by repeat (first | (with_reducible first | exact HB.out | apply below_alloc | apply pw_below_drewN | apply below_drew1) | exact HB.out)⟩⟩
  case round =>
    clear H'
    obtain ⟨x3_1, x4_1, rfl, HA, HK1, HO_3, HB⟩ := hrel
    cases gk with
    | zero => exact absurd HA.out (by simp [cameoref04_Order.l0])
    | succ k1 =>
      have H := HA.out
      clear HA
      simp only [cameoref04_Order.l0] at H
      by_cases c2 : x4_1 < (l0.length : Int)
      · rw [if_pos c2] at H
        have c2b0 : decide (x4_1 < (l0.length : Int)) = true := decide_eq_true c2
        clear c2
        by_cases c3 : 0 ≤ x4_1
        · rw [if_pos c3] at H
          have c3b0 : decide (0 ≤ x4_1) = true := decide_eq_true c3
          clear c3
          replace H := Option.bind_eq_some_iff.mp H
          obtain ⟨t263, A40, H⟩ := H
          replace H : (if t263 = 0 then (cameoref04_Order.l1 k1 l0 x3_1 x4_1 (x3_1.length : Int)) else (cameoref04_Order.l0 k1 l0 x3_1 (wrap64 (x4_1 + 1)))) = some r := H
          have A4 := Aside0.mk A40
          clear A40
          by_cases c5 : t263 = 0
          · rw [if_pos c5] at H
            have c5b0 : (t263 == 0) = true := beq_iff_eq.mpr c5
            have c5b1 : (t263 != 0) = false := bne_eq_false_iff_eq.mpr c5
            clear c5
            have H' := Aside0.mk H
            clear H
            have p262 : 0 ≤ (x4_1 : Int) := of_decide_eq_true (by first | (with_reducible assumption) | assumption)
            have q262 : x4_1 < (l0.length : Int) := of_decide_eq_true (by first | (with_reducible assumption) | assumption)
            obtain ⟨ad262, e262, hW262⟩ := ats_T34 HR0.out x4_1 p262 q262
            cases e262
            replace hW262 := cells_below HB.out hW262
            have HW262 := Aside0.mk hW262
            clear hW262
            replace p262 := eq_true p262
            replace q262 := eq_true q262
            go_wp2_with (first | ((with_reducible refine gate_dst (N := 18) rfl ?_); (try (refine gate_guard (by rfl) ?_; dsimp only)); refine load_cells_event ?hg (N := 18) ?hd (ty := 34) (x := ?lx313) (b := ?lb314) (cs := ?lc315) ?ho ?hc ?hx (n := 2) ?hn ?hi Tryd.underlying34 ?_; (case ho => rfl); (case hd => rfl); (case hg => rfl); (case hc => first | exact HW262.out | (intro j_ u_ hj_; have h_ := HW262.out j_ u_ hj_; simpa only [add_plain, add_at] using h_)); (case hx => first | rfl | (go_simp; done)); (case hn => rfl); (case hi => kernel_rfl)) | ((with_reducible refine gate_callee (f := 74) rfl ?_); refine goesL_ (some 19) rfl rfl Tryd.func74 (by kernel_rfl) rfl #[.agg #[.string ((rd_T34 l0 x4_1).f0), .int .i64 ((rd_T34 l0 x4_1).f1)]] rfl (by (try simp only [List.map_toArray, List.map_cons, List.map_nil]); first | done | rfl | (simp only [List.length_drop, List.length_take]; rfl)) ?_; (with_reducible refine (cameoref04_rank.calls k1 ((rd_T34 l0 x4_1).f0) ((rd_T34 l0 x4_1).f1) t263 _ A4.out).mono ?_); rintro e w6 ⟨rfl, hb⟩; refine ⟨_, rfl, ?_⟩; have n0_ := Aside0.mk (Kd.R_below (by (with_reducible repeat (first | apply Kd.R_alloc | apply Kd.R_drewN | apply Kd.R_drew)); exact HO_3.out) hb); have n1_ := Aside0.mk (below_step (by repeat (first | (with_reducible first | exact HB.out | apply below_alloc | apply pw_below_drewN | apply below_drew1) | exact HB.out)) hb); clear HO_3; clear HB; have HO_3 := n0_; have HB := n1_; clear n0_ n1_; (try clear hb); (try clear hb2); (try clear hk); (try clear hi); obtain ⟨Ao7, co7, eo7⟩ := Kd.R_slice HO_3.out; subst eo7))
            go_loopg [5] k1 (fun kq v5 w' => ∃ (x5_2 : Int), v5 = .int .i64 x5_2 ∧ Aside0 (cameoref04_Order.l1 kq l0 x3_1 x4_1 x5_2 = some r) ∧ Aside0 (kq ≤ k1) ∧ Aside0 (Kd.R k34 34 w' w.heap.size (fun _ => True) (.slice Ao7 x3_1.length co7) x3_1) ∧ Aside0 (Below w.heap.size w w'))
            case atStart => exact ⟨((x3_1.length : Int)), (by first | rfl | (simp; done) | (simp [*]; done)), H', ⟨Nat.le_refl _⟩, ⟨by (with_reducible repeat (first | apply Kd.R_alloc | apply Kd.R_drewN | apply Kd.R_drew)); exact HO_3.out⟩, ⟨by repeat (first | (with_reducible first | exact HB.out | apply below_alloc | apply pw_below_drewN | apply below_drew1) | exact HB.out)⟩⟩
            case round =>
              clear H'
              try clear c2
              try clear c2b0
              try clear p2
              try clear q2
              try clear c3
              try clear c3b0
              try clear c5
              try clear c5b0
              try clear c5b1
              try clear c6
              try clear p6
              try clear c7
              try clear p262
              try clear q262
              obtain ⟨x5_2, rfl, HA, HK2, HO_3, HB⟩ := hrel
              cases gk with
              | zero => exact absurd HA.out (by simp [cameoref04_Order.l1])
              | succ k2 =>
                have H := HA.out
                clear HA
                simp only [cameoref04_Order.l1] at H
                by_cases c8 : x5_2 > 0
                · rw [if_pos c8] at H
                  have c8b0 : decide (0 < x5_2) = true := decide_eq_true c8
                  clear c8
                  obtain ⟨ji9, hji9⟩ : ∃ j_ : Int, (wrap64 (x5_2 - 1)) = j_ := ⟨_, rfl⟩
                  replace H : (if 0 ≤ (ji9) then (if (ji9) < (x3_1.length : Int) then (if 0 ≤ x4_1 then (if x4_1 < (l0.length : Int) then ((cameoref04_Compare.f k2 ((rd_T34 x3_1 (ji9)).f0) ((rd_T34 x3_1 (ji9)).f1) ((rd_T34 l0 x4_1).f0) ((rd_T34 l0 x4_1).f1)).bind fun t266 => (if t266 > 0 then (cameoref04_Order.l1 k2 l0 x3_1 x4_1 ji9) else ((some (([] : List (S34)) : List (S34))).bind fun y267 => (if 0 ≤ x5_2 then (if x5_2 ≤ (x3_1.length : Int) then ((some (x3_1.drop (x5_2 : Int).toNat : List (S34))).bind fun y270 => (if y267.length + y270.length < 5864062014805 then ((some (y267 ++ y270 : List (S34))).bind fun y274 => ((some (x3_1.take (x5_2 : Int).toNat : List (S34))).bind fun y277 => (if y277.length < 5864062014805 then ((some (y277 ++ [(⟨(rd_T34 l0 x4_1).f0, (rd_T34 l0 x4_1).f1⟩ : S34)] : List (S34))).bind fun y281 => (if y281.length + y274.length < 5864062014805 then (cameoref04_Order.l0 k2 l0 (y281 ++ y274) (wrap64 (x4_1 + 1))) else (none))) else (none)))) else (none))) else (none)) else (none))))) else (none)) else (none)) else (none)) else (none)) = some r := by first | (rw [hji9] at H; exact H) | (simp only [hji9] at H ⊢; exact H)
                  have hji9w : (IntKind.i64.wrap (x5_2 - 1)) = ji9 := (i64_w _).trans hji9
                  by_cases c10 : 0 ≤ (ji9)
                  · rw [if_pos c10] at H
                    have c10b0 : decide (0 ≤ (ji9)) = true := decide_eq_true c10
                    clear c10
                    by_cases c11 : (ji9) < (x3_1.length : Int)
                    · rw [if_pos c11] at H
                      have c11b0 : decide ((ji9) < (x3_1.length : Int)) = true := decide_eq_true c11
                      clear c11
                      by_cases c12 : 0 ≤ x4_1
                      · rw [if_pos c12] at H
                        have c12b0 : decide (0 ≤ x4_1) = true := decide_eq_true c12
                        clear c12
                        by_cases c13 : x4_1 < (l0.length : Int)
                        · rw [if_pos c13] at H
                          have c13b0 : decide (x4_1 < (l0.length : Int)) = true := decide_eq_true c13
                          clear c13
                          replace H := Option.bind_eq_some_iff.mp H
                          obtain ⟨t266, A140, H⟩ := H
                          replace H : (if t266 > 0 then (cameoref04_Order.l1 k2 l0 x3_1 x4_1 ji9) else ((some (([] : List (S34)) : List (S34))).bind fun y267 => (if 0 ≤ x5_2 then (if x5_2 ≤ (x3_1.length : Int) then ((some (x3_1.drop (x5_2 : Int).toNat : List (S34))).bind fun y270 => (if y267.length + y270.length < 5864062014805 then ((some (y267 ++ y270 : List (S34))).bind fun y274 => ((some (x3_1.take (x5_2 : Int).toNat : List (S34))).bind fun y277 => (if y277.length < 5864062014805 then ((some (y277 ++ [(⟨(rd_T34 l0 x4_1).f0, (rd_T34 l0 x4_1).f1⟩ : S34)] : List (S34))).bind fun y281 => (if y281.length + y274.length < 5864062014805 then (cameoref04_Order.l0 k2 l0 (y281 ++ y274) (wrap64 (x4_1 + 1))) else (none))) else (none)))) else (none))) else (none)) else (none)))) = some r := H
                          have A14 := Aside0.mk A140
                          clear A140
                          by_cases c15 : t266 > 0
                          · rw [if_pos c15] at H
                            have c15b0 : decide (0 < t266) = true := decide_eq_true c15
                            clear c15
                            have H' := Aside0.mk H
                            clear H
                            try go_wp2
                            have n0_ := Aside0.mk (Kd.R_drew HO_3.out)
                            have n1_ := Aside0.mk (below_drew1 HB.out)
                            clear HO_3
                            clear HB
                            have HO_3 := n0_
                            have HB := n1_
                            clear n0_ n1_
                            have p264 : 0 ≤ ((ji9) : Int) := of_decide_eq_true (by first | (with_reducible assumption) | assumption)
                            have q264 : (ji9) < (x3_1.length : Int) := of_decide_eq_true (by first | (with_reducible assumption) | assumption)
                            obtain ⟨ad264, e264, hx264_0, hx264_1⟩ := at_T34 (Kd.R_reads' HO_3.out).2.2 (ji9) p264 q264
                            cases e264
                            replace p264 := eq_true p264
                            replace q264 := eq_true q264
                            have p265 : 0 ≤ (x4_1 : Int) := of_decide_eq_true (by first | (with_reducible assumption) | assumption)
                            have q265 : x4_1 < (l0.length : Int) := of_decide_eq_true (by first | (with_reducible assumption) | assumption)
                            obtain ⟨ad265, e265, hx265_0, hx265_1⟩ := at_T34 HR0.out x4_1 p265 q265
                            have hw265_1 := hx265_1
                            have hw265_0 := hx265_0
                            obtain rfl : ad262 = ad265 := (by injection e265)
                            replace hx265_0 := (HB.out.cell (World.block_lt_of_cell? w _ hx265_0)).trans hx265_0
                            replace hx265_1 := (HB.out.cell (World.block_lt_of_cell? w _ hx265_1)).trans hx265_1
                            replace p265 := eq_true p265
                            replace q265 := eq_true q265
                            refine start_ (n := 15) (S := fun w' => w'.cell? (ad264.add (((ji9)).toNat * 2)) = some (.string ((rd_T34 x3_1 (ji9)).f0)) ∧ w'.cell? ⟨(ad264.add (((ji9)).toNat * 2)).block, (ad264.add (((ji9)).toNat * 2)).off + 1, none⟩ = some (.int .i64 ((rd_T34 x3_1 (ji9)).f1)) ∧ w'.cell? (ad262.add ((x4_1).toNat * 2)) = some (.string ((rd_T34 l0 x4_1).f0)) ∧ w'.cell? ⟨(ad262.add ((x4_1).toNat * 2)).block, (ad262.add ((x4_1).toNat * 2)).off + 1, none⟩ = some (.int .i64 ((rd_T34 l0 x4_1).f1))) (ds := []) #[false, false, false, false, false, false, false, false, false, false, false, false, false, false, false] (by kernel_rfl) rfl rfl ⟨hx264_0, hx264_1, ((HB.out.cell (World.block_lt_of_cell? w _ hw265_0)).trans hw265_0), ((HB.out.cell (World.block_lt_of_cell? w _ hw265_1)).trans hw265_1)⟩ (fun hHeld => ?_); refine with_tabW cameoref04_Order.tab7 cameoref04_Order.bits7 (fun HT_ HW_ => ?_)
                            generalize wr.drew = w16 at HO_3 HB hx264_0 hx264_1 hx265_0 hx265_1 hHeld ⊢
                            refine pure_ (i := 0) (N := some 23) (v := ?_) (a' := ?_) #[true, false, false, false, false, false, false, false, false, false, false, false, false, false, false] rfl rfl (any_of HT_.out (by kernel_rfl)) (fun _ _ _ h => h) (Or.inl ⟨by rfl, ?_⟩) ?_ ?_
                            rotate_left
                            · intro w'
                              go_simp
                              with_reducible rfl
                            rotate_left
                            · simp only [Act.put, List.setIfInBounds_toArray, List.set_cons_zero, List.set_cons_succ, i64_w, i32_w]
                              rfl
                            refine pure_ (i := 1) (N := some 24) (v := ?_) (a' := ?_) #[true, true, false, false, false, false, false, false, false, false, false, false, false, false, false] rfl rfl (any_of HT_.out (by kernel_rfl)) (fun _ _ _ h => h) (Or.inl ⟨by rfl, ?_⟩) ?_ ?_
                            rotate_left
                            · intro w'
                              go_simp
                              with_reducible rfl
                            rotate_left
                            · simp only [Act.put, List.setIfInBounds_toArray, List.set_cons_zero, List.set_cons_succ, i64_w, i32_w]
                              rfl
                            refine pure_ (i := 2) (N := some 25) (v := ?_) (a' := ?_) #[true, true, true, false, false, false, false, false, false, false, false, false, false, false, false] rfl rfl (any_of HT_.out (by kernel_rfl)) (fun _ _ _ h => h) (Or.inl ⟨by rfl, ?_⟩) ?_ ?_
                            rotate_left
                            · intro w'
                              go_simp
                              with_reducible rfl
                            rotate_left
                            · simp only [Act.put, List.setIfInBounds_toArray, List.set_cons_zero, List.set_cons_succ, i64_w, i32_w]
                              rfl
                            refine pure_ (i := 3) (N := some 26) (v := ?_) (a' := ?_) #[true, true, true, true, false, false, false, false, false, false, false, false, false, false, false] rfl rfl (any_of HT_.out (by kernel_rfl)) (fun _ _ _ h => h) (Or.inl ⟨by rfl, ?_⟩) ?_ ?_
                            rotate_left
                            · intro w'
                              go_simp
                              with_reducible rfl
                            rotate_left
                            · simp only [Act.put, List.setIfInBounds_toArray, List.set_cons_zero, List.set_cons_succ, i64_w, i32_w]
                              rfl
                            refine pure_ (i := 4) (N := some 27) (v := ?_) (a' := ?_) #[true, true, true, true, true, false, false, false, false, false, false, false, false, false, false] rfl rfl (any_of HT_.out (by kernel_rfl)) (fun _ _ _ h => h) (Or.inl ⟨by rfl, ?_⟩) ?_ ?_
                            rotate_left
                            · intro w'
                              go_simp
                              with_reducible rfl
                            rotate_left
                            · simp only [Act.put, List.setIfInBounds_toArray, List.set_cons_zero, List.set_cons_succ, i64_w, i32_w]
                              rfl
                            refine pure_ (i := 5) (N := some 28) (v := ?_) (a' := ?_) #[true, true, true, true, true, true, false, false, false, false, false, false, false, false, false] rfl rfl (any_of HT_.out (by kernel_rfl)) (fun _ _ _ h => h) (Or.inl ⟨by rfl, ?_⟩) ?_ ?_
                            rotate_left
                            · intro w'
                              go_simp
                              with_reducible rfl
                            rotate_left
                            · simp only [Act.put, List.setIfInBounds_toArray, List.set_cons_zero, List.set_cons_succ, i64_w, i32_w]
                              rfl
                            refine pure_ (i := 6) (N := some 29) (v := ?_) (a' := ?_) #[true, true, true, true, true, true, true, false, false, false, false, false, false, false, false] rfl rfl (any_of HT_.out (by kernel_rfl)) (fun _ _ _ h => h) (Or.inl ⟨by rfl, ?_⟩) ?_ ?_
                            rotate_left
                            · intro w'
                              go_simp
                              with_reducible rfl
                            rotate_left
                            · simp only [Act.put, List.setIfInBounds_toArray, List.set_cons_zero, List.set_cons_succ, i64_w, i32_w]
                              rfl
                            refine pure_ (i := 8) (N := some 31) (v := ?_) (a' := ?_) #[true, true, true, true, true, true, true, false, true, false, false, false, false, false, false] rfl rfl (any_of HT_.out (by kernel_rfl)) (fun _ _ _ h => h) (Or.inl ⟨by rfl, ?_⟩) ?_ ?_
                            rotate_left
                            · intro w'
                              go_simp
                              with_reducible rfl
                            rotate_left
                            · simp only [Act.put, List.setIfInBounds_toArray, List.set_cons_zero, List.set_cons_succ, i64_w, i32_w]
                              rfl
                            refine pure_ (i := 9) (N := some 32) (v := ?_) (a' := ?_) #[true, true, true, true, true, true, true, false, true, true, false, false, false, false, false] rfl rfl (any_of HT_.out (by kernel_rfl)) (fun _ _ _ h => h) (Or.inl ⟨by rfl, ?_⟩) ?_ ?_
                            rotate_left
                            · intro w'
                              go_simp
                              with_reducible rfl
                            rotate_left
                            · simp only [Act.put, List.setIfInBounds_toArray, List.set_cons_zero, List.set_cons_succ, i64_w, i32_w]
                              rfl
                            refine pure_ (i := 10) (N := some 33) (v := ?_) (a' := ?_) #[true, true, true, true, true, true, true, false, true, true, true, false, false, false, false] rfl rfl (any_of HT_.out (by kernel_rfl)) (fun _ _ _ h => h) (Or.inl ⟨by rfl, ?_⟩) ?_ ?_
                            rotate_left
                            · intro w'
                              go_simp
                              with_reducible rfl
                            rotate_left
                            · simp only [Act.put, List.setIfInBounds_toArray, List.set_cons_zero, List.set_cons_succ, i64_w, i32_w]
                              rfl
                            refine take_ (i := 7) (N := some 30) (v := .agg #[.string ((rd_T34 x3_1 (ji9)).f0), .int .i64 ((rd_T34 x3_1 (ji9)).f1)]) (a' := ?_) #[true, true, true, true, true, true, true, true, true, true, true, false, false, false, false] rfl rfl (take_ofW HT_.out HW_.out (by kernel_rfl)) (fun _ _ _ h => h) (Or.inl ⟨by rfl, ?_⟩) hHeld ?_ ?_
                            · rintro w' ⟨s0, s1, s2, s3⟩
                              apply exec_load_cells Tryd.underlying34 2
                              case ho => rfl
                              case hx => rfl
                              case hc => exact CellsAt.cons s0 (CellsAt.cons s1 (CellsAt.nil))
                              case hn => rfl
                              case hi => kernel_rfl
                            rotate_left
                            · simp only [Act.put, List.setIfInBounds_toArray, List.set_cons_zero, List.set_cons_succ, i64_w, i32_w]
                              rfl
                            refine take_ (i := 11) (N := some 34) (v := .agg #[.string ((rd_T34 l0 x4_1).f0), .int .i64 ((rd_T34 l0 x4_1).f1)]) (a' := ?_) #[true, true, true, true, true, true, true, true, true, true, true, true, false, false, false] rfl rfl (take_ofW HT_.out HW_.out (by kernel_rfl)) (fun _ _ _ h => h) (Or.inl ⟨by rfl, ?_⟩) hHeld ?_ ?_
                            · rintro w' ⟨s0, s1, s2, s3⟩
                              apply exec_load_cells Tryd.underlying34 2
                              case ho => rfl
                              case hx => rfl
                              case hc => exact CellsAt.cons s2 (CellsAt.cons s3 (CellsAt.nil))
                              case hn => rfl
                              case hi => kernel_rfl
                            rotate_left
                            · simp only [Act.put, List.setIfInBounds_toArray, List.set_cons_zero, List.set_cons_succ, i64_w, i32_w]
                              rfl
                            refine one_ (i := 12) (N := some 35) #[true, true, true, true, true, true, true, true, true, true, true, true, true, false, false] rfl rfl (one_of HT_.out (by kernel_rfl)) (by decide) (fun K hK => ?_)
                            refine goes_ Tryd.func75 (by kernel_rfl) rfl #[.agg #[.string ((rd_T34 x3_1 (ji9)).f0), .int .i64 ((rd_T34 x3_1 (ji9)).f1)], .agg #[.string ((rd_T34 l0 x4_1).f0), .int .i64 ((rd_T34 l0 x4_1).f1)]] (by rfl) rfl rfl (by (try simp only [List.map_toArray, List.map_cons, List.map_nil]); first | done | (simp only [hji9]; rfl) | rfl | (simp only [List.length_drop, List.length_take]; rfl)) ?_
                            with_reducible refine (cameoref04_Compare.calls k2 ((rd_T34 x3_1 (ji9)).f0) ((rd_T34 x3_1 (ji9)).f1) ((rd_T34 l0 x4_1).f0) ((rd_T34 l0 x4_1).f1) t266 _ A14.out).mono ?_
                            rintro e w17 ⟨rfl, hb⟩
                            have HS0_ := (hb.cell (World.block_lt_of_cell? _ _ (hHeld.1))).trans (hHeld.1)
                            have HS1_ := (hb.cell (World.block_lt_of_cell? _ _ (hHeld.2.1))).trans (hHeld.2.1)
                            refine ⟨_, rfl, ?_⟩
                            have n0_ := Aside0.mk (Kd.R_below (by (with_reducible repeat (first | apply Kd.R_alloc | apply Kd.R_drewN | apply Kd.R_drew)); exact HO_3.out) hb)
                            have n1_ := Aside0.mk (below_step (by repeat (first | (with_reducible first | exact HB.out | apply below_alloc | apply pw_below_drewN | apply below_drew1) | exact HB.out)) hb)
                            clear HO_3
                            clear HB
                            have HO_3 := n0_
                            have HB := n1_
                            clear n0_ n1_
                            (try clear hb)
                            (try clear hb2)
                            (try clear hk)
                            (try clear hi)
                            refine hK.out _ _ ⟨HS0_, HS1_, ((HB.out.cell (World.block_lt_of_cell? w _ hw265_0)).trans hw265_0), ((HB.out.cell (World.block_lt_of_cell? w _ hw265_1)).trans hw265_1)⟩ (fun hHeld => ?_)
                            clear hK K
                            refine norm_ (a' := ?_) ?_ ?_
                            rotate_left
                            · show Act.put _ (some 35) _ = _
                              simp only [Act.put, List.setIfInBounds_toArray, List.set_cons_zero, List.set_cons_succ, i64_w, i32_w]
                              rfl
                            refine pure_ (i := 13) (N := some 36) (v := ?_) (a' := ?_) #[true, true, true, true, true, true, true, true, true, true, true, true, true, true, false] rfl rfl (any_of HT_.out (by kernel_rfl)) (fun _ _ _ h => h) (Or.inl ⟨by rfl, ?_⟩) ?_ ?_
                            rotate_left
                            · intro w'
                              go_simp
                              with_reducible rfl
                            rotate_left
                            · simp only [Act.put, List.setIfInBounds_toArray, List.set_cons_zero, List.set_cons_succ, i64_w, i32_w]
                              rfl
                            refine pure_ (i := 14) (N := some 37) (v := ?_) (a' := ?_) #[true, true, true, true, true, true, true, true, true, true, true, true, true, true, true] rfl rfl (any_of HT_.out (by kernel_rfl)) (fun _ _ _ h => h) (Or.inl ⟨by rfl, ?_⟩) ?_ ?_
                            rotate_left
                            · intro w'
                              go_simp
                              with_reducible rfl
                            rotate_left
                            · simp only [Act.put, List.setIfInBounds_toArray, List.set_cons_zero, List.set_cons_succ, i64_w, i32_w]
                              rfl
                            refine done_ (done_of HT_.out (by kernel_rfl)) ?_
                            try go_wp2
                            go_roundg k2
                            case measure => have := HK1.out; have := HK2.out; omega
                            case rel => exact ⟨(ji9), (by first | rfl | (simp; done) | (simp only [← hji9] <;> (first | rfl | simp)) | (simp [*]; done)), H', ⟨by have := HK1.out; have := HK2.out; omega⟩, ⟨by (with_reducible repeat (first | apply Kd.R_alloc | apply Kd.R_drewN | apply Kd.R_drew)); exact HO_3.out⟩, ⟨by repeat (first | (with_reducible first | exact HB.out | apply below_alloc | apply pw_below_drewN | apply below_drew1) | exact HB.out)⟩⟩
                          · rw [if_neg c15] at H
                            have c15b0 : decide (0 < t266) = false := decide_eq_false c15
                            clear c15
                            obtain ⟨y267, hy267⟩ : ∃ y_ : List (S34), y_ = (([] : List (S34))) := ⟨_, rfl⟩
                            replace H : (if 0 ≤ x5_2 then (if x5_2 ≤ (x3_1.length : Int) then ((some (x3_1.drop (x5_2 : Int).toNat : List (S34))).bind fun y270 => (if y267.length + y270.length < 5864062014805 then ((some (y267 ++ y270 : List (S34))).bind fun y274 => ((some (x3_1.take (x5_2 : Int).toNat : List (S34))).bind fun y277 => (if y277.length < 5864062014805 then ((some (y277 ++ [(⟨(rd_T34 l0 x4_1).f0, (rd_T34 l0 x4_1).f1⟩ : S34)] : List (S34))).bind fun y281 => (if y281.length + y274.length < 5864062014805 then (cameoref04_Order.l0 k2 l0 (y281 ++ y274) (wrap64 (x4_1 + 1))) else (none))) else (none)))) else (none))) else (none)) else (none)) = some r := by first | (rw [hy267]; with_reducible exact H) | (have H2_ := (Option.bind_some _ _).symm.trans H; rw [hy267]; with_reducible exact H2_) | (have H2_ := (Option.bind_some _ _).symm.trans H; with_reducible exact H2_) | with_reducible exact H | (rw [hy267]; exact H) | exact H
                            have Ny267 := Aside0.mk hy267
                            clear hy267
                            by_cases c18 : 0 ≤ x5_2
                            · rw [if_pos c18] at H
                              have c18b0 := eq_true c18
                              have c18b1 : decide (0 ≤ x5_2) = true := decide_eq_true c18
                              clear c18
                              by_cases c19 : x5_2 ≤ (x3_1.length : Int)
                              · rw [if_pos c19] at H
                                have c19b0 := eq_true c19
                                have c19b1 : decide (x5_2 ≤ (x3_1.length : Int)) = true := decide_eq_true c19
                                clear c19
                                obtain ⟨y270, hy270⟩ : ∃ y_ : List (S34), y_ = (x3_1.drop (x5_2 : Int).toNat) := ⟨_, rfl⟩
                                replace H : (if y267.length + y270.length < 5864062014805 then ((some (y267 ++ y270 : List (S34))).bind fun y274 => ((some (x3_1.take (x5_2 : Int).toNat : List (S34))).bind fun y277 => (if y277.length < 5864062014805 then ((some (y277 ++ [(⟨(rd_T34 l0 x4_1).f0, (rd_T34 l0 x4_1).f1⟩ : S34)] : List (S34))).bind fun y281 => (if y281.length + y274.length < 5864062014805 then (cameoref04_Order.l0 k2 l0 (y281 ++ y274) (wrap64 (x4_1 + 1))) else (none))) else (none)))) else (none)) = some r := by first | (rw [hy270]; with_reducible exact H) | (have H2_ := (Option.bind_some _ _).symm.trans H; rw [hy270]; with_reducible exact H2_) | (have H2_ := (Option.bind_some _ _).symm.trans H; with_reducible exact H2_) | with_reducible exact H | (rw [hy270]; exact H) | exact H
                                have Ny270 := Aside0.mk hy270
                                clear hy270
                                by_cases c20 : y267.length + y270.length < 5864062014805
                                · rw [if_pos c20] at H
                                  have LMc20 := Aside0.mk c20
                                  clear c20
                                  obtain ⟨y274, hy274⟩ : ∃ y_ : List (S34), y_ = (y267 ++ y270) := ⟨_, rfl⟩
                                  replace H : ((some (x3_1.take (x5_2 : Int).toNat : List (S34))).bind fun y277 => (if y277.length < 5864062014805 then ((some (y277 ++ [(⟨(rd_T34 l0 x4_1).f0, (rd_T34 l0 x4_1).f1⟩ : S34)] : List (S34))).bind fun y281 => (if y281.length + y274.length < 5864062014805 then (cameoref04_Order.l0 k2 l0 (y281 ++ y274) (wrap64 (x4_1 + 1))) else (none))) else (none))) = some r := by first | (rw [hy274]; with_reducible exact H) | (have H2_ := (Option.bind_some _ _).symm.trans H; rw [hy274]; with_reducible exact H2_) | (have H2_ := (Option.bind_some _ _).symm.trans H; with_reducible exact H2_) | with_reducible exact H | (rw [hy274]; exact H) | exact H
                                  have Ny274 := Aside0.mk hy274
                                  clear hy274
                                  have c21b0 := eq_true (of_decide_eq_true (by first | (with_reducible assumption) | assumption) : x5_2 ≤ (x3_1.length : Int))
                                  obtain ⟨y277, hy277⟩ : ∃ y_ : List (S34), y_ = (x3_1.take (x5_2 : Int).toNat) := ⟨_, rfl⟩
                                  replace H : (if y277.length < 5864062014805 then ((some (y277 ++ [(⟨(rd_T34 l0 x4_1).f0, (rd_T34 l0 x4_1).f1⟩ : S34)] : List (S34))).bind fun y281 => (if y281.length + y274.length < 5864062014805 then (cameoref04_Order.l0 k2 l0 (y281 ++ y274) (wrap64 (x4_1 + 1))) else (none))) else (none)) = some r := by first | (rw [hy277]; with_reducible exact H) | (have H2_ := (Option.bind_some _ _).symm.trans H; rw [hy277]; with_reducible exact H2_) | (have H2_ := (Option.bind_some _ _).symm.trans H; with_reducible exact H2_) | with_reducible exact H | (rw [hy277]; exact H) | exact H
                                  have Ny277 := Aside0.mk hy277
                                  clear hy277
                                  by_cases c22 : y277.length < 5864062014805
                                  · rw [if_pos c22] at H
                                    have LMc22 := Aside0.mk c22
                                    clear c22
                                    obtain ⟨y281, hy281⟩ : ∃ y_ : List (S34), y_ = (y277 ++ [(⟨(rd_T34 l0 x4_1).f0, (rd_T34 l0 x4_1).f1⟩ : S34)]) := ⟨_, rfl⟩
                                    replace H : (if y281.length + y274.length < 5864062014805 then (cameoref04_Order.l0 k2 l0 (y281 ++ y274) (wrap64 (x4_1 + 1))) else (none)) = some r := by first | (rw [hy281]; with_reducible exact H) | (have H2_ := (Option.bind_some _ _).symm.trans H; rw [hy281]; with_reducible exact H2_) | (have H2_ := (Option.bind_some _ _).symm.trans H; with_reducible exact H2_) | with_reducible exact H | (rw [hy281]; exact H) | exact H
                                    have Ny281 := Aside0.mk hy281
                                    clear hy281
                                    by_cases c23 : y281.length + y274.length < 5864062014805
                                    · rw [if_pos c23] at H
                                      have LMc23 := Aside0.mk c23
                                      clear c23
                                      obtain ⟨y284, hy284⟩ : ∃ y_ : List (S34), y_ = (y281 ++ y274) := ⟨_, rfl⟩
                                      replace H : (cameoref04_Order.l0 k2 l0 y284 (wrap64 (x4_1 + 1))) = some r := by first | (rw [hy284]; with_reducible exact H) | (have H2_ := (Option.bind_some _ _).symm.trans H; rw [hy284]; with_reducible exact H2_) | (have H2_ := (Option.bind_some _ _).symm.trans H; with_reducible exact H2_) | with_reducible exact H | (rw [hy284]; exact H) | exact H
                                      have Ny284 := Aside0.mk hy284
                                      clear hy284
                                      have H' := Aside0.mk H
                                      clear H
                                      try go_wp2
                                      have n0_ := Aside0.mk (Kd.R_drew HO_3.out)
                                      have n1_ := Aside0.mk (below_drew1 HB.out)
                                      clear HO_3
                                      clear HB
                                      have HO_3 := n0_
                                      have HB := n1_
                                      clear n0_ n1_
                                      have p264 : 0 ≤ ((ji9) : Int) := of_decide_eq_true (by first | (with_reducible assumption) | assumption)
                                      have q264 : (ji9) < (x3_1.length : Int) := of_decide_eq_true (by first | (with_reducible assumption) | assumption)
                                      obtain ⟨ad264, e264, hx264_0, hx264_1⟩ := at_T34 (Kd.R_reads' HO_3.out).2.2 (ji9) p264 q264
                                      cases e264
                                      replace p264 := eq_true p264
                                      replace q264 := eq_true q264
                                      have p265 : 0 ≤ (x4_1 : Int) := of_decide_eq_true (by first | (with_reducible assumption) | assumption)
                                      have q265 : x4_1 < (l0.length : Int) := of_decide_eq_true (by first | (with_reducible assumption) | assumption)
                                      obtain ⟨ad265, e265, hx265_0, hx265_1⟩ := at_T34 HR0.out x4_1 p265 q265
                                      have hw265_1 := hx265_1
                                      have hw265_0 := hx265_0
                                      obtain rfl : ad262 = ad265 := (by injection e265)
                                      replace hx265_0 := (HB.out.cell (World.block_lt_of_cell? w _ hx265_0)).trans hx265_0
                                      replace hx265_1 := (HB.out.cell (World.block_lt_of_cell? w _ hx265_1)).trans hx265_1
                                      replace p265 := eq_true p265
                                      replace q265 := eq_true q265
                                      refine start_ (n := 15) (S := fun w' => w'.cell? (ad264.add (((ji9)).toNat * 2)) = some (.string ((rd_T34 x3_1 (ji9)).f0)) ∧ w'.cell? ⟨(ad264.add (((ji9)).toNat * 2)).block, (ad264.add (((ji9)).toNat * 2)).off + 1, none⟩ = some (.int .i64 ((rd_T34 x3_1 (ji9)).f1)) ∧ w'.cell? (ad262.add ((x4_1).toNat * 2)) = some (.string ((rd_T34 l0 x4_1).f0)) ∧ w'.cell? ⟨(ad262.add ((x4_1).toNat * 2)).block, (ad262.add ((x4_1).toNat * 2)).off + 1, none⟩ = some (.int .i64 ((rd_T34 l0 x4_1).f1))) (ds := []) #[false, false, false, false, false, false, false, false, false, false, false, false, false, false, false] (by kernel_rfl) rfl rfl ⟨hx264_0, hx264_1, ((HB.out.cell (World.block_lt_of_cell? w _ hw265_0)).trans hw265_0), ((HB.out.cell (World.block_lt_of_cell? w _ hw265_1)).trans hw265_1)⟩ (fun hHeld => ?_); refine with_tabW cameoref04_Order.tab7 cameoref04_Order.bits7 (fun HT_ HW_ => ?_)
                                      generalize wr.drew = w24 at HO_3 HB hx264_0 hx264_1 hx265_0 hx265_1 hHeld ⊢
                                      refine pure_ (i := 0) (N := some 23) (v := ?_) (a' := ?_) #[true, false, false, false, false, false, false, false, false, false, false, false, false, false, false] rfl rfl (any_of HT_.out (by kernel_rfl)) (fun _ _ _ h => h) (Or.inl ⟨by rfl, ?_⟩) ?_ ?_
                                      rotate_left
                                      · intro w'
                                        go_simp
                                        with_reducible rfl
                                      rotate_left
                                      · simp only [Act.put, List.setIfInBounds_toArray, List.set_cons_zero, List.set_cons_succ, i64_w, i32_w]
                                        rfl
                                      refine pure_ (i := 1) (N := some 24) (v := ?_) (a' := ?_) #[true, true, false, false, false, false, false, false, false, false, false, false, false, false, false] rfl rfl (any_of HT_.out (by kernel_rfl)) (fun _ _ _ h => h) (Or.inl ⟨by rfl, ?_⟩) ?_ ?_
                                      rotate_left
                                      · intro w'
                                        go_simp
                                        with_reducible rfl
                                      rotate_left
                                      · simp only [Act.put, List.setIfInBounds_toArray, List.set_cons_zero, List.set_cons_succ, i64_w, i32_w]
                                        rfl
                                      refine pure_ (i := 2) (N := some 25) (v := ?_) (a' := ?_) #[true, true, true, false, false, false, false, false, false, false, false, false, false, false, false] rfl rfl (any_of HT_.out (by kernel_rfl)) (fun _ _ _ h => h) (Or.inl ⟨by rfl, ?_⟩) ?_ ?_
                                      rotate_left
                                      · intro w'
                                        go_simp
                                        with_reducible rfl
                                      rotate_left
                                      · simp only [Act.put, List.setIfInBounds_toArray, List.set_cons_zero, List.set_cons_succ, i64_w, i32_w]
                                        rfl
                                      refine pure_ (i := 3) (N := some 26) (v := ?_) (a' := ?_) #[true, true, true, true, false, false, false, false, false, false, false, false, false, false, false] rfl rfl (any_of HT_.out (by kernel_rfl)) (fun _ _ _ h => h) (Or.inl ⟨by rfl, ?_⟩) ?_ ?_
                                      rotate_left
                                      · intro w'
                                        go_simp
                                        with_reducible rfl
                                      rotate_left
                                      · simp only [Act.put, List.setIfInBounds_toArray, List.set_cons_zero, List.set_cons_succ, i64_w, i32_w]
                                        rfl
                                      refine pure_ (i := 4) (N := some 27) (v := ?_) (a' := ?_) #[true, true, true, true, true, false, false, false, false, false, false, false, false, false, false] rfl rfl (any_of HT_.out (by kernel_rfl)) (fun _ _ _ h => h) (Or.inl ⟨by rfl, ?_⟩) ?_ ?_
                                      rotate_left
                                      · intro w'
                                        go_simp
                                        with_reducible rfl
                                      rotate_left
                                      · simp only [Act.put, List.setIfInBounds_toArray, List.set_cons_zero, List.set_cons_succ, i64_w, i32_w]
                                        rfl
                                      refine pure_ (i := 5) (N := some 28) (v := ?_) (a' := ?_) #[true, true, true, true, true, true, false, false, false, false, false, false, false, false, false] rfl rfl (any_of HT_.out (by kernel_rfl)) (fun _ _ _ h => h) (Or.inl ⟨by rfl, ?_⟩) ?_ ?_
                                      rotate_left
                                      · intro w'
                                        go_simp
                                        with_reducible rfl
                                      rotate_left
                                      · simp only [Act.put, List.setIfInBounds_toArray, List.set_cons_zero, List.set_cons_succ, i64_w, i32_w]
                                        rfl
                                      refine pure_ (i := 6) (N := some 29) (v := ?_) (a' := ?_) #[true, true, true, true, true, true, true, false, false, false, false, false, false, false, false] rfl rfl (any_of HT_.out (by kernel_rfl)) (fun _ _ _ h => h) (Or.inl ⟨by rfl, ?_⟩) ?_ ?_
                                      rotate_left
                                      · intro w'
                                        go_simp
                                        with_reducible rfl
                                      rotate_left
                                      · simp only [Act.put, List.setIfInBounds_toArray, List.set_cons_zero, List.set_cons_succ, i64_w, i32_w]
                                        rfl
                                      refine pure_ (i := 8) (N := some 31) (v := ?_) (a' := ?_) #[true, true, true, true, true, true, true, false, true, false, false, false, false, false, false] rfl rfl (any_of HT_.out (by kernel_rfl)) (fun _ _ _ h => h) (Or.inl ⟨by rfl, ?_⟩) ?_ ?_
                                      rotate_left
                                      · intro w'
                                        go_simp
                                        with_reducible rfl
                                      rotate_left
                                      · simp only [Act.put, List.setIfInBounds_toArray, List.set_cons_zero, List.set_cons_succ, i64_w, i32_w]
                                        rfl
                                      refine pure_ (i := 9) (N := some 32) (v := ?_) (a' := ?_) #[true, true, true, true, true, true, true, false, true, true, false, false, false, false, false] rfl rfl (any_of HT_.out (by kernel_rfl)) (fun _ _ _ h => h) (Or.inl ⟨by rfl, ?_⟩) ?_ ?_
                                      rotate_left
                                      · intro w'
                                        go_simp
                                        with_reducible rfl
                                      rotate_left
                                      · simp only [Act.put, List.setIfInBounds_toArray, List.set_cons_zero, List.set_cons_succ, i64_w, i32_w]
                                        rfl
                                      refine pure_ (i := 10) (N := some 33) (v := ?_) (a' := ?_) #[true, true, true, true, true, true, true, false, true, true, true, false, false, false, false] rfl rfl (any_of HT_.out (by kernel_rfl)) (fun _ _ _ h => h) (Or.inl ⟨by rfl, ?_⟩) ?_ ?_
                                      rotate_left
                                      · intro w'
                                        go_simp
                                        with_reducible rfl
                                      rotate_left
                                      · simp only [Act.put, List.setIfInBounds_toArray, List.set_cons_zero, List.set_cons_succ, i64_w, i32_w]
                                        rfl
                                      refine take_ (i := 7) (N := some 30) (v := .agg #[.string ((rd_T34 x3_1 (ji9)).f0), .int .i64 ((rd_T34 x3_1 (ji9)).f1)]) (a' := ?_) #[true, true, true, true, true, true, true, true, true, true, true, false, false, false, false] rfl rfl (take_ofW HT_.out HW_.out (by kernel_rfl)) (fun _ _ _ h => h) (Or.inl ⟨by rfl, ?_⟩) hHeld ?_ ?_
                                      · rintro w' ⟨s0, s1, s2, s3⟩
                                        apply exec_load_cells Tryd.underlying34 2
                                        case ho => rfl
                                        case hx => rfl
                                        case hc => exact CellsAt.cons s0 (CellsAt.cons s1 (CellsAt.nil))
                                        case hn => rfl
                                        case hi => kernel_rfl
                                      rotate_left
                                      · simp only [Act.put, List.setIfInBounds_toArray, List.set_cons_zero, List.set_cons_succ, i64_w, i32_w]
                                        rfl
                                      refine take_ (i := 11) (N := some 34) (v := .agg #[.string ((rd_T34 l0 x4_1).f0), .int .i64 ((rd_T34 l0 x4_1).f1)]) (a' := ?_) #[true, true, true, true, true, true, true, true, true, true, true, true, false, false, false] rfl rfl (take_ofW HT_.out HW_.out (by kernel_rfl)) (fun _ _ _ h => h) (Or.inl ⟨by rfl, ?_⟩) hHeld ?_ ?_
                                      · rintro w' ⟨s0, s1, s2, s3⟩
                                        apply exec_load_cells Tryd.underlying34 2
                                        case ho => rfl
                                        case hx => rfl
                                        case hc => exact CellsAt.cons s2 (CellsAt.cons s3 (CellsAt.nil))
                                        case hn => rfl
                                        case hi => kernel_rfl
                                      rotate_left
                                      · simp only [Act.put, List.setIfInBounds_toArray, List.set_cons_zero, List.set_cons_succ, i64_w, i32_w]
                                        rfl
                                      refine one_ (i := 12) (N := some 35) #[true, true, true, true, true, true, true, true, true, true, true, true, true, false, false] rfl rfl (one_of HT_.out (by kernel_rfl)) (by decide) (fun K hK => ?_)
                                      refine goes_ Tryd.func75 (by kernel_rfl) rfl #[.agg #[.string ((rd_T34 x3_1 (ji9)).f0), .int .i64 ((rd_T34 x3_1 (ji9)).f1)], .agg #[.string ((rd_T34 l0 x4_1).f0), .int .i64 ((rd_T34 l0 x4_1).f1)]] (by rfl) rfl rfl (by (try simp only [List.map_toArray, List.map_cons, List.map_nil]); first | done | (simp only [hji9]; rfl) | rfl | (simp only [List.length_drop, List.length_take]; rfl)) ?_
                                      with_reducible refine (cameoref04_Compare.calls k2 ((rd_T34 x3_1 (ji9)).f0) ((rd_T34 x3_1 (ji9)).f1) ((rd_T34 l0 x4_1).f0) ((rd_T34 l0 x4_1).f1) t266 _ A14.out).mono ?_
                                      rintro e w25 ⟨rfl, hb⟩
                                      have HS0_ := (hb.cell (World.block_lt_of_cell? _ _ (hHeld.1))).trans (hHeld.1)
                                      have HS1_ := (hb.cell (World.block_lt_of_cell? _ _ (hHeld.2.1))).trans (hHeld.2.1)
                                      refine ⟨_, rfl, ?_⟩
                                      have n0_ := Aside0.mk (Kd.R_below (by (with_reducible repeat (first | apply Kd.R_alloc | apply Kd.R_drewN | apply Kd.R_drew)); exact HO_3.out) hb)
                                      have n1_ := Aside0.mk (below_step (by repeat (first | (with_reducible first | exact HB.out | apply below_alloc | apply pw_below_drewN | apply below_drew1) | exact HB.out)) hb)
                                      clear HO_3
                                      clear HB
                                      have HO_3 := n0_
                                      have HB := n1_
                                      clear n0_ n1_
                                      (try clear hb)
                                      (try clear hb2)
                                      (try clear hk)
                                      (try clear hi)
                                      refine hK.out _ _ ⟨HS0_, HS1_, ((HB.out.cell (World.block_lt_of_cell? w _ hw265_0)).trans hw265_0), ((HB.out.cell (World.block_lt_of_cell? w _ hw265_1)).trans hw265_1)⟩ (fun hHeld => ?_)
                                      clear hK K
                                      refine norm_ (a' := ?_) ?_ ?_
                                      rotate_left
                                      · show Act.put _ (some 35) _ = _
                                        simp only [Act.put, List.setIfInBounds_toArray, List.set_cons_zero, List.set_cons_succ, i64_w, i32_w]
                                        rfl
                                      refine pure_ (i := 13) (N := some 36) (v := ?_) (a' := ?_) #[true, true, true, true, true, true, true, true, true, true, true, true, true, true, false] rfl rfl (any_of HT_.out (by kernel_rfl)) (fun _ _ _ h => h) (Or.inl ⟨by rfl, ?_⟩) ?_ ?_
                                      rotate_left
                                      · intro w'
                                        go_simp
                                        with_reducible rfl
                                      rotate_left
                                      · simp only [Act.put, List.setIfInBounds_toArray, List.set_cons_zero, List.set_cons_succ, i64_w, i32_w]
                                        rfl
                                      refine pure_ (i := 14) (N := some 37) (v := ?_) (a' := ?_) #[true, true, true, true, true, true, true, true, true, true, true, true, true, true, true] rfl rfl (any_of HT_.out (by kernel_rfl)) (fun _ _ _ h => h) (Or.inl ⟨by rfl, ?_⟩) ?_ ?_
                                      rotate_left
                                      · intro w'
                                        go_simp
                                        with_reducible rfl
                                      rotate_left
                                      · simp only [Act.put, List.setIfInBounds_toArray, List.set_cons_zero, List.set_cons_succ, i64_w, i32_w]
                                        rfl
                                      refine done_ (done_of HT_.out (by kernel_rfl)) ?_
                                      try go_wp2_with (first | ((with_reducible refine gate_dst (N := 40) rfl ?_); refine Kd.R_lit k34 _ 34 ?hg (N := 40) ?hd (xs := ([] : List (S34))) (inner := []) (ok := fun _ => True) (okp := fun _ => True) ?hr ?hp (fun _ hk => hk) trivial (Below.refl _ _) (Nat.le_refl _) (by simp) ?_; (case hd => rfl); (case hg => rfl); (case hr => first | (go_simp; done) | (go_simp; rfl)); (case hp => exact (Reps.none _ _)); intro v268 w26 ho27 hb hg_ hnew_; clear hg_ hnew_; (first | rw [← Ny267.out] at ho27 | (simp only [Int.reduceToNat] at ho27; rw [← Ny267.out] at ho27)); have n0_ := Aside0.mk (Kd.R_elder' (by (with_reducible repeat (first | apply Kd.R_alloc | apply Kd.R_drewN | apply Kd.R_drew)); exact HO_3.out) (Kd.R_base ho27) hb); have n1_ := Aside0.mk (Kd.R_lower (Kd.R_new' ho27 (Kd.R_lt (by (with_reducible repeat (first | apply Kd.R_alloc | apply Kd.R_drewN | apply Kd.R_drew)); exact HO_3.out))) (below_size (by repeat (first | (with_reducible first | exact HB.out | apply below_alloc | apply pw_below_drewN | apply below_drew1) | exact HB.out)))); have n2_ := Aside0.mk (below_step (by repeat (first | (with_reducible first | exact HB.out | apply below_alloc | apply pw_below_drewN | apply below_drew1) | exact HB.out)) hb); clear HO_3; clear HB; have HO_3 := n0_; have HO269 := n1_; have HB := n2_; clear n0_ n1_ n2_; clear hb ho27; have q28 : (x5_2 : Int) ≤ ((x3_1.length : Int) : Int) := of_decide_eq_true (by first | (with_reducible assumption) | assumption); obtain ⟨i028, hi028, _, hsz28, _⟩ := info_parts info34; have hroom28 : x3_1.length ≤ co7 := (Kd.R_reads' HO_3.out).2.1; have hC28 : Kd.C k34 _ (some ad264) x3_1.length x3_1 := (Kd.R_reads' HO_3.out).2.2; have q028 : (0 : Int) ≤ (x5_2 : Int) := of_decide_eq_true (by first | (with_reducible assumption) | assumption); have hcut28 := cut_from (P := Tryd.prog) 49 34 .i64 Tryd.underlying49 hi028 2 hsz28 (some ad264) x3_1.length co7 x5_2 q028 q28; have hr28 := Kd.C_drop (m := (x5_2 : Int).toNat) (c := co7) hC28 (by omega) hroom28; obtain ⟨A28, hA28⟩ : ∃ A1, A1 = (if co7 = (x5_2 : Int).toNat then (some ad264) else ((some ad264) : Option Addr).map (·.add ((x5_2 : Int).toNat * 2))) := ⟨_, rfl⟩; obtain ⟨c28, hc28⟩ : ∃ c1, c1 = co7 - (x5_2 : Int).toNat := ⟨_, rfl⟩; have hy28 : y270.length = x3_1.length - (x5_2 : Int).toNat := (by rw [Ny270.out, List.length_drop] <;> omega); rw [show (x3_1).drop (x5_2 : Int).toNat = y270 from Ny270.out.symm] at hr28; replace hr28 : Kd.C k34 _ A28 y270.length y270 := (by rw [hA28]; exact hr28); rw [← hy28, ← hA28, ← hc28] at hcut28; have HR273 := Aside0.mk hr28; have HC273 := Aside0.mk (show y270.length ≤ c28 from by rw [hy28, hc28]; exact Nat.sub_le_sub_right hroom28 _); clear hr28 hC28 hroom28 hi028 hsz28 hc28; have KY28 := Aside0.mk hy28; have KA28 := Aside0.mk hA28; clear hy28 hA28; have KL28 := Aside0.mk (show (x5_2 : Int).toNat ≤ x3_1.length from by omega); replace q28 := eq_true q28) | ((with_reducible refine gate_builtin (b := .append) (xs := #[.tmp 40, .tmp 43]) rfl ?_); at_builtin; refine Kd.R_append_rows k34 (w0 := w) w.heap.size rfl (.tmp 40) (.tmp 43) 49 34 (.agg #[(.string ⟨#[]⟩), (.int .i64 0)]) 24 rfl Tryd.underlying49 info34 rfl (by decide) (by omega) v268 y267 y270 _ _ _ (fun k_ => some k_ ≠ (.slice (some ad264) x3_1.length co7 : Value).ownBlock) (fun _ => False) rfl rfl ?aO ?aR (fun _ _ h => h) (fun _ h => h.elim) ?aF ?aB ?aS ?aL ?_; (case aR => repeat (first | exact (by repeat (first | (with_reducible exact HR273.out) | (with_reducible refine Kd.C_alloc ?_ _) | (with_reducible refine Kd.C_drewN ?_ _) | (with_reducible refine Kd.C_drew ?_) | exact HR273.out)) | (with_reducible refine Kd.C_alloc ?_ _) | (with_reducible refine Kd.C_drewN ?_ _) | (with_reducible refine Kd.C_drew ?_))); (case aB => exact (by repeat (first | (with_reducible first | exact HB.out | apply below_alloc | apply pw_below_drewN | apply below_drew1) | exact HB.out))); (case aF => exact (fun k_ hk => Kd.fresh' (Kd.R_lt (by (with_reducible repeat (first | apply Kd.R_alloc | apply Kd.R_drewN | apply Kd.R_drew)); exact HO_3.out)) k_ hk)); (case aO => exact (by (with_reducible repeat (first | apply Kd.R_alloc | apply Kd.R_drewN | apply Kd.R_drew)); exact Kd.R_mono HO269.out (fun _ hk => hk.2))); (case aS => exact (below_size (by repeat (first | (with_reducible first | exact HB.out | apply below_alloc | apply pw_below_drewN | apply below_drew1) | exact HB.out)))); (case aL => have := LMc20.out; omega); intro v275 w29 ho hb hg hat; rw [← Ny274.out] at ho; have n0_ := Aside0.mk (Kd.R_after (ok := (fun _ => True)) (by (with_reducible repeat (first | apply Kd.R_alloc | apply Kd.R_drewN | apply Kd.R_drew)); exact HO_3.out) hg hat); have n1_ := Aside0.mk (hb); have n2_ := Aside0.mk ((show Kd.C k34 w29 A28 y270.length y270 from by rw [Ny270.out, KA28.out]; exact Kd.C_drop (m := (x5_2 : Int).toNat) (c := co7) ((Kd.R_reads' (Kd.R_after (ok := (fun _ => True)) (by (with_reducible repeat (first | apply Kd.R_alloc | apply Kd.R_drewN | apply Kd.R_drew)); exact HO_3.out) hg hat)).2.2) KL28.out ((Kd.R_reads' (Kd.R_after (ok := (fun _ => True)) (by (with_reducible repeat (first | apply Kd.R_alloc | apply Kd.R_drewN | apply Kd.R_drew)); exact HO_3.out) hg hat)).2.1))); have n3_ := Aside0.mk (ho); clear HO_3; clear HB; clear HR273; clear HO269; have HO_3 := n0_; have HB := n1_; have HR273 := n2_; have HO276 := n3_; clear n0_ n1_ n2_ n3_; clear ho hb hg hat))
                                      have n0_ := Aside0.mk (Kd.R_drew HO_3.out)
                                      have n1_ := Aside0.mk (Kd.R_drew HO276.out)
                                      have n2_ := Aside0.mk (Kd.C_drew HR273.out)
                                      have n3_ := Aside0.mk (below_drew1 HB.out)
                                      clear HO_3
                                      clear HO276
                                      clear HR273
                                      clear HB
                                      have HO_3 := n0_
                                      have HO276 := n1_
                                      have HR273 := n2_
                                      have HB := n3_
                                      clear n0_ n1_ n2_ n3_
                                      have q31 : (x5_2 : Int) ≤ ((x3_1.length : Int) : Int) := of_decide_eq_true (by first | (with_reducible assumption) | assumption)
                                      obtain ⟨i031, hi031, _, hsz31, _⟩ := info_parts info34
                                      have hcut31 := cut_to (P := Tryd.prog) 49 34 .i64 Tryd.underlying49 hi031 (some ad264) x3_1.length co7 x5_2 (of_decide_eq_true (by first | (with_reducible assumption) | assumption)) q31 (Kd.R_reads' HO_3.out).2.1
                                      have hr31 := Kd.R_take (m := (x5_2 : Int).toNat) HO_3.out (by omega)
                                      have hy31 : y277.length = (x5_2 : Int).toNat := (by rw [Ny277.out, List.length_take]; omega)
                                      rw [← Ny277.out] at hr31
                                      rw [← hy31] at hr31 hcut31
                                      clear hy31 hi031 hsz31 HO_3
                                      have HO279 := Aside0.mk hr31
                                      clear hr31
                                      replace q31 := eq_true q31
                                      have p280 : 0 ≤ (x4_1 : Int) := of_decide_eq_true (by first | (with_reducible assumption) | assumption)
                                      have q280 : x4_1 < (l0.length : Int) := of_decide_eq_true (by first | (with_reducible assumption) | assumption)
                                      obtain ⟨ad280, e280, hx280_0, hx280_1⟩ := at_T34 HR0.out x4_1 p280 q280
                                      have hw280_1 := hx280_1
                                      have hw280_0 := hx280_0
                                      obtain rfl : ad262 = ad280 := (by injection e280)
                                      replace hx280_0 := (HB.out.cell (World.block_lt_of_cell? w _ hx280_0)).trans hx280_0
                                      replace hx280_1 := (HB.out.cell (World.block_lt_of_cell? w _ hx280_1)).trans hx280_1
                                      replace p280 := eq_true p280
                                      replace q280 := eq_true q280
                                      refine start_ (n := 12) (S := fun w' => w'.cell? (ad262.add ((x4_1).toNat * 2)) = some (.string ((rd_T34 l0 x4_1).f0)) ∧ w'.cell? ⟨(ad262.add ((x4_1).toNat * 2)).block, (ad262.add ((x4_1).toNat * 2)).off + 1, none⟩ = some (.int .i64 ((rd_T34 l0 x4_1).f1))) (ds := []) #[false, false, false, false, false, false, false, false, false, false, false, false] (by kernel_rfl) rfl rfl ⟨((HB.out.cell (World.block_lt_of_cell? w _ hw280_0)).trans hw280_0), ((HB.out.cell (World.block_lt_of_cell? w _ hw280_1)).trans hw280_1)⟩ (fun hHeld => ?_); refine with_tabW cameoref04_Order.tab10 cameoref04_Order.bits10 (fun HT_ HW_ => ?_)
                                      generalize w29.drew = w30 at HO_3 HO276 HR273 HB HO279 hx280_0 hx280_1 hHeld ⊢
                                      refine pure_ (i := 0) (N := some 45) (v := ?_) (a' := ?_) #[true, false, false, false, false, false, false, false, false, false, false, false] rfl rfl (any_of HT_.out (by kernel_rfl)) (fun _ _ _ h => h) (Or.inl ⟨by rfl, ?_⟩) ?_ ?_
                                      rotate_left
                                      · intro w'
                                        go_simp
                                        with_reducible rfl
                                      rotate_left
                                      · simp only [Act.put, List.setIfInBounds_toArray, List.set_cons_zero, List.set_cons_succ, i64_w, i32_w]
                                        rfl
                                      refine pure_ (i := 1) (N := some 46) (v := ?_) (a' := ?_) #[true, true, false, false, false, false, false, false, false, false, false, false] rfl rfl (any_of HT_.out (by kernel_rfl)) (fun _ _ _ h => h) (Or.inl ⟨by rfl, ?_⟩) ?_ ?_
                                      rotate_left
                                      · intro w'
                                        go_simp
                                        with_reducible rfl
                                      rotate_left
                                      · simp only [Act.put, List.setIfInBounds_toArray, List.set_cons_zero, List.set_cons_succ, i64_w, i32_w]
                                        rfl
                                      refine pure_ (i := 2) (N := some 47) (v := ?_) (a' := ?_) #[true, true, true, false, false, false, false, false, false, false, false, false] rfl rfl (any_of HT_.out (by kernel_rfl)) (fun _ _ _ h => h) (Or.inl ⟨by rfl, ?_⟩) ?_ ?_
                                      rotate_left
                                      · intro w'
                                        go_simp
                                        with_reducible rfl
                                      rotate_left
                                      · simp only [Act.put, List.setIfInBounds_toArray, List.set_cons_zero, List.set_cons_succ, i64_w, i32_w]
                                        rfl
                                      refine pure_ (i := 3) (N := some 48) (v := ?_) (a' := ?_) #[true, true, true, true, false, false, false, false, false, false, false, false] rfl rfl (any_of HT_.out (by kernel_rfl)) (fun _ _ _ h => h) (Or.inl ⟨by rfl, ?_⟩) ?_ ?_
                                      rotate_left
                                      · intro w'
                                        go_simp
                                        with_reducible rfl
                                      rotate_left
                                      · simp only [Act.put, List.setIfInBounds_toArray, List.set_cons_zero, List.set_cons_succ, i64_w, i32_w]
                                        rfl
                                      refine pure_ (i := 4) (N := some 49) (v := ?_) (a' := ?_) #[true, true, true, true, true, false, false, false, false, false, false, false] rfl rfl (any_of HT_.out (by kernel_rfl)) (fun _ _ _ h => h) (Or.inl ⟨by rfl, ?_⟩) ?_ ?_
                                      rotate_left
                                      · intro w'
                                        go_simp
                                        with_reducible rfl
                                      rotate_left
                                      · simp only [Act.put, List.setIfInBounds_toArray, List.set_cons_zero, List.set_cons_succ, i64_w, i32_w]
                                        rfl
                                      refine pure_ (i := 5) (N := some 50) (v := ?_) (a' := ?_) #[true, true, true, true, true, true, false, false, false, false, false, false] rfl rfl (any_of HT_.out (by kernel_rfl)) (fun _ _ _ h => h) (Or.inl ⟨by rfl, ?_⟩) ?_ ?_
                                      rotate_left
                                      · intro w'
                                        go_simp
                                        with_reducible rfl
                                      rotate_left
                                      · simp only [Act.put, List.setIfInBounds_toArray, List.set_cons_zero, List.set_cons_succ, i64_w, i32_w]
                                        rfl
                                      refine pure_ (i := 9) (N := some 54) (v := ?_) (a' := ?_) #[true, true, true, true, true, true, false, false, false, true, false, false] rfl rfl (any_of HT_.out (by kernel_rfl)) (fun _ _ _ h => h) (Or.inl ⟨by rfl, ?_⟩) ?_ ?_
                                      rotate_left
                                      · intro w'
                                        go_simp
                                        with_reducible rfl
                                      rotate_left
                                      · simp only [Act.put, List.setIfInBounds_toArray, List.set_cons_zero, List.set_cons_succ, i64_w, i32_w]
                                        rfl
                                      refine take_ (i := 6) (N := some 51) (v := .agg #[.string ((rd_T34 l0 x4_1).f0), .int .i64 ((rd_T34 l0 x4_1).f1)]) (a' := ?_) #[true, true, true, true, true, true, true, false, false, true, false, false] rfl rfl (take_ofW HT_.out HW_.out (by kernel_rfl)) (fun _ _ _ h => h) (Or.inl ⟨by rfl, ?_⟩) hHeld ?_ ?_
                                      · rintro w' ⟨s0, s1⟩
                                        apply exec_load_cells Tryd.underlying34 2
                                        case ho => rfl
                                        case hx => rfl
                                        case hc => exact CellsAt.cons s0 (CellsAt.cons s1 (CellsAt.nil))
                                        case hn => rfl
                                        case hi => kernel_rfl
                                      rotate_left
                                      · simp only [Act.put, List.setIfInBounds_toArray, List.set_cons_zero, List.set_cons_succ, i64_w, i32_w]
                                        rfl
                                      refine one_ (i := 7) (N := some 52) #[true, true, true, true, true, true, true, true, false, true, false, false] rfl rfl (one_of HT_.out (by kernel_rfl)) (by decide) (fun K hK => ?_)
                                      refine value_ (w1 := ?_) (v := ?_) (by rfl) rfl ?_ ?_
                                      rotate_left 2
                                      · go_simp
                                        constructor
                                        · rfl
                                        · rfl
                                      refine hK.out _ _ ⟨(World.cell?_alloc_lt _ _ _ (World.block_lt_of_cell? _ _ (((HB.out.cell (World.block_lt_of_cell? w _ hw280_0)).trans hw280_0)))).trans (((HB.out.cell (World.block_lt_of_cell? w _ hw280_0)).trans hw280_0)), (World.cell?_alloc_lt _ _ _ (World.block_lt_of_cell? _ _ (((HB.out.cell (World.block_lt_of_cell? w _ hw280_1)).trans hw280_1)))).trans (((HB.out.cell (World.block_lt_of_cell? w _ hw280_1)).trans hw280_1))⟩ (fun hHeld => ?_)
                                      clear hK K
                                      refine norm_ (a' := ?_) ?_ ?_
                                      rotate_left
                                      · show Act.put _ (some 52) _ = _
                                        simp only [Act.put, List.setIfInBounds_toArray, List.set_cons_zero, List.set_cons_succ, i64_w, i32_w]
                                        rfl
                                      refine one_ (i := 8) (N := some 53) #[true, true, true, true, true, true, true, true, true, true, false, false] rfl rfl (one_of HT_.out (by kernel_rfl)) (by decide) (fun K hK => ?_)
                                      refine Kd.R_append_step k34 (w0 := w) w.heap.size (by rfl) (.tmp 47) (.tmp 52) 49 34 (.agg #[(.string ⟨#[]⟩), (.int .i64 0)]) 24 rfl Tryd.underlying49 info34 rfl (by decide) (by omega) (.slice (some ad264) y277.length co7) y277 (⟨(rd_T34 l0 x4_1).f0, (rd_T34 l0 x4_1).f1⟩ : S34) [.string ((rd_T34 l0 x4_1).f0), .int .i64 ((rd_T34 l0 x4_1).f1)] (fun k_ => some k_ ≠ (v275 : Value).ownBlock) (fun _ => False) rfl rfl ?aP (fun _ hk => hk.elim) ?aF ?aO ?aB ?aS ?aL ?_
                                      (case aP => exact k34_mkM _ _ _ (⟨(rd_T34 l0 x4_1).f0, (rd_T34 l0 x4_1).f1⟩ : S34))
                                      (case aB => exact (by repeat (first | (with_reducible first | exact HB.out | apply below_alloc | apply pw_below_drewN | apply below_drew1) | exact HB.out)))
                                      (case aF => exact (fun k_ hk => Kd.fresh' (Kd.R_lt (by (with_reducible repeat (first | apply Kd.R_alloc | apply Kd.R_drewN | apply Kd.R_drew)); exact HO276.out)) k_ hk))
                                      (case aO => exact (by (with_reducible repeat (first | apply Kd.R_alloc | apply Kd.R_drewN | apply Kd.R_drew)); exact Kd.R_mono HO279.out (fun _ hk => hk.2)))
                                      (case aS => exact (below_size (by repeat (first | (with_reducible first | exact HB.out | apply below_alloc | apply pw_below_drewN | apply below_drew1) | exact HB.out))))
                                      (case aL => have := LMc22.out; omega)
                                      intro v282 w32 ho hb hg hat
                                      rw [← Ny281.out] at ho
                                      have n0_ := Aside0.mk (Kd.R_after (ok := (fun _ => True)) (by (with_reducible repeat (first | apply Kd.R_alloc | apply Kd.R_drewN | apply Kd.R_drew)); exact Kd.R_mono HO276.out (fun _ hk => ⟨trivial, hk⟩)) hg hat)
                                      have n1_ := Aside0.mk (hb)
                                      have n2_ := Aside0.mk (ho)
                                      clear HO276
                                      clear HB
                                      clear HO279
                                      have HO276 := n0_
                                      have HB := n1_
                                      have HO283 := n2_
                                      clear n0_ n1_ n2_
                                      clear ho hb hg hat
                                      obtain ⟨Ao34, co34, eo34⟩ := Kd.R_slice HO276.out
                                      (first | subst eo34 | (injection eo34 with f1_ f2_ f3_; have f4_ := f1_.symm; have f5_ := f3_.symm; clear f1_ f2_ f3_; subst f4_; subst f5_))
                                      refine hK.out _ _ ⟨((HB.out.cell (World.block_lt_of_cell? w _ hw280_0)).trans hw280_0), ((HB.out.cell (World.block_lt_of_cell? w _ hw280_1)).trans hw280_1)⟩ (fun hHeld => ?_)
                                      clear hK K
                                      refine norm_ (a' := ?_) ?_ ?_
                                      rotate_left
                                      · show Act.put _ (some 53) _ = _
                                        simp only [Act.put, List.setIfInBounds_toArray, List.set_cons_zero, List.set_cons_succ, i64_w, i32_w]
                                        rfl
                                      refine one_ (i := 10) (N := some 55) #[true, true, true, true, true, true, true, true, true, true, true, false] rfl rfl (one_of HT_.out (by kernel_rfl)) (by decide) (fun K hK => ?_)
                                      refine Kd.R_append_rows_step k34 (w0 := w) w.heap.size (by rfl) (.tmp 53) (.tmp 54) 49 34 (.agg #[(.string ⟨#[]⟩), (.int .i64 0)]) 24 rfl Tryd.underlying49 info34 rfl (by decide) (by omega) v282 y281 y274 _ _ _ (fun k_ => some k_ ≠ (.slice Ao34 y274.length co34 : Value).ownBlock) (fun _ => False) rfl rfl ?aO ?aR (fun _ _ h => h) (fun _ h => h.elim) ?aF ?aB ?aS ?aL ?_
                                      (case aR => repeat (first | exact (Kd.R_reads' HO276.out).2.2 | (with_reducible refine Kd.C_alloc ?_ _) | (with_reducible refine Kd.C_drewN ?_ _) | (with_reducible refine Kd.C_drew ?_)))
                                      (case aB => exact (by repeat (first | (with_reducible first | exact HB.out | apply below_alloc | apply pw_below_drewN | apply below_drew1) | exact HB.out)))
                                      (case aF => exact (fun k_ hk => Kd.fresh' (Kd.R_lt (by (with_reducible repeat (first | apply Kd.R_alloc | apply Kd.R_drewN | apply Kd.R_drew)); exact HO276.out)) k_ hk))
                                      (case aO => exact (by (with_reducible repeat (first | apply Kd.R_alloc | apply Kd.R_drewN | apply Kd.R_drew)); exact HO283.out))
                                      (case aS => exact (below_size (by repeat (first | (with_reducible first | exact HB.out | apply below_alloc | apply pw_below_drewN | apply below_drew1) | exact HB.out))))
                                      (case aL => have := LMc23.out; omega)
                                      intro v285 w33 ho hb hg hat
                                      rw [← Ny284.out] at ho
                                      have n0_ := Aside0.mk (Kd.R_after (ok := (fun _ => True)) (by (with_reducible repeat (first | apply Kd.R_alloc | apply Kd.R_drewN | apply Kd.R_drew)); exact HO276.out) hg hat)
                                      have n1_ := Aside0.mk (hb)
                                      have n2_ := Aside0.mk (ho)
                                      clear HO276
                                      clear HB
                                      clear HO283
                                      have HO276 := n0_
                                      have HB := n1_
                                      have HO286 := n2_
                                      clear n0_ n1_ n2_
                                      clear ho hb hg hat
                                      refine hK.out _ _ ⟨((HB.out.cell (World.block_lt_of_cell? w _ hw280_0)).trans hw280_0), ((HB.out.cell (World.block_lt_of_cell? w _ hw280_1)).trans hw280_1)⟩ (fun hHeld => ?_)
                                      clear hK K
                                      refine norm_ (a' := ?_) ?_ ?_
                                      rotate_left
                                      · show Act.put _ (some 55) _ = _
                                        simp only [Act.put, List.setIfInBounds_toArray, List.set_cons_zero, List.set_cons_succ, i64_w, i32_w]
                                        rfl
                                      refine pure_ (i := 11) (N := some 3) (v := ?_) (a' := ?_) #[true, true, true, true, true, true, true, true, true, true, true, true] rfl rfl (any_of HT_.out (by kernel_rfl)) (fun _ _ _ h => h) (Or.inl ⟨by rfl, ?_⟩) ?_ ?_
                                      rotate_left
                                      · intro w'
                                        go_simp
                                        with_reducible rfl
                                      rotate_left
                                      · simp only [Act.put, List.setIfInBounds_toArray, List.set_cons_zero, List.set_cons_succ, i64_w, i32_w]
                                        rfl
                                      refine done_ (done_of HT_.out (by kernel_rfl)) ?_
                                      try go_wp2
                                      go_roundg k2
                                      case measure => have := HK1.out; have := HK2.out; omega
                                      case rel => exact ⟨(y284), (wrap64 (x4_1 + 1)), (by first | rfl | (simp; done) | (simp [*]; done)), H', ⟨by have := HK1.out; have := HK2.out; omega⟩, ⟨by (with_reducible repeat (first | apply Kd.R_alloc | apply Kd.R_drewN | apply Kd.R_drew)); exact Kd.R_mono HO286.out (fun _ hk => trivial)⟩, ⟨by repeat (first | (with_reducible first | exact HB.out | apply below_alloc | apply pw_below_drewN | apply below_drew1) | exact HB.out)⟩⟩
                                    · rw [if_neg c23] at H
                                      exact absurd H (by simp)
                                  · rw [if_neg c22] at H
                                    exact absurd H (by simp)
                                · rw [if_neg c20] at H
                                  exact absurd H (by simp)
                              · rw [if_neg c19] at H
                                exact absurd H (by simp)
                            · rw [if_neg c18] at H
                              exact absurd H (by simp)
                        · rw [if_neg c13] at H
                          exact absurd H (by simp)
                      · rw [if_neg c12] at H
                        exact absurd H (by simp)
                    · rw [if_neg c11] at H
                      exact absurd H (by simp)
                  · rw [if_neg c10] at H
                    exact absurd H (by simp)
                · rw [if_neg c8] at H
                  have c8b0 : decide (0 < x5_2) = false := decide_eq_false c8
                  clear c8
                  obtain ⟨y287, hy287⟩ : ∃ y_ : List (S34), y_ = (([] : List (S34))) := ⟨_, rfl⟩
                  replace H : (if 0 ≤ x5_2 then (if x5_2 ≤ (x3_1.length : Int) then ((some (x3_1.drop (x5_2 : Int).toNat : List (S34))).bind fun y290 => (if y287.length + y290.length < 5864062014805 then ((some (y287 ++ y290 : List (S34))).bind fun y294 => ((some (x3_1.take (x5_2 : Int).toNat : List (S34))).bind fun y297 => (if 0 ≤ x4_1 then (if x4_1 < (l0.length : Int) then (if y297.length < 5864062014805 then ((some (y297 ++ [(⟨(rd_T34 l0 x4_1).f0, (rd_T34 l0 x4_1).f1⟩ : S34)] : List (S34))).bind fun y301 => (if y301.length + y294.length < 5864062014805 then (cameoref04_Order.l0 k2 l0 (y301 ++ y294) (wrap64 (x4_1 + 1))) else (none))) else (none)) else (none)) else (none)))) else (none))) else (none)) else (none)) = some r := by first | (rw [hy287]; with_reducible exact H) | (have H2_ := (Option.bind_some _ _).symm.trans H; rw [hy287]; with_reducible exact H2_) | (have H2_ := (Option.bind_some _ _).symm.trans H; with_reducible exact H2_) | with_reducible exact H | (rw [hy287]; exact H) | exact H
                  have Ny287 := Aside0.mk hy287
                  clear hy287
                  by_cases c35 : 0 ≤ x5_2
                  · rw [if_pos c35] at H
                    have c35b0 := eq_true c35
                    have c35b1 : decide (0 ≤ x5_2) = true := decide_eq_true c35
                    clear c35
                    by_cases c36 : x5_2 ≤ (x3_1.length : Int)
                    · rw [if_pos c36] at H
                      have c36b0 := eq_true c36
                      have c36b1 : decide (x5_2 ≤ (x3_1.length : Int)) = true := decide_eq_true c36
                      clear c36
                      obtain ⟨y290, hy290⟩ : ∃ y_ : List (S34), y_ = (x3_1.drop (x5_2 : Int).toNat) := ⟨_, rfl⟩
                      replace H : (if y287.length + y290.length < 5864062014805 then ((some (y287 ++ y290 : List (S34))).bind fun y294 => ((some (x3_1.take (x5_2 : Int).toNat : List (S34))).bind fun y297 => (if 0 ≤ x4_1 then (if x4_1 < (l0.length : Int) then (if y297.length < 5864062014805 then ((some (y297 ++ [(⟨(rd_T34 l0 x4_1).f0, (rd_T34 l0 x4_1).f1⟩ : S34)] : List (S34))).bind fun y301 => (if y301.length + y294.length < 5864062014805 then (cameoref04_Order.l0 k2 l0 (y301 ++ y294) (wrap64 (x4_1 + 1))) else (none))) else (none)) else (none)) else (none)))) else (none)) = some r := by first | (rw [hy290]; with_reducible exact H) | (have H2_ := (Option.bind_some _ _).symm.trans H; rw [hy290]; with_reducible exact H2_) | (have H2_ := (Option.bind_some _ _).symm.trans H; with_reducible exact H2_) | with_reducible exact H | (rw [hy290]; exact H) | exact H
                      have Ny290 := Aside0.mk hy290
                      clear hy290
                      by_cases c37 : y287.length + y290.length < 5864062014805
                      · rw [if_pos c37] at H
                        have LMc37 := Aside0.mk c37
                        clear c37
                        obtain ⟨y294, hy294⟩ : ∃ y_ : List (S34), y_ = (y287 ++ y290) := ⟨_, rfl⟩
                        replace H : ((some (x3_1.take (x5_2 : Int).toNat : List (S34))).bind fun y297 => (if 0 ≤ x4_1 then (if x4_1 < (l0.length : Int) then (if y297.length < 5864062014805 then ((some (y297 ++ [(⟨(rd_T34 l0 x4_1).f0, (rd_T34 l0 x4_1).f1⟩ : S34)] : List (S34))).bind fun y301 => (if y301.length + y294.length < 5864062014805 then (cameoref04_Order.l0 k2 l0 (y301 ++ y294) (wrap64 (x4_1 + 1))) else (none))) else (none)) else (none)) else (none))) = some r := by first | (rw [hy294]; with_reducible exact H) | (have H2_ := (Option.bind_some _ _).symm.trans H; rw [hy294]; with_reducible exact H2_) | (have H2_ := (Option.bind_some _ _).symm.trans H; with_reducible exact H2_) | with_reducible exact H | (rw [hy294]; exact H) | exact H
                        have Ny294 := Aside0.mk hy294
                        clear hy294
                        have c38b0 := eq_true (of_decide_eq_true (by first | (with_reducible assumption) | assumption) : x5_2 ≤ (x3_1.length : Int))
                        obtain ⟨y297, hy297⟩ : ∃ y_ : List (S34), y_ = (x3_1.take (x5_2 : Int).toNat) := ⟨_, rfl⟩
                        replace H : (if 0 ≤ x4_1 then (if x4_1 < (l0.length : Int) then (if y297.length < 5864062014805 then ((some (y297 ++ [(⟨(rd_T34 l0 x4_1).f0, (rd_T34 l0 x4_1).f1⟩ : S34)] : List (S34))).bind fun y301 => (if y301.length + y294.length < 5864062014805 then (cameoref04_Order.l0 k2 l0 (y301 ++ y294) (wrap64 (x4_1 + 1))) else (none))) else (none)) else (none)) else (none)) = some r := by first | (rw [hy297]; with_reducible exact H) | (have H2_ := (Option.bind_some _ _).symm.trans H; rw [hy297]; with_reducible exact H2_) | (have H2_ := (Option.bind_some _ _).symm.trans H; with_reducible exact H2_) | with_reducible exact H | (rw [hy297]; exact H) | exact H
                        have Ny297 := Aside0.mk hy297
                        clear hy297
                        by_cases c39 : 0 ≤ x4_1
                        · rw [if_pos c39] at H
                          have c39b0 : decide (0 ≤ x4_1) = true := decide_eq_true c39
                          clear c39
                          by_cases c40 : x4_1 < (l0.length : Int)
                          · rw [if_pos c40] at H
                            have c40b0 : decide (x4_1 < (l0.length : Int)) = true := decide_eq_true c40
                            clear c40
                            by_cases c41 : y297.length < 5864062014805
                            · rw [if_pos c41] at H
                              have LMc41 := Aside0.mk c41
                              clear c41
                              obtain ⟨y301, hy301⟩ : ∃ y_ : List (S34), y_ = (y297 ++ [(⟨(rd_T34 l0 x4_1).f0, (rd_T34 l0 x4_1).f1⟩ : S34)]) := ⟨_, rfl⟩
                              replace H : (if y301.length + y294.length < 5864062014805 then (cameoref04_Order.l0 k2 l0 (y301 ++ y294) (wrap64 (x4_1 + 1))) else (none)) = some r := by first | (rw [hy301]; with_reducible exact H) | (have H2_ := (Option.bind_some _ _).symm.trans H; rw [hy301]; with_reducible exact H2_) | (have H2_ := (Option.bind_some _ _).symm.trans H; with_reducible exact H2_) | with_reducible exact H | (rw [hy301]; exact H) | exact H
                              have Ny301 := Aside0.mk hy301
                              clear hy301
                              by_cases c42 : y301.length + y294.length < 5864062014805
                              · rw [if_pos c42] at H
                                have LMc42 := Aside0.mk c42
                                clear c42
                                obtain ⟨y304, hy304⟩ : ∃ y_ : List (S34), y_ = (y301 ++ y294) := ⟨_, rfl⟩
                                replace H : (cameoref04_Order.l0 k2 l0 y304 (wrap64 (x4_1 + 1))) = some r := by first | (rw [hy304]; with_reducible exact H) | (have H2_ := (Option.bind_some _ _).symm.trans H; rw [hy304]; with_reducible exact H2_) | (have H2_ := (Option.bind_some _ _).symm.trans H; with_reducible exact H2_) | with_reducible exact H | (rw [hy304]; exact H) | exact H
                                have Ny304 := Aside0.mk hy304
                                clear hy304
                                have H' := Aside0.mk H
                                clear H
                                try go_wp2
                                have n0_ := Aside0.mk (Kd.R_drew HO_3.out)
                                have n1_ := Aside0.mk (below_drew1 HB.out)
                                clear HO_3
                                clear HB
                                have HO_3 := n0_
                                have HB := n1_
                                clear n0_ n1_
                                refine start_ (n := 15) (S := fun w' => True) (ds := []) #[false, false, false, false, false, false, false, false, false, false, false, false, false, false, false] (by kernel_rfl) rfl rfl trivial (fun hHeld => ?_); refine with_tabW cameoref04_Order.tab7 cameoref04_Order.bits7 (fun HT_ HW_ => ?_)
                                generalize wr.drew = w43 at HO_3 HB hHeld ⊢
                                refine pure_ (i := 0) (N := some 23) (v := ?_) (a' := ?_) #[true, false, false, false, false, false, false, false, false, false, false, false, false, false, false] rfl rfl (any_of HT_.out (by kernel_rfl)) (fun _ _ _ h => h) (Or.inl ⟨by rfl, ?_⟩) ?_ ?_
                                rotate_left
                                · intro w'
                                  go_simp
                                  with_reducible rfl
                                rotate_left
                                · simp only [Act.put, List.setIfInBounds_toArray, List.set_cons_zero, List.set_cons_succ, i64_w, i32_w]
                                  rfl
                                refine pure_ (i := 1) (N := some 24) (v := ?_) (a' := ?_) #[true, true, false, false, false, false, false, false, false, false, false, false, false, false, false] rfl rfl (any_of HT_.out (by kernel_rfl)) (fun _ _ _ h => h) (Or.inl ⟨by rfl, ?_⟩) ?_ ?_
                                rotate_left
                                · intro w'
                                  go_simp
                                  with_reducible rfl
                                rotate_left
                                · simp only [Act.put, List.setIfInBounds_toArray, List.set_cons_zero, List.set_cons_succ, i64_w, i32_w]
                                  rfl
                                refine pure_ (i := 2) (N := some 25) (v := ?_) (a' := ?_) #[true, true, true, false, false, false, false, false, false, false, false, false, false, false, false] rfl rfl (any_of HT_.out (by kernel_rfl)) (fun _ _ _ h => h) (Or.inl ⟨by rfl, ?_⟩) ?_ ?_
                                rotate_left
                                · intro w'
                                  go_simp
                                  with_reducible rfl
                                rotate_left
                                · simp only [Act.put, List.setIfInBounds_toArray, List.set_cons_zero, List.set_cons_succ, i64_w, i32_w]
                                  rfl
                                refine pure_ (i := 3) (N := some 26) (v := undef) (a' := ?_) #[true, true, true, true, false, false, false, false, false, false, false, false, false, false, false] rfl rfl (any_of HT_.out (by kernel_rfl)) (fun _ _ _ h => h) (Or.inr ⟨by rfl, rfl⟩) ?_ ?_
                                rotate_left
                                · simp only [Act.put, List.setIfInBounds_toArray, List.set_cons_zero, List.set_cons_succ, i64_w, i32_w]
                                  rfl
                                refine pure_ (i := 4) (N := some 27) (v := undef) (a' := ?_) #[true, true, true, true, true, false, false, false, false, false, false, false, false, false, false] rfl rfl (any_of HT_.out (by kernel_rfl)) (fun _ _ _ h => h) (Or.inr ⟨by rfl, rfl⟩) ?_ ?_
                                rotate_left
                                · simp only [Act.put, List.setIfInBounds_toArray, List.set_cons_zero, List.set_cons_succ, i64_w, i32_w]
                                  rfl
                                refine pure_ (i := 5) (N := some 28) (v := undef) (a' := ?_) #[true, true, true, true, true, true, false, false, false, false, false, false, false, false, false] rfl rfl (any_of HT_.out (by kernel_rfl)) (fun _ _ _ h => h) (Or.inr ⟨by rfl, rfl⟩) ?_ ?_
                                rotate_left
                                · simp only [Act.put, List.setIfInBounds_toArray, List.set_cons_zero, List.set_cons_succ, i64_w, i32_w]
                                  rfl
                                refine pure_ (i := 6) (N := some 29) (v := undef) (a' := ?_) #[true, true, true, true, true, true, true, false, false, false, false, false, false, false, false] rfl rfl (any_of HT_.out (by kernel_rfl)) (fun _ _ _ h => h) (Or.inr ⟨by rfl, rfl⟩) ?_ ?_
                                rotate_left
                                · simp only [Act.put, List.setIfInBounds_toArray, List.set_cons_zero, List.set_cons_succ, i64_w, i32_w]
                                  rfl
                                refine pure_ (i := 7) (N := some 30) (v := undef) (a' := ?_) #[true, true, true, true, true, true, true, true, false, false, false, false, false, false, false] rfl rfl (any_of HT_.out (by kernel_rfl)) (fun _ _ _ h => h) (Or.inr ⟨by rfl, rfl⟩) ?_ ?_
                                rotate_left
                                · simp only [Act.put, List.setIfInBounds_toArray, List.set_cons_zero, List.set_cons_succ, i64_w, i32_w]
                                  rfl
                                refine pure_ (i := 8) (N := some 31) (v := undef) (a' := ?_) #[true, true, true, true, true, true, true, true, true, false, false, false, false, false, false] rfl rfl (any_of HT_.out (by kernel_rfl)) (fun _ _ _ h => h) (Or.inr ⟨by rfl, rfl⟩) ?_ ?_
                                rotate_left
                                · simp only [Act.put, List.setIfInBounds_toArray, List.set_cons_zero, List.set_cons_succ, i64_w, i32_w]
                                  rfl
                                refine pure_ (i := 9) (N := some 32) (v := undef) (a' := ?_) #[true, true, true, true, true, true, true, true, true, true, false, false, false, false, false] rfl rfl (any_of HT_.out (by kernel_rfl)) (fun _ _ _ h => h) (Or.inr ⟨by rfl, rfl⟩) ?_ ?_
                                rotate_left
                                · simp only [Act.put, List.setIfInBounds_toArray, List.set_cons_zero, List.set_cons_succ, i64_w, i32_w]
                                  rfl
                                refine pure_ (i := 10) (N := some 33) (v := undef) (a' := ?_) #[true, true, true, true, true, true, true, true, true, true, true, false, false, false, false] rfl rfl (any_of HT_.out (by kernel_rfl)) (fun _ _ _ h => h) (Or.inr ⟨by rfl, rfl⟩) ?_ ?_
                                rotate_left
                                · simp only [Act.put, List.setIfInBounds_toArray, List.set_cons_zero, List.set_cons_succ, i64_w, i32_w]
                                  rfl
                                refine pure_ (i := 11) (N := some 34) (v := undef) (a' := ?_) #[true, true, true, true, true, true, true, true, true, true, true, true, false, false, false] rfl rfl (any_of HT_.out (by kernel_rfl)) (fun _ _ _ h => h) (Or.inr ⟨by rfl, rfl⟩) ?_ ?_
                                rotate_left
                                · simp only [Act.put, List.setIfInBounds_toArray, List.set_cons_zero, List.set_cons_succ, i64_w, i32_w]
                                  rfl
                                refine pure_ (i := 12) (N := some 35) (v := undef) (a' := ?_) #[true, true, true, true, true, true, true, true, true, true, true, true, true, false, false] rfl rfl (any_of HT_.out (by kernel_rfl)) (fun _ _ _ h => h) (Or.inr ⟨by rfl, rfl⟩) ?_ ?_
                                rotate_left
                                · simp only [Act.put, List.setIfInBounds_toArray, List.set_cons_zero, List.set_cons_succ, i64_w, i32_w]
                                  rfl
                                refine pure_ (i := 13) (N := some 36) (v := undef) (a' := ?_) #[true, true, true, true, true, true, true, true, true, true, true, true, true, true, false] rfl rfl (any_of HT_.out (by kernel_rfl)) (fun _ _ _ h => h) (Or.inr ⟨by rfl, rfl⟩) ?_ ?_
                                rotate_left
                                · simp only [Act.put, List.setIfInBounds_toArray, List.set_cons_zero, List.set_cons_succ, i64_w, i32_w]
                                  rfl
                                refine pure_ (i := 14) (N := some 37) (v := ?_) (a' := ?_) #[true, true, true, true, true, true, true, true, true, true, true, true, true, true, true] rfl rfl (any_of HT_.out (by kernel_rfl)) (fun _ _ _ h => h) (Or.inl ⟨by rfl, ?_⟩) ?_ ?_
                                rotate_left
                                · intro w'
                                  go_simp
                                  with_reducible rfl
                                rotate_left
                                · simp only [Act.put, List.setIfInBounds_toArray, List.set_cons_zero, List.set_cons_succ, i64_w, i32_w]
                                  rfl
                                refine done_ (done_of HT_.out (by kernel_rfl)) ?_
                                try go_wp2_with (first | ((with_reducible refine gate_dst (N := 40) rfl ?_); refine Kd.R_lit k34 _ 34 ?hg (N := 40) ?hd (xs := ([] : List (S34))) (inner := []) (ok := fun _ => True) (okp := fun _ => True) ?hr ?hp (fun _ hk => hk) trivial (Below.refl _ _) (Nat.le_refl _) (by simp) ?_; (case hd => rfl); (case hg => rfl); (case hr => first | (go_simp; done) | (go_simp; rfl)); (case hp => exact (Reps.none _ _)); intro v288 w44 ho45 hb hg_ hnew_; clear hg_ hnew_; (first | rw [← Ny287.out] at ho45 | (simp only [Int.reduceToNat] at ho45; rw [← Ny287.out] at ho45)); have n0_ := Aside0.mk (Kd.R_elder' (by (with_reducible repeat (first | apply Kd.R_alloc | apply Kd.R_drewN | apply Kd.R_drew)); exact HO_3.out) (Kd.R_base ho45) hb); have n1_ := Aside0.mk (Kd.R_lower (Kd.R_new' ho45 (Kd.R_lt (by (with_reducible repeat (first | apply Kd.R_alloc | apply Kd.R_drewN | apply Kd.R_drew)); exact HO_3.out))) (below_size (by repeat (first | (with_reducible first | exact HB.out | apply below_alloc | apply pw_below_drewN | apply below_drew1) | exact HB.out)))); have n2_ := Aside0.mk (below_step (by repeat (first | (with_reducible first | exact HB.out | apply below_alloc | apply pw_below_drewN | apply below_drew1) | exact HB.out)) hb); clear HO_3; clear HB; have HO_3 := n0_; have HO289 := n1_; have HB := n2_; clear n0_ n1_ n2_; clear hb ho45; have q46 : (x5_2 : Int) ≤ ((x3_1.length : Int) : Int) := of_decide_eq_true (by first | (with_reducible assumption) | assumption); obtain ⟨i046, hi046, _, hsz46, _⟩ := info_parts info34; have hroom46 : x3_1.length ≤ co7 := (Kd.R_reads' HO_3.out).2.1; have hC46 : Kd.C k34 _ Ao7 x3_1.length x3_1 := (Kd.R_reads' HO_3.out).2.2; have q046 : (0 : Int) ≤ (x5_2 : Int) := of_decide_eq_true (by first | (with_reducible assumption) | assumption); have hcut46 := cut_from (P := Tryd.prog) 49 34 .i64 Tryd.underlying49 hi046 2 hsz46 Ao7 x3_1.length co7 x5_2 q046 q46; have hr46 := Kd.C_drop (m := (x5_2 : Int).toNat) (c := co7) hC46 (by omega) hroom46; obtain ⟨A46, hA46⟩ : ∃ A1, A1 = (if co7 = (x5_2 : Int).toNat then Ao7 else (Ao7 : Option Addr).map (·.add ((x5_2 : Int).toNat * 2))) := ⟨_, rfl⟩; obtain ⟨c46, hc46⟩ : ∃ c1, c1 = co7 - (x5_2 : Int).toNat := ⟨_, rfl⟩; have hy46 : y290.length = x3_1.length - (x5_2 : Int).toNat := (by rw [Ny290.out, List.length_drop] <;> omega); rw [show (x3_1).drop (x5_2 : Int).toNat = y290 from Ny290.out.symm] at hr46; replace hr46 : Kd.C k34 _ A46 y290.length y290 := (by rw [hA46]; exact hr46); rw [← hy46, ← hA46, ← hc46] at hcut46; have HR293 := Aside0.mk hr46; have HC293 := Aside0.mk (show y290.length ≤ c46 from by rw [hy46, hc46]; exact Nat.sub_le_sub_right hroom46 _); clear hr46 hC46 hroom46 hi046 hsz46 hc46; have KY46 := Aside0.mk hy46; have KA46 := Aside0.mk hA46; clear hy46 hA46; have KL46 := Aside0.mk (show (x5_2 : Int).toNat ≤ x3_1.length from by omega); replace q46 := eq_true q46) | ((with_reducible refine gate_builtin (b := .append) (xs := #[.tmp 40, .tmp 43]) rfl ?_); at_builtin; refine Kd.R_append_rows k34 (w0 := w) w.heap.size rfl (.tmp 40) (.tmp 43) 49 34 (.agg #[(.string ⟨#[]⟩), (.int .i64 0)]) 24 rfl Tryd.underlying49 info34 rfl (by decide) (by omega) v288 y287 y290 _ _ _ (fun k_ => some k_ ≠ (.slice Ao7 x3_1.length co7 : Value).ownBlock) (fun _ => False) rfl rfl ?aO ?aR (fun _ _ h => h) (fun _ h => h.elim) ?aF ?aB ?aS ?aL ?_; (case aR => repeat (first | exact (by repeat (first | (with_reducible exact HR293.out) | (with_reducible refine Kd.C_alloc ?_ _) | (with_reducible refine Kd.C_drewN ?_ _) | (with_reducible refine Kd.C_drew ?_) | exact HR293.out)) | (with_reducible refine Kd.C_alloc ?_ _) | (with_reducible refine Kd.C_drewN ?_ _) | (with_reducible refine Kd.C_drew ?_))); (case aB => exact (by repeat (first | (with_reducible first | exact HB.out | apply below_alloc | apply pw_below_drewN | apply below_drew1) | exact HB.out))); (case aF => exact (fun k_ hk => Kd.fresh' (Kd.R_lt (by (with_reducible repeat (first | apply Kd.R_alloc | apply Kd.R_drewN | apply Kd.R_drew)); exact HO_3.out)) k_ hk)); (case aO => exact (by (with_reducible repeat (first | apply Kd.R_alloc | apply Kd.R_drewN | apply Kd.R_drew)); exact Kd.R_mono HO289.out (fun _ hk => hk.2))); (case aS => exact (below_size (by repeat (first | (with_reducible first | exact HB.out | apply below_alloc | apply pw_below_drewN | apply below_drew1) | exact HB.out)))); (case aL => have := LMc37.out; omega); intro v295 w47 ho hb hg hat; rw [← Ny294.out] at ho; have n0_ := Aside0.mk (Kd.R_after (ok := (fun _ => True)) (by (with_reducible repeat (first | apply Kd.R_alloc | apply Kd.R_drewN | apply Kd.R_drew)); exact HO_3.out) hg hat); have n1_ := Aside0.mk (hb); have n2_ := Aside0.mk ((show Kd.C k34 w47 A46 y290.length y290 from by rw [Ny290.out, KA46.out]; exact Kd.C_drop (m := (x5_2 : Int).toNat) (c := co7) ((Kd.R_reads' (Kd.R_after (ok := (fun _ => True)) (by (with_reducible repeat (first | apply Kd.R_alloc | apply Kd.R_drewN | apply Kd.R_drew)); exact HO_3.out) hg hat)).2.2) KL46.out ((Kd.R_reads' (Kd.R_after (ok := (fun _ => True)) (by (with_reducible repeat (first | apply Kd.R_alloc | apply Kd.R_drewN | apply Kd.R_drew)); exact HO_3.out) hg hat)).2.1))); have n3_ := Aside0.mk (ho); clear HO_3; clear HB; clear HR293; clear HO289; have HO_3 := n0_; have HB := n1_; have HR293 := n2_; have HO296 := n3_; clear n0_ n1_ n2_ n3_; clear ho hb hg hat))
                                have n0_ := Aside0.mk (Kd.R_drew HO_3.out)
                                have n1_ := Aside0.mk (Kd.R_drew HO296.out)
                                have n2_ := Aside0.mk (Kd.C_drew HR293.out)
                                have n3_ := Aside0.mk (below_drew1 HB.out)
                                clear HO_3
                                clear HO296
                                clear HR293
                                clear HB
                                have HO_3 := n0_
                                have HO296 := n1_
                                have HR293 := n2_
                                have HB := n3_
                                clear n0_ n1_ n2_ n3_
                                have q49 : (x5_2 : Int) ≤ ((x3_1.length : Int) : Int) := of_decide_eq_true (by first | (with_reducible assumption) | assumption)
                                obtain ⟨i049, hi049, _, hsz49, _⟩ := info_parts info34
                                have hcut49 := cut_to (P := Tryd.prog) 49 34 .i64 Tryd.underlying49 hi049 Ao7 x3_1.length co7 x5_2 (of_decide_eq_true (by first | (with_reducible assumption) | assumption)) q49 (Kd.R_reads' HO_3.out).2.1
                                have hr49 := Kd.R_take (m := (x5_2 : Int).toNat) HO_3.out (by omega)
                                have hy49 : y297.length = (x5_2 : Int).toNat := (by rw [Ny297.out, List.length_take]; omega)
                                rw [← Ny297.out] at hr49
                                rw [← hy49] at hr49 hcut49
                                clear hy49 hi049 hsz49 HO_3
                                have HO299 := Aside0.mk hr49
                                clear hr49
                                replace q49 := eq_true q49
                                have p300 : 0 ≤ (x4_1 : Int) := of_decide_eq_true (by first | (with_reducible assumption) | assumption)
                                have q300 : x4_1 < (l0.length : Int) := of_decide_eq_true (by first | (with_reducible assumption) | assumption)
                                obtain ⟨ad300, e300, hx300_0, hx300_1⟩ := at_T34 HR0.out x4_1 p300 q300
                                have hw300_1 := hx300_1
                                have hw300_0 := hx300_0
                                obtain rfl : ad262 = ad300 := (by injection e300)
                                replace hx300_0 := (HB.out.cell (World.block_lt_of_cell? w _ hx300_0)).trans hx300_0
                                replace hx300_1 := (HB.out.cell (World.block_lt_of_cell? w _ hx300_1)).trans hx300_1
                                replace p300 := eq_true p300
                                replace q300 := eq_true q300
                                refine start_ (n := 12) (S := fun w' => w'.cell? (ad262.add ((x4_1).toNat * 2)) = some (.string ((rd_T34 l0 x4_1).f0)) ∧ w'.cell? ⟨(ad262.add ((x4_1).toNat * 2)).block, (ad262.add ((x4_1).toNat * 2)).off + 1, none⟩ = some (.int .i64 ((rd_T34 l0 x4_1).f1))) (ds := []) #[false, false, false, false, false, false, false, false, false, false, false, false] (by kernel_rfl) rfl rfl ⟨((HB.out.cell (World.block_lt_of_cell? w _ hw300_0)).trans hw300_0), ((HB.out.cell (World.block_lt_of_cell? w _ hw300_1)).trans hw300_1)⟩ (fun hHeld => ?_); refine with_tabW cameoref04_Order.tab10 cameoref04_Order.bits10 (fun HT_ HW_ => ?_)
                                generalize w47.drew = w48 at HO_3 HO296 HR293 HB HO299 hx300_0 hx300_1 hHeld ⊢
                                refine pure_ (i := 0) (N := some 45) (v := ?_) (a' := ?_) #[true, false, false, false, false, false, false, false, false, false, false, false] rfl rfl (any_of HT_.out (by kernel_rfl)) (fun _ _ _ h => h) (Or.inl ⟨by rfl, ?_⟩) ?_ ?_
                                rotate_left
                                · intro w'
                                  go_simp
                                  with_reducible rfl
                                rotate_left
                                · simp only [Act.put, List.setIfInBounds_toArray, List.set_cons_zero, List.set_cons_succ, i64_w, i32_w]
                                  rfl
                                refine pure_ (i := 1) (N := some 46) (v := ?_) (a' := ?_) #[true, true, false, false, false, false, false, false, false, false, false, false] rfl rfl (any_of HT_.out (by kernel_rfl)) (fun _ _ _ h => h) (Or.inl ⟨by rfl, ?_⟩) ?_ ?_
                                rotate_left
                                · intro w'
                                  go_simp
                                  with_reducible rfl
                                rotate_left
                                · simp only [Act.put, List.setIfInBounds_toArray, List.set_cons_zero, List.set_cons_succ, i64_w, i32_w]
                                  rfl
                                refine pure_ (i := 2) (N := some 47) (v := ?_) (a' := ?_) #[true, true, true, false, false, false, false, false, false, false, false, false] rfl rfl (any_of HT_.out (by kernel_rfl)) (fun _ _ _ h => h) (Or.inl ⟨by rfl, ?_⟩) ?_ ?_
                                rotate_left
                                · intro w'
                                  go_simp
                                  with_reducible rfl
                                rotate_left
                                · simp only [Act.put, List.setIfInBounds_toArray, List.set_cons_zero, List.set_cons_succ, i64_w, i32_w]
                                  rfl
                                refine pure_ (i := 3) (N := some 48) (v := ?_) (a' := ?_) #[true, true, true, true, false, false, false, false, false, false, false, false] rfl rfl (any_of HT_.out (by kernel_rfl)) (fun _ _ _ h => h) (Or.inl ⟨by rfl, ?_⟩) ?_ ?_
                                rotate_left
                                · intro w'
                                  go_simp
                                  with_reducible rfl
                                rotate_left
                                · simp only [Act.put, List.setIfInBounds_toArray, List.set_cons_zero, List.set_cons_succ, i64_w, i32_w]
                                  rfl
                                refine pure_ (i := 4) (N := some 49) (v := ?_) (a' := ?_) #[true, true, true, true, true, false, false, false, false, false, false, false] rfl rfl (any_of HT_.out (by kernel_rfl)) (fun _ _ _ h => h) (Or.inl ⟨by rfl, ?_⟩) ?_ ?_
                                rotate_left
                                · intro w'
                                  go_simp
                                  with_reducible rfl
                                rotate_left
                                · simp only [Act.put, List.setIfInBounds_toArray, List.set_cons_zero, List.set_cons_succ, i64_w, i32_w]
                                  rfl
                                refine pure_ (i := 5) (N := some 50) (v := ?_) (a' := ?_) #[true, true, true, true, true, true, false, false, false, false, false, false] rfl rfl (any_of HT_.out (by kernel_rfl)) (fun _ _ _ h => h) (Or.inl ⟨by rfl, ?_⟩) ?_ ?_
                                rotate_left
                                · intro w'
                                  go_simp
                                  with_reducible rfl
                                rotate_left
                                · simp only [Act.put, List.setIfInBounds_toArray, List.set_cons_zero, List.set_cons_succ, i64_w, i32_w]
                                  rfl
                                refine pure_ (i := 9) (N := some 54) (v := ?_) (a' := ?_) #[true, true, true, true, true, true, false, false, false, true, false, false] rfl rfl (any_of HT_.out (by kernel_rfl)) (fun _ _ _ h => h) (Or.inl ⟨by rfl, ?_⟩) ?_ ?_
                                rotate_left
                                · intro w'
                                  go_simp
                                  with_reducible rfl
                                rotate_left
                                · simp only [Act.put, List.setIfInBounds_toArray, List.set_cons_zero, List.set_cons_succ, i64_w, i32_w]
                                  rfl
                                refine take_ (i := 6) (N := some 51) (v := .agg #[.string ((rd_T34 l0 x4_1).f0), .int .i64 ((rd_T34 l0 x4_1).f1)]) (a' := ?_) #[true, true, true, true, true, true, true, false, false, true, false, false] rfl rfl (take_ofW HT_.out HW_.out (by kernel_rfl)) (fun _ _ _ h => h) (Or.inl ⟨by rfl, ?_⟩) hHeld ?_ ?_
                                · rintro w' ⟨s0, s1⟩
                                  apply exec_load_cells Tryd.underlying34 2
                                  case ho => rfl
                                  case hx => rfl
                                  case hc => exact CellsAt.cons s0 (CellsAt.cons s1 (CellsAt.nil))
                                  case hn => rfl
                                  case hi => kernel_rfl
                                rotate_left
                                · simp only [Act.put, List.setIfInBounds_toArray, List.set_cons_zero, List.set_cons_succ, i64_w, i32_w]
                                  rfl
                                refine one_ (i := 7) (N := some 52) #[true, true, true, true, true, true, true, true, false, true, false, false] rfl rfl (one_of HT_.out (by kernel_rfl)) (by decide) (fun K hK => ?_)
                                refine value_ (w1 := ?_) (v := ?_) (by rfl) rfl ?_ ?_
                                rotate_left 2
                                · go_simp
                                  constructor
                                  · rfl
                                  · rfl
                                refine hK.out _ _ ⟨(World.cell?_alloc_lt _ _ _ (World.block_lt_of_cell? _ _ (((HB.out.cell (World.block_lt_of_cell? w _ hw300_0)).trans hw300_0)))).trans (((HB.out.cell (World.block_lt_of_cell? w _ hw300_0)).trans hw300_0)), (World.cell?_alloc_lt _ _ _ (World.block_lt_of_cell? _ _ (((HB.out.cell (World.block_lt_of_cell? w _ hw300_1)).trans hw300_1)))).trans (((HB.out.cell (World.block_lt_of_cell? w _ hw300_1)).trans hw300_1))⟩ (fun hHeld => ?_)
                                clear hK K
                                refine norm_ (a' := ?_) ?_ ?_
                                rotate_left
                                · show Act.put _ (some 52) _ = _
                                  simp only [Act.put, List.setIfInBounds_toArray, List.set_cons_zero, List.set_cons_succ, i64_w, i32_w]
                                  rfl
                                refine one_ (i := 8) (N := some 53) #[true, true, true, true, true, true, true, true, true, true, false, false] rfl rfl (one_of HT_.out (by kernel_rfl)) (by decide) (fun K hK => ?_)
                                refine Kd.R_append_step k34 (w0 := w) w.heap.size (by rfl) (.tmp 47) (.tmp 52) 49 34 (.agg #[(.string ⟨#[]⟩), (.int .i64 0)]) 24 rfl Tryd.underlying49 info34 rfl (by decide) (by omega) (.slice Ao7 y297.length co7) y297 (⟨(rd_T34 l0 x4_1).f0, (rd_T34 l0 x4_1).f1⟩ : S34) [.string ((rd_T34 l0 x4_1).f0), .int .i64 ((rd_T34 l0 x4_1).f1)] (fun k_ => some k_ ≠ (v295 : Value).ownBlock) (fun _ => False) rfl rfl ?aP (fun _ hk => hk.elim) ?aF ?aO ?aB ?aS ?aL ?_
                                (case aP => exact k34_mkM _ _ _ (⟨(rd_T34 l0 x4_1).f0, (rd_T34 l0 x4_1).f1⟩ : S34))
                                (case aB => exact (by repeat (first | (with_reducible first | exact HB.out | apply below_alloc | apply pw_below_drewN | apply below_drew1) | exact HB.out)))
                                (case aF => exact (fun k_ hk => Kd.fresh' (Kd.R_lt (by (with_reducible repeat (first | apply Kd.R_alloc | apply Kd.R_drewN | apply Kd.R_drew)); exact HO296.out)) k_ hk))
                                (case aO => exact (by (with_reducible repeat (first | apply Kd.R_alloc | apply Kd.R_drewN | apply Kd.R_drew)); exact Kd.R_mono HO299.out (fun _ hk => hk.2)))
                                (case aS => exact (below_size (by repeat (first | (with_reducible first | exact HB.out | apply below_alloc | apply pw_below_drewN | apply below_drew1) | exact HB.out))))
                                (case aL => have := LMc41.out; omega)
                                intro v302 w50 ho hb hg hat
                                rw [← Ny301.out] at ho
                                have n0_ := Aside0.mk (Kd.R_after (ok := (fun _ => True)) (by (with_reducible repeat (first | apply Kd.R_alloc | apply Kd.R_drewN | apply Kd.R_drew)); exact Kd.R_mono HO296.out (fun _ hk => ⟨trivial, fun e => hk (e.trans (by cases Ao7 <;> rfl))⟩)) hg hat)
                                have n1_ := Aside0.mk (hb)
                                have n2_ := Aside0.mk (ho)
                                clear HO296
                                clear HB
                                clear HO299
                                have HO296 := n0_
                                have HB := n1_
                                have HO303 := n2_
                                clear n0_ n1_ n2_
                                clear ho hb hg hat
                                obtain ⟨Ao52, co52, eo52⟩ := Kd.R_slice HO296.out
                                (first | subst eo52 | (injection eo52 with f1_ f2_ f3_; have f4_ := f1_.symm; have f5_ := f3_.symm; clear f1_ f2_ f3_; subst f4_; subst f5_))
                                refine hK.out _ _ ⟨((HB.out.cell (World.block_lt_of_cell? w _ hw300_0)).trans hw300_0), ((HB.out.cell (World.block_lt_of_cell? w _ hw300_1)).trans hw300_1)⟩ (fun hHeld => ?_)
                                clear hK K
                                refine norm_ (a' := ?_) ?_ ?_
                                rotate_left
                                · show Act.put _ (some 53) _ = _
                                  simp only [Act.put, List.setIfInBounds_toArray, List.set_cons_zero, List.set_cons_succ, i64_w, i32_w]
                                  rfl
                                refine one_ (i := 10) (N := some 55) #[true, true, true, true, true, true, true, true, true, true, true, false] rfl rfl (one_of HT_.out (by kernel_rfl)) (by decide) (fun K hK => ?_)
                                refine Kd.R_append_rows_step k34 (w0 := w) w.heap.size (by rfl) (.tmp 53) (.tmp 54) 49 34 (.agg #[(.string ⟨#[]⟩), (.int .i64 0)]) 24 rfl Tryd.underlying49 info34 rfl (by decide) (by omega) v302 y301 y294 _ _ _ (fun k_ => some k_ ≠ (.slice Ao52 y294.length co52 : Value).ownBlock) (fun _ => False) rfl rfl ?aO ?aR (fun _ _ h => h) (fun _ h => h.elim) ?aF ?aB ?aS ?aL ?_
                                (case aR => repeat (first | exact (Kd.R_reads' HO296.out).2.2 | (with_reducible refine Kd.C_alloc ?_ _) | (with_reducible refine Kd.C_drewN ?_ _) | (with_reducible refine Kd.C_drew ?_)))
                                (case aB => exact (by repeat (first | (with_reducible first | exact HB.out | apply below_alloc | apply pw_below_drewN | apply below_drew1) | exact HB.out)))
                                (case aF => exact (fun k_ hk => Kd.fresh' (Kd.R_lt (by (with_reducible repeat (first | apply Kd.R_alloc | apply Kd.R_drewN | apply Kd.R_drew)); exact HO296.out)) k_ hk))
                                (case aO => exact (by (with_reducible repeat (first | apply Kd.R_alloc | apply Kd.R_drewN | apply Kd.R_drew)); exact HO303.out))
                                (case aS => exact (below_size (by repeat (first | (with_reducible first | exact HB.out | apply below_alloc | apply pw_below_drewN | apply below_drew1) | exact HB.out))))
                                (case aL => have := LMc42.out; omega)
                                intro v305 w51 ho hb hg hat
                                rw [← Ny304.out] at ho
                                have n0_ := Aside0.mk (Kd.R_after (ok := (fun _ => True)) (by (with_reducible repeat (first | apply Kd.R_alloc | apply Kd.R_drewN | apply Kd.R_drew)); exact HO296.out) hg hat)
                                have n1_ := Aside0.mk (hb)
                                have n2_ := Aside0.mk (ho)
                                clear HO296
                                clear HB
                                clear HO303
                                have HO296 := n0_
                                have HB := n1_
                                have HO306 := n2_
                                clear n0_ n1_ n2_
                                clear ho hb hg hat
                                refine hK.out _ _ ⟨((HB.out.cell (World.block_lt_of_cell? w _ hw300_0)).trans hw300_0), ((HB.out.cell (World.block_lt_of_cell? w _ hw300_1)).trans hw300_1)⟩ (fun hHeld => ?_)
                                clear hK K
                                refine norm_ (a' := ?_) ?_ ?_
                                rotate_left
                                · show Act.put _ (some 55) _ = _
                                  simp only [Act.put, List.setIfInBounds_toArray, List.set_cons_zero, List.set_cons_succ, i64_w, i32_w]
                                  rfl
                                refine pure_ (i := 11) (N := some 3) (v := ?_) (a' := ?_) #[true, true, true, true, true, true, true, true, true, true, true, true] rfl rfl (any_of HT_.out (by kernel_rfl)) (fun _ _ _ h => h) (Or.inl ⟨by rfl, ?_⟩) ?_ ?_
                                rotate_left
                                · intro w'
                                  go_simp
                                  with_reducible rfl
                                rotate_left
                                · simp only [Act.put, List.setIfInBounds_toArray, List.set_cons_zero, List.set_cons_succ, i64_w, i32_w]
                                  rfl
                                refine done_ (done_of HT_.out (by kernel_rfl)) ?_
                                try go_wp2
                                go_roundg k2
                                case measure => have := HK1.out; have := HK2.out; omega
                                case rel => exact ⟨(y304), (wrap64 (x4_1 + 1)), (by first | rfl | (simp; done) | (simp [*]; done)), H', ⟨by have := HK1.out; have := HK2.out; omega⟩, ⟨by (with_reducible repeat (first | apply Kd.R_alloc | apply Kd.R_drewN | apply Kd.R_drew)); exact Kd.R_mono HO306.out (fun _ hk => trivial)⟩, ⟨by repeat (first | (with_reducible first | exact HB.out | apply below_alloc | apply pw_below_drewN | apply below_drew1) | exact HB.out)⟩⟩
                              · rw [if_neg c42] at H
                                exact absurd H (by simp)
                            · rw [if_neg c41] at H
                              exact absurd H (by simp)
                          · rw [if_neg c40] at H
                            exact absurd H (by simp)
                        · rw [if_neg c39] at H
                          exact absurd H (by simp)
                      · rw [if_neg c37] at H
                        exact absurd H (by simp)
                    · rw [if_neg c36] at H
                      exact absurd H (by simp)
                  · rw [if_neg c35] at H
                    exact absurd H (by simp)
          · rw [if_neg c5] at H
            have c5b0 : (t263 == 0) = false := beq_eq_false_iff_ne.mpr c5
            have c5b1 : (t263 != 0) = true := bne_iff_ne.mpr c5
            have H' := Aside0.mk H
            clear H
            have p262 : 0 ≤ (x4_1 : Int) := of_decide_eq_true (by first | (with_reducible assumption) | assumption)
            have q262 : x4_1 < (l0.length : Int) := of_decide_eq_true (by first | (with_reducible assumption) | assumption)
            obtain ⟨ad262, e262, hW262⟩ := ats_T34 HR0.out x4_1 p262 q262
            cases e262
            replace hW262 := cells_below HB.out hW262
            have HW262 := Aside0.mk hW262
            clear hW262
            replace p262 := eq_true p262
            replace q262 := eq_true q262
            go_wp2_with (first | ((with_reducible refine gate_dst (N := 18) rfl ?_); (try (refine gate_guard (by rfl) ?_; dsimp only)); refine load_cells_event ?hg (N := 18) ?hd (ty := 34) (x := ?lx316) (b := ?lb317) (cs := ?lc318) ?ho ?hc ?hx (n := 2) ?hn ?hi Tryd.underlying34 ?_; (case ho => rfl); (case hd => rfl); (case hg => rfl); (case hc => first | exact HW262.out | (intro j_ u_ hj_; have h_ := HW262.out j_ u_ hj_; simpa only [add_plain, add_at] using h_)); (case hx => first | rfl | (go_simp; done)); (case hn => rfl); (case hi => kernel_rfl)) | ((with_reducible refine gate_callee (f := 74) rfl ?_); refine goesL_ (some 19) rfl rfl Tryd.func74 (by kernel_rfl) rfl #[.agg #[.string ((rd_T34 l0 x4_1).f0), .int .i64 ((rd_T34 l0 x4_1).f1)]] rfl (by (try simp only [List.map_toArray, List.map_cons, List.map_nil]); first | done | rfl | (simp only [List.length_drop, List.length_take]; rfl)) ?_; (with_reducible refine (cameoref04_rank.calls k1 ((rd_T34 l0 x4_1).f0) ((rd_T34 l0 x4_1).f1) t263 _ A4.out).mono ?_); rintro e w53 ⟨rfl, hb⟩; refine ⟨_, rfl, ?_⟩; have n0_ := Aside0.mk (Kd.R_below (by (with_reducible repeat (first | apply Kd.R_alloc | apply Kd.R_drewN | apply Kd.R_drew)); exact HO_3.out) hb); have n1_ := Aside0.mk (below_step (by repeat (first | (with_reducible first | exact HB.out | apply below_alloc | apply pw_below_drewN | apply below_drew1) | exact HB.out)) hb); clear HO_3; clear HB; have HO_3 := n0_; have HB := n1_; clear n0_ n1_; (try clear hb); (try clear hb2); (try clear hk); (try clear hi)))
            go_roundg k1
            case measure => have := HK1.out; omega
            case rel => exact ⟨(x3_1), (wrap64 (x4_1 + 1)), (by first | rfl | (simp; done) | (simp [*]; done)), H', ⟨by have := HK1.out; omega⟩, ⟨by (with_reducible repeat (first | apply Kd.R_alloc | apply Kd.R_drewN | apply Kd.R_drew)); exact HO_3.out⟩, ⟨by repeat (first | (with_reducible first | exact HB.out | apply below_alloc | apply pw_below_drewN | apply below_drew1) | exact HB.out)⟩⟩
        · rw [if_neg c3] at H
          exact absurd H (by simp)
      · rw [if_neg c2] at H
        have c2b0 : decide (x4_1 < (l0.length : Int)) = false := decide_eq_false c2
        clear c2
        have H' := Aside0.mk H
        clear H
        go_wp2
        go_loopg [3, 7] k1 (fun kq v3 v7 w' => ∃ (x3_2 : List (S34)) (x7_2 : Int), v7 = .int .i64 x7_2 ∧ Aside0 (cameoref04_Order.l2 kq l0 x3_2 x7_2 = some r) ∧ Aside0 (kq ≤ k1) ∧ Aside0 (Kd.R k34 34 w' w.heap.size (fun _ => True) v3 x3_2) ∧ Aside0 (Below w.heap.size w w'))
        case atStart => exact ⟨(x3_1), (1), (by first | rfl | (simp; done) | (simp [*]; done)), H', ⟨Nat.le_refl _⟩, ⟨by (with_reducible repeat (first | apply Kd.R_alloc | apply Kd.R_drewN | apply Kd.R_drew)); exact HO_3.out⟩, ⟨by repeat (first | (with_reducible first | exact HB.out | apply below_alloc | apply pw_below_drewN | apply below_drew1) | exact HB.out)⟩⟩
        case round =>
          clear H'
          try clear c1
          try clear c2
          try clear c2b0
          try clear p2
          try clear q2
          try clear hx2
          try clear c3
          try clear p3
          try clear q3
          try clear hx3
          try clear c4
          try clear q4
          try clear c5
          try clear c5b0
          try clear c5b1
          try clear p6
          try clear c7
          try clear c8
          try clear c8b0
          try clear c10
          try clear c11
          try clear c12
          try clear c13
          try clear c18
          try clear c19
          try clear c20
          try clear c22
          try clear c23
          try clear p26
          try clear q26
          try clear c28
          try clear p28
          try clear q28
          try clear hx28
          try clear p30
          try clear q30
          try clear hx30
          try clear c31
          try clear q31
          try clear c35
          try clear c35b0
          try clear c35b1
          try clear c36
          try clear c36b0
          try clear c36b1
          try clear c37
          try clear c38
          try clear c38b0
          try clear c39
          try clear c39b0
          try clear c40
          try clear c40b0
          try clear c41
          try clear c42
          try clear c46
          try clear q46
          try clear q49
          try clear hx280_0
          try clear hx280_1
          try clear hx300_0
          try clear hx300_1
          try clear p262
          try clear p280
          try clear p300
          try clear q028
          try clear q046
          try clear q262
          try clear q28
          try clear q280
          try clear q300
          try clear q31
          try clear q46
          try clear q49
          obtain ⟨x3_2, x7_2, rfl, HA, HK2, HO_3, HB⟩ := hrel
          cases gk with
          | zero => exact absurd HA.out (by simp [cameoref04_Order.l2])
          | succ k2 =>
            have H := HA.out
            clear HA
            simp only [cameoref04_Order.l2] at H
            by_cases c54 : x7_2 ≤ 2
            · rw [if_pos c54] at H
              have c54b0 : decide (x7_2 ≤ 2) = true := decide_eq_true c54
              clear c54
              have H' := Aside0.mk H
              clear H
              go_wp2
              go_loopg [3, 8] k2 (fun kq v3 v8 w' => ∃ (x3_3 : List (S34)) (x8_3 : Int), v8 = .int .i64 x8_3 ∧ Aside0 (cameoref04_Order.l3 kq l0 x3_3 x7_2 x8_3 = some r) ∧ Aside0 (kq ≤ k2) ∧ Aside0 (Kd.R k34 34 w' w.heap.size (fun _ => True) v3 x3_3) ∧ Aside0 (Below w.heap.size w w'))
              case atStart => exact ⟨(x3_2), (0), (by first | rfl | (simp; done) | (simp [*]; done)), H', ⟨Nat.le_refl _⟩, ⟨by (with_reducible repeat (first | apply Kd.R_alloc | apply Kd.R_drewN | apply Kd.R_drew)); exact HO_3.out⟩, ⟨by repeat (first | (with_reducible first | exact HB.out | apply below_alloc | apply pw_below_drewN | apply below_drew1) | exact HB.out)⟩⟩
              case round =>
                clear H'
                try clear c1
                try clear c2
                try clear c2b0
                try clear p2
                try clear q2
                try clear hx2
                try clear c3
                try clear p3
                try clear q3
                try clear hx3
                try clear c4
                try clear q4
                try clear c5
                try clear c5b0
                try clear c5b1
                try clear p6
                try clear c7
                try clear c8
                try clear c8b0
                try clear c10
                try clear c11
                try clear c12
                try clear c13
                try clear c18
                try clear c19
                try clear c20
                try clear c22
                try clear c23
                try clear p26
                try clear q26
                try clear c28
                try clear p28
                try clear q28
                try clear hx28
                try clear p30
                try clear q30
                try clear hx30
                try clear c31
                try clear q31
                try clear c35
                try clear c35b0
                try clear c35b1
                try clear c36
                try clear c36b0
                try clear c36b1
                try clear c37
                try clear c38
                try clear c38b0
                try clear c39
                try clear c39b0
                try clear c40
                try clear c40b0
                try clear c41
                try clear c42
                try clear c46
                try clear q46
                try clear q49
                try clear c54
                try clear c54b0
                try clear hx280_0
                try clear hx280_1
                try clear hx300_0
                try clear hx300_1
                try clear p2
                try clear p26
                try clear p262
                try clear p28
                try clear p280
                try clear p3
                try clear p30
                try clear p300
                try clear p6
                try clear q028
                try clear q046
                try clear q2
                try clear q26
                try clear q262
                try clear q28
                try clear q280
                try clear q3
                try clear q30
                try clear q300
                try clear q31
                try clear q4
                try clear q46
                try clear q49
                obtain ⟨x3_3, x8_3, rfl, HA, HK3, HO_3, HB⟩ := hrel
                cases gk with
                | zero => exact absurd HA.out (by simp [cameoref04_Order.l3])
                | succ k3 =>
                  have H := HA.out
                  clear HA
                  simp only [cameoref04_Order.l3] at H
                  by_cases c55 : x8_3 < (l0.length : Int)
                  · rw [if_pos c55] at H
                    have c55b0 : decide (x8_3 < (l0.length : Int)) = true := decide_eq_true c55
                    clear c55
                    by_cases c56 : 0 ≤ x8_3
                    · rw [if_pos c56] at H
                      have c56b0 : decide (0 ≤ x8_3) = true := decide_eq_true c56
                      clear c56
                      replace H := Option.bind_eq_some_iff.mp H
                      obtain ⟨t308, A570, H⟩ := H
                      replace H : (if t308 = x7_2 then (if x3_3.length < 5864062014805 then (cameoref04_Order.l3 k3 l0 (x3_3 ++ [(⟨(rd_T34 l0 x8_3).f0, (rd_T34 l0 x8_3).f1⟩ : S34)]) x7_2 (wrap64 (x8_3 + 1))) else (none)) else (cameoref04_Order.l3 k3 l0 x3_3 x7_2 (wrap64 (x8_3 + 1)))) = some r := H
                      have A57 := Aside0.mk A570
                      clear A570
                      by_cases c58 : t308 = x7_2
                      · rw [if_pos c58] at H
                        have c58b0 : (t308 == x7_2) = true := beq_iff_eq.mpr c58
                        have c58b1 : (t308 != x7_2) = false := bne_eq_false_iff_eq.mpr c58
                        clear c58
                        by_cases c59 : x3_3.length < 5864062014805
                        · rw [if_pos c59] at H
                          have LMc59 := Aside0.mk c59
                          clear c59
                          obtain ⟨y310, hy310⟩ : ∃ y_ : List (S34), y_ = (x3_3 ++ [(⟨(rd_T34 l0 x8_3).f0, (rd_T34 l0 x8_3).f1⟩ : S34)]) := ⟨_, rfl⟩
                          replace H : (cameoref04_Order.l3 k3 l0 y310 x7_2 (wrap64 (x8_3 + 1))) = some r := by first | (rw [hy310]; with_reducible exact H) | (have H2_ := (Option.bind_some _ _).symm.trans H; rw [hy310]; with_reducible exact H2_) | (have H2_ := (Option.bind_some _ _).symm.trans H; with_reducible exact H2_) | with_reducible exact H | (rw [hy310]; exact H) | exact H
                          have Ny310 := Aside0.mk hy310
                          clear hy310
                          have H' := Aside0.mk H
                          clear H
                          have p307 : 0 ≤ (x8_3 : Int) := of_decide_eq_true (by first | (with_reducible assumption) | assumption)
                          have q307 : x8_3 < (l0.length : Int) := of_decide_eq_true (by first | (with_reducible assumption) | assumption)
                          obtain ⟨ad307, e307, hW307⟩ := ats_T34 HR0.out x8_3 p307 q307
                          cases e307
                          replace hW307 := cells_below HB.out hW307
                          have HW307 := Aside0.mk hW307
                          clear hW307
                          replace p307 := eq_true p307
                          replace q307 := eq_true q307
                          go_wp2_with (first | ((with_reducible refine gate_dst (N := 69) rfl ?_); (try (refine gate_guard (by rfl) ?_; dsimp only)); refine load_cells_event ?hg (N := 69) ?hd (ty := 34) (x := ?lx319) (b := ?lb320) (cs := ?lc321) ?ho ?hc ?hx (n := 2) ?hn ?hi Tryd.underlying34 ?_; (case ho => rfl); (case hd => rfl); (case hg => rfl); (case hc => first | exact HW307.out | (intro j_ u_ hj_; have h_ := HW307.out j_ u_ hj_; simpa only [add_plain, add_at] using h_)); (case hx => first | rfl | (go_simp; done)); (case hn => rfl); (case hi => kernel_rfl)) | ((with_reducible refine gate_callee (f := 74) rfl ?_); refine goesL_ (some 70) rfl rfl Tryd.func74 (by kernel_rfl) rfl #[.agg #[.string ((rd_T34 l0 x8_3).f0), .int .i64 ((rd_T34 l0 x8_3).f1)]] rfl (by (try simp only [List.map_toArray, List.map_cons, List.map_nil]); first | done | rfl | (simp only [List.length_drop, List.length_take]; rfl)) ?_; (with_reducible refine (cameoref04_rank.calls k3 ((rd_T34 l0 x8_3).f0) ((rd_T34 l0 x8_3).f1) t308 _ A57.out).mono ?_); rintro e w60 ⟨rfl, hb⟩; refine ⟨_, rfl, ?_⟩; have n0_ := Aside0.mk (Kd.R_below (by (with_reducible repeat (first | apply Kd.R_alloc | apply Kd.R_drewN | apply Kd.R_drew)); exact HO_3.out) hb); have n1_ := Aside0.mk (below_step (by repeat (first | (with_reducible first | exact HB.out | apply below_alloc | apply pw_below_drewN | apply below_drew1) | exact HB.out)) hb); clear HO_3; clear HB; have HO_3 := n0_; have HB := n1_; clear n0_ n1_; (try clear hb); (try clear hb2); (try clear hk); (try clear hi); have p309 : 0 ≤ (x8_3 : Int) := of_decide_eq_true (by first | (with_reducible assumption) | assumption); have q309 : x8_3 < (l0.length : Int) := of_decide_eq_true (by first | (with_reducible assumption) | assumption); obtain ⟨ad309, e309, hW309⟩ := ats_T34 HR0.out x8_3 p309 q309; obtain rfl : ad307 = ad309 := (by injection e309); replace hW309 := cells_below HB.out hW309; have HW309 := Aside0.mk hW309; clear hW309; replace p309 := eq_true p309; replace q309 := eq_true q309) | ((with_reducible refine gate_dst (N := 77) rfl ?_); (try (refine gate_guard (by rfl) ?_; dsimp only)); refine load_cells_event ?hg (N := 77) ?hd (ty := 34) (x := ?lx322) (b := ?lb323) (cs := ?lc324) ?ho ?hc ?hx (n := 2) ?hn ?hi Tryd.underlying34 ?_; (case ho => rfl); (case hd => rfl); (case hg => rfl); (case hc => first | exact HW309.out | (intro j_ u_ hj_; have h_ := HW309.out j_ u_ hj_; simpa only [add_plain, add_at] using h_)); (case hx => first | rfl | (go_simp; done)); (case hn => rfl); (case hi => kernel_rfl)) | ((with_reducible refine gate_builtin (b := .append) (xs := #[.tmp 73, .tmp 78]) rfl ?_); at_builtin; refine Kd.R_append k34 (w0 := w) w.heap.size rfl (.tmp 73) (.tmp 78) 49 34 (.agg #[(.string ⟨#[]⟩), (.int .i64 0)]) 24 rfl Tryd.underlying49 info34 rfl (by decide) (by omega) u3 x3_3 (⟨(rd_T34 l0 x8_3).f0, (rd_T34 l0 x8_3).f1⟩ : S34) [.string ((rd_T34 l0 x8_3).f0), .int .i64 ((rd_T34 l0 x8_3).f1)] (fun _ => True) (fun _ => False) rfl rfl ?aP (fun _ hk => hk.elim) ?aF ?aO ?aB ?aS ?aL ?_; (case aP => exact k34_mkM _ _ _ (⟨(rd_T34 l0 x8_3).f0, (rd_T34 l0 x8_3).f1⟩ : S34)); (case aB => exact (by repeat (first | (with_reducible first | exact HB.out | apply below_alloc | apply pw_below_drewN | apply below_drew1) | exact HB.out))); (case aF => exact (fun _ _ => trivial)); (case aO => exact (by (with_reducible repeat (first | apply Kd.R_alloc | apply Kd.R_drewN | apply Kd.R_drew)); exact HO_3.out)); (case aS => exact (below_size (by repeat (first | (with_reducible first | exact HB.out | apply below_alloc | apply pw_below_drewN | apply below_drew1) | exact HB.out)))); (case aL => have := LMc59.out; omega); intro v311 w61 ho hb hg hat; rw [← Ny310.out] at ho; have n0_ := Aside0.mk (hb); have n1_ := Aside0.mk (ho); clear HB; clear HO_3; have HB := n0_; have HO312 := n1_; clear n0_ n1_; clear ho hb hg hat))
                          go_roundg k3
                          case measure => have := HK1.out; have := HK2.out; have := HK3.out; omega
                          case rel => exact ⟨(y310), (wrap64 (x8_3 + 1)), (by first | rfl | (simp; done) | (simp [*]; done)), H', ⟨by have := HK1.out; have := HK2.out; have := HK3.out; omega⟩, ⟨by (with_reducible repeat (first | apply Kd.R_alloc | apply Kd.R_drewN | apply Kd.R_drew)); exact HO312.out⟩, ⟨by repeat (first | (with_reducible first | exact HB.out | apply below_alloc | apply pw_below_drewN | apply below_drew1) | exact HB.out)⟩⟩
                        · rw [if_neg c59] at H
                          exact absurd H (by simp)
                      · rw [if_neg c58] at H
                        have c58b0 : (t308 == x7_2) = false := beq_eq_false_iff_ne.mpr c58
                        have c58b1 : (t308 != x7_2) = true := bne_iff_ne.mpr c58
                        have H' := Aside0.mk H
                        clear H
                        have p307 : 0 ≤ (x8_3 : Int) := of_decide_eq_true (by first | (with_reducible assumption) | assumption)
                        have q307 : x8_3 < (l0.length : Int) := of_decide_eq_true (by first | (with_reducible assumption) | assumption)
                        obtain ⟨ad307, e307, hW307⟩ := ats_T34 HR0.out x8_3 p307 q307
                        cases e307
                        replace hW307 := cells_below HB.out hW307
                        have HW307 := Aside0.mk hW307
                        clear hW307
                        replace p307 := eq_true p307
                        replace q307 := eq_true q307
                        go_wp2_with (first | ((with_reducible refine gate_dst (N := 69) rfl ?_); (try (refine gate_guard (by rfl) ?_; dsimp only)); refine load_cells_event ?hg (N := 69) ?hd (ty := 34) (x := ?lx325) (b := ?lb326) (cs := ?lc327) ?ho ?hc ?hx (n := 2) ?hn ?hi Tryd.underlying34 ?_; (case ho => rfl); (case hd => rfl); (case hg => rfl); (case hc => first | exact HW307.out | (intro j_ u_ hj_; have h_ := HW307.out j_ u_ hj_; simpa only [add_plain, add_at] using h_)); (case hx => first | rfl | (go_simp; done)); (case hn => rfl); (case hi => kernel_rfl)) | ((with_reducible refine gate_callee (f := 74) rfl ?_); refine goesL_ (some 70) rfl rfl Tryd.func74 (by kernel_rfl) rfl #[.agg #[.string ((rd_T34 l0 x8_3).f0), .int .i64 ((rd_T34 l0 x8_3).f1)]] rfl (by (try simp only [List.map_toArray, List.map_cons, List.map_nil]); first | done | rfl | (simp only [List.length_drop, List.length_take]; rfl)) ?_; (with_reducible refine (cameoref04_rank.calls k3 ((rd_T34 l0 x8_3).f0) ((rd_T34 l0 x8_3).f1) t308 _ A57.out).mono ?_); rintro e w62 ⟨rfl, hb⟩; refine ⟨_, rfl, ?_⟩; have n0_ := Aside0.mk (Kd.R_below (by (with_reducible repeat (first | apply Kd.R_alloc | apply Kd.R_drewN | apply Kd.R_drew)); exact HO_3.out) hb); have n1_ := Aside0.mk (below_step (by repeat (first | (with_reducible first | exact HB.out | apply below_alloc | apply pw_below_drewN | apply below_drew1) | exact HB.out)) hb); clear HO_3; clear HB; have HO_3 := n0_; have HB := n1_; clear n0_ n1_; (try clear hb); (try clear hb2); (try clear hk); (try clear hi)))
                        go_roundg k3
                        case measure => have := HK1.out; have := HK2.out; have := HK3.out; omega
                        case rel => exact ⟨(x3_3), (wrap64 (x8_3 + 1)), (by first | rfl | (simp; done) | (simp [*]; done)), H', ⟨by have := HK1.out; have := HK2.out; have := HK3.out; omega⟩, ⟨by (with_reducible repeat (first | apply Kd.R_alloc | apply Kd.R_drewN | apply Kd.R_drew)); exact HO_3.out⟩, ⟨by repeat (first | (with_reducible first | exact HB.out | apply below_alloc | apply pw_below_drewN | apply below_drew1) | exact HB.out)⟩⟩
                    · rw [if_neg c56] at H
                      exact absurd H (by simp)
                  · rw [if_neg c55] at H
                    have c55b0 : decide (x8_3 < (l0.length : Int)) = false := decide_eq_false c55
                    clear c55
                    have H' := Aside0.mk H
                    clear H
                    go_wp2
                    go_roundg k3
                    case measure => have := HK1.out; have := HK2.out; have := HK3.out; omega
                    case rel => exact ⟨(x3_3), (wrap64 (x7_2 + 1)), (by first | rfl | (simp; done) | (simp [*]; done)), H', ⟨by have := HK1.out; have := HK2.out; have := HK3.out; omega⟩, ⟨by (with_reducible repeat (first | apply Kd.R_alloc | apply Kd.R_drewN | apply Kd.R_drew)); exact HO_3.out⟩, ⟨by repeat (first | (with_reducible first | exact HB.out | apply below_alloc | apply pw_below_drewN | apply below_drew1) | exact HB.out)⟩⟩
            · rw [if_neg c54] at H
              have c54b0 : decide (x7_2 ≤ 2) = false := decide_eq_false c54
              clear c54
              obtain rfl := Option.some.inj H
              go_wp2
              go_ret
              exact ⟨_, by first | rfl | (simp [errW_none, errW_some] <;> rfl) | (simp [*, errW_none, errW_some] <;> rfl), by (with_reducible repeat (first | apply Kd.R_alloc | apply Kd.R_drewN | apply Kd.R_drew)); exact HO_3.out, by repeat (first | (with_reducible first | exact HB.out | apply below_alloc | apply pw_below_drewN | apply below_drew1) | exact HB.out)⟩
end Go.Proofs.YtbpdpnoekkkapaaDoor.PDescKinds
end
section
namespace Go.Proofs.YtbpdpnoekkkapaaDoor.PDescKinds
open Go.RowKit Go.Ev Go.Proofs.YtbpdpnoekkkapaaDoorW.PrintWords Go.Proofs.YtbpdpnoekkkapaaDoorW.PrintLast Go.Proofs.YtbpdpnoekkkapaaDoorW.PrintMore
namespace S
def rdl : List UInt8 → Nat → Option Nat
  | [], n => some n
  | c :: r, n => if 48 ≤ c.toNat ∧ c.toNat ≤ 57 then (if 4294967294 < 10 * n + (c.toNat - 48) then none else rdl r (10 * n + (c.toNat - 48))) else none
theorem dl_ge : ∀ (l : List UInt8) (n m : Nat), dl l n = some m → 10 ^ l.length * n ≤ m
  | [], n, m, h => by
    simp only [dl, Option.some.injEq] at h
    subst h
    simp
  | c :: r, n, m, h => by
    unfold dl at h
    split at h
    · have := dl_ge r _ m h
      rw [List.length_cons, Nat.pow_succ]
      refine Nat.le_trans ?_ this
      rw [Nat.mul_assoc]
      exact Nat.mul_le_mul_left _ (by omega)
    · cases h
theorem rdl_eq : ∀ (l : List UInt8) (n : Nat), n ≤ 4294967294 → rdl l n = match dl l n with | some m => if m ≤ 4294967294 then some m else none | none => none
  | [], n, hn => by simp [rdl, dl, hn]
  | c :: r, n, hn => by
    unfold rdl dl
    by_cases hd : 48 ≤ c.toNat ∧ c.toNat ≤ 57
    · rw [if_pos hd, if_pos hd]
      by_cases hm : 4294967294 < 10 * n + (c.toNat - 48)
      · rw [if_pos hm]
        cases h : dl r (10 * n + (c.toNat - 48)) with
        | none => rfl
        | some m =>
          have := dl_ge r _ m h
          have h10 : 1 ≤ 10 ^ r.length := Nat.one_le_pow _ _ (by decide)
          have : 10 * n + (c.toNat - 48) ≤ m := Nat.le_trans (Nat.le_mul_of_pos_left _ h10) this
          simp only
          rw [if_neg (by omega)]
      · rw [if_neg hm]
        exact rdl_eq r _ (by omega)
    · rw [if_neg hd, if_neg hd]
end S
theorem bt_get (s : ByteArray) (i : Nat) (h : i < s.size) : bt s (i : Int) = (((s.data.toList)[i]'(by rw [Array.length_toList]; exact h)).toNat : Int) := by
  have hx6 : ((s[((i : Nat) : Int).toNat]'h).toNat : Int) = bt s (i : Int) := bt_at s (i : Int) h
  rw [← hx6]
  rfl
theorem digs_l0 (s : ByteArray) (hs : s.size ≤ 4611686018427387904) : ∀ (r i n : Nat), i + r = s.size → n ≤ 4294967294 →
    cameoref04_Digits.l0 (2 * r + 1) s 4294967294 (n : Int) (i : Int) = some (match S.rdl (s.data.toList.drop i) n with | some m => ((m : Int), true) | none => (0, false))
  | 0, i, n, hi, hn => by
    unfold cameoref04_Digits.l0
    rw [if_neg (by omega), List.drop_eq_nil_of_le (by rw [Array.length_toList]; exact Nat.le_of_eq (by show s.size = i; omega))]
    rfl
  | r + 1, i, n, hi, hn => by
    have hlt : i < s.size := by omega
    have hb := bt_get s i hlt
    have hdrop : s.data.toList.drop i = (s.data.toList)[i]'(by rw [Array.length_toList]; exact hlt) :: s.data.toList.drop (i + 1) := List.drop_eq_getElem_cons (by rw [Array.length_toList]; exact hlt)
    rw [hdrop]
    generalize (s.data.toList)[i]'(by rw [Array.length_toList]; exact hlt) = c at hb
    have hc := c.toNat_lt
    unfold cameoref04_Digits.l0
    rw [if_pos (by omega), if_pos (by omega), hb]
    have hj : ∀ b : Bool, cameoref04_Digits.j2 (2 * (r + 1)) s 4294967294 (n : Int) (i : Int) b = if b = true then some (0, false) else (if IntKind.u64.wrap (IntKind.u64.wrap ((n : Int) * 10) + ((bt s (i : Int) - 48) % 256)) > 4294967294 then some (0, false) else cameoref04_Digits.l0 (2 * r + 1) s 4294967294 (IntKind.u64.wrap (IntKind.u64.wrap ((n : Int) * 10) + ((bt s (i : Int) - 48) % 256))) (wrap64 ((i : Int) + 1))) := fun b => by
      show cameoref04_Digits.j2 ((2 * r + 1) + 1) s 4294967294 (n : Int) (i : Int) b = _
      unfold cameoref04_Digits.j2
      rw [if_pos (by omega : (0 : Int) ≤ (i : Int)), if_pos (by omega : (i : Int) < (s.size : Int))]
    rw [hj, hj, hb]
    unfold S.rdl
    by_cases hd : 48 ≤ c.toNat ∧ c.toNat ≤ 57
    · have h1 : ¬ ((c.toNat : Int) < 48) := by omega
      have h2 : decide ((c.toNat : Int) > 57) = false := decide_eq_false (by omega)
      rw [if_neg h1, h2, if_neg (by decide), if_pos hd]
      have hw : IntKind.u64.wrap (IntKind.u64.wrap ((n : Int) * 10) + (((c.toNat : Int) - 48) % 256)) = ((10 * n + (c.toNat - 48) : Nat) : Int) := by
        rw [IntKind.wrap_u64, IntKind.wrap_u64]
        omega
      rw [hw]
      by_cases hm : 4294967294 < 10 * n + (c.toNat - 48)
      · rw [if_pos (by omega), if_pos hm]
      · rw [if_neg (by omega), if_neg hm]
        have hi1 : wrap64 ((i : Int) + 1) = ((i + 1 : Nat) : Int) := by
          rw [← i64_w, IntKind.wrap_i64]; omega
        rw [hi1]
        exact digs_l0 s hs r (i + 1) _ (by omega) (by omega)
    · rw [if_neg hd]
      by_cases h1 : (c.toNat : Int) < 48
      · rw [if_pos h1, if_pos rfl]
      · rw [if_neg h1, decide_eq_true (by omega : (c.toNat : Int) > 57), if_pos rfl]
theorem digs_f (s : ByteArray) (hs : s.size ≤ 1048576) : ∃ K, cameoref04_Digits.f K s 4294967294 = some (((S.dig s).1 : Int), (S.dig s).2) := by
  by_cases h0 : s.size = 0
  · have he : s.toList = ([] : List UInt8) := by
      rw [Lib.toList_data]
      apply List.eq_nil_of_length_eq_zero
      rw [Array.length_toList]
      exact h0
    refine ⟨1, ?_⟩
    have hb : S.digBad s = true := by unfold S.digBad; simp [h0]
    unfold cameoref04_Digits.f S.dig
    rw [if_pos he, hb]
    unfold cameoref04_Digits.j0
    rfl
  have he : ¬ s.toList = ([] : List UInt8) := fun e => by
    rw [Lib.toList_data] at e
    have : s.data.toList.length = 0 := by rw [e]; rfl
    rw [Array.length_toList] at this
    exact h0 this
  have hb := bt_head s (by omega)
  have hl := digs_l0 s (by omega) s.size 0 0 (by omega) (by omega)
  rw [List.drop_zero, S.rdl_eq _ _ (by omega)] at hl
  have hf : ∀ b : Bool, (bt s 0 = 48 → b = decide ((s.size : Int) > 1)) → (¬ bt s 0 = 48 → b = false) → ∀ K, cameoref04_Digits.f K s 4294967294 = cameoref04_Digits.j0 K s 4294967294 b := fun b h1 h2 K => by
    unfold cameoref04_Digits.f
    rw [if_neg he, if_pos (by omega)]
    by_cases hz : bt s 0 = 48
    · rw [if_pos hz, h1 hz]
    · rw [if_neg hz, h2 hz]
  by_cases hz : bt s 0 = 48 ∧ 1 < s.size
  · refine ⟨1, ?_⟩
    rw [hf true (fun _ => (decide_eq_true (by omega)).symm) (fun h => absurd hz.1 h)]
    have hb2 : S.digBad s = true := by
      have : (s.data.toList.getD 0 0).toNat = 48 := by rw [hb] at hz; omega
      unfold S.digBad
      rw [decide_eq_true this, decide_eq_false (by omega : ¬ s.size = 1)]
      simp only [Bool.not_false, Bool.and_self, Bool.or_true]
    unfold S.dig
    rw [hb2]
    unfold cameoref04_Digits.j0
    rfl
  · refine ⟨2 * s.size + 1 + 1, ?_⟩
    rw [hf false (fun h => (decide_eq_false (fun h1 => hz ⟨h, by omega⟩)).symm) (fun _ => rfl)]
    have hj : ∀ K, cameoref04_Digits.j0 (K + 1) s 4294967294 false = cameoref04_Digits.l0 K s 4294967294 0 0 := fun K => by
      simp [cameoref04_Digits.j0]
    rw [hj]
    have hl' : cameoref04_Digits.l0 (2 * s.size + 1) s 4294967294 0 0 = _ := hl
    rw [hl']
    by_cases h16 : 16 < s.size
    · have hb2 : S.digBad s = true := by unfold S.digBad; simp [h16]
      unfold S.dig
      rw [hb2]
      cases hd : S.dl s.data.toList 0 with
      | none => rfl
      | some m =>
        simp only
        rw [if_neg (fun hm => ?_)]
        · rfl
        · -- the first digit is none of zero
          have hlen : s.data.toList.length = s.size := by rw [Array.length_toList]; rfl
          cases hq : s.data.toList with
          | nil => rw [hq] at hlen; simp at hlen; omega
          | cons c r =>
            rw [hq] at hd hlen hb
            unfold S.dl at hd
            split at hd
            · rename_i hc
              have hge := S.dl_ge r _ m hd
              have hc48 : ¬ c.toNat = 48 := fun e => hz ⟨by rw [hb]; simp [e], by omega⟩
              have hr : 16 ≤ r.length := by rw [List.length_cons] at hlen; omega
              have : 10 ^ 16 ≤ 10 ^ r.length := Nat.pow_le_pow_right (by decide) hr
              have : 10 ^ r.length * 1 ≤ 10 ^ r.length * (10 * 0 + (c.toNat - 48)) := Nat.mul_le_mul_left _ (by omega)
              omega
            · cases hd
    · have hb2 : S.digBad s = false := by
        unfold S.digBad
        have : ¬ ((s.data.toList.getD 0 0).toNat = 48 ∧ s.size ≠ 1) := fun h => hz ⟨by rw [hb, h.1]; rfl, by omega⟩
        simp only [Bool.or_eq_false_iff, decide_eq_false_iff_not, Bool.and_eq_false_iff, Bool.not_eq_false']
        refine ⟨h0, h16, ?_⟩
        by_cases h1 : (s.data.toList.getD 0 0).toNat = 48
        · exact .inr (decide_eq_true (Classical.byContradiction fun h2 => this ⟨h1, h2⟩))
        · exact .inl h1
      unfold S.dig
      rw [hb2]
      unfold S.dig0
      cases hd : S.dl s.data.toList 0 with
      | none => rfl
      | some m =>
        simp only
        by_cases hm : m ≤ 4294967294
        · rw [if_pos hm, cond_false, if_pos hm]
        · rw [if_neg hm, cond_false, if_neg hm]; rfl
end Go.Proofs.YtbpdpnoekkkapaaDoor.PDescKinds
end
section
namespace Go.Proofs.YtbpdpnoekkkapaaDoor.PDescKinds
open Go.RowKit Go.Ev Go.Proofs.YtbpdpnoekkkapaaDoorW.PrintWords Go.Proofs.YtbpdpnoekkkapaaDoorW.PrintLast Go.Proofs.YtbpdpnoekkkapaaDoorW.PrintMore
theorem chk_size {k : K} (h : S.chk k = 0) : k.s.size ≤ 1048576 := by
  by_cases hs : (k.s.size : Int) ≤ 1048576
  · omega
  · exfalso
    have he : ¬ k.s.toList = ([] : List UInt8) := fun e => by
      rw [Lib.toList_data] at e
      have : k.s.data.toList.length = 0 := by rw [e]; rfl
      rw [Array.length_toList] at this
      have : k.s.size = 0 := this
      omega
    have := chk_some k
    rw [h] at this
    unfold key_Check.f at this
    rw [if_neg hs] at this
    split at this <;> split at this <;> first | (cases this; done) | (split at this <;> first | (cases this; done) | (rw [if_neg he] at this; cases this))
namespace S
def rk (k : K) : Int := if k.n = 0 then (if (dig k.s).2 = true then 0 else 1) else 2
end S
theorem leo_add {α : Type} {f : Nat → Option α} (hm : ∀ k, LeO (f k) (f (k + 1))) {K : Nat} {r : α} (h : f K = some r) : ∀ j, f (K + j) = some r
  | 0 => h
  | j + 1 => hm _ r (leo_add hm h j)
theorem idx_f {k : K} (h : S.chk k = 0) : ∃ K0, ∀ j, cameoref04_Index.f (K0 + j) k.s = some (S.ix k, (S.dig k.s).2) := by
  obtain ⟨K0, hK⟩ := digs_f k.s (chk_size h)
  refine ⟨K0, fun j => ?_⟩
  unfold cameoref04_Index.f
  rw [leo_add (fun K => cameoref04_Digits.mono k.s 4294967294 K) hK j]
  show some (((S.dig k.s).1 : Int) % 4294967296, (S.dig k.s).2) = _
  unfold S.ix
  rw [IntKind.wrap_u32]
theorem rank_f {k : K} {K0 : Nat} (h : ∀ j, cameoref04_Index.f (K0 + j) k.s = some (S.ix k, (S.dig k.s).2)) (j : Nat) : cameoref04_rank.f (K0 + j) k.s k.n = some (S.rk k) := by
  unfold cameoref04_rank.f S.rk
  by_cases hn : k.n = 0
  · rw [if_pos hn, if_pos hn, h j, Option.bind_some]
    simp only
    split <;> rfl
  · rw [if_neg hn, if_neg hn]
def toS (k : K) : S34 := ⟨k.s, k.n⟩
theorem order1 (a : K) (K0 : Nat) (ha : ∀ j, cameoref04_rank.f (K0 + j) a.s a.n = some (S.rk a)) : cameoref04_Order.f (K0 + 20) [toS a] = some [toS a] := by
  have hr : S.rk a = 0 ∨ S.rk a = 1 ∨ S.rk a = 2 := by
    unfold S.rk
    split
    · split <;> simp
    · simp
  rcases hr with h | h | h <;> simp [cameoref04_Order.f, cameoref04_Order.l0, cameoref04_Order.l1, cameoref04_Order.l2, cameoref04_Order.l3, rd_T34, toS, ha, h, wrap64]
theorem order0 (K0 : Nat) : cameoref04_Order.f (K0 + 20) [] = some [] := by
  simp [cameoref04_Order.f, cameoref04_Order.l0, cameoref04_Order.l1, cameoref04_Order.l2, cameoref04_Order.l3, wrap64]
theorem sign_f (x : Int) : cameoref04_sign.f x = some (mx (-1) (mn 1 x)) := rfl
theorem ix_lt (k : K) : 0 ≤ S.ix k ∧ S.ix k < 4294967296 := by
  unfold S.ix
  rw [IntKind.wrap_u32]
  omega
theorem comp_f {a b : K} {K0 : Nat} (ha : ∀ j, cameoref04_Index.f (K0 + j) a.s = some (S.ix a, (S.dig a.s).2)) (hb : ∀ j, cameoref04_Index.f (K0 + j) b.s = some (S.ix b, (S.dig b.s).2)) (h0 : S.rk a = 0) (h1 : S.rk b = 0) (j : Nat) :
    cameoref04_Compare.f (K0 + j) a.s a.n b.s b.n = some (mx (-1) (mn 1 (S.ix a - S.ix b))) := by
  unfold cameoref04_Compare.f
  rw [rank_f ha, rank_f hb, h0, h1]
  simp only [Option.bind_some, if_true]
  rw [ha j, hb j]
  simp only [Option.bind_some]
  have := ix_lt a
  have := ix_lt b
  have e1 : wrap64 (S.ix a) = S.ix a := by unfold wrap64; omega
  have e2 : wrap64 (S.ix b) = S.ix b := by unfold wrap64; omega
  have e3 : wrap64 (S.ix a - S.ix b) = S.ix a - S.ix b := by unfold wrap64; omega
  rw [e1, e2, e3, sign_f]
  rfl
theorem sgn_pos (x : Int) : (mx (-1) (mn 1 x) > 0) ↔ 0 < x := by
  unfold mx mn
  repeat' split
  all_goals omega
theorem cmp_of {a b : K} : S.cmp b a < 0 ↔ (S.rk b < S.rk a ∨ (S.rk b = 0 ∧ S.rk a = 0 ∧ S.ix b < S.ix a)) := by
  unfold S.cmp S.rk
  have e : ∀ x : Int, (x != 0) = !decide (x = 0) := fun x => by by_cases h : x = 0 <;> simp [h]
  rw [e, e]
  by_cases h1 : b.n = 0 <;> by_cases h2 : a.n = 0 <;> cases h3 : (S.dig b.s).2 <;> cases h4 : (S.dig a.s).2 <;> by_cases h5 : S.ix b < S.ix a <;> by_cases h6 : S.ix b > S.ix a <;> simp [h1, h2, h3, h4, h5, h6]
section
variable {A B : S34} {r0 r1 : Int} {K : Nat} {out : List S34}
theorem o_l3_done (r : Int) : cameoref04_Order.l3 (K + 1) [A, B] out r 2 = cameoref04_Order.l2 K [A, B] out (wrap64 (r + 1)) := by
  simp [cameoref04_Order.l3]
theorem o_l3_0 (h : cameoref04_rank.f K A.f0 A.f1 = some r0) (hl : out.length < 100) (r : Int) : cameoref04_Order.l3 (K + 1) [A, B] out r 0 = if r0 = r then cameoref04_Order.l3 K [A, B] (out ++ [A]) r 1 else cameoref04_Order.l3 K [A, B] out r 1 := by
  have : out.length < 5864062014805 := by omega
  simp [cameoref04_Order.l3, rd_T34, h, wrap64, this]
theorem o_l3_1 (h : cameoref04_rank.f K B.f0 B.f1 = some r1) (hl : out.length < 100) (r : Int) : cameoref04_Order.l3 (K + 1) [A, B] out r 1 = if r1 = r then cameoref04_Order.l3 K [A, B] (out ++ [B]) r 2 else cameoref04_Order.l3 K [A, B] out r 2 := by
  have : out.length < 5864062014805 := by omega
  simp [cameoref04_Order.l3, rd_T34, h, wrap64, this]
theorem o_l2_1 : cameoref04_Order.l2 (K + 1) [A, B] out 1 = cameoref04_Order.l3 K [A, B] out 1 0 := by
  simp [cameoref04_Order.l2]
theorem o_l2_2 : cameoref04_Order.l2 (K + 1) [A, B] out 2 = cameoref04_Order.l3 K [A, B] out 2 0 := by
  simp [cameoref04_Order.l2]
theorem o_l2_3 : cameoref04_Order.l2 (K + 1) [A, B] out 3 = some out := by
  simp [cameoref04_Order.l2]
theorem o_l0_2 : cameoref04_Order.l0 (K + 1) [A, B] out 2 = cameoref04_Order.l2 K [A, B] out 1 := by
  simp [cameoref04_Order.l0]
theorem o_l0_0 (h : cameoref04_rank.f K A.f0 A.f1 = some r0) : cameoref04_Order.l0 (K + 1) [A, B] out 0 = if r0 = 0 then cameoref04_Order.l1 K [A, B] out 0 (out.length : Int) else cameoref04_Order.l0 K [A, B] out 1 := by
  simp [cameoref04_Order.l0, rd_T34, h, wrap64]
theorem o_l0_1 (h : cameoref04_rank.f K B.f0 B.f1 = some r1) : cameoref04_Order.l0 (K + 1) [A, B] out 1 = if r1 = 0 then cameoref04_Order.l1 K [A, B] out 1 (out.length : Int) else cameoref04_Order.l0 K [A, B] out 2 := by
  simp [cameoref04_Order.l0, rd_T34, h, wrap64]
theorem o_l1_00 : cameoref04_Order.l1 (K + 1) [A, B] [] 0 0 = cameoref04_Order.l0 K [A, B] [A] 1 := by
  simp [cameoref04_Order.l1, rd_T34, wrap64]
theorem o_l1_10 : cameoref04_Order.l1 (K + 1) [A, B] [] 1 0 = cameoref04_Order.l0 K [A, B] [B] 2 := by
  simp [cameoref04_Order.l1, rd_T34, wrap64]
theorem o_l1_10a : cameoref04_Order.l1 (K + 1) [A, B] [A] 1 0 = cameoref04_Order.l0 K [A, B] [B, A] 2 := by
  simp [cameoref04_Order.l1, rd_T34, wrap64]
theorem o_l1_11 {c : Int} (h : cameoref04_Compare.f K A.f0 A.f1 B.f0 B.f1 = some c) : cameoref04_Order.l1 (K + 1) [A, B] [A] 1 1 = if c > 0 then cameoref04_Order.l1 K [A, B] [A] 1 0 else cameoref04_Order.l0 K [A, B] [A, B] 2 := by
  simp [cameoref04_Order.l1, rd_T34, wrap64, h]
end
theorem order2 (a b : K) (K0 : Nat) (ha : ∀ j, cameoref04_Index.f (K0 + j) a.s = some (S.ix a, (S.dig a.s).2)) (hb : ∀ j, cameoref04_Index.f (K0 + j) b.s = some (S.ix b, (S.dig b.s).2)) :
    cameoref04_Order.f (K0 + 20) [toS a, toS b] = some (bif decide (S.cmp b a < 0) then [toS b, toS a] else [toS a, toS b]) := by
  have ra := rank_f ha
  have rb := rank_f hb
  have hr : ∀ k : K, S.rk k = 0 ∨ S.rk k = 1 ∨ S.rk k = 2 := fun k => by
    unfold S.rk
    split
    · split <;> simp
    · simp
  have hc : decide (S.cmp b a < 0) = decide (S.rk b < S.rk a ∨ (S.rk b = 0 ∧ S.rk a = 0 ∧ S.ix b < S.ix a)) := decide_eq_decide.2 cmp_of
  rw [hc]
  have w2 : wrap64 (1 + 1) = 2 := by simp [wrap64]
  have w3 : wrap64 (2 + 1) = 3 := by simp [wrap64]
  have tail : ∀ (out : List S34) (m : Nat), out.length < 50 → cameoref04_Order.l2 (K0 + m + 9) [toS a, toS b] out 1 = some (out ++ ((if S.rk a = 1 then [toS a] else []) ++ ((if S.rk b = 1 then [toS b] else []) ++ ((if S.rk a = 2 then [toS a] else []) ++ (if S.rk b = 2 then [toS b] else []))))) := fun out m hl => by
    have ra' : ∀ j, cameoref04_rank.f (K0 + m + j) (toS a).f0 (toS a).f1 = some (S.rk a) := fun j => by rw [Nat.add_assoc]; exact ra _
    have rb' : ∀ j, cameoref04_rank.f (K0 + m + j) (toS b).f0 (toS b).f1 = some (S.rk b) := fun j => by rw [Nat.add_assoc]; exact rb _
    rw [show K0 + m + 9 = K0 + m + 8 + 1 from rfl, o_l2_1, show K0 + m + 8 = K0 + m + 7 + 1 from rfl, o_l3_0 (ra' 7) (by omega), show K0 + m + 7 = K0 + m + 6 + 1 from rfl]
    by_cases h1 : S.rk a = 1
    · rw [if_pos h1, o_l3_1 (rb' 6) (by simp; omega), show K0 + m + 6 = K0 + m + 5 + 1 from rfl]
      have h2 : ¬ S.rk a = 2 := by omega
      by_cases h3 : S.rk b = 1
      · have h4 : ¬ S.rk b = 2 := by omega
        rw [if_pos h3, o_l3_done, w2, show K0 + m + 5 = K0 + m + 4 + 1 from rfl, o_l2_2, show K0 + m + 4 = K0 + m + 3 + 1 from rfl, o_l3_0 (ra' 3) (by simp; omega), if_neg h2, show K0 + m + 3 = K0 + m + 2 + 1 from rfl, o_l3_1 (rb' 2) (by simp; omega), if_neg h4, show K0 + m + 2 = K0 + m + 1 + 1 from rfl, o_l3_done, w3, o_l2_3]
        simp [h1, h3]
      · rw [if_neg h3, o_l3_done, w2, show K0 + m + 5 = K0 + m + 4 + 1 from rfl, o_l2_2, show K0 + m + 4 = K0 + m + 3 + 1 from rfl, o_l3_0 (ra' 3) (by simp; omega), if_neg h2, show K0 + m + 3 = K0 + m + 2 + 1 from rfl, o_l3_1 (rb' 2) (by simp; omega)]
        by_cases h4 : S.rk b = 2
        · rw [if_pos h4, show K0 + m + 2 = K0 + m + 1 + 1 from rfl, o_l3_done, w3, o_l2_3]
          simp [h1, h4]
        · rw [if_neg h4, show K0 + m + 2 = K0 + m + 1 + 1 from rfl, o_l3_done, w3, o_l2_3]
          simp [h1, h3, h4]
    · rw [if_neg h1, o_l3_1 (rb' 6) (by omega), show K0 + m + 6 = K0 + m + 5 + 1 from rfl]
      by_cases h3 : S.rk b = 1
      · have h4 : ¬ S.rk b = 2 := by omega
        rw [if_pos h3, o_l3_done, w2, show K0 + m + 5 = K0 + m + 4 + 1 from rfl, o_l2_2, show K0 + m + 4 = K0 + m + 3 + 1 from rfl, o_l3_0 (ra' 3) (by simp; omega), show K0 + m + 3 = K0 + m + 2 + 1 from rfl]
        by_cases h2 : S.rk a = 2
        · rw [if_pos h2, o_l3_1 (rb' 2) (by simp; omega), if_neg h4, show K0 + m + 2 = K0 + m + 1 + 1 from rfl, o_l3_done, w3, o_l2_3]
          simp [h3, h2]
        · rw [if_neg h2, o_l3_1 (rb' 2) (by simp; omega), if_neg h4, show K0 + m + 2 = K0 + m + 1 + 1 from rfl, o_l3_done, w3, o_l2_3]
          simp [h1, h3, h2]
      · rw [if_neg h3, o_l3_done, w2, show K0 + m + 5 = K0 + m + 4 + 1 from rfl, o_l2_2, show K0 + m + 4 = K0 + m + 3 + 1 from rfl, o_l3_0 (ra' 3) (by omega), show K0 + m + 3 = K0 + m + 2 + 1 from rfl]
        by_cases h2 : S.rk a = 2
        · rw [if_pos h2, o_l3_1 (rb' 2) (by simp; omega)]
          by_cases h4 : S.rk b = 2
          · rw [if_pos h4, show K0 + m + 2 = K0 + m + 1 + 1 from rfl, o_l3_done, w3, o_l2_3]
            simp [h2, h4]
          · rw [if_neg h4, show K0 + m + 2 = K0 + m + 1 + 1 from rfl, o_l3_done, w3, o_l2_3]
            simp [h2, h3, h4]
        · rw [if_neg h2, o_l3_1 (rb' 2) (by omega)]
          by_cases h4 : S.rk b = 2
          · rw [if_pos h4, show K0 + m + 2 = K0 + m + 1 + 1 from rfl, o_l3_done, w3, o_l2_3]
            simp [h1, h2, h4]
          · rw [if_neg h4, show K0 + m + 2 = K0 + m + 1 + 1 from rfl, o_l3_done, w3, o_l2_3]
            simp [h1, h2, h3, h4]
  have ra' : ∀ j, cameoref04_rank.f (K0 + j) (toS a).f0 (toS a).f1 = some (S.rk a) := ra
  have rb' : ∀ j, cameoref04_rank.f (K0 + j) (toS b).f0 (toS b).f1 = some (S.rk b) := rb
  unfold cameoref04_Order.f
  rw [show K0 + 20 = K0 + 19 + 1 from rfl, o_l0_0 (ra' 19)]
  have hra := hr a
  have hrb := hr b
  by_cases h : S.rk a = 0
  · rw [if_pos h]
    show cameoref04_Order.l1 (K0 + 18 + 1) [toS a, toS b] [] 0 0 = _
    rw [o_l1_00, show K0 + 18 = K0 + 17 + 1 from rfl, o_l0_1 (rb' 17)]
    by_cases h' : S.rk b = 0
    · have hcf : cameoref04_Compare.f (K0 + 16) (toS a).f0 (toS a).f1 (toS b).f0 (toS b).f1 = some (mx (-1) (mn 1 (S.ix a - S.ix b))) := comp_f ha hb h h' 16
      rw [if_pos h']
      show cameoref04_Order.l1 (K0 + 16 + 1) [toS a, toS b] [toS a] 1 1 = _
      rw [o_l1_11 hcf]
      by_cases hx : S.ix b < S.ix a
      · rw [if_pos ((sgn_pos _).2 (by omega)), show K0 + 16 = K0 + 15 + 1 from rfl, o_l1_10a, show K0 + 15 = K0 + 14 + 1 from rfl, o_l0_2, show K0 + 14 = K0 + 5 + 9 from rfl, tail _ 5 (by simp)]
        simp [h, h', hx]
      · rw [if_neg (fun e => hx (by have := (sgn_pos _).1 e; omega)), show K0 + 16 = K0 + 15 + 1 from rfl, o_l0_2, show K0 + 15 = K0 + 6 + 9 from rfl, tail _ 6 (by simp)]
        simp [h, h', hx]
    · rw [if_neg h', show K0 + 17 = K0 + 16 + 1 from rfl, o_l0_2, show K0 + 16 = K0 + 7 + 9 from rfl, tail _ 7 (by simp)]
      rcases hrb with e | e | e <;> first | exact absurd e h' | simp [h, e]
  · rw [if_neg h, show K0 + 19 = K0 + 18 + 1 from rfl, o_l0_1 (rb' 18)]
    by_cases h' : S.rk b = 0
    · rw [if_pos h']
      show cameoref04_Order.l1 (K0 + 17 + 1) [toS a, toS b] [] 1 0 = _
      rw [o_l1_10, show K0 + 17 = K0 + 16 + 1 from rfl, o_l0_2, show K0 + 16 = K0 + 7 + 9 from rfl, tail _ 7 (by simp)]
      rcases hra with e | e | e <;> first | exact absurd e h | simp [h', e]
    · rw [if_neg h', show K0 + 18 = K0 + 17 + 1 from rfl, o_l0_2, show K0 + 17 = K0 + 8 + 9 from rfl, tail _ 8 (by simp)]
      rcases hra with e | e | e <;> rcases hrb with e' | e' | e' <;> first | exact absurd e h | exact absurd e' h' | simp [e, e']
theorem c34_of {w : World} {b n c : Nat} {A : Option Addr} {f : Nat → K} (h : w.ownsRow b 34 2 (.slice A n c) n ((List.range n).flatMap fun i => (f i).list)) (hn : n ≤ 2) : Kd.C k34 w A ((List.range n).map fun i => toS (f i)).length ((List.range n).map fun i => toS (f i)) := by
  refine ⟨rfl, by simp; omega, fun h0 => ?_⟩
  rcases row_slice h with ⟨_, e, _⟩ | ⟨g, rfl, _, _⟩
  · subst e; simp at h0
  · refine ⟨⟨g, 0, none⟩, rfl, fun j p hp => ?_⟩
    rw [List.getElem?_map] at hp
    obtain ⟨j', hj, rfl⟩ := Option.map_eq_some_iff.1 hp
    obtain ⟨hlt, rfl⟩ := List.getElem?_eq_some_iff.1 hj
    rw [List.getElem_range] at *
    rw [List.length_range] at hlt
    exact ⟨(f j).list, rfl, k34_mk w (toS (f j)), fun i u hu => own_at (f := fun i => (f i).list) (z := 2) (fun i => K.len _) h hlt i u hu⟩
theorem r34_to {w : World} {base : Nat} {ok : Nat → Prop} {v : Value} {r : List S34} (h : Kd.R k34 34 w base ok v r) : w.ownsRow base 34 2 v r.length (r.flatMap fun s => [.string s.f0, .int .i64 s.f1]) := by
  obtain ⟨inner, ho, hl, hr⟩ := h.2
  have hsz : k34.sz = 2 := rfl
  have key : inner = r.flatMap fun s => [.string s.f0, .int .i64 s.f1] := by
    have hl' : inner.length = r.length * 2 := hl
    have hr' : ∀ j p, r[j]? = some p → (inner.drop (j * 2)).take 2 = [.string p.f0, .int .i64 p.f1] := fun j p hp => k34_openM (hr j p hp)
    clear hl hr ho h
    induction r generalizing inner with
    | nil => simpa using hl'
    | cons p r ih =>
      have h0 := hr' 0 p rfl
      rw [Nat.zero_mul, List.drop_zero] at h0
      have : inner = inner.take 2 ++ inner.drop 2 := (List.take_append_drop 2 inner).symm
      rw [this, h0, List.flatMap_cons]
      congr 1
      refine ih (inner.drop 2) (by rw [List.length_drop, hl', List.length_cons]; omega) fun j q hq => ?_
      have := hr' (j + 1) q (by simpa using hq)
      rw [List.drop_drop]
      rw [show (2 + j * 2) = (j + 1) * 2 by omega]
      exact this
  rw [← key]
  exact ho
theorem RefOrder.calls {b n c : Nat} {A : Option Addr} {f : Nat → K} {w : World} (h : w.ownsRow b 34 2 (.slice A n c) n ((List.range n).flatMap fun i => (f i).list)) (h2 : n ≤ 2) (hk : ∀ i, i < n → S.chk (f i) = 0) :
    Calls Tryd.prog 67 #[.slice A n c] w fun e w' => ∃ A' c', e = .returned (.slice A' n c') ∧ Below w.heap.size w w' ∧ w'.ownsRow w.heap.size 34 2 (.slice A' n c') n ((List.range n).flatMap fun i => (S.ordF n f i).list) := by
  have hl : ((List.range n).map fun i => toS (f i)).length = n := by simp
  have hc : n ≤ c := by
    rcases h.2 with ⟨e, e'⟩ | ⟨g, cap, cur, e, _, _, h3, _⟩
    · omega
    · cases e; exact h3
  have hC := c34_of h h2
  have key : ∃ K0, cameoref04_Order.f (K0 + 20) ((List.range n).map fun i => toS (f i)) = some ((List.range n).map fun i => toS (S.ordF n f i)) := by
    match n, h2, hk with
    | 0, _, _ => exact ⟨0, order0 0⟩
    | 1, _, hk =>
      obtain ⟨K0, h0⟩ := idx_f (hk 0 (by omega))
      exact ⟨K0, order1 (f 0) K0 (rank_f h0)⟩
    | 2, _, hk =>
      obtain ⟨K0, h0⟩ := idx_f (hk 0 (by omega))
      obtain ⟨K1, h1⟩ := idx_f (hk 1 (by omega))
      refine ⟨K0 + K1, ?_⟩
      have := order2 (f 0) (f 1) (K0 + K1) (fun j => by rw [Nat.add_assoc]; exact h0 _) (fun j => by rw [Nat.add_comm K0 K1, Nat.add_assoc]; exact h1 _)
      show cameoref04_Order.f (K0 + K1 + 20) [toS (f 0), toS (f 1)] = _
      rw [this]
      simp only [S.ordF]
      cases decide (S.cmp (f 1) (f 0) < 0) <;> rfl
    | n + 3, h, _ => omega
  obtain ⟨K0, hK⟩ := key
  have := cameoref04_Order.calls (K0 + 20) A c _ _ w hC (by rw [hl]; exact hc) hK
  rw [hl] at this
  refine this.mono fun e w' he => ?_
  obtain ⟨v, rfl, hR, hb⟩ := he
  have ho := r34_to hR
  rw [List.length_map, List.length_range] at ho
  have hv := (own_slice ho).1
  rw [hv] at ho ⊢
  refine ⟨_, _, rfl, hb, ?_⟩
  rw [List.flatMap_map] at ho
  exact ho
end Go.Proofs.YtbpdpnoekkkapaaDoor.PDescKinds
end
