/- cameoref10.Patch: a descriptor put anew, the shape goes back, a shape more. -/
import Derived.Test.YtaojjpdlfnphiaaY6
set_option linter.unusedSimpArgs false
set_option linter.unusedVariables false
set_option linter.unusedSectionVars false
namespace Go.Proofs.Ytaojjpdlfnphiaa.PDescKinds
open Go.RowKit Go.Ev
namespace RP
set_option maxRecDepth 100000
section
variable {v1 v6 v7 : Value} {gb g9 : Nat} {f : Int} {a : Act} {w w0 w1 : World} {Q : Exit → Act → World → Prop} {δ : Dl} {B : Nat} {mo : Mo} {k : Nat} {s s' : Sh}
/-- A descriptor goes into the fresh row. -/
theorem reg23 {j : Nat} (h : Rs v1 v6 v7 gb g9 (j : Int) a) (h9 : Box9 B w0 w g9 mo k s) (hfr : ∀ t b c, s.row.ownBlock = some b → (mo.g t).row.ownBlock = some c → b ≠ c) (hbx : Boxed w gb δ) (hB : B ≤ w.heap.size) (hj : j < s.n)
    (hQ : ∀ a' w' s', Rs v1 v6 v7 gb g9 (j : Int) a' → s' = { s with g := fput s.g j { s.g j with d := δ.d } } → Box9 B w0 w' g9 mo k s' → Boxed w' gb δ → Below B w w' → Q .normal a' w') : (Code.region 23 o23 false).wp Try.prog Q a w := by
  rcases row_slice h9.row with ⟨_, h0, _⟩ | ⟨g2, hA2, hB2, hlt2⟩
  · omega
  have hrow : s.row = .slice (some ⟨g2, 0, none⟩) s.n s.c := by unfold Sh.row; rw [hA2]
  refine wp_region_list ?_
  rw [o23_eq]
  have hx1 : @XOk (rowsX (some ⟨gb, 0, none⟩) δ.cells (some ⟨g9, 0, none⟩) ((shVals s (.slice (some ⟨g2, 0, none⟩) s.n s.c)).map SV.val)) w := by
    have := h9.xok hbx
    rw [hrow] at this
    exact this
  have har := ar_two (us := [(10, .int .i64 (j : Int))]) (gb := gb) (g9 := g9) (b := δ.cells) (t := (shVals s (.slice (some ⟨g2, 0, none⟩) s.n s.c)).map SV.val) h.kp (by simp) (by simp) (by simp) w
  refine @wpList_readsF (rowsX (some ⟨gb, 0, none⟩) δ.cells (some ⟨g9, 0, none⟩) ((shVals s (.slice (some ⟨g2, 0, none⟩) s.n s.c)).map SV.val)) _ _ _ _ _ _ _ _ _ _ _ _ [1, 6, 7, 8, 9, 10] hx1 (e23a (some ⟨gb, 0, none⟩) (some ⟨g9, 0, none⟩) δ s (some ⟨g2, 0, none⟩) s.n s.c (j : Int)) (by kernel_rfl) har fun a1 t1 har1 e hk1 => ?_
  simp only [List.map_cons, List.map_nil, List.cons.injEq, and_true] at e
  obtain ⟨e1, e2, e3⟩ := e
  have q1 := @ar_eval (rowsX (some ⟨gb, 0, none⟩) δ.cells (some ⟨g9, 0, none⟩) ((shVals s (.slice (some ⟨g2, 0, none⟩) s.n s.c)).map SV.val)) _ _ _ _ _ har1 _ _ e1
  have q2 := @ar_eval (rowsX (some ⟨gb, 0, none⟩) δ.cells (some ⟨g9, 0, none⟩) ((shVals s (.slice (some ⟨g2, 0, none⟩) s.n s.c)).map SV.val)) _ _ _ _ _ har1 _ _ e2
  have q3 := @ar_eval (rowsX (some ⟨gb, 0, none⟩) δ.cells (some ⟨g9, 0, none⟩) ((shVals s (.slice (some ⟨g2, 0, none⟩) s.n s.c)).map SV.val)) _ _ _ _ _ har1 _ _ e3
  have z1 := @AR.size (rowsX (some ⟨gb, 0, none⟩) δ.cells (some ⟨g9, 0, none⟩) ((shVals s (.slice (some ⟨g2, 0, none⟩) s.n s.c)).map SV.val)) _ _ _ _ _ har1
  have z2 := @AR.defers (rowsX (some ⟨gb, 0, none⟩) δ.cells (some ⟨g9, 0, none⟩) ((shVals s (.slice (some ⟨g2, 0, none⟩) s.n s.c)).map SV.val)) _ _ _ _ _ har1
  have K0 : Kp 150 (RL v1 v6 v7 gb g9 (j : Int)) a1 := h.kp.moved z1 z2 (fun p hp => hk1 p.1 (by
    simp only [List.mem_cons, List.not_mem_nil, or_false] at hp ⊢
    rcases hp with rfl | rfl | rfl | rfl | rfl | rfl <;> simp))
  have K1 : Kp 150 ([(121, .slice (some ⟨g2, 0, none⟩) s.n s.c), (122, .int .i64 (j : Int)), (124, δ.d.agg)] ++ RL v1 v6 v7 gb g9 (j : Int)) a1 := Kp.join ⟨z1, z2, fun p hp => by
    simp only [List.mem_cons, List.not_mem_nil, or_false] at hp
    rcases hp with rfl | rfl | rfl
    · exact q1
    · exact q2
    · exact q3⟩ K0
  have hrun : (execOp a1.eval (o23.toList.getD 5 default)).run Try.prog w = .ok (.value (.pointer (some ⟨g2, j * 20, none⟩))) w := by
    letI := row0
    have har2 := ar_none (us := [(121, .slice (some ⟨g2, 0, none⟩) s.n s.c), (122, .int .i64 (j : Int)), (124, δ.d.agg)]) K1 (by simp) w
    have hev := e23i ⟨g2, 0, none⟩ s.n s.c (j : Int) δ.d.agg
    rw [decide_eq_true (by omega), decide_eq_true (by omega), add_none, Int.toNat_natCast, Nat.zero_add] at hev
    have := (evP_run (m := fun _ => 0) (xok_0 w) (fun x => har2.look_ok x) (fun x hk => har2.eval x hk) hev).1
    rw [den_val] at this
    exact this
  refine wpList_val (by kernel_rfl) hrun ?_
  rw [show (o23.toList.getD 5 default).dst = some 125 by kernel_rfl]
  have K2 := K1.put (d := 125) (v := .pointer (some ⟨g2, j * 20, none⟩)) rfl
  generalize hA2 : a1.put (some 125) (.pointer (some ⟨g2, j * 20, none⟩)) = a2 at K2 ⊢
  refine @wpList_readsF row0 _ _ _ _ _ _ _ _ _ _ _ _ [1, 6, 7, 8, 9, 10] (xok_0 w) (e23c ⟨g2, j * 20, none⟩ δ.d.agg) (by kernel_rfl) (ar_none (us := [(125, .pointer (some ⟨g2, j * 20, none⟩)), (124, δ.d.agg)]) K2 (by simp) w) fun a3 t3 har3 e hk3 => ?_
  simp only [List.map_cons, List.map_nil, List.cons.injEq, and_true] at e
  obtain ⟨e4, e6⟩ := e
  rw [add_none] at e6
  have K3 := (K2.sub (us := RL v1 v6 v7 gb g9 (j : Int)) (by simp)).moved (@AR.size row0 _ _ _ _ _ har3) (@AR.defers row0 _ _ _ _ _ har3) (fun p hp => hk3 p.1 (by
    simp only [List.mem_cons, List.not_mem_nil, or_false] at hp ⊢
    rcases hp with rfl | rfl | rfl | rfl | rfl | rfl <;> simp))
  have hR := h9.row
  rw [hrow] at hR
  obtain ⟨w', hst, hown, hgr⟩ := own_splice (P := Try.prog) (ty := 33) (x := δ.d.agg) (t := j) (o := 2) hR (fun t => Pr.list_length _) hj (by kernel_rfl) (by show 2 + 18 ≤ 20; omega) (by rw [D.agg_cells]; exact D.list_one δ.d)
  obtain ⟨s', hs'⟩ : ∃ s' : Sh, s' = { s with g := fput s.g j { s.g j with d := δ.d } } := ⟨_, rfl⟩
  have hob : s.row.ownBlock = some g2 := by rw [hrow]; rfl
  have hrow' : s'.row = s.row := by rw [hs']; rfl
  refine wpList_store (t := 33) (x := .tmp 126) (y := .tmp 124) (by kernel_rfl) (by kernel_rfl) (by kernel_rfl) (@ar_eval row0 _ _ _ _ _ har3 _ _ e6) (@ar_eval row0 _ _ _ _ _ har3 _ _ e4) hst (hQ a3 w' s' (Rs.of K3 fun p hp => hp) hs' ⟨?_, ?_, ?_, h9.out, by rw [hrow']; exact .inr hfr⟩ ?_ (below_grown hB hgr hB2))
  · have e : ((List.range 1).flatMap fun _ => shVals s' s'.row) = ((List.range 1).flatMap fun _ => shVals s s.row) := by
      rw [hrow', hs']
      rfl
    have : Pa.BoxS B w' g9 s s.row := h9.box.kept hgr (.inr fun e => shapes_ne h9.box h9.row g9 g2 rfl hob (Option.some.inj e))
    unfold Pa.BoxS at this ⊢
    rw [e]
    exact this
  · rw [hrow', hrow, show s'.n = s.n by rw [hs']]
    have e : Copy.rowOf s' = (List.range s.n).flatMap (fput (fun j => (s.g j).list) j (splice ((s.g j).list) 2 δ.d.agg.cells.toList)) := by
      rw [hs']
      unfold Copy.rowOf
      refine flat_congr _ fun t _ => ?_
      show (fput s.g j { s.g j with d := δ.d } t).list = _
      unfold fput
      split
      · rw [D.agg_cells]
        rfl
      · rfl
    rw [e]
    exact hown
  · refine h9.own.kept hgr ?_ (fun t => ?_)
    · cases hb : (Value.slice mo.A mo.n mo.c).ownBlock with
      | none => exact .inl rfl
      | some b => exact .inr fun e => shapes_ne h9.own.row h9.row b g2 hb hob (Option.some.inj e)
    · cases hc : (mo.g t).row.ownBlock with
      | none => exact .inl rfl
      | some c => exact .inr fun e => hfr t g2 c hob hc (Option.some.inj e).symm
  · have hg : gb < w.heap.size := (Array.getElem?_eq_some_iff.1 hbx).1
    have hne : g2 ≠ gb := boxed_ne hbx h9.row (by decide) g2 hob
    exact (hgr.block gb hg (fun e => hne (Option.some.inj e).symm)).trans hbx
/-- The shape goes back. -/
theorem reg26 (h : Rs v1 (.slice mo.A mo.n mo.c) v7 gb g9 f a) (h9 : Box9 B w0 w g9 mo k s) (hbx : Boxed w gb δ) (hB : B ≤ w.heap.size) (hk : k < mo.n) (ho : IntKind.i64.wrap (δ.o - 1) = (k : Int))
    (hQ : ∀ a' w', Kp 150 [(1, v1), (6, .slice mo.A mo.n mo.c), (7, v7)] a' → OwnMo B w' { mo with g := fput mo.g k s } → Below B w w' → Q .normal a' w') : (Code.region 26 o26 false).wp Try.prog Q a w := by
  refine wp_region_list ?_
  rw [o26_eq]
  have har := ar_two (us := []) (gb := gb) (g9 := g9) (b := δ.cells) (t := (shVals s s.row).map SV.val) h.kp (by simp) (by simp) (by simp) w
  have har' : @AR (rowsX (some ⟨gb, 0, none⟩) δ.cells (some ⟨g9, 0, none⟩) ((shVals s s.row).map SV.val)) 150 (fun _ => 0) (pickT [(6, .val (.slice mo.A mo.n mo.c)), (8, .xp [] 0 0), (9, .xp [0] 0 0)]) (fun _ => none) a := by
    letI := rowsX (some ⟨gb, 0, none⟩) δ.cells (some ⟨g9, 0, none⟩) ((shVals s s.row).map SV.val)
    refine ar_of w h.size h.defers (fun p hp => ?_) (fun p hp => ?_)
    · simp only [List.mem_cons, List.not_mem_nil, or_false] at hp
      rcases hp with rfl | rfl | rfl
      · exact h.t6.trans (den_val _ _).symm
      · exact ar_get har (i := 8) rfl rfl
      · exact ar_get har (i := 9) rfl rfl
    · simp only [List.mem_cons, List.not_mem_nil, or_false] at hp
      rcases hp with rfl | rfl | rfl
      · exact ok_val _ _
      · exact ok_xp.2 (by show 0 < 1; omega)
      · exact ok_xp.2 (by show 0 < 1; omega)
  refine @wpList_readsF (rowsX (some ⟨gb, 0, none⟩) δ.cells (some ⟨g9, 0, none⟩) ((shVals s s.row).map SV.val)) _ _ _ _ _ _ _ _ _ _ _ _ [1, 6, 7] (h9.xok hbx) (eo26 (some ⟨gb, 0, none⟩) (some ⟨g9, 0, none⟩) δ s s.A s.n s.c (.slice mo.A mo.n mo.c)) (by kernel_rfl) har' fun a1 t1 har1 e hk1 => ?_
  simp only [List.map_cons, List.map_nil, List.cons.injEq, and_true] at e
  obtain ⟨e1, e2, e3⟩ := e
  have q1 := @ar_eval (rowsX (some ⟨gb, 0, none⟩) δ.cells (some ⟨g9, 0, none⟩) ((shVals s s.row).map SV.val)) _ _ _ _ _ har1 _ _ e1
  have q2 := @ar_eval (rowsX (some ⟨gb, 0, none⟩) δ.cells (some ⟨g9, 0, none⟩) ((shVals s s.row).map SV.val)) _ _ _ _ _ har1 _ _ e2
  have q3 := @ar_eval (rowsX (some ⟨gb, 0, none⟩) δ.cells (some ⟨g9, 0, none⟩) ((shVals s s.row).map SV.val)) _ _ _ _ _ har1 _ _ e3
  have z1 := @AR.size (rowsX (some ⟨gb, 0, none⟩) δ.cells (some ⟨g9, 0, none⟩) ((shVals s s.row).map SV.val)) _ _ _ _ _ har1
  have z2 := @AR.defers (rowsX (some ⟨gb, 0, none⟩) δ.cells (some ⟨g9, 0, none⟩) ((shVals s s.row).map SV.val)) _ _ _ _ _ har1
  rw [ho] at q2
  obtain ⟨w', g, hA, hst, hgr, hBg, hown⟩ := h9.own.whole (P := Try.prog) hk (by kernel_rfl) h9.row h9.fresh
  have K1 : Kp 150 ([(143, .slice mo.A mo.n mo.c), (146, .int .i64 (k : Int)), (147, .agg (shVals s s.row).toArray)] ++ [(1, v1), (6, .slice mo.A mo.n mo.c), (7, v7)]) a1 := Kp.join ⟨z1, z2, fun p hp => by
    simp only [List.mem_cons, List.not_mem_nil, or_false] at hp
    rcases hp with rfl | rfl | rfl
    · exact q1
    · exact q2
    · exact q3⟩ ⟨z1, z2, fun p hp => by
    simp only [List.mem_cons, List.not_mem_nil, or_false] at hp
    rcases hp with rfl | rfl | rfl
    · exact (hk1 1 (by simp)).trans h.t1
    · exact (hk1 6 (by simp)).trans h.t6
    · exact (hk1 7 (by simp)).trans h.t7⟩
  have hrun : (execOp a1.eval (o26.toList.getD 5 default)).run Try.prog w = .ok (.value (.pointer (some ⟨g, k * 8, none⟩))) w := by
    letI := row0
    have har2 := ar_none (us := [(143, .slice mo.A mo.n mo.c), (146, .int .i64 (k : Int)), (147, .agg (shVals s s.row).toArray)]) K1 (by simp) w
    rw [hA] at har2
    have hev := ei26 ⟨g, 0, none⟩ mo.n mo.c (k : Int) (.agg (shVals s s.row).toArray)
    rw [decide_eq_true (by omega), decide_eq_true (by omega), add_none, Int.toNat_natCast, Nat.zero_add] at hev
    have := (evP_run (m := fun _ => 0) (xok_0 w) (fun x => har2.look_ok x) (fun x hk => har2.eval x hk) hev).1
    rw [den_val] at this
    exact this
  refine wpList_val (by kernel_rfl) hrun ?_
  rw [show (o26.toList.getD 5 default).dst = some 148 by kernel_rfl]
  have K2 := K1.put (d := 148) (v := .pointer (some ⟨g, k * 8, none⟩)) rfl
  generalize hA2 : a1.put (some 148) (.pointer (some ⟨g, k * 8, none⟩)) = a2 at K2 ⊢
  exact wpList_store (t := 52) (x := .tmp 148) (y := .tmp 147) (by kernel_rfl) (by kernel_rfl) (by kernel_rfl) (K2.get (by simp)) (K2.get (by simp)) hst (hQ a2 w' (K2.sub (by simp)) hown (below_grown hB hgr hBg))
/-- A shape more. -/
theorem reg7 (h : Kp 150 [(1, v1), (6, .slice mo.A mo.n mo.c), (7, v7), (8, .pointer (some ⟨gb, 0, none⟩))] a) (hO : OwnMo B w mo) (hbx : Boxed w gb δ) (hB : B ≤ w.heap.size) (hn : mo.n ≤ 2000000)
    (hQ : ∀ v a' w', Kp 150 [(1, v1), (6, v), (7, v7)] a' → Below B w w' → v = .slice (slA v) (mo.n + 1) (slC v) → OwnMo B w' ⟨slA v, mo.n + 1, slC v, fput mo.g mo.n (Ap.newS δ)⟩ → Q .normal a' w') : (Code.region 7 o7 false).wp Try.prog Q a w := by
  refine wp_region_list ?_
  rw [o7_eq]
  have har : @AR (rowsX (some ⟨gb, 0, none⟩) δ.cells (some ⟨gb, 0, none⟩) δ.cells) 150 (fun _ => 0) (pickT [(6, .val (.slice mo.A mo.n mo.c)), (8, .xp [] 0 0)]) (fun _ => none) a := by
    letI := rowsX (some ⟨gb, 0, none⟩) δ.cells (some ⟨gb, 0, none⟩) δ.cells
    refine ar_of w h.size h.defers (fun p hp => ?_) (fun p hp => ?_)
    · simp only [List.mem_cons, List.not_mem_nil, or_false] at hp
      rcases hp with rfl | rfl
      · exact (h.get (d := 6) (v := .slice mo.A mo.n mo.c) (by simp)).trans (den_val _ _).symm
      · refine (h.get (d := 8) (v := .pointer (some ⟨gb, 0, none⟩)) (by simp)).trans ?_
        rw [den_xp]
        rfl
    · simp only [List.mem_cons, List.not_mem_nil, or_false] at hp
      rcases hp with rfl | rfl
      · exact ok_val _ _
      · exact ok_xp.2 (by show 0 < 1; omega)
  refine @wpList_readsF (rowsX (some ⟨gb, 0, none⟩) δ.cells (some ⟨gb, 0, none⟩) δ.cells) _ _ _ _ _ _ _ _ _ _ _ _ [1, 7] hbx.xok (eo7 (some ⟨gb, 0, none⟩) δ (.slice mo.A mo.n mo.c)) (by kernel_rfl) har fun a1 t1 har1 e hk1 => ?_
  simp only [List.map_cons, List.map_nil, List.cons.injEq, and_true] at e
  obtain ⟨e1, e2⟩ := e
  have q1 := @ar_eval (rowsX (some ⟨gb, 0, none⟩) δ.cells (some ⟨gb, 0, none⟩) δ.cells) _ _ _ _ _ har1 _ _ e1
  have q2 := @ar_eval (rowsX (some ⟨gb, 0, none⟩) δ.cells (some ⟨gb, 0, none⟩) δ.cells) _ _ _ _ _ har1 _ _ e2
  have K1 : Kp 150 [(1, v1), (7, v7), (34, .slice mo.A mo.n mo.c), (41, .agg (shVals (Ap.newS δ) (.slice none 0 0)).toArray)] a1 :=
    ⟨@AR.size (rowsX (some ⟨gb, 0, none⟩) δ.cells (some ⟨gb, 0, none⟩) δ.cells) _ _ _ _ _ har1, @AR.defers (rowsX (some ⟨gb, 0, none⟩) δ.cells (some ⟨gb, 0, none⟩) δ.cells) _ _ _ _ _ har1, fun p hp => by
      simp only [List.mem_cons, List.not_mem_nil, or_false] at hp
      rcases hp with rfl | rfl | rfl | rfl
      · exact (hk1 1 (by simp)).trans (h.get (by simp))
      · exact (hk1 7 (by simp)).trans (h.get (by simp))
      · exact q1
      · exact q2⟩
  letI := row0
  refine wpList_plain (by kernel_rfl) fun K hK => ?_
  refine build1 (ar_none (us := [(41, .agg (shVals (Ap.newS δ) (.slice none 0 0)).toArray)]) K1 (by simp) w) (eo7n (Ap.newS δ) (.slice none 0 0)) fun gn w1 b1 b2 b3 => hK _ _ ?_
  rw [show (o7.toList.getD 8 default).dst = some 42 by kernel_rfl]
  have K2 := K1.put (d := 42) (v := .slice (some ⟨gn, 0, none⟩) 1 1) rfl
  generalize hA2 : a1.put (some 42) (.slice (some ⟨gn, 0, none⟩) 1 1) = a2 at K2 ⊢
  have hO1 := hO.below b1
  have hB1 : B ≤ w1.heap.size := Nat.le_trans hB b1.size
  obtain ⟨i60, z60, p1, p2, p3, p4, p5⟩ := Copy.info60
  have hM : maxLen = 9223372036854775807 := by decide +kernel
  refine wpList_append_own w1 (by kernel_rfl) (.tmp 34) (.tmp 42) 22 (by kernel_rfl) B 52 i60 z60 8 88 (by kernel_rfl) p1 p2 p3 p4 p5 (by decide) (.slice mo.A mo.n mo.c) mo.n _ (K2.get (by simp)) hO1.row ⟨gn, 0, none⟩ 1 1 (shVals (Ap.newS δ) (Ap.newS δ).row) (K2.get (by simp)) (shVals_length _ _) (fun j u hu => ?_) (Ap.shVals_one _) (by omega) (by omega) hB1 fun v' w2 hown2 hgr hnil => ?_
  · rw [add_none, cell_of_row w1 gn _ _ 52 (0, 0) b3]
    have hu : (shVals (Ap.newS δ) (.slice none 0 0))[j]? = some u := hu
    simpa using hu
  rw [show (o7.toList.getD 9 default).dst = some 43 by kernel_rfl]
  have K3 := K2.put (d := 43) (v := v') rfl
  generalize hA3 : a2.put (some 43) v' = a3 at K3 ⊢
  refine wpList_readsF [1, 7] (xok_0 w2) (eo7b v') (by kernel_rfl) (ar_none (us := [(43, v')]) K3 (by simp) w2) fun a4 t4 har4 e hk4 => ?_
  simp only [List.map_cons, List.map_nil, List.cons.injEq, and_true] at e
  obtain ⟨hv', hmo⟩ := hO1.more (s := Ap.newS δ) hgr rfl rfl rfl hown2
  refine hQ v' a4 w2 ⟨har4.size, har4.defers, fun p hp => ?_⟩ ((b1.mono hB).trans (below_own hB1 hO1.row hgr)) hv' hmo
  simp only [List.mem_cons, List.not_mem_nil, or_false] at hp
  rcases hp with rfl | rfl | rfl
  · exact (hk4 1 (by simp)).trans (K3.get (by simp))
  · exact ar_eval har4 e
  · exact (hk4 7 (by simp)).trans (K3.get (by simp))
end
end RP
end Go.Proofs.Ytaojjpdlfnphiaa.PDescKinds
