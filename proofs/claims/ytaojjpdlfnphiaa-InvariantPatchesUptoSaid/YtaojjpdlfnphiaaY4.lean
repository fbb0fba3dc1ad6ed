/- cameoref10.Patch: a shape goes back where it was taken from. -/
import Derived.Test.YtaojjpdlfnphiaaY3
set_option linter.unusedSimpArgs false
set_option linter.unusedVariables false
set_option linter.unusedSectionVars false
namespace Go.Proofs.Ytaojjpdlfnphiaa.PDescKinds
open Go.RowKit Go.Ev
/-- A whole shape put anew, its properties elsewhere or where they were. -/
theorem OwnMo.whole {P : Program} {B : Nat} {w : World} {mo : Mo} (h : OwnMo B w mo) {k : Nat} {s' : Sh} (hk : k < mo.n) (hs : pureRun P (sizeOf 52) = some 8) (hnew : w.ownsRow B 55 20 s'.row s'.n (Copy.rowOf s'))
    (hf : s'.row.ownBlock = (mo.g k).row.ownBlock ∨ ∀ t b c, s'.row.ownBlock = some b → (mo.g t).row.ownBlock = some c → b ≠ c) :
    ∃ w' g, mo.A = some ⟨g, 0, none⟩ ∧ (Instr.storeAt 52 (.pointer (some ⟨g, k * 8, none⟩)) (.agg (shVals s' s'.row).toArray)).run P w = .ok () w' ∧ w.grownBy w' (some g) ∧ B ≤ g ∧ OwnMo B w' { mo with g := fput mo.g k s' } := by
  have hrow := h.row
  rcases row_slice hrow with ⟨_, h2, _⟩ | ⟨g, hA, hB, hlt⟩
  · omega
  rw [hA] at hrow
  have hcs : (Value.agg (shVals s' s'.row).toArray).cells.toList = shVals s' s'.row := rfl
  have hcz : (Value.agg (shVals s' s'.row).toArray).cells.size = 8 := rfl
  obtain ⟨w', hrun, hown, hgr⟩ := own_splice (P := P) (ty := 52) (x := .agg (shVals s' s'.row).toArray) (o := 0) (t := k) hrow (fun t => shVals_length _ _) hk (by rw [hcz]; exact hs) (by rw [hcz]; exact Nat.le_refl 8) (fun u hu => by
    rw [hcs] at hu
    exact Ap.shVals_one _ u hu)
  have hne : ∀ u n ys, w.ownsRow B 55 20 u n ys → u.ownBlock = none ∨ u.ownBlock ≠ some g := fun u n ys hu => own_ne hrow hu
  refine ⟨w', g, hA, hrun, hgr, hB, ?_, fun j => ?_, fun j l hjl => ?_, fun j hj => ?hrest⟩
  case hrest =>
    have hj : mo.n ≤ j := hj
    refine Eq.trans ?_ (h.rest j hj)
    simp only [fput]
    rw [if_neg (by omega)]
  · show w'.ownsRow B 52 8 (.slice mo.A mo.n mo.c) mo.n ((List.range mo.n).flatMap fun j => shVals (fput mo.g k s' j) (fput mo.g k s' j).row)
    rw [hA]
    have e : (fun j => shVals (fput mo.g k s' j) (fput mo.g k s' j).row) = fput (fun j => shVals (mo.g j) (mo.g j).row) k (splice (shVals (mo.g k) (mo.g k).row) 0 (Value.agg (shVals s' s'.row).toArray).cells.toList) := by
      funext j
      unfold fput
      split
      · rw [hcs]
        rfl
      · rfl
    rw [e]
    exact hown
  · show w'.ownsRow B 55 20 (fput mo.g k s' j).row (fput mo.g k s' j).n (Copy.rowOf (fput mo.g k s' j))
    unfold fput
    split
    · exact hnew.kept hgr (hne _ _ _ hnew)
    · exact (h.props j).kept hgr (hne _ _ _ (h.props j))
  · show (fput mo.g k s' j).row.ownBlock = none ∨ (fput mo.g k s' j).row.ownBlock ≠ (fput mo.g k s' l).row.ownBlock
    have key : ∀ t, t ≠ k → s'.row.ownBlock = none ∨ s'.row.ownBlock ≠ (mo.g t).row.ownBlock := by
      intro t ht
      rcases hf with e | hf
      · rw [e]
        exact h.sep k t (Ne.symm ht)
      · cases hb : s'.row.ownBlock with
        | none => exact .inl rfl
        | some b => exact .inr fun e => hf t b b hb e.symm rfl
    unfold fput
    by_cases ej : j = k
    · rw [if_pos ej, if_neg (fun e => hjl (ej.trans e.symm))]
      exact key l (fun e => hjl (ej.trans e.symm))
    · rw [if_neg ej]
      by_cases el : l = k
      · rw [if_pos el]
        rcases key j ej with e | e
        · rw [e]
          cases hb : (mo.g j).row.ownBlock with
          | none => exact .inl rfl
          | some b => exact .inr (by simp)
        · exact .inr (Ne.symm e)
      · rw [if_neg el]
        exact h.sep j l hjl
theorem pickT_cons {t : Nat} {p : Nat × SV} {r : List (Nat × SV)} (h : t ≠ p.1) : pickT (p :: r) t = pickT r t := by
  simp only [pickT]
  cases hb : Nat.beq t p.1 with
  | true => exact absurd (Nat.eq_of_beq_eq_true hb) h
  | false => rfl
theorem pickT_head {p : Nat × SV} {r : List (Nat × SV)} : pickT (p :: r) p.1 = p.2 := by
  simp only [pickT, Nat.beq_refl, cond_true]
namespace RP
/-- Where a round stands behind the look-up. -/
structure Rs (v1 v6 v7 : Value) (gb g9 : Nat) (f : Int) (a : Act) : Prop where
  size : a.tmps.size = 150
  defers : a.defers = []
  t1 : a.tmps.getD 1 undef = v1
  t6 : a.tmps.getD 6 undef = v6
  t7 : a.tmps.getD 7 undef = v7
  t8 : a.tmps.getD 8 undef = .pointer (some ⟨gb, 0, none⟩)
  t9 : a.tmps.getD 9 undef = .pointer (some ⟨g9, 0, none⟩)
  t10 : a.tmps.getD 10 undef = .int .i64 f
section
variable {v1 v6 v7 : Value} {gb g9 : Nat} {f : Int} {a : Act} {w w0 : World} {Q : Exit → Act → World → Prop} {δ : Dl} {B : Nat} {mo : Mo} {k : Nat}
theorem Rs.next {a' : Act} (h : Rs v1 v6 v7 gb g9 f a) (hs : a'.tmps.size = 150) (hd : a'.defers = []) (hk : ∀ t ∈ [1, 6, 7, 8, 9, 10], a'.tmps.getD t undef = a.tmps.getD t undef) : Rs v1 v6 v7 gb g9 f a' :=
  ⟨hs, hd, (hk 1 (by simp)).trans h.t1, (hk 6 (by simp)).trans h.t6, (hk 7 (by simp)).trans h.t7, (hk 8 (by simp)).trans h.t8, (hk 9 (by simp)).trans h.t9, (hk 10 (by simp)).trans h.t10⟩
abbrev U (v1 v6 v7 v9 : Value) (f : Int) : List (Nat × SV) := [(1, .val v1), (6, .val v6), (7, .val v7), (8, .xp [] 0 0), (9, .val v9), (10, .val (.int .i64 f))]
abbrev p9 (g9 : Nat) : Value := .pointer (some ⟨g9, 0, none⟩)
theorem ctxX : @Ctx (rowsX (some ⟨gb, 0, none⟩) δ.cells (some ⟨gb, 0, none⟩) δ.cells) Try.prog ext (tab []) (fun w => @XOk (rowsX (some ⟨gb, 0, none⟩) δ.cells (some ⟨gb, 0, none⟩) δ.cells) w) := by
  letI := rowsX (some ⟨gb, 0, none⟩) δ.cells (some ⟨gb, 0, none⟩) δ.cells
  exact ⟨mixed, ext_sound, fun w w' h hb => XOk.below h hb, fun w h => h, tab_sound entries_nil⟩
/-- A question about the delta. -/
theorem lvl {l : Code} {d : Nat} {b : Bool} (h : Rs v1 v6 v7 gb g9 f a) (hbx : Boxed w gb δ)
    (hev : @evK (rowsX (some ⟨gb, 0, none⟩) δ.cells (some ⟨gb, 0, none⟩) δ.cells) _ Try.prog ext (tab []) 80 150 (seqL [l]) ((⟨U v1 v6 v7 (p9 g9) f, []⟩ : Cut).st 0) (grab Try.prog Try.f8 [1, 6, 7, 8, 9, 10, d] [] 0) = some (.cut .normal ⟨[(1, .val v1), (6, .val v6), (7, .val v7), (8, .xp [] 0 0), (9, .val (p9 g9)), (10, .val (.int .i64 f)), (d, .val (.bool b))], []⟩))
    (hd : d ∉ [1, 6, 7, 8, 9, 10]) (k : ∀ a' w', Rs v1 v6 v7 gb g9 f a' → a'.eval (.tmp d) = .bool b → Below w.heap.size w w' → Q .normal a' w') : wpL Try.prog [l] Q a w := by
  letI := rowsX (some ⟨gb, 0, none⟩) δ.cells (some ⟨gb, 0, none⟩) δ.cells
  have hsr : SR w 150 (fun _ => 0) ((⟨U v1 v6 v7 (p9 g9) f, []⟩ : Cut).st 0) a w := by
    refine epoch h.size h.defers _ _ (fun p hp => ?_) (fun p hp => ?_)
    · simp only [List.mem_cons, List.not_mem_nil, or_false] at hp
      rcases hp with rfl | rfl | rfl | rfl | rfl | rfl
      · exact h.t1.trans (den_val _ _).symm
      · exact h.t6.trans (den_val _ _).symm
      · exact h.t7.trans (den_val _ _).symm
      · refine h.t8.trans ?_
        rw [den_xp]
        rfl
      · exact h.t9.trans (den_val _ _).symm
      · exact h.t10.trans (den_val _ _).symm
    · simp only [List.mem_cons, List.not_mem_nil, or_false] at hp
      rcases hp with rfl | rfl | rfl | rfl | rfl | rfl
      · exact ok_val _ _
      · exact ok_val _ _
      · exact ok_val _ _
      · exact ok_xp.2 (by show 0 < 1; omega)
      · exact ok_val _ _
      · exact ok_val _ _
  refine piece ctxX.mix ctxX.hX ctxX.hs ctxX.hXO ctxX.hG hev hbx.xok hsr (fun v hv => by cases hv) (fun ex c hc m' a' w' hr => ?_)
  cases hc
  have hdp : ∀ t, t ∈ [1, 6, 7, 8, 9, 10] → t ≠ d := fun t ht e => hd (e ▸ ht)
  have hpd : pickT [(1, SV.val v1), (6, .val v6), (7, .val v7), (8, .xp [] 0 0), (9, .val (p9 g9)), (10, .val (.int .i64 f)), (d, .val (.bool b))] d = .val (.bool b) := by
    rw [pickT_cons (p := (1, SV.val v1)) (hdp 1 (by simp)).symm, pickT_cons (p := (6, SV.val v6)) (hdp 6 (by simp)).symm, pickT_cons (p := (7, SV.val v7)) (hdp 7 (by simp)).symm, pickT_cons (p := (8, SV.xp [] 0 0)) (hdp 8 (by simp)).symm, pickT_cons (p := (9, SV.val (p9 g9))) (hdp 9 (by simp)).symm, pickT_cons (p := (10, SV.val (.int .i64 f))) (hdp 10 (by simp)).symm]
    exact pickT_head (p := (d, SV.val (.bool b)))
  refine k a' w' ⟨hr.ar.size, hr.ar.defers, (hr.ar.tm 1 rfl).trans (den_val _ _), (hr.ar.tm 6 rfl).trans (den_val _ _), (hr.ar.tm 7 rfl).trans (den_val _ _), (hr.ar.tm 8 rfl).trans ?_, (hr.ar.tm 9 rfl).trans (den_val _ _), (hr.ar.tm 10 rfl).trans (den_val _ _)⟩ (ar_eval (t := pickT _) hr.ar hpd) hr.mr.below
  refine (den_xp _ _ _ _).trans ?_
  rfl
theorem level {l rest : List Code} {c T E : Code} {d : Nat} {b : Bool} (hl : l = [c] ++ .cond (.tmp d) T E :: rest) (h : Rs v1 v6 v7 gb g9 f a) (hbx : Boxed w gb δ)
    (hev : @evK (rowsX (some ⟨gb, 0, none⟩) δ.cells (some ⟨gb, 0, none⟩) δ.cells) _ Try.prog ext (tab []) 80 150 (seqL [c]) ((⟨U v1 v6 v7 (p9 g9) f, []⟩ : Cut).st 0) (grab Try.prog Try.f8 [1, 6, 7, 8, 9, 10, d] [] 0) = some (.cut .normal ⟨[(1, .val v1), (6, .val v6), (7, .val v7), (8, .xp [] 0 0), (9, .val (p9 g9)), (10, .val (.int .i64 f)), (d, .val (.bool b))], []⟩))
    (hd : d ∉ [1, 6, 7, 8, 9, 10]) (kt : b = true → ∀ a' w', Rs v1 v6 v7 gb g9 f a' → Below w.heap.size w w' → T.wp Try.prog (Exit.then (wpL Try.prog rest Q) Q) a' w') (kf : b = false → ∀ a' w', Rs v1 v6 v7 gb g9 f a' → Below w.heap.size w w' → E.wp Try.prog (Exit.then (wpL Try.prog rest Q) Q) a' w') : wpL Try.prog l Q a w := by
  rw [hl, wpL_app]
  refine lvl h hbx hev hd fun a' w' h' hv hb => ?_
  show wpL Try.prog (.cond (.tmp d) T E :: rest) Q a' w'
  simp only [wpL]
  cases b with
  | true => exact wp_cond_true hv (kt rfl a' w' h' hb)
  | false => exact wp_cond_false hv (kf rfl a' w' h' hb)
/-- What a delta has made of the shape in its box. -/
structure Box9 (B : Nat) (w0 w : World) (g9 : Nat) (mo : Mo) (k : Nat) (s' : Sh) : Prop where
  box : Pa.BoxS B w g9 s' s'.row
  row : w.ownsRow B 55 20 s'.row s'.n (Copy.rowOf s')
  own : OwnMo B w mo
  out : ∀ b, (Value.slice mo.A mo.n mo.c).ownBlock = some b → b ≠ g9
  fresh : s'.row.ownBlock = (mo.g k).row.ownBlock ∨ ∀ t b c, s'.row.ownBlock = some b → (mo.g t).row.ownBlock = some c → b ≠ c
/-- A store into the shape's box. -/
theorem cells9 {id : Nat} {ops : Array Oper} {tv tp off : Nat} {ty : TypeId} {x : Value} {s s' : Sh} (h : Rs v1 v6 v7 gb g9 f a) (h9 : Box9 B w0 w g9 mo k s) (hbx : Boxed w gb δ) (hne : g9 ≠ gb) (hB : B ≤ w.heap.size)
    (hev : letI := rowsX (some ⟨gb, 0, none⟩) δ.cells (some ⟨gb, 0, none⟩) δ.cells; (reads Try.prog 150 (ops.toList.take 3) (pickT [(8, .xp [] 0 0), (9, .val (.pointer (some ⟨g9, 0, none⟩)))])).map (fun t => [tv, tp].map t) = some [.val x, .val (.pointer (some ((⟨g9, 0, none⟩ : Addr).add off)))])
    (hk : offDs (ops.toList.take 3) [1, 6, 7, 8, 9, 10] = true) (hsp : ops.toList = ops.toList.take 3 ++ [ops.toList.getD 3 default]) (ho : (ops.toList.getD 3 default).op = .store ty (.tmp tp) (.tmp tv)) (hg : (ops.toList.getD 3 default).guard = none) (hd : (ops.toList.getD 3 default).dst = none)
    (hs : pureRun Try.prog (sizeOf ty) = some x.cells.size) (hoff : off + x.cells.size ≤ 8) (h1 : ∀ u ∈ x.cells.toList, u.oneCell' = true)
    (he : shVals s' s'.row = splice (shVals s s.row) off x.cells.toList) (hr : s'.row = s.row) (hn : s'.n = s.n) (hgg : s'.g = s.g)
    (hQ : ∀ a' w', Rs v1 v6 v7 gb g9 f a' → Box9 B w0 w' g9 mo k s' → Boxed w' gb δ → Below B w w' → Q .normal a' w') : (Code.region id ops false).wp Try.prog Q a w := by
  letI := rowsX (some ⟨gb, 0, none⟩) δ.cells (some ⟨gb, 0, none⟩) δ.cells
  refine wp_region_list ?_
  rw [hsp]
  have har : AR 150 (fun _ => 0) (pickT [(8, .xp [] 0 0), (9, .val (.pointer (some ⟨g9, 0, none⟩)))]) (fun _ => none) a := by
    refine ar_of w h.size h.defers (fun p hp => ?_) (fun p hp => ?_)
    · simp only [List.mem_cons, List.not_mem_nil, or_false] at hp
      rcases hp with rfl | rfl
      · refine h.t8.trans ?_
        rw [den_xp]
        rfl
      · exact h.t9.trans (den_val _ _).symm
    · simp only [List.mem_cons, List.not_mem_nil, or_false] at hp
      rcases hp with rfl | rfl
      · exact ok_xp.2 (by show 0 < 1; omega)
      · exact ok_val _ _
  refine wpList_readsF [1, 6, 7, 8, 9, 10] hbx.xok hev hk har fun a' t' har' e hk' => ?_
  simp only [List.map_cons, List.map_nil, List.cons.injEq, and_true] at e
  obtain ⟨ev, ep⟩ := e
  rw [add_none] at ep
  obtain ⟨w', hst, hown, hgr⟩ := own_splice (P := Try.prog) (ty := ty) (x := x) (t := 0) (o := off) h9.box (fun t => shVals_length _ _) (by decide) hs hoff h1
  rw [Nat.zero_mul] at hst
  have hg9 := h9.box.lt g9 rfl
  have hne2 : ∀ u n ys, w.ownsRow B 55 20 u n ys → u.ownBlock = none ∨ u.ownBlock ≠ some g9 := fun u n ys hu => own_ne h9.box hu
  refine wpList_store ho hg hd (ar_eval har' ep) (ar_eval har' ev) hst (hQ a' w' (h.next har'.size har'.defers hk') ⟨?_, ?_, ?_, h9.out, by rw [hr]; exact h9.fresh⟩ ?_ (below_grown hB hgr hg9.1))
  · have : ((List.range 1).flatMap (fput (fun _ => shVals s s.row) 0 (splice (shVals s s.row) off x.cells.toList))) = ((List.range 1).flatMap fun _ => shVals s' s'.row) := by
      rw [he]
      rfl
    rw [this] at hown
    exact hown
  · have e1 : Copy.rowOf s' = Copy.rowOf s := by unfold Copy.rowOf; rw [hn, hgg]
    rw [hr, hn, e1]
    exact h9.row.kept hgr (hne2 _ _ _ h9.row)
  · refine h9.own.kept hgr ?_ (fun j => hne2 _ _ _ (h9.own.props j))
    cases hb : (Value.slice mo.A mo.n mo.c).ownBlock with
    | none => exact .inl rfl
    | some b => exact .inr fun e => h9.out b hb (Option.some.inj e)
  · exact (hgr.block gb (Array.getElem?_eq_some_iff.1 hbx).1 (by simp; omega)).trans hbx
end
end RP
end Go.Proofs.Ytaojjpdlfnphiaa.PDescKinds
