/- Plain laws: what Apply answers with true is whole, and holds what was asked for. -/
import Derived.Test.YtaojjpdlfnphiaaDoorP0
set_option linter.unusedSimpArgs false
set_option linter.unusedVariables false
set_option linter.unusedSectionVars false
namespace Go.Proofs.YtaojjpdlfnphiaaDoor.PDescKinds.S
/-- Whole, and all that a descriptor asks for. -/
structure Fit (o b : D) : Prop where
  whole : whole o = true
  check : check b = true
  kind : kindN b = 0 ∨ kindN b = kindN o
  v : there b.v = true → o.v = b.v
  g : there b.g = true → o.g = b.g
  t : there b.t = true → o.t = b.t
  w : b.w ≠ 0 → o.w = b.w
  e : b.e ≠ 0 → o.e = b.e
  c : b.c ≠ 0 → o.c = b.c
theorem check_whole {a : D} (h : whole a = true) : check a = true := by
  rw [whole_eq] at h
  simp only [Bool.and_eq_true] at h
  exact h.1
theorem okv_of {d : D} (h : check d = true) : okv d.v = true ∧ okv d.g = true ∧ okv d.t = true := by
  rw [check_eq] at h
  simp only [Bool.and_eq_true] at h
  exact ⟨h.1.1, okv_callable h.1.2.1, okv_callable h.1.2.2.1⟩
theorem orV_same {a b : V} (h : there b = true → a = b) : orV a b = a := by
  unfold orV
  cases hb : there b
  · rfl
  · rw [h hb]; rfl
theorem orT_same {a b : Int} (h : b ≠ 0 → a = b) : orT a b = a := by
  unfold orT
  by_cases hb : b = 0
  · subst hb; rfl
  · have : (b != 0) = true := by simpa using hb
    rw [this, h hb]; rfl
theorem Fit.over {o b : D} (h : Fit o b) : over o b = o := by
  unfold S.over
  rw [orV_same h.v, orV_same h.g, orV_same h.t, orT_same h.w, orT_same h.e, orT_same h.c]
theorem Fit.barred {o b : D} (h : Fit o b) (hc : o.c = 1) : barred o b = false := by
  obtain ⟨kv, kg, kt⟩ := okv_of h.check
  have h1 : (b.c == 2) = false := by
    rw [beq_eq_false_iff_ne]
    intro h2
    have := h.c (by omega)
    omega
  have h2 : (b.e != 0 && b.e != o.e) = false := by
    by_cases he : b.e = 0
    · simp [he]
    · simp [h.e he]
  unfold S.barred
  rw [h1, h2]
  simp only [Bool.or_false, cond_false]
  by_cases hz : kindN b = 0
  · simp [hz]
  · have hk : kindN b = kindN o := by
      rcases h.kind with hk | hk
      · exact absurd hk hz
      · exact hk
    have e1 : (kindN b == 0) = false := by simp [hz]
    have e2 : (kindN b != kindN o) = false := by simp [hk]
    rw [e1, e2]
    simp only [cond_false]
    have a1 : (there b.g && !alike b.g o.g) = false := by
      cases hg : there b.g
      · rfl
      · rw [h.g hg, alike_refl kg]; rfl
    have a2 : (there b.t && !alike b.t o.t) = false := by
      cases hg : there b.t
      · rfl
      · rw [h.t hg, alike_refl kt]; rfl
    have a3 : (there b.v && !alike b.v o.v) = false := by
      cases hg : there b.v
      · rfl
      · rw [h.v hg, alike_refl kv]; rfl
    rw [a1, a2, a3]
    cases hw : o.w == 1
    · simp
    · have : (b.w == 2) = false := by
        rw [beq_eq_false_iff_ne]
        intro h2
        have := h.w (by omega)
        simp only [beq_iff_eq] at hw
        omega
      rw [this]; simp
/-- What fits changes no more. -/
theorem Fit.apply {o b : D} (x : Bool) (h : Fit o b) : apply x o b = (o, true) := by
  unfold S.apply
  rw [whole_zero h.whole]
  simp only [cond_false]
  have h1 : (o.c == 1 && S.barred o b) = false := by
    cases hc : o.c == 1
    · rfl
    · rw [h.barred (by simpa using hc)]; rfl
  have h2 : (kindN b != 0 && kindN b != kindN o) = false := by
    rcases h.kind with hk | hk <;> simp [hk]
  rw [h1, h2]
  simp only [cond_false]
  rw [h.over]
theorem Fit.okA {o b : D} (h : Fit o b) : okA o b = true := by unfold S.okA; rw [h.check, h.whole]; rfl
theorem fill_same {v : V} : there v = true → fill v = v := fill_of
theorem no_same {t b : Int} : t ≠ 0 → no t b = t := fun h => by
  unfold no
  have : (t == 0) = false := by simp [h]
  rw [this]; rfl
theorem kindN_pos {d : D} (hc : S.check d = true) : kindN d = 1 ∨ kindN d = 2 ↔ kindN d ≠ 0 := by
  rw [kindN_of hc]
  cases hasD d <;> cases hasA d <;> simp
/-- What is filled fits. -/
theorem fit_complete {d : D} (h : S.check d = true) : Fit (complete d) d := by
  have hw := complete_whole h
  have hc' := check_whole hw
  have hx := h
  rw [check_eq] at hx
  simp only [Bool.and_eq_true] at hx
  have hx := hx.2
  cases hk : hasD d || !hasA d
  · have e := complete_A hk
    simp only [Bool.or_eq_false_iff, Bool.not_eq_false'] at hk
    refine ⟨hw, h, .inr ?_, ?_, ?_, ?_, ?_, ?_, ?_⟩
    · rw [kindN_of h, kindN_of hc', e]
      have hs := hk.1
      unfold hasD at hs
      rw [Bool.or_eq_false_iff] at hs
      simp [hasD, hasA, hs.1, hs.2, there_fill]
      have := hk.2
      unfold hasA at this
      rw [this]; rfl
    all_goals rw [e]
    · exact fun _ => rfl
    · exact fill_same
    · exact fill_same
    · exact fun _ => rfl
    · exact no_same
    · exact no_same
  · have e := complete_D hk
    refine ⟨hw, h, ?_, ?_, ?_, ?_, ?_, ?_, ?_⟩
    · rw [kindN_of h, kindN_of hc', e]
      cases hd : hasD d
      · rw [hd] at hk
        simp only [Bool.false_or, Bool.not_eq_true'] at hk
        left
        simp [hk]
      · right
        simp [hasD, there_fill]
    all_goals rw [e]
    · exact fill_same
    · exact fun _ => rfl
    · exact fun _ => rfl
    · exact no_same
    · exact no_same
    · exact no_same
theorem kindN_turn {a b : D} : hasD (turn a b) = hasD b ∧ hasA (turn a b) = hasA b := ⟨rfl, rfl⟩
theorem check_turn {a b : D} (ha : S.whole a = true) (hb : S.check b = true) : S.check (turn a b) = true := by
  have hca := check_whole ha
  rw [check_eq] at hb hca ⊢
  simp only [Bool.and_eq_true] at hb hca ⊢
  obtain ⟨⟨_, _, _, _, he, hc⟩, _⟩ := hca
  obtain ⟨⟨kv, kg, kt, kw, ke, kc⟩, kx⟩ := hb
  exact ⟨⟨kv, kg, kt, kw, tri_no ke he, tri_no kc hc⟩, kx⟩
theorem whole_ec {a : D} (ha : S.whole a = true) : a.e ≠ 0 ∧ a.c ≠ 0 := by
  rw [whole_eq] at ha
  simp only [Bool.and_eq_true] at ha
  exact ⟨by simpa using ha.2.2.1, by simpa using ha.2.2.2⟩
theorem fit_turn {a b : D} (ha : S.whole a = true) (hb : S.check b = true) : Fit (complete (turn a b)) b := by
  have ht := check_turn ha hb
  have h := fit_complete ht
  refine ⟨h.whole, hb, ?_, h.v, h.g, h.t, h.w, ?_, ?_⟩
  · have := h.kind
    rw [kindN_of ht] at this
    rw [kindN_of hb]
    exact this
  · intro he
    have := h.e (by show no b.e a.e ≠ 0; rw [no_same he]; exact he)
    rw [this]
    exact no_same he
  · intro he
    have := h.c (by show no b.c a.c ≠ 0; rw [no_same he]; exact he)
    rw [this]
    exact no_same he
theorem kindN_whole {a : D} (ha : S.whole a = true) : kindN a = bif hasD a then 1 else 2 := by
  rw [kindN_of (check_whole ha)]
  rw [whole_eq] at ha
  simp only [Bool.and_eq_true] at ha
  have := ha.2.1
  revert this
  unfold hasD hasA
  cases there a.v <;> cases a.w != 0 <;> cases there a.g <;> cases there a.t <;> simp
theorem fit_over {a b : D} (ha : S.whole a = true) (hb : S.check b = true) (hk : kindN b = 0 ∨ kindN b = kindN a) : Fit (S.over a b) b := by
  have hw := over_whole ha hb hk
  refine ⟨hw, hb, ?_, ?_, ?_, ?_, ?_, ?_, ?_⟩
  · rcases hk with hk | hk
    · exact .inl hk
    · right
      rw [hk, kindN_whole hw, kindN_whole ha, hasD_over]
      rw [kindN_of hb, kindN_whole ha] at hk
      revert hk
      cases hasD a <;> cases hasD b <;> cases hasA b <;> simp
  all_goals simp only [S.over]
  · intro h; simp [orV, h]
  · intro h; simp [orV, h]
  · intro h; simp [orV, h]
  · intro h
    have : (b.w != 0) = true := by simpa using h
    simp [orT, this]
  · intro h
    have : (b.e != 0) = true := by simpa using h
    simp [orT, this]
  · intro h
    have : (b.c != 0) = true := by simpa using h
    simp [orT, this]
theorem okA_of {a b : D} (h : S.okA a b = true) : S.check b = true ∧ (S.whole a = true ∨ S.zero a = true) := by
  unfold S.okA at h
  simpa using h
theorem apply_fit {x : Bool} {a b : D} (h : S.okA a b = true) (h2 : (S.apply x a b).2 = true) : Fit (S.apply x a b).1 b := by
  obtain ⟨hb, ha⟩ := okA_of h
  unfold S.apply at h2 ⊢
  cases hz : zero a
  · rw [hz] at h2
    have ha : S.whole a = true := by
      rcases ha with ha | ha
      · exact ha
      · rw [hz] at ha; cases ha
    simp only [cond_false] at h2 ⊢
    cases h3 : a.c == 1 && S.barred a b
    · simp only [cond_false]
      cases h4 : kindN b != 0 && kindN b != kindN a
      · simp only [cond_false]
        refine fit_over ha hb ?_
        by_cases hk : kindN b = 0
        · exact .inl hk
        · right
          simpa [hk] using h4
      · simp only [cond_true, compl, check_turn ha hb]
        exact fit_turn ha hb
    · rw [h3] at h2
      simp at h2
  · rw [hz] at h2
    simp only [cond_true] at h2 ⊢
    cases x
    · simp at h2
    · exact fit_complete hb
theorem apply_no {x : Bool} {a b : D} (h : S.okA a b = true) (h2 : (S.apply x a b).2 = false) : (S.apply x a b).1 = a := by
  unfold S.apply at h2 ⊢
  cases hz : zero a
  · rw [hz] at h2
    simp only [cond_false] at h2 ⊢
    cases h3 : a.c == 1 && S.barred a b
    · rw [h3] at h2
      simp only [cond_false] at h2
      cases h4 : kindN b != 0 && kindN b != kindN a
      · rw [h4] at h2; cases h2
      · rw [h4] at h2; cases h2
    · rfl
  · rw [hz] at h2
    simp only [cond_true] at h2 ⊢
    cases x
    · rfl
    · cases h2
/-- Either nothing has changed, or it fits. -/
theorem apply_cases (x : Bool) {a b : D} (h : S.okA a b = true) : S.apply x a b = (a, false) ∨ ((S.apply x a b).2 = true ∧ Fit (S.apply x a b).1 b) := by
  cases h2 : (S.apply x a b).2
  · exact .inl (Prod.ext (apply_no h h2) h2)
  · exact .inr ⟨rfl, apply_fit h h2⟩
/-- DescTakes, of what Apply took. -/
theorem takes_yes {x : Bool} {a b : D} (h : S.okA a b = true) (h2 : (S.apply x a b).2 = true) :
    S.okA (S.apply x a b).1 b = true ∧ S.whole (S.apply x a b).1 = true ∧ (S.apply x (S.apply x a b).1 b).2 = true ∧ S.eqD (S.apply x (S.apply x a b).1 b).1 (S.apply x a b).1 = true ∧
    ((b.v.k != 0) = true → S.eqV (S.apply x a b).1.v b.v = true) ∧ ((b.g.k != 0) = true → S.eqV (S.apply x a b).1.g b.g = true) ∧ ((b.t.k != 0) = true → S.eqV (S.apply x a b).1.t b.t = true) ∧
    ((b.w == 0) = false → ((S.apply x a b).1.w == b.w) = true) ∧ ((b.e == 0) = false → ((S.apply x a b).1.e == b.e) = true) ∧ ((b.c == 0) = false → ((S.apply x a b).1.c == b.c) = true) := by
  have f := apply_fit h h2
  refine ⟨f.okA, f.whole, by rw [f.apply x], by rw [f.apply x]; exact eqD_refl _, ?_, ?_, ?_, ?_, ?_, ?_⟩
  · intro hh; rw [f.v hh]; exact eqV_refl _
  · intro hh; rw [f.g hh]; exact eqV_refl _
  · intro hh; rw [f.t hh]; exact eqV_refl _
  · intro hh; rw [f.w (by simpa using hh)]; exact beq_self_eq_true _
  · intro hh; rw [f.e (by simpa using hh)]; exact beq_self_eq_true _
  · intro hh; rw [f.c (by simpa using hh)]; exact beq_self_eq_true _
theorem takes_no {x : Bool} {a b : D} (h : S.okA a b = true) (h2 : (S.apply x a b).2 = false) : S.eqD (S.apply x a b).1 a = true := by
  rw [apply_no h h2]; exact eqD_refl _
end Go.Proofs.YtaojjpdlfnphiaaDoor.PDescKinds.S
