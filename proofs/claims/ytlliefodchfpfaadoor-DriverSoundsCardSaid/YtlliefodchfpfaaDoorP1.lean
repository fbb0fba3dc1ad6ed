/- Plain laws of descriptors: what is whole, what is filled, what is applied. -/
import Derived.Test.YtlliefodchfpfaaDoorG2
set_option linter.unusedSimpArgs false
set_option linter.unusedVariables false
set_option linter.unusedSectionVars false
namespace Go.Proofs.YtlliefodchfpfaaDoor.PDescKinds.S
theorem numSame_refl (a : Nat) : numSame a a = true := by
  unfold numSame nan feq neg
  cases h : FloatKind.f64.format.order a a == some Ordering.eq
  · simp only [beq_eq_false_iff_ne, ne_eq] at h
    simp [h]
  · simp only [beq_iff_eq] at h
    simp [h]
theorem same_refl (v : V) : same v v = true := by
  unfold same
  cases h : v.k == 4 <;> simp [numSame_refl]
theorem eqV_refl (v : V) : eqV v v = true := by simp [eqV]
theorem eqD_refl (d : D) : eqD d d = true := by simp [eqD, eqV_refl]
theorem good_there {v : V} (h : good v = true) : there v = true := by
  unfold there
  cases hk : v.k == 0
  · simpa using hk
  · exfalso
    simp only [beq_iff_eq] at hk
    simp [good, hk] at h
theorem absent_not {v : V} (h : absent v = true) : there v = false := by
  unfold absent isV0 at h
  simp only [Bool.and_eq_true, beq_iff_eq] at h
  unfold there
  simp [h.1.1]
/-- Absent, or well formed. -/
def okv (v : V) : Bool := absent v || good v
theorem okv_there {v : V} (h : okv v = true) (ht : there v = true) : good v = true := by
  unfold okv at h
  rw [Bool.or_eq_true] at h
  rcases h with h | h
  · rw [absent_not h] at ht; cases ht
  · exact h
theorem alike_refl {v : V} (h : okv v = true) : alike v v = true := by
  unfold alike
  cases ht : there v
  · rfl
  · simp [okv_there h ht, same_refl]
theorem okv_callable {v : V} (h : callable v = true) : okv v = true := by
  unfold callable at h
  unfold okv
  revert h
  cases absent v <;> cases good v <;> simp
theorem good_VU : good VU = true := by decide +kernel
theorem callable_VU : callable VU = true := by unfold callable; rw [good_VU]; simp [VU]
theorem there_VU : there VU = true := rfl
theorem there_fill (v : V) : there (fill v) = true := by
  unfold fill
  cases h : there v
  · rfl
  · exact h
theorem fill_of {v : V} (h : there v = true) : fill v = v := by simp [fill, h]
theorem okv_fill {v : V} (h : okv v = true) : okv (fill v) = true := by
  unfold fill
  cases there v
  · simp [okv, good_VU]
  · exact h
theorem callable_fill {v : V} (h : callable v = true) : callable (fill v) = true := by
  unfold fill
  cases there v
  · exact callable_VU
  · exact h
theorem alike_fill {v : V} (h : okv v = true) : alike (fill v) v = there v := by
  cases ht : there v
  · simp [alike, fill, ht, there_VU]
  · rw [fill_of ht, alike_refl h]
theorem tri_no {t b : Int} (h : tri t = true) (hb : tri b = true) : tri (no t b) = true := by
  unfold no
  cases t == 0
  · exact h
  · exact hb
theorem tri_orT {t b : Int} (h : tri t = true) (hb : tri b = true) : tri (orT t b) = true := by
  unfold orT
  cases b != 0
  · exact h
  · exact hb
theorem no_eq {t b : Int} (hb : b ≠ 0) : (no t b == t) = (t != 0) := by
  unfold no
  by_cases h : t = 0
  · subst h; simp [hb]
  · have : (t == 0) = false := by simp [h]
    rw [this]; simp [h]
/-- What is well formed. -/
theorem check_eq (d : D) : check d = ((okv d.v && (callable d.g && (callable d.t && (tri d.w && (tri d.e && tri d.c))))) && !(hasD d && hasA d)) := rfl
theorem whole_eq (d : D) : whole d = (check d && ((there d.v && d.w != 0 && !hasA d || there d.g && there d.t && !hasD d) && (d.e != 0 && d.c != 0))) := by
  unfold whole
  cases hc : check d
  · rfl
  · rw [check_eq] at hc
    simp only [Bool.and_eq_true] at hc
    obtain ⟨⟨hv, hg, ht, hw, he, hcc⟩, hx⟩ := hc
    have kg := okv_callable hg
    have kt := okv_callable ht
    simp only [Bool.true_and]
    cases hd : hasD d
    · have hd' := hd
      unfold hasD at hd'
      rw [Bool.or_eq_false_iff] at hd'
      cases ha : hasA d
      · have ha' := ha
        unfold hasA at ha'
        rw [Bool.or_eq_false_iff] at ha'
        simp [ha'.1, ha'.2, hd'.1]
      · have hs := hd
        unfold hasD at hs
        rw [Bool.or_eq_false_iff] at hs
        simp only [equal, complete, hd, ha, Bool.false_or, Bool.not_true, cond_false, no_eq (b := 1) (by decide), alike_fill kg, alike_fill kt, alike_refl hv, beq_self_eq_true, hs.1]
        cases there d.g <;> cases there d.t <;> cases d.e != 0 <;> cases d.c != 0 <;> simp
    · have ha : hasA d = false := by
        rw [hd] at hx
        simpa using hx
      simp only [equal, complete, hd, ha, Bool.true_or, cond_true, no_eq (b := 1) (by decide), alike_fill hv, alike_refl kg, alike_refl kt]
      cases there d.v <;> cases d.w != 0 <;> cases d.e != 0 <;> cases d.c != 0 <;> simp
theorem zero_not {d : D} (h : zero d = true) : hasD d = false ∧ hasA d = false ∧ d.e = 0 ∧ d.c = 0 := by
  unfold zero isD0 at h
  simp only [Bool.and_eq_true, beq_iff_eq] at h
  obtain ⟨⟨⟨h1, _⟩, ⟨h2, _⟩, ⟨h3, _⟩, h4, h5, h6, _⟩, _⟩ := h
  simp [hasD, hasA, there, h1, h2, h3, h4, h5, h6]
theorem whole_zero {d : D} (h : whole d = true) : zero d = false := by
  cases hz : zero d
  · rfl
  · obtain ⟨_, _, he, _⟩ := zero_not hz
    rw [whole_eq] at h
    simp [he] at h
theorem complete_w (d : D) : (complete d).e = no d.e 1 ∧ (complete d).c = no d.c 1 := by
  unfold complete
  cases hasD d || !hasA d <;> exact ⟨rfl, rfl⟩
theorem tri_one : tri 1 = true := rfl
theorem complete_D {d : D} (h : (hasD d || !hasA d) = true) : complete d = ⟨fill d.v, d.g, d.t, no d.w 1, no d.e 1, no d.c 1⟩ := by
  unfold complete; rw [h]; rfl
theorem complete_A {d : D} (h : (hasD d || !hasA d) = false) : complete d = ⟨d.v, fill d.g, fill d.t, d.w, no d.e 1, no d.c 1⟩ := by
  unfold complete; rw [h]; rfl
theorem no_ne (t : Int) {b : Int} (hb : b ≠ 0) : (no t b != 0) = true := by
  unfold no
  by_cases h0 : t = 0
  · subst h0; simpa using hb
  · have : (t == 0) = false := by simp [h0]
    rw [this]; simp [h0]
/-- Of a well-formed one. -/
theorem complete_whole {d : D} (h : check d = true) : whole (complete d) = true := by
  rw [whole_eq, check_eq]
  rw [check_eq] at h
  simp only [Bool.and_eq_true] at h
  obtain ⟨⟨hv, hg, ht, hw, he, hc⟩, hx⟩ := h
  have n1 := fun t => no_ne t (b := 1) (by decide)
  cases hk : hasD d || !hasA d
  · rw [complete_A hk]
    simp only [Bool.or_eq_false_iff, Bool.not_eq_false'] at hk
    have hs := hk.1
    unfold hasD at hs
    rw [Bool.or_eq_false_iff] at hs
    simp only [hasD, hasA, hs.1, hs.2, hv, callable_fill hg, callable_fill ht, hw, tri_no he tri_one, tri_no hc tri_one, n1, there_fill, Bool.false_and, Bool.and_false, Bool.or_false, Bool.false_or, Bool.not_false, Bool.not_true, Bool.and_true, Bool.true_or]
  · rw [complete_D hk]
    have ha : hasA d = false := by
      revert hk hx
      cases hasD d <;> cases hasA d <;> simp
    unfold hasA at ha
    rw [Bool.or_eq_false_iff] at ha
    simp only [hasD, hasA, ha.1, ha.2, okv_fill hv, hg, ht, tri_no hw tri_one, tri_no he tri_one, tri_no hc tri_one, n1, there_fill, Bool.false_and, Bool.and_false, Bool.or_false, Bool.false_or, Bool.not_false, Bool.not_true, Bool.and_true, Bool.true_or]
theorem there_orV (a b : V) : there (orV a b) = (there a || there b) := by
  unfold orV
  cases h : there b <;> simp [h]
theorem orT_ne (a b : Int) : (orT a b != 0) = (a != 0 || b != 0) := by
  unfold orT
  cases h : b != 0 <;> simp [h]
theorem hasD_over (a b : D) : hasD (over a b) = (hasD a || hasD b) := by
  simp only [hasD, over, there_orV, orT_ne]
  cases there a.v <;> cases there b.v <;> cases a.w != 0 <;> cases b.w != 0 <;> rfl
theorem hasA_over (a b : D) : hasA (over a b) = (hasA a || hasA b) := by
  simp only [hasA, over, there_orV]
  cases there a.g <;> cases there b.g <;> cases there a.t <;> cases there b.t <;> rfl
theorem okv_orV {a b : V} (ha : okv a = true) (hb : okv b = true) : okv (orV a b) = true := by
  unfold orV
  cases there b
  · exact ha
  · exact hb
theorem callable_orV {a b : V} (ha : callable a = true) (hb : callable b = true) : callable (orV a b) = true := by
  unfold orV
  cases there b
  · exact ha
  · exact hb
theorem kindN_of {d : D} (h : check d = true) : kindN d = bif hasD d then 1 else bif hasA d then 2 else 0 := by
  unfold kindN; rw [h]; rfl
theorem kind_zero {d : D} (h : check d = true) : (kindN d == 0) = (!hasD d && !hasA d) := by
  rw [kindN_of h]
  cases hasD d <;> cases hasA d <;> rfl
/-- Of two of one kind. -/
theorem over_whole {a b : D} (ha : whole a = true) (hb : check b = true) (hk : kindN b = 0 ∨ kindN b = kindN a) : whole (over a b) = true := by
  have hca : check a = true := by
    rw [whole_eq] at ha
    simp only [Bool.and_eq_true] at ha
    exact ha.1
  rw [kindN_of hca, kindN_of hb] at hk
  rw [whole_eq, check_eq, hasD_over, hasA_over]
  rw [whole_eq, check_eq] at ha
  rw [check_eq] at hb
  simp only [Bool.and_eq_true] at ha hb
  obtain ⟨⟨⟨hv, hg, ht, hw, he, hc⟩, hx⟩, hy, hz1, hz2⟩ := ha
  obtain ⟨⟨kv, kg, kt, kw, ke, kc⟩, kx⟩ := hb
  simp only [over, okv_orV hv kv, callable_orV hg kg, callable_orV ht kt, tri_orT hw kw, tri_orT he ke, tri_orT hc kc, there_orV, orT_ne, hz1, hz2, Bool.true_or, Bool.true_and, Bool.and_true]
  revert hk hx hy kx
  simp only [hasD, hasA]
  cases there a.v <;> cases there a.g <;> cases there a.t <;> cases a.w != 0 <;> cases there b.v <;> cases there b.g <;> cases there b.t <;> cases b.w != 0 <;> simp
end Go.Proofs.YtlliefodchfpfaaDoor.PDescKinds.S

/-! #### part P1 -/
/- Plain laws: what Apply answers with true is whole, and holds what was asked for. -/
set_option linter.unusedSimpArgs false
set_option linter.unusedVariables false
set_option linter.unusedSectionVars false
namespace Go.Proofs.YtlliefodchfpfaaDoor.PDescKinds.S
/-- Whole, and all that a descriptor asks for. -/
structure Fit (o b : D) : Prop where
  whole : whole o = true
  check : check b = true
  kind : kindN b = 0 ∨ kindN b = kindN o
  v : there b.v = true → o.v = b.v
  g : there b.g = true → o.g = b.g
  t : there b.t = true → o.t = b.t
  w : b.w ≠ 0 → o.w = b.w
  e : b.e ≠ 0 → o.e = b.e
  c : b.c ≠ 0 → o.c = b.c
theorem check_whole {a : D} (h : whole a = true) : check a = true := by
  rw [whole_eq] at h
  simp only [Bool.and_eq_true] at h
  exact h.1
theorem okv_of {d : D} (h : check d = true) : okv d.v = true ∧ okv d.g = true ∧ okv d.t = true := by
  rw [check_eq] at h
  simp only [Bool.and_eq_true] at h
  exact ⟨h.1.1, okv_callable h.1.2.1, okv_callable h.1.2.2.1⟩
theorem orV_same {a b : V} (h : there b = true → a = b) : orV a b = a := by
  unfold orV
  cases hb : there b
  · rfl
  · rw [h hb]; rfl
theorem orT_same {a b : Int} (h : b ≠ 0 → a = b) : orT a b = a := by
  unfold orT
  by_cases hb : b = 0
  · subst hb; rfl
  · have : (b != 0) = true := by simpa using hb
    rw [this, h hb]; rfl
theorem Fit.over {o b : D} (h : Fit o b) : over o b = o := by
  unfold S.over
  rw [orV_same h.v, orV_same h.g, orV_same h.t, orT_same h.w, orT_same h.e, orT_same h.c]
theorem Fit.barred {o b : D} (h : Fit o b) (hc : o.c = 1) : barred o b = false := by
  obtain ⟨kv, kg, kt⟩ := okv_of h.check
  have h1 : (b.c == 2) = false := by
    rw [beq_eq_false_iff_ne]
    intro h2
    have := h.c (by omega)
    omega
  have h2 : (b.e != 0 && b.e != o.e) = false := by
    by_cases he : b.e = 0
    · simp [he]
    · simp [h.e he]
  unfold S.barred
  rw [h1, h2]
  simp only [Bool.or_false, cond_false]
  by_cases hz : kindN b = 0
  · simp [hz]
  · have hk : kindN b = kindN o := by
      rcases h.kind with hk | hk
      · exact absurd hk hz
      · exact hk
    have e1 : (kindN b == 0) = false := by simp [hz]
    have e2 : (kindN b != kindN o) = false := by simp [hk]
    rw [e1, e2]
    simp only [cond_false]
    have a1 : (there b.g && !alike b.g o.g) = false := by
      cases hg : there b.g
      · rfl
      · rw [h.g hg, alike_refl kg]; rfl
    have a2 : (there b.t && !alike b.t o.t) = false := by
      cases hg : there b.t
      · rfl
      · rw [h.t hg, alike_refl kt]; rfl
    have a3 : (there b.v && !alike b.v o.v) = false := by
      cases hg : there b.v
      · rfl
      · rw [h.v hg, alike_refl kv]; rfl
    rw [a1, a2, a3]
    cases hw : o.w == 1
    · simp
    · have : (b.w == 2) = false := by
        rw [beq_eq_false_iff_ne]
        intro h2
        have := h.w (by omega)
        simp only [beq_iff_eq] at hw
        omega
      rw [this]; simp
/-- What fits changes no more. -/
theorem Fit.apply {o b : D} (x : Bool) (h : Fit o b) : apply x o b = (o, true) := by
  unfold S.apply
  rw [whole_zero h.whole]
  simp only [cond_false]
  have h1 : (o.c == 1 && S.barred o b) = false := by
    cases hc : o.c == 1
    · rfl
    · rw [h.barred (by simpa using hc)]; rfl
  have h2 : (kindN b != 0 && kindN b != kindN o) = false := by
    rcases h.kind with hk | hk <;> simp [hk]
  rw [h1, h2]
  simp only [cond_false]
  rw [h.over]
theorem Fit.okA {o b : D} (h : Fit o b) : okA o b = true := by unfold S.okA; rw [h.check, h.whole]; rfl
theorem fill_same {v : V} : there v = true → fill v = v := fill_of
theorem no_same {t b : Int} : t ≠ 0 → no t b = t := fun h => by
  unfold no
  have : (t == 0) = false := by simp [h]
  rw [this]; rfl
theorem kindN_pos {d : D} (hc : S.check d = true) : kindN d = 1 ∨ kindN d = 2 ↔ kindN d ≠ 0 := by
  rw [kindN_of hc]
  cases hasD d <;> cases hasA d <;> simp
/-- What is filled fits. -/
theorem fit_complete {d : D} (h : S.check d = true) : Fit (complete d) d := by
  have hw := complete_whole h
  have hc' := check_whole hw
  have hx := h
  rw [check_eq] at hx
  simp only [Bool.and_eq_true] at hx
  have hx := hx.2
  cases hk : hasD d || !hasA d
  · have e := complete_A hk
    simp only [Bool.or_eq_false_iff, Bool.not_eq_false'] at hk
    refine ⟨hw, h, .inr ?_, ?_, ?_, ?_, ?_, ?_, ?_⟩
    · rw [kindN_of h, kindN_of hc', e]
      have hs := hk.1
      unfold hasD at hs
      rw [Bool.or_eq_false_iff] at hs
      simp [hasD, hasA, hs.1, hs.2, there_fill]
      have := hk.2
      unfold hasA at this
      rw [this]; rfl
    all_goals rw [e]
    · exact fun _ => rfl
    · exact fill_same
    · exact fill_same
    · exact fun _ => rfl
    · exact no_same
    · exact no_same
  · have e := complete_D hk
    refine ⟨hw, h, ?_, ?_, ?_, ?_, ?_, ?_, ?_⟩
    · rw [kindN_of h, kindN_of hc', e]
      cases hd : hasD d
      · rw [hd] at hk
        simp only [Bool.false_or, Bool.not_eq_true'] at hk
        left
        simp [hk]
      · right
        simp [hasD, there_fill]
    all_goals rw [e]
    · exact fill_same
    · exact fun _ => rfl
    · exact fun _ => rfl
    · exact no_same
    · exact no_same
    · exact no_same
theorem kindN_turn {a b : D} : hasD (turn a b) = hasD b ∧ hasA (turn a b) = hasA b := ⟨rfl, rfl⟩
theorem check_turn {a b : D} (ha : S.whole a = true) (hb : S.check b = true) : S.check (turn a b) = true := by
  have hca := check_whole ha
  rw [check_eq] at hb hca ⊢
  simp only [Bool.and_eq_true] at hb hca ⊢
  obtain ⟨⟨_, _, _, _, he, hc⟩, _⟩ := hca
  obtain ⟨⟨kv, kg, kt, kw, ke, kc⟩, kx⟩ := hb
  exact ⟨⟨kv, kg, kt, kw, tri_no ke he, tri_no kc hc⟩, kx⟩
theorem whole_ec {a : D} (ha : S.whole a = true) : a.e ≠ 0 ∧ a.c ≠ 0 := by
  rw [whole_eq] at ha
  simp only [Bool.and_eq_true] at ha
  exact ⟨by simpa using ha.2.2.1, by simpa using ha.2.2.2⟩
theorem fit_turn {a b : D} (ha : S.whole a = true) (hb : S.check b = true) : Fit (complete (turn a b)) b := by
  have ht := check_turn ha hb
  have h := fit_complete ht
  refine ⟨h.whole, hb, ?_, h.v, h.g, h.t, h.w, ?_, ?_⟩
  · have := h.kind
    rw [kindN_of ht] at this
    rw [kindN_of hb]
    exact this
  · intro he
    have := h.e (by show no b.e a.e ≠ 0; rw [no_same he]; exact he)
    rw [this]
    exact no_same he
  · intro he
    have := h.c (by show no b.c a.c ≠ 0; rw [no_same he]; exact he)
    rw [this]
    exact no_same he
theorem kindN_whole {a : D} (ha : S.whole a = true) : kindN a = bif hasD a then 1 else 2 := by
  rw [kindN_of (check_whole ha)]
  rw [whole_eq] at ha
  simp only [Bool.and_eq_true] at ha
  have := ha.2.1
  revert this
  unfold hasD hasA
  cases there a.v <;> cases a.w != 0 <;> cases there a.g <;> cases there a.t <;> simp
theorem fit_over {a b : D} (ha : S.whole a = true) (hb : S.check b = true) (hk : kindN b = 0 ∨ kindN b = kindN a) : Fit (S.over a b) b := by
  have hw := over_whole ha hb hk
  refine ⟨hw, hb, ?_, ?_, ?_, ?_, ?_, ?_, ?_⟩
  · rcases hk with hk | hk
    · exact .inl hk
    · right
      rw [hk, kindN_whole hw, kindN_whole ha, hasD_over]
      rw [kindN_of hb, kindN_whole ha] at hk
      revert hk
      cases hasD a <;> cases hasD b <;> cases hasA b <;> simp
  all_goals simp only [S.over]
  · intro h; simp [orV, h]
  · intro h; simp [orV, h]
  · intro h; simp [orV, h]
  · intro h
    have : (b.w != 0) = true := by simpa using h
    simp [orT, this]
  · intro h
    have : (b.e != 0) = true := by simpa using h
    simp [orT, this]
  · intro h
    have : (b.c != 0) = true := by simpa using h
    simp [orT, this]
theorem okA_of {a b : D} (h : S.okA a b = true) : S.check b = true ∧ (S.whole a = true ∨ S.zero a = true) := by
  unfold S.okA at h
  simpa using h
theorem apply_fit {x : Bool} {a b : D} (h : S.okA a b = true) (h2 : (S.apply x a b).2 = true) : Fit (S.apply x a b).1 b := by
  obtain ⟨hb, ha⟩ := okA_of h
  unfold S.apply at h2 ⊢
  cases hz : zero a
  · rw [hz] at h2
    have ha : S.whole a = true := by
      rcases ha with ha | ha
      · exact ha
      · rw [hz] at ha; cases ha
    simp only [cond_false] at h2 ⊢
    cases h3 : a.c == 1 && S.barred a b
    · simp only [cond_false]
      cases h4 : kindN b != 0 && kindN b != kindN a
      · simp only [cond_false]
        refine fit_over ha hb ?_
        by_cases hk : kindN b = 0
        · exact .inl hk
        · right
          simpa [hk] using h4
      · simp only [cond_true, compl, check_turn ha hb]
        exact fit_turn ha hb
    · rw [h3] at h2
      simp at h2
  · rw [hz] at h2
    simp only [cond_true] at h2 ⊢
    cases x
    · simp at h2
    · exact fit_complete hb
theorem apply_no {x : Bool} {a b : D} (h : S.okA a b = true) (h2 : (S.apply x a b).2 = false) : (S.apply x a b).1 = a := by
  unfold S.apply at h2 ⊢
  cases hz : zero a
  · rw [hz] at h2
    simp only [cond_false] at h2 ⊢
    cases h3 : a.c == 1 && S.barred a b
    · rw [h3] at h2
      simp only [cond_false] at h2
      cases h4 : kindN b != 0 && kindN b != kindN a
      · rw [h4] at h2; cases h2
      · rw [h4] at h2; cases h2
    · rfl
  · rw [hz] at h2
    simp only [cond_true] at h2 ⊢
    cases x
    · rfl
    · cases h2
/-- Either nothing has changed, or it fits. -/
theorem apply_cases (x : Bool) {a b : D} (h : S.okA a b = true) : S.apply x a b = (a, false) ∨ ((S.apply x a b).2 = true ∧ Fit (S.apply x a b).1 b) := by
  cases h2 : (S.apply x a b).2
  · exact .inl (Prod.ext (apply_no h h2) h2)
  · exact .inr ⟨rfl, apply_fit h h2⟩
/-- DescTakes, of what Apply took. -/
theorem takes_yes {x : Bool} {a b : D} (h : S.okA a b = true) (h2 : (S.apply x a b).2 = true) :
    S.okA (S.apply x a b).1 b = true ∧ S.whole (S.apply x a b).1 = true ∧ (S.apply x (S.apply x a b).1 b).2 = true ∧ S.eqD (S.apply x (S.apply x a b).1 b).1 (S.apply x a b).1 = true ∧
    ((b.v.k != 0) = true → S.eqV (S.apply x a b).1.v b.v = true) ∧ ((b.g.k != 0) = true → S.eqV (S.apply x a b).1.g b.g = true) ∧ ((b.t.k != 0) = true → S.eqV (S.apply x a b).1.t b.t = true) ∧
    ((b.w == 0) = false → ((S.apply x a b).1.w == b.w) = true) ∧ ((b.e == 0) = false → ((S.apply x a b).1.e == b.e) = true) ∧ ((b.c == 0) = false → ((S.apply x a b).1.c == b.c) = true) := by
  have f := apply_fit h h2
  refine ⟨f.okA, f.whole, by rw [f.apply x], by rw [f.apply x]; exact eqD_refl _, ?_, ?_, ?_, ?_, ?_, ?_⟩
  · intro hh; rw [f.v hh]; exact eqV_refl _
  · intro hh; rw [f.g hh]; exact eqV_refl _
  · intro hh; rw [f.t hh]; exact eqV_refl _
  · intro hh; rw [f.w (by simpa using hh)]; exact beq_self_eq_true _
  · intro hh; rw [f.e (by simpa using hh)]; exact beq_self_eq_true _
  · intro hh; rw [f.c (by simpa using hh)]; exact beq_self_eq_true _
theorem takes_no {x : Bool} {a b : D} (h : S.okA a b = true) (h2 : (S.apply x a b).2 = false) : S.eqD (S.apply x a b).1 a = true := by
  rw [apply_no h h2]; exact eqD_refl _
end Go.Proofs.YtlliefodchfpfaaDoor.PDescKinds.S

