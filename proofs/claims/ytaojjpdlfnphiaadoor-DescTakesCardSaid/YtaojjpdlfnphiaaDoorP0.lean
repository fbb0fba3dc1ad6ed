/- Plain laws of descriptors: what is whole, what is filled, what is applied. -/
import Derived.Test.YtaojjpdlfnphiaaDoorG2
set_option linter.unusedSimpArgs false
set_option linter.unusedVariables false
set_option linter.unusedSectionVars false
namespace Go.Proofs.YtaojjpdlfnphiaaDoor.PDescKinds.S
theorem numSame_refl (a : Nat) : numSame a a = true := by
  unfold numSame nan feq neg
  cases h : FloatKind.f64.format.order a a == some Ordering.eq
  · simp only [beq_eq_false_iff_ne, ne_eq] at h
    simp [h]
  · simp only [beq_iff_eq] at h
    simp [h]
theorem same_refl (v : V) : same v v = true := by
  unfold same
  cases h : v.k == 4 <;> simp [numSame_refl]
theorem eqV_refl (v : V) : eqV v v = true := by simp [eqV]
theorem eqD_refl (d : D) : eqD d d = true := by simp [eqD, eqV_refl]
theorem good_there {v : V} (h : good v = true) : there v = true := by
  unfold there
  cases hk : v.k == 0
  · simpa using hk
  · exfalso
    simp only [beq_iff_eq] at hk
    simp [good, hk] at h
theorem absent_not {v : V} (h : absent v = true) : there v = false := by
  unfold absent isV0 at h
  simp only [Bool.and_eq_true, beq_iff_eq] at h
  unfold there
  simp [h.1.1]
/-- Absent, or well formed. -/
def okv (v : V) : Bool := absent v || good v
theorem okv_there {v : V} (h : okv v = true) (ht : there v = true) : good v = true := by
  unfold okv at h
  rw [Bool.or_eq_true] at h
  rcases h with h | h
  · rw [absent_not h] at ht; cases ht
  · exact h
theorem alike_refl {v : V} (h : okv v = true) : alike v v = true := by
  unfold alike
  cases ht : there v
  · rfl
  · simp [okv_there h ht, same_refl]
theorem okv_callable {v : V} (h : callable v = true) : okv v = true := by
  unfold callable at h
  unfold okv
  revert h
  cases absent v <;> cases good v <;> simp
theorem good_VU : good VU = true := by decide +kernel
theorem callable_VU : callable VU = true := by unfold callable; rw [good_VU]; simp [VU]
theorem there_VU : there VU = true := rfl
theorem there_fill (v : V) : there (fill v) = true := by
  unfold fill
  cases h : there v
  · rfl
  · exact h
theorem fill_of {v : V} (h : there v = true) : fill v = v := by simp [fill, h]
theorem okv_fill {v : V} (h : okv v = true) : okv (fill v) = true := by
  unfold fill
  cases there v
  · simp [okv, good_VU]
  · exact h
theorem callable_fill {v : V} (h : callable v = true) : callable (fill v) = true := by
  unfold fill
  cases there v
  · exact callable_VU
  · exact h
theorem alike_fill {v : V} (h : okv v = true) : alike (fill v) v = there v := by
  cases ht : there v
  · simp [alike, fill, ht, there_VU]
  · rw [fill_of ht, alike_refl h]
theorem tri_no {t b : Int} (h : tri t = true) (hb : tri b = true) : tri (no t b) = true := by
  unfold no
  cases t == 0
  · exact h
  · exact hb
theorem tri_orT {t b : Int} (h : tri t = true) (hb : tri b = true) : tri (orT t b) = true := by
  unfold orT
  cases b != 0
  · exact h
  · exact hb
theorem no_eq {t b : Int} (hb : b ≠ 0) : (no t b == t) = (t != 0) := by
  unfold no
  by_cases h : t = 0
  · subst h; simp [hb]
  · have : (t == 0) = false := by simp [h]
    rw [this]; simp [h]
/-- What is well formed. -/
theorem check_eq (d : D) : check d = ((okv d.v && (callable d.g && (callable d.t && (tri d.w && (tri d.e && tri d.c))))) && !(hasD d && hasA d)) := rfl
theorem whole_eq (d : D) : whole d = (check d && ((there d.v && d.w != 0 && !hasA d || there d.g && there d.t && !hasD d) && (d.e != 0 && d.c != 0))) := by
  unfold whole
  cases hc : check d
  · rfl
  · rw [check_eq] at hc
    simp only [Bool.and_eq_true] at hc
    obtain ⟨⟨hv, hg, ht, hw, he, hcc⟩, hx⟩ := hc
    have kg := okv_callable hg
    have kt := okv_callable ht
    simp only [Bool.true_and]
    cases hd : hasD d
    · have hd' := hd
      unfold hasD at hd'
      rw [Bool.or_eq_false_iff] at hd'
      cases ha : hasA d
      · have ha' := ha
        unfold hasA at ha'
        rw [Bool.or_eq_false_iff] at ha'
        simp [ha'.1, ha'.2, hd'.1]
      · have hs := hd
        unfold hasD at hs
        rw [Bool.or_eq_false_iff] at hs
        simp only [equal, complete, hd, ha, Bool.false_or, Bool.not_true, cond_false, no_eq (b := 1) (by decide), alike_fill kg, alike_fill kt, alike_refl hv, beq_self_eq_true, hs.1]
        cases there d.g <;> cases there d.t <;> cases d.e != 0 <;> cases d.c != 0 <;> simp
    · have ha : hasA d = false := by
        rw [hd] at hx
        simpa using hx
      simp only [equal, complete, hd, ha, Bool.true_or, cond_true, no_eq (b := 1) (by decide), alike_fill hv, alike_refl kg, alike_refl kt]
      cases there d.v <;> cases d.w != 0 <;> cases d.e != 0 <;> cases d.c != 0 <;> simp
theorem zero_not {d : D} (h : zero d = true) : hasD d = false ∧ hasA d = false ∧ d.e = 0 ∧ d.c = 0 := by
  unfold zero isD0 at h
  simp only [Bool.and_eq_true, beq_iff_eq] at h
  obtain ⟨⟨⟨h1, _⟩, ⟨h2, _⟩, ⟨h3, _⟩, h4, h5, h6, _⟩, _⟩ := h
  simp [hasD, hasA, there, h1, h2, h3, h4, h5, h6]
theorem whole_zero {d : D} (h : whole d = true) : zero d = false := by
  cases hz : zero d
  · rfl
  · obtain ⟨_, _, he, _⟩ := zero_not hz
    rw [whole_eq] at h
    simp [he] at h
theorem complete_w (d : D) : (complete d).e = no d.e 1 ∧ (complete d).c = no d.c 1 := by
  unfold complete
  cases hasD d || !hasA d <;> exact ⟨rfl, rfl⟩
theorem tri_one : tri 1 = true := rfl
theorem complete_D {d : D} (h : (hasD d || !hasA d) = true) : complete d = ⟨fill d.v, d.g, d.t, no d.w 1, no d.e 1, no d.c 1⟩ := by
  unfold complete; rw [h]; rfl
theorem complete_A {d : D} (h : (hasD d || !hasA d) = false) : complete d = ⟨d.v, fill d.g, fill d.t, d.w, no d.e 1, no d.c 1⟩ := by
  unfold complete; rw [h]; rfl
theorem no_ne (t : Int) {b : Int} (hb : b ≠ 0) : (no t b != 0) = true := by
  unfold no
  by_cases h0 : t = 0
  · subst h0; simpa using hb
  · have : (t == 0) = false := by simp [h0]
    rw [this]; simp [h0]
/-- Of a well-formed one. -/
theorem complete_whole {d : D} (h : check d = true) : whole (complete d) = true := by
  rw [whole_eq, check_eq]
  rw [check_eq] at h
  simp only [Bool.and_eq_true] at h
  obtain ⟨⟨hv, hg, ht, hw, he, hc⟩, hx⟩ := h
  have n1 := fun t => no_ne t (b := 1) (by decide)
  cases hk : hasD d || !hasA d
  · rw [complete_A hk]
    simp only [Bool.or_eq_false_iff, Bool.not_eq_false'] at hk
    have hs := hk.1
    unfold hasD at hs
    rw [Bool.or_eq_false_iff] at hs
    simp only [hasD, hasA, hs.1, hs.2, hv, callable_fill hg, callable_fill ht, hw, tri_no he tri_one, tri_no hc tri_one, n1, there_fill, Bool.false_and, Bool.and_false, Bool.or_false, Bool.false_or, Bool.not_false, Bool.not_true, Bool.and_true, Bool.true_or]
  · rw [complete_D hk]
    have ha : hasA d = false := by
      revert hk hx
      cases hasD d <;> cases hasA d <;> simp
    unfold hasA at ha
    rw [Bool.or_eq_false_iff] at ha
    simp only [hasD, hasA, ha.1, ha.2, okv_fill hv, hg, ht, tri_no hw tri_one, tri_no he tri_one, tri_no hc tri_one, n1, there_fill, Bool.false_and, Bool.and_false, Bool.or_false, Bool.false_or, Bool.not_false, Bool.not_true, Bool.and_true, Bool.true_or]
theorem there_orV (a b : V) : there (orV a b) = (there a || there b) := by
  unfold orV
  cases h : there b <;> simp [h]
theorem orT_ne (a b : Int) : (orT a b != 0) = (a != 0 || b != 0) := by
  unfold orT
  cases h : b != 0 <;> simp [h]
theorem hasD_over (a b : D) : hasD (over a b) = (hasD a || hasD b) := by
  simp only [hasD, over, there_orV, orT_ne]
  cases there a.v <;> cases there b.v <;> cases a.w != 0 <;> cases b.w != 0 <;> rfl
theorem hasA_over (a b : D) : hasA (over a b) = (hasA a || hasA b) := by
  simp only [hasA, over, there_orV]
  cases there a.g <;> cases there b.g <;> cases there a.t <;> cases there b.t <;> rfl
theorem okv_orV {a b : V} (ha : okv a = true) (hb : okv b = true) : okv (orV a b) = true := by
  unfold orV
  cases there b
  · exact ha
  · exact hb
theorem callable_orV {a b : V} (ha : callable a = true) (hb : callable b = true) : callable (orV a b) = true := by
  unfold orV
  cases there b
  · exact ha
  · exact hb
theorem kindN_of {d : D} (h : check d = true) : kindN d = bif hasD d then 1 else bif hasA d then 2 else 0 := by
  unfold kindN; rw [h]; rfl
theorem kind_zero {d : D} (h : check d = true) : (kindN d == 0) = (!hasD d && !hasA d) := by
  rw [kindN_of h]
  cases hasD d <;> cases hasA d <;> rfl
/-- Of two of one kind. -/
theorem over_whole {a b : D} (ha : whole a = true) (hb : check b = true) (hk : kindN b = 0 ∨ kindN b = kindN a) : whole (over a b) = true := by
  have hca : check a = true := by
    rw [whole_eq] at ha
    simp only [Bool.and_eq_true] at ha
    exact ha.1
  rw [kindN_of hca, kindN_of hb] at hk
  rw [whole_eq, check_eq, hasD_over, hasA_over]
  rw [whole_eq, check_eq] at ha
  rw [check_eq] at hb
  simp only [Bool.and_eq_true] at ha hb
  obtain ⟨⟨⟨hv, hg, ht, hw, he, hc⟩, hx⟩, hy, hz1, hz2⟩ := ha
  obtain ⟨⟨kv, kg, kt, kw, ke, kc⟩, kx⟩ := hb
  simp only [over, okv_orV hv kv, callable_orV hg kg, callable_orV ht kt, tri_orT hw kw, tri_orT he ke, tri_orT hc kc, there_orV, orT_ne, hz1, hz2, Bool.true_or, Bool.true_and, Bool.and_true]
  revert hk hx hy kx
  simp only [hasD, hasA]
  cases there a.v <;> cases there a.g <;> cases there a.t <;> cases a.w != 0 <;> cases there b.v <;> cases there b.g <;> cases there b.t <;> cases b.w != 0 <;> simp
end Go.Proofs.YtaojjpdlfnphiaaDoor.PDescKinds.S
