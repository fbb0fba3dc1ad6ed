/- Plain laws: what is frozen stays. -/
import Derived.Test.YtaojjpdlfnphiaaDoorP1
set_option linter.unusedSimpArgs false
set_option linter.unusedVariables false
set_option linter.unusedSectionVars false
namespace Go.Proofs.YtaojjpdlfnphiaaDoor.PDescKinds.S
open Ieee FloatEq
theorem cmp_symm (x y : Int) : (compare x y == Ordering.eq) = (compare y x == Ordering.eq) := by
  rw [compare_eq_int, compare_eq_int]
  exact decide_eq_decide.2 eq_comm
theorem order_symm (x y : Datum) : (Datum.order x y == some Ordering.eq) = (Datum.order y x == some Ordering.eq) := by
  cases x <;> cases y <;> simp only [Datum.order]
  case number.number s m i t n j =>
    rw [Int.min_comm j i]
    exact cmp_symm _ _
  case number.infinity => split <;> rfl
  case infinity.number => split <;> rfl
  case infinity.infinity s t => cases s <;> cases t <;> rfl
theorem feq_symm (a b : Nat) : feq a b = feq b a := order_symm _ _
theorem numSame_symm (a b : Nat) : numSame a b = numSame b a := by
  unfold numSame
  rw [feq_symm a b, Bool.or_comm, Bool.and_comm (nan a), Bool.beq_comm (a := neg a)]
theorem same_symm (a b : V) : same a b = same b a := by
  unfold same
  have h1 : (a.k == b.k) = (b.k == a.k) := BEq.comm
  have h2 : (a.b == b.b) = (b.b == a.b) := BEq.comm
  have h3 : (a.s.toList == b.s.toList) = (b.s.toList == a.s.toList) := BEq.comm
  have h4 : (a.id == b.id) = (b.id == a.id) := BEq.comm
  rw [numSame_symm a.n b.n, Bool.and_comm (a.k == 4), h1, h2, h3, h4]
theorem alike_symm (a b : V) : alike a b = alike b a := by
  unfold alike
  rw [same_symm a b, Bool.and_comm (there a), Bool.and_comm (good a), Bool.beq_comm (a := there a)]
structure Ice (a : D) : Prop where
  whole : whole a = true
  c : a.c = 1
  w : hasD a = true → a.w = 1
theorem equal_refl {a : D} (h : check a = true) : equal a a = true := by
  obtain ⟨kv, kg, kt⟩ := okv_of h
  simp [equal, alike_refl kv, alike_refl kg, alike_refl kt]
theorem tri_cases {t : Int} (h : tri t = true) (h2 : (t == 2) = false) : t = 0 ∨ t = 1 := by
  unfold tri at h
  simp only [Bool.and_eq_true, decide_eq_true_eq] at h
  rw [beq_eq_false_iff_ne] at h2
  omega
/-- What is frozen stays. -/
theorem Ice.step {a d : D} (x : Bool) (h : Ice a) (ho : okA a d = true) : check (apply x a d).1 = true ∧ equal a (apply x a d).1 = true ∧ Ice (apply x a d).1 := by
  have hca := check_whole h.whole
  rcases apply_cases x ho with e | ⟨h2, hf⟩
  · rw [e]
    exact ⟨hca, equal_refl hca, h⟩
  · refine ⟨check_whole hf.whole, ?_⟩
    obtain ⟨hcd, _⟩ := okA_of ho
    have hz := whole_zero h.whole
    unfold S.apply at h2 hf ⊢
    rw [hz] at h2 hf ⊢
    simp only [cond_false] at h2 hf ⊢
    have hc1 : (a.c == 1) = true := by simp [h.c]
    rw [hc1] at h2 hf ⊢
    simp only [Bool.true_and] at h2 hf ⊢
    cases hb : barred a d
    case true => rw [hb] at h2; cases h2
    rw [hb] at h2 hf
    simp only [cond_false] at h2 hf ⊢
    unfold barred at hb
    cases h3 : (d.c == 2 || (d.e != 0 && d.e != a.e))
    case true => rw [h3] at hb; cases hb
    rw [h3] at hb
    simp only [cond_false] at hb
    rw [Bool.or_eq_false_iff] at h3
    obtain ⟨hc2, he2⟩ := h3
    have htri := hcd
    rw [check_eq] at htri
    simp only [Bool.and_eq_true] at htri
    obtain ⟨⟨kv, kg, kt, kw, ke, kc⟩, kx⟩ := htri
    obtain ⟨av, ag, at_⟩ := okv_of hca
    have ekind : (kindN d != 0 && kindN d != kindN a) = false := by
      cases hk : kindN d == 0
      · rw [hk] at hb
        simp only [cond_false] at hb
        cases hk2 : kindN d != kindN a
        · simp
        · rw [hk2] at hb; cases hb
      · simp only [beq_iff_eq] at hk
        simp [hk]
    rw [ekind] at hf ⊢
    simp only [cond_false] at hf ⊢
    have eE : orT a.e d.e = a.e := orT_same fun hn => by
      by_cases h4 : d.e = a.e
      · exact h4.symm
      · simp [hn, h4] at he2
    have eC : orT a.c d.c = a.c := orT_same fun hn => by
      rcases tri_cases kc hc2 with h4 | h4
      · exact absurd h4 hn
      · rw [h4, h.c]
    -- the kinds
    have hkA := kindN_whole h.whole
    have hkD := kindN_of hcd
    have parts : orT a.w d.w = a.w ∧ (there d.v = true → alike d.v a.v = true) ∧ (there d.g = true → alike d.g a.g = true) ∧ (there d.t = true → alike d.t a.t = true) ∧ (hasD d = true → hasD a = true) := by
      cases hk : kindN d == 0
      · rw [hk] at hb
        simp only [cond_false] at hb
        have hk2 : kindN d = kindN a := by
          have h5 : (kindN d != 0) = true := by simpa using hk
          rw [h5, Bool.true_and] at ekind
          simpa using ekind
        have e0 : (kindN d != kindN a) = false := by simp [hk2]
        rw [e0] at hb
        simp only [cond_false] at hb
        cases hD : hasD a
        · rw [hD] at hkA
          simp only [cond_false] at hkA
          have hd2 : kindN d = 2 := hk2.trans hkA
          have hnd : hasD d = false := by
            cases hq : hasD d
            · rfl
            · rw [hkD, hq] at hd2; simp at hd2
          rw [hd2] at hb
          simp only [beq_self_eq_true, cond_true, Bool.or_eq_false_iff] at hb
          unfold hasD at hnd
          rw [Bool.or_eq_false_iff] at hnd
          refine ⟨orT_same fun hn => ?_, fun hv => ?_, fun hg => ?_, fun ht => ?_, fun hq => ?_⟩
          · have := hnd.2; simp [hn] at this
          · rw [hnd.1] at hv; cases hv
          · have := hb.1; rw [hg] at this; simpa using this
          · have := hb.2; rw [ht] at this; simpa using this
          · unfold hasD at hq; rw [hnd.1, hnd.2] at hq; cases hq
        · rw [hD] at hkA
          simp only [cond_true] at hkA
          have hd2 : kindN d = 1 := hk2.trans hkA
          rw [hd2] at hb
          have e2 : ((1 : Int) == 2) = false := rfl
          rw [e2, h.w hD] at hb
          simp only [cond_false, beq_self_eq_true, Bool.true_and, Bool.or_eq_false_iff] at hb
          have hD1 : hasD d = true := by
            cases hq : hasD d
            · exfalso
              rw [hkD, hq] at hd2
              revert hd2
              cases hasA d <;> decide
            · rfl
          have hnA : hasA d = false := by
            rw [hD1] at kx; simpa using kx
          unfold hasA at hnA
          rw [Bool.or_eq_false_iff] at hnA
          refine ⟨orT_same fun hn => ?_, fun hv => ?_, fun hg => ?_, fun ht => ?_, fun _ => rfl⟩
          · rcases tri_cases kw hb.1 with h4 | h4
            · exact absurd h4 hn
            · rw [h4, h.w hD]
          · have := hb.2; rw [hv] at this; simpa using this
          · rw [hnA.1] at hg; cases hg
          · rw [hnA.2] at ht; cases ht
      · have hz2 := kind_zero hcd
        rw [hk] at hz2
        have hz3 := hz2.symm
        rw [Bool.and_eq_true, Bool.not_eq_true', Bool.not_eq_true'] at hz3
        obtain ⟨hnd, hna⟩ := hz3
        have hnd' := hnd
        unfold hasD at hnd
        unfold hasA at hna
        rw [Bool.or_eq_false_iff] at hnd hna
        refine ⟨orT_same fun hn => ?_, fun hv => ?_, fun hg => ?_, fun ht => ?_, fun hq => ?_⟩
        · have := hnd.2; simp [hn] at this
        · rw [hnd.1] at hv; cases hv
        · rw [hna.1] at hg; cases hg
        · rw [hna.2] at ht; cases ht
        · rw [hnd'] at hq; cases hq
    obtain ⟨eW, pv, pg, pt, pD⟩ := parts
    have hor : ∀ {x y : V}, okv x = true → (there y = true → alike y x = true) → alike x (orV x y) = true := by
      intro x y hx hy
      unfold orV
      cases ht : there y
      · exact alike_refl hx
      · simp only [cond_true]
        rw [alike_symm]
        exact hy ht
    have eover : over a d = ⟨orV a.v d.v, orV a.g d.g, orV a.t d.t, a.w, a.e, a.c⟩ := by unfold over; rw [eW, eE, eC]
    refine ⟨?_, hf.whole, ?_, ?_⟩
    · rw [eover]
      unfold equal
      simp only [beq_self_eq_true, Bool.true_and]
      rw [hor av pv, hor ag pg, hor at_ pt]
      rfl
    · rw [eover]; exact h.c
    · intro hD
      rw [hasD_over] at hD
      rw [eover]
      refine h.w ?_
      rw [Bool.or_eq_true] at hD
      rcases hD with hD | hD
      · exact hD
      · exact pD hD
end Go.Proofs.YtaojjpdlfnphiaaDoor.PDescKinds.S
