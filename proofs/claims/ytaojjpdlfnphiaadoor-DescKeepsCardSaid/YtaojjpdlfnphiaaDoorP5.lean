/- Plain laws: what never changes, over any steps. -/
import Derived.Test.YtaojjpdlfnphiaaDoorP4
set_option linter.unusedSimpArgs false
set_option linter.unusedVariables false
set_option linter.unusedSectionVars false
namespace Go.Proofs.YtaojjpdlfnphiaaDoor.PDescKinds.S
open Ieee FloatEq
def sg (s : Bool) : Int := bif s then -1 else 1
theorem signed_mul (s : Bool) (m i : Nat) : signed s m i = sg s * m * 2 ^ i := by
  have h : ((m <<< i : Nat) : Int) = (m : Int) * 2 ^ i := by
    rw [Nat.shiftLeft_eq]
    push_cast
    rfl
  cases s
  · show ((m <<< i : Nat) : Int) = _
    rw [h]; simp [sg]
  · show -((m <<< i : Nat) : Int) = _
    rw [h]; simp [sg, Int.neg_mul]
theorem cmp_iff (x y : Int) : (some (compare x y) == some Ordering.eq) = true ↔ x = y := by
  have := compare_eq_int x y
  show (compare x y == Ordering.eq) = true ↔ _
  rw [this]
  simp
theorem pow_split (A : Int) (i k q : Int) (h1 : q ≤ k) (h2 : k ≤ i) : A * 2 ^ (i - q).toNat = A * 2 ^ (i - k).toNat * 2 ^ (k - q).toNat := by
  rw [Int.mul_assoc, ← Int.pow_add]
  congr 2
  omega
theorem pow_inj {A B : Int} {k : Nat} (h : A * 2 ^ k = B * 2 ^ k) : A = B := Int.eq_of_mul_eq_mul_right (by
  have : (0 : Int) < 2 ^ k := Int.pow_pos (by decide)
  omega) h
theorem order_trans (x y z : Datum) (h1 : (Datum.order x y == some Ordering.eq) = true) (h2 : (Datum.order y z == some Ordering.eq) = true) : (Datum.order x z == some Ordering.eq) = true := by
  cases x <;> cases y <;> simp only [Datum.order] at h1
  case number.number s m i t n j =>
    cases z <;> simp only [Datum.order] at h2 ⊢
    case number u p l =>
      rw [cmp_iff, signed_mul, signed_mul] at h1 h2 ⊢
      have hq : ∃ q : Int, q ≤ i ∧ q ≤ j ∧ q ≤ l := ⟨min i (min j l), by omega, by omega, by omega⟩
      obtain ⟨q, q1, q2, q3⟩ := hq
      have e1 : sg s * m * 2 ^ (i - q).toNat = sg t * n * 2 ^ (j - q).toNat := by
        rw [pow_split _ i (min i j) q (by omega) (by omega), pow_split _ j (min i j) q (by omega) (by omega), h1]
      have e2 : sg t * n * 2 ^ (j - q).toNat = sg u * p * 2 ^ (l - q).toNat := by
        rw [pow_split _ j (min j l) q (by omega) (by omega), pow_split _ l (min j l) q (by omega) (by omega), h2]
      have e3 := e1.trans e2
      rw [pow_split _ i (min i l) q (by omega) (by omega), pow_split _ l (min i l) q (by omega) (by omega)] at e3
      exact pow_inj e3
    case infinity u => cases u <;> simp at h2
    all_goals simp at h2
  case number.infinity s m i t => cases t <;> simp at h1
  case infinity.number s t n j => cases s <;> simp at h1
  case infinity.infinity s t =>
    cases z <;> simp only [Datum.order] at h2 ⊢
    case number u p l => cases t <;> simp at h2
    case infinity u => revert h1 h2; cases s <;> cases t <;> cases u <;> decide
    all_goals simp at h2
  all_goals simp at h1
theorem feq_trans {a b c : Nat} (h1 : feq a b = true) (h2 : feq b c = true) : feq a c = true := order_trans _ _ _ h1 h2
theorem numSame_trans {a b c : Nat} (h1 : numSame a b = true) (h2 : numSame b c = true) : numSame a c = true := by
  unfold numSame at h1 h2 ⊢
  cases ha : nan a <;> cases hb : nan b <;> cases hc : nan c <;> simp only [ha, hb, hc, Bool.or_self, Bool.or_true, Bool.or_false, Bool.true_or, Bool.false_or, cond_true, cond_false, Bool.and_self, Bool.and_true, Bool.and_false, Bool.true_and, Bool.false_and, Bool.false_eq_true] at h1 h2 ⊢
  rw [Bool.and_eq_true] at h1 h2 ⊢
  refine ⟨feq_trans h1.1 h2.1, ?_⟩
  have e1 : neg a = neg b := by simpa using h1.2
  have e2 : neg b = neg c := by simpa using h2.2
  simp [e1, e2]
theorem same_k {a b : V} (h : same a b = true) : a.k = b.k := by
  unfold same at h
  cases h4 : (a.k == 4 && b.k == 4)
  · rw [h4] at h
    simp only [cond_false, Bool.and_eq_true] at h
    simpa using h.1
  · simp only [Bool.and_eq_true, beq_iff_eq] at h4
    rw [h4.1, h4.2]
theorem same_trans {a b c : V} (h1 : same a b = true) (h2 : same b c = true) : same a c = true := by
  have k1 := same_k h1
  have k2 := same_k h2
  unfold same at h1 h2 ⊢
  rw [k1, k2] at h1
  rw [k2] at h2
  rw [k1, k2]
  cases h4 : (c.k == 4)
  · rw [h4] at h1 h2
    simp only [Bool.and_self, cond_false, Bool.and_eq_true, beq_iff_eq] at h1 h2 ⊢
    obtain ⟨_, b1, s1, i1⟩ := h1
    obtain ⟨_, b2, s2, i2⟩ := h2
    exact ⟨trivial, b1.trans b2, s1.trans s2, i1.trans i2⟩
  · rw [h4] at h1 h2
    exact numSame_trans h1 h2
theorem alike_trans {a b c : V} (h1 : alike a b = true) (h2 : alike b c = true) : alike a c = true := by
  unfold alike at h1 h2 ⊢
  cases ha : there a <;> cases hb : there b <;> cases hc : there c <;> simp only [ha, hb, hc, Bool.and_self, Bool.and_true, Bool.and_false, Bool.false_and, Bool.true_and, cond_true, cond_false, Bool.and_eq_true, beq_self_eq_true, Bool.true_beq, Bool.false_beq, Bool.not_true, Bool.not_false, Bool.false_eq_true] at h1 h2 ⊢
  exact ⟨⟨h1.1.1, h2.1.2⟩, same_trans h1.2 h2.2⟩
theorem alike_orV {x y : V} (hx : okv x = true) (hy : there y = true → alike y x = true) : alike x (orV x y) = true := by
  unfold orV
  cases ht : there y
  · exact alike_refl hx
  · simp only [cond_true]
    rw [alike_symm]
    exact hy ht
/-- What may not be configured: what a step changes of it. -/
theorem hard_step {a d : D} (x : Bool) (hw : whole a = true) (hc : a.c = 1) (ho : okA a d = true) :
    whole (apply x a d).1 = true ∧ (apply x a d).1.c = 1 ∧ (apply x a d).1.e = a.e ∧ hasD (apply x a d).1 = hasD a ∧ alike a.g (apply x a d).1.g = true ∧ alike a.t (apply x a d).1.t = true ∧
    (a.w = 1 → (apply x a d).1.w = 1 ∧ alike a.v (apply x a d).1.v = true) := by
  have hca := check_whole hw
  obtain ⟨av, ag, at_⟩ := okv_of hca
  rcases apply_cases x ho with e | ⟨h2, hf⟩
  · rw [e]
    exact ⟨hw, hc, rfl, rfl, alike_refl ag, alike_refl at_, fun h => ⟨h, alike_refl av⟩⟩
  · obtain ⟨hcd, _⟩ := okA_of ho
    have hz := whole_zero hw
    have hc1 : (a.c == 1) = true := by simp [hc]
    unfold S.apply at h2 hf ⊢
    rw [hz, hc1] at h2 hf ⊢
    simp only [cond_false, Bool.true_and] at h2 hf ⊢
    cases hb : barred a d
    case true => rw [hb] at h2; cases h2
    rw [hb] at h2 hf
    simp only [cond_false] at h2 hf ⊢
    unfold barred at hb
    cases h3 : (d.c == 2 || (d.e != 0 && d.e != a.e))
    case true => rw [h3] at hb; cases hb
    rw [h3] at hb
    simp only [cond_false] at hb
    rw [Bool.or_eq_false_iff] at h3
    obtain ⟨hc2, he2⟩ := h3
    have htri := hcd
    rw [check_eq] at htri
    simp only [Bool.and_eq_true] at htri
    obtain ⟨⟨kv, kg, kt, kw, ke, kc⟩, kx⟩ := htri
    have ekind : (kindN d != 0 && kindN d != kindN a) = false := by
      cases hk : kindN d == 0
      · rw [hk] at hb
        simp only [cond_false] at hb
        cases hk2 : kindN d != kindN a
        · simp
        · rw [hk2] at hb; cases hb
      · simp only [beq_iff_eq] at hk
        simp [hk]
    rw [ekind] at hf ⊢
    simp only [cond_false] at hf ⊢
    have eE : orT a.e d.e = a.e := orT_same fun hn => by
      by_cases h4 : d.e = a.e
      · exact h4.symm
      · simp [hn, h4] at he2
    have eC : orT a.c d.c = a.c := orT_same fun hn => by
      rcases tri_cases kc hc2 with h4 | h4
      · exact absurd h4 hn
      · rw [h4, hc]
    have hkA := kindN_whole hw
    have hkD := kindN_of hcd
    have parts : (a.w = 1 → orT a.w d.w = a.w ∧ (there d.v = true → alike d.v a.v = true)) ∧ (there d.g = true → alike d.g a.g = true) ∧ (there d.t = true → alike d.t a.t = true) ∧ (hasD d = true → hasD a = true) := by
      cases hk : kindN d == 0
      · rw [hk] at hb
        simp only [cond_false] at hb
        have hk2 : kindN d = kindN a := by
          have h5 : (kindN d != 0) = true := by simpa using hk
          rw [h5, Bool.true_and] at ekind
          simpa using ekind
        have e0 : (kindN d != kindN a) = false := by simp [hk2]
        rw [e0] at hb
        simp only [cond_false] at hb
        cases hD : hasD a
        · rw [hD] at hkA
          simp only [cond_false] at hkA
          have hd2 : kindN d = 2 := hk2.trans hkA
          have hnd : hasD d = false := by
            cases hq : hasD d
            · rfl
            · rw [hkD, hq] at hd2; simp at hd2
          rw [hd2] at hb
          simp only [beq_self_eq_true, cond_true, Bool.or_eq_false_iff] at hb
          unfold hasD at hnd
          rw [Bool.or_eq_false_iff] at hnd
          refine ⟨fun _ => ⟨orT_same fun hn => ?_, fun hv => ?_⟩, fun hg => ?_, fun ht => ?_, fun hq => ?_⟩
          · have := hnd.2; simp [hn] at this
          · rw [hnd.1] at hv; cases hv
          · have := hb.1; rw [hg] at this; simpa using this
          · have := hb.2; rw [ht] at this; simpa using this
          · unfold hasD at hq; rw [hnd.1, hnd.2] at hq; cases hq
        · rw [hD] at hkA
          simp only [cond_true] at hkA
          have hd2 : kindN d = 1 := hk2.trans hkA
          rw [hd2] at hb
          have e2 : ((1 : Int) == 2) = false := rfl
          rw [e2] at hb
          simp only [cond_false] at hb
          have hD1 : hasD d = true := by
            cases hq : hasD d
            · exfalso
              rw [hkD, hq] at hd2
              revert hd2
              cases hasA d <;> decide
            · rfl
          have hnA : hasA d = false := by
            rw [hD1] at kx; simpa using kx
          unfold hasA at hnA
          rw [Bool.or_eq_false_iff] at hnA
          refine ⟨fun hw1 => ?_, fun hg => ?_, fun ht => ?_, fun _ => rfl⟩
          · rw [hw1] at hb ⊢
            simp only [beq_self_eq_true, Bool.true_and, Bool.or_eq_false_iff] at hb
            refine ⟨orT_same fun hn => ?_, fun hv => ?_⟩
            · rcases tri_cases kw hb.1 with h4 | h4
              · exact absurd h4 hn
              · exact h4.symm
            · have := hb.2; rw [hv] at this; simpa using this
          · rw [hnA.1] at hg; cases hg
          · rw [hnA.2] at ht; cases ht
      · have hz2 := kind_zero hcd
        rw [hk] at hz2
        have hz3 := hz2.symm
        rw [Bool.and_eq_true, Bool.not_eq_true', Bool.not_eq_true'] at hz3
        obtain ⟨hnd, hna⟩ := hz3
        have hnd' := hnd
        unfold hasD at hnd
        unfold hasA at hna
        rw [Bool.or_eq_false_iff] at hnd hna
        refine ⟨fun _ => ⟨orT_same fun hn => ?_, fun hv => ?_⟩, fun hg => ?_, fun ht => ?_, fun hq => ?_⟩
        · have := hnd.2; simp [hn] at this
        · rw [hnd.1] at hv; cases hv
        · rw [hna.1] at hg; cases hg
        · rw [hna.2] at ht; cases ht
        · rw [hnd'] at hq; cases hq
    obtain ⟨pw, pg, pt, pD⟩ := parts
    refine ⟨hf.whole, eC.trans hc, eE, ?_, alike_orV ag pg, alike_orV at_ pt, fun h1 => ?_⟩
    · rw [hasD_over]
      cases hD : hasD a
      · cases hq : hasD d
        · rfl
        · rw [pD hq] at hD; cases hD
      · rfl
    · obtain ⟨p1, p2⟩ := pw h1
      exact ⟨p1.trans h1, alike_orV av p2⟩
theorem isA_whole {a : D} (h : whole a = true) : isA a = !hasD a := by
  have hc := check_whole h
  unfold isA
  rw [hc]
  rw [whole_eq] at h
  simp only [Bool.and_eq_true] at h
  have := h.2.1
  revert this
  unfold hasD hasA
  cases there a.v <;> cases a.w != 0 <;> cases there a.g <;> cases there a.t <;> simp
/-- Whole, or nothing at all. -/
def wz (a : D) : Bool := whole a || zero a
theorem okK_eq (a b : D) : okK a b = (wz a && wz b) := rfl
theorem okA_eq (a d : D) : okA a d = (check d && wz a) := rfl
theorem whole_wz {a : D} (h : wz a = true) (hz : zero a = false) : whole a = true := by
  unfold wz at h
  rw [hz, Bool.or_false] at h
  exact h
theorem apply_wz {a d : D} (x : Bool) (ho : okA a d = true) : wz (apply x a d).1 = true := by
  rcases apply_cases x ho with e | ⟨_, hf⟩
  · rw [e]
    rw [okA_eq, Bool.and_eq_true] at ho
    exact ho.2
  · unfold wz; rw [hf.whole]; rfl
theorem tri_pos {t : Int} (h : tri t = true) (h0 : t ≠ 0) (h2 : (t == 2) = false) : t = 1 := by
  rcases tri_cases h h2 with h | h
  · exact absurd h h0
  · exact h
theorem keeps_refl {a : D} (h : wz a = true) : keeps a a = true := by
  unfold keeps
  cases hz : zero a
  · have hw := whole_wz h hz
    have hc := check_whole hw
    obtain ⟨av, ag, at_⟩ := okv_of hc
    have htri := hc
    rw [check_eq] at htri
    simp only [Bool.and_eq_true] at htri
    obtain ⟨⟨kv, kg, kt, kw, ke, kc⟩, kx⟩ := htri
    cases h2 : a.c == 2
    · have h1 := tri_pos kc (whole_ec hw).2 h2
      simp only [Bool.or_self, cond_false, h1, bne_self_eq_false, cond_false]
      cases hA : isA a
      · simp only [cond_false, alike_refl av, Bool.and_true]
        rw [isA_whole hw] at hA
        cases hw2 : a.w == 2
        · have hwn : a.w ≠ 0 := by
            rw [whole_eq] at hw
            simp only [Bool.and_eq_true] at hw
            have h3 := hw.2.1
            intro h0
            have hD : hasD a = true := by simpa using hA
            rw [hD] at h3
            simp [h0] at h3
          rw [tri_pos kw hwn hw2]
          rfl
        · rfl
      · simp [alike_refl ag, alike_refl at_]
    · simp
  · simp
/-- What keeps, keeps over a step more. -/
theorem keeps_step {a b d : D} (x : Bool) (h : keeps a b = true) (ho : okA b d = true) : keeps a (apply x b d).1 = true := by
  unfold keeps at h ⊢
  cases h0 : zero a || a.c == 2
  · rw [h0] at h
    simp only [cond_false] at h ⊢
    cases h1 : zero b || (b.c != 1 || (b.e != a.e || isA a != isA b))
    case true => rw [h1] at h; cases h
    rw [h1] at h
    simp only [cond_false] at h
    simp only [Bool.or_eq_false_iff] at h1
    obtain ⟨hz, hc, he, hk⟩ := h1
    have hwz : wz b = true := by
      rw [okA_eq, Bool.and_eq_true] at ho
      exact ho.2
    have hw := whole_wz hwz hz
    have hc1 : b.c = 1 := by simpa using hc
    obtain ⟨r1, r2, r3, r4, r5, r6, r7⟩ := hard_step x hw hc1 ho
    have e1 : zero (apply x b d).1 = false := whole_zero r1
    have e2 : isA (apply x b d).1 = isA b := by rw [isA_whole r1, isA_whole hw, r4]
    have e3 : ((apply x b d).1.e != a.e) = false := by rw [r3]; exact he
    have e4 : ((apply x b d).1.c != 1) = false := by rw [r2]; rfl
    rw [e1, e2, e3, e4, hk]
    simp only [Bool.or_self, cond_false]
    cases hA : isA a
    · rw [hA] at h
      simp only [cond_false] at h ⊢
      cases hw2 : a.w == 2
      · rw [hw2] at h
        simp only [Bool.false_or, Bool.and_eq_true, beq_iff_eq] at h ⊢
        obtain ⟨q1, q2⟩ := r7 h.1
        exact ⟨q1, alike_trans h.2 q2⟩
      · rfl
    · rw [hA] at h
      simp only [cond_true, Bool.and_eq_true] at h ⊢
      exact ⟨alike_trans h.1 r5, alike_trans h.2 r6⟩
  · rfl
end Go.Proofs.YtaojjpdlfnphiaaDoor.PDescKinds.S
