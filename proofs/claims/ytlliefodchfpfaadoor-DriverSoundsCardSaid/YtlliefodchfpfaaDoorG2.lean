/-
  Floats by their bits: which are no numbers, and that '==' of two numbers of one sign is '=' of their bits.
-/
import Derived.Test.YtlliefodchfpfaaDoorG1
import Derived.Laws.BitsAllLaws
set_option linter.unusedSimpArgs false
set_option linter.unusedVariables false
set_option linter.unusedSectionVars false
namespace Go.Proofs.YtlliefodchfpfaaDoor.FloatEq
open Go.Proofs.YtlliefodchfpfaaDoorW.PrintWords
open Ieee

def rung (a : Nat) : Nat := a % 9223372036854775808
def sgn (a : Nat) : Bool := a / 9223372036854775808 % 2 == 1
def infR : Nat := 9218868437227405312
theorem sw : Format.signWeight double = 9223372036854775808 := by decide +kernel
theorem bin : Format.binade double = 4503599627370496 := by decide +kernel
theorem inf : Format.infRung double = 9218868437227405312 := by decide +kernel
theorem read_eq (a : Nat) : Format.read double a = if rung a < 4503599627370496 then .number (sgn a) (rung a) double.leastPlace
    else if rung a < infR then .number (sgn a) (4503599627370496 + rung a % 4503599627370496) (double.leastPlace + (rung a / 4503599627370496 - 1 : Nat))
    else if rung a = infR then .infinity (sgn a) else .nan (sgn a) (rung a - infR) := by
  simp only [Format.read, sw, bin, inf, rung, sgn, infR]
  rfl
theorem nan_iff (a : Nat) : fne a a = decide (infR < rung a) := by
  unfold fne feq Format.order
  rw [read_eq]
  split
  · rename_i h
    have : ¬ infR < rung a := by unfold infR; omega
    simp [Datum.order, this]
  · split
    · rename_i h
      have : ¬ infR < rung a := by omega
      simp [Datum.order, this]
    · split
      · rename_i h
        have : ¬ infR < rung a := by omega
        simp [Datum.order, this]
      · have : infR < rung a := by omega
        simp [Datum.order, this]
theorem signed_eq {s : Bool} {m n : Nat} {i j : Nat} : (signed s m i = signed s n j) ↔ m * 2 ^ i = n * 2 ^ j := by
  rw [← Nat.shiftLeft_eq, ← Nat.shiftLeft_eq]
  cases s
  · exact Int.ofNat_inj
  · exact Int.neg_inj.trans Int.ofNat_inj
theorem compare_eq_int (x y : Int) : (compare x y == Ordering.eq) = decide (x = y) := by
  by_cases h : x = y
  · subst h; simp
  · simp only [h, decide_false, beq_eq_false_iff_ne, ne_eq]
    intro hc
    exact h (Int.compare_eq_eq.1 hc)
theorem pow_ne {m n d : Nat} (hm : m < 9007199254740992) (hn : 4503599627370496 ≤ n) (hd : 1 ≤ d) : m ≠ n * 2 ^ d := by
  obtain ⟨e, rfl⟩ : ∃ e, d = e + 1 := ⟨d - 1, by omega⟩
  have h1 : 1 ≤ 2 ^ e := Nat.one_le_two_pow
  have h2 : n * 1 ≤ n * 2 ^ e := Nat.mul_le_mul_left n h1
  rw [Nat.pow_succ, ← Nat.mul_assoc]
  omega
theorem num_eq {s : Bool} {m n p q : Nat} {L : Int} (hm : m < 9007199254740992) (hn : n < 9007199254740992) (hp : 0 < p → 4503599627370496 ≤ m) (hq : 0 < q → 4503599627370496 ≤ n) :
    (Datum.order (.number s m (L + (p : Nat))) (.number s n (L + (q : Nat))) == some .eq) = decide (m = n ∧ p = q) := by
  show (some (compare _ _) == some Ordering.eq) = _
  rw [show ∀ o : Ordering, (some o == some Ordering.eq) = (o == Ordering.eq) from fun o => by cases o <;> rfl, compare_eq_int]
  refine decide_eq_decide.2 ?_
  rw [signed_eq]
  by_cases hpq : p ≤ q
  · rw [show min (L + (p : Int)) (L + q) = L + p by omega, show (L + (p : Int) - (L + p)).toNat = 0 by omega, show (L + (q : Int) - (L + p)).toNat = q - p by omega]
    by_cases he : q = p
    · subst he; simp
    · have := pow_ne (d := q - p) hm (hq (by omega)) (by omega)
      simp only [Nat.pow_zero, Nat.mul_one]
      constructor
      · intro h; exact absurd h this
      · rintro ⟨_, h⟩; omega
  · rw [show min (L + (p : Int)) (L + q) = L + q by omega, show (L + (q : Int) - (L + q)).toNat = 0 by omega, show (L + (p : Int) - (L + q)).toNat = p - q by omega]
    have := pow_ne (d := p - q) hn (hp (by omega)) (by omega)
    simp only [Nat.pow_zero, Nat.mul_one]
    constructor
    · intro h; exact absurd h.symm this
    · rintro ⟨_, h⟩; omega
theorem feq_same {a b : Nat} (ha : ¬ infR < rung a) (hb : ¬ infR < rung b) (hs : sgn a = sgn b) : feq a b = decide (rung a = rung b) := by
  unfold feq Format.order
  rw [read_eq, read_eq, ← hs]
  by_cases ia : rung a = infR
  · by_cases ib : rung b = infR
    · rw [if_neg (by rw [ia]; unfold infR; omega), if_neg (by omega), if_pos ia, if_neg (by rw [ib]; unfold infR; omega), if_neg (by omega), if_pos ib]
      simp [Datum.order, ia, ib]
    · rw [if_neg (by rw [ia]; unfold infR; omega), if_neg (by omega), if_pos ia]
      have hne : ¬ rung a = rung b := by omega
      split
      · cases sgn a <;> simp [Datum.order, hne]
      · split
        · cases sgn a <;> simp [Datum.order, hne]
        · omega
  · by_cases ib : rung b = infR
    · have hne : ¬ rung a = rung b := by omega
      rw [if_neg (show ¬ rung b < 4503599627370496 by rw [ib]; unfold infR; omega), if_neg (show ¬ rung b < infR by omega), if_pos ib]
      split
      · cases sgn a <;> simp [Datum.order, hne]
      · split
        · cases sgn a <;> simp [Datum.order, hne]
        · omega
    · have la : rung a < infR := by omega
      have lb : rung b < infR := by omega
      have form : ∀ r, r < infR → (if r < 4503599627370496 then Datum.number (sgn a) r double.leastPlace else if r < infR then .number (sgn a) (4503599627370496 + r % 4503599627370496) (double.leastPlace + (r / 4503599627370496 - 1 : Nat)) else if r = infR then .infinity (sgn a) else .nan (sgn a) (r - infR)) =
          Datum.number (sgn a) (if r < 4503599627370496 then r else 4503599627370496 + r % 4503599627370496) (double.leastPlace + ((if r < 4503599627370496 then 0 else r / 4503599627370496 - 1 : Nat) : Nat)) := by
        intro r hr
        by_cases h : r < 4503599627370496
        · simp [h]
        · simp [h, hr]
      rw [form _ la, form _ lb, num_eq]
      · refine decide_eq_decide.2 ⟨?_, fun h => by rw [h]; simp⟩
        split <;> split <;> omega
      · split <;> omega
      · split <;> omega
      · split <;> omega
      · split <;> omega
theorem feq_zero (n : Nat) : feq n 0 = decide (rung n = 0) := by
  unfold feq Format.order
  rw [read_eq, show Format.read double 0 = .number false 0 double.leastPlace from by rw [read_eq]; rfl]
  split
  · rename_i h
    simp only [Datum.order, Int.min_self, Int.sub_self, Int.toNat_zero]
    by_cases h0 : rung n = 0
    · rw [h0]
      cases sgn n <;> simp [signed]
    · have : (signed (sgn n) (rung n) 0 == signed false 0 0) = false := by
        cases sgn n <;> simp [signed, h0]
      rw [decide_eq_false h0]
      have hne : signed (sgn n) (rung n) 0 ≠ signed false 0 0 := by simpa using this
      cases hc : compare (signed (sgn n) (rung n) 0) (signed false 0 0) with
      | lt => rfl
      | gt => rfl
      | eq => exact absurd (Int.compare_eq_eq.1 hc) hne
  · split
    · rename_i h h2
      have h0 : ¬ rung n = 0 := by omega
      rw [decide_eq_false h0]
      simp only [Datum.order]
      have hp : ∀ a b : Nat, 0 < (4503599627370496 + a) <<< b := fun a b => by
        rw [Nat.shiftLeft_eq]
        exact Nat.mul_pos (by omega) (Nat.two_pow_pos b)
      have hz : ∀ b : Nat, (0 : Nat) <<< b = 0 := fun b => by rw [Nat.shiftLeft_eq, Nat.zero_mul]
      generalize hb : (double.leastPlace + ((rung n / 4503599627370496 - 1 : Nat) : Int) - min (double.leastPlace + ((rung n / 4503599627370496 - 1 : Nat) : Int)) double.leastPlace).toNat = b
      generalize (double.leastPlace - min (double.leastPlace + ((rung n / 4503599627370496 - 1 : Nat) : Int)) double.leastPlace).toNat = b'
      have := hp (rung n % 4503599627370496) b
      have hne : signed (sgn n) (4503599627370496 + rung n % 4503599627370496) b ≠ signed false 0 b' := by
        unfold signed
        rw [hz]
        cases sgn n
        · simp only [Bool.false_eq_true, if_false]
          omega
        · simp only [if_true, Bool.false_eq_true, if_false]
          omega
      cases hc : compare (signed (sgn n) (4503599627370496 + rung n % 4503599627370496) b) (signed false 0 b') with
      | lt => rfl
      | gt => rfl
      | eq => exact absurd (Int.compare_eq_eq.1 hc) hne
    · split
      · rename_i h h2 h3
        have h0 : ¬ rung n = 0 := by rw [h3]; unfold infR; omega
        rw [decide_eq_false h0]
        cases sgn n <;> rfl
      · rename_i h h2 h3
        have h0 : ¬ rung n = 0 := by omega
        rw [decide_eq_false h0]
        rfl
theorem floatEq_zero (n : Nat) : Op.floatEq FloatKind.f64 n 0 = decide (rung n = 0) := feq_zero n
theorem div_one {n : Nat} (h : rung n = 0) : Format.div double 4607182418800017408 n = some (Format.write double (.infinity (sgn n))) := by
  unfold Format.div
  have h1 : Format.read double n = .number (sgn n) 0 double.leastPlace := by rw [read_eq, h]; rfl
  have h2 : Format.read double 4607182418800017408 = .number false 4503599627370496 (double.leastPlace + (1023 - 1 : Nat)) := by rw [read_eq]; rfl
  rw [h1, h2]
  show Option.map _ (some (Datum.infinity (false ^^ sgn n))) = _
  cases sgn n <;> rfl
theorem div_isSome {n : Nat} (h : Op.floatEq FloatKind.f64 n 0 = true) : (Format.div double 4607182418800017408 n).isSome = true := by
  rw [floatEq_zero, decide_eq_true_eq] at h
  rw [div_one h]
  rfl
/-- 1 / x > 0, of a nought: it is no -0. -/
theorem pos_eq {n : Nat} (h : rung n = 0) : (FloatKind.f64.format.order ((Format.div double 4607182418800017408 n).getD 0) 0 == some Ordering.gt) = !sgn n := by
  rw [div_one h]
  cases sgn n <;> decide +kernel
theorem div_some' {n : Nat} (h : FloatKind.f64.format.order n 0 = some Ordering.eq) : (Format.div double 4607182418800017408 n).isSome = true :=
  div_isSome (n := n) (by unfold Op.floatEq; rw [h]; rfl)
theorem div_none' {n : Nat} (h : FloatKind.f64.format.order n 0 = some Ordering.eq) : ¬ (Format.div double 4607182418800017408 n = none) := by
  intro h2
  have := div_some' h
  rw [h2] at this
  cases this
theorem f00 : Op.floatEq FloatKind.f64 0 0 = true := by decide +kernel
end Go.Proofs.YtlliefodchfpfaaDoor.FloatEq
namespace Go.Proofs.YtlliefodchfpfaaDoor.PDescKinds
open Go.RowKit Go.Ev
theorem good_eq (v : V) : value_Check.good v.k v.b v.n v.s v.id = S.good v := by
  obtain ⟨k, b, n, s, id⟩ := v
  have he : (s.toList == (ByteArray.mk #[]).toList) = s.toList.isEmpty := by
    rw [show (ByteArray.mk #[]).toList = [] by kernel_rfl]
    cases s.toList <;> rfl
  have hi : ((id == 0 : Bool)) = decide (id = 0) := by
    by_cases h : id = 0 <;> simp [h]
  have hn : (((n : Int) == 0 : Bool)) = decide (n = 0) := by
    by_cases h : n = 0 <;> simp [h]
  unfold value_Check.good S.good S.emp
  simp only [he, hi, hn, cond_eq_ite, beq_iff_eq]
  show _ = if k = 1 then _ else if k = 2 then _ else if k = 3 then _ else if k = 4 then _ else if k = 5 then (value_Check.strOk s && _) else if k = 6 then (value_Check.idOk id && _) else if k = 7 then (value_Check.idOk id && _) else _
  generalize s.toList.isEmpty = e
  generalize decide (id = 0) = i
  generalize decide (n = 0) = m
  generalize value_Check.strOk s = q
  generalize value_Check.idOk id = r
  repeat' split
  all_goals (cases b <;> cases e <;> cases i <;> cases m <;> first | rfl | (cases q <;> first | rfl | simp_all) | (cases r <;> first | rfl | simp_all))
theorem ent_good : E (17, onV T.good) := fun args t v h hv w hI => by
  obtain ⟨u, rfl, rfl⟩ := onV_eq h
  refine value_Check.calls u.k u.b u.n u.s u.id (if S.good u = true then 0 else 5) w hI (by unfold value_Check.f; rw [good_eq]) |>.mono fun e w' ⟨h1, h2⟩ => ⟨?_, h2⟩
  rw [h1]
  unfold T.good T.err at hv
  rw [DT.val_node] at hv
  cases hg : S.good u with
  | true => rw [hg] at hv; cases hv; rfl
  | false => rw [hg] at hv; cases hv; rfl
end Go.Proofs.YtlliefodchfpfaaDoor.PDescKinds
