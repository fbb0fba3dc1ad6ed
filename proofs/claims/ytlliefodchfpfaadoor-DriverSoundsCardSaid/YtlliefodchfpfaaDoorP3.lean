/- Plain laws: the reference's answers on descriptors are the program's. -/
import Derived.Test.YtlliefodchfpfaaDoorG3
set_option linter.unusedSimpArgs false
set_option linter.unusedVariables false
namespace Go.Proofs.YtlliefodchfpfaaDoor.PDescKinds
open Ieee FloatEq
/-- A float's bits are 64. -/
def V.wf (v : V) : Prop := v.n < 18446744073709551616
def D.wf (d : D) : Prop := d.v.wf ∧ d.g.wf ∧ d.t.wf
theorem neg_eq {n : Nat} (h : rung n = 0) : (FloatKind.f64.format.order ((Format.div double 4607182418800017408 n).getD 0) 0 == some Ordering.lt) = sgn n := by
  rw [div_one h]
  cases sgn n <;> decide +kernel
namespace R
theorem bits {n : Nat} (h : n < 18446744073709551616) : (!(Op.floatEq FloatKind.f64 n 0) || neg0 n) = !((n : Int) == 0) := by
  unfold neg0
  rw [floatEq_zero]
  by_cases h0 : rung n = 0
  · rw [decide_eq_true h0, neg_eq h0]
    simp only [Bool.not_true, Bool.true_and, Bool.false_or]
    unfold rung at h0
    unfold sgn
    by_cases hn : n = 0
    · subst hn; rfl
    · have e : n = 9223372036854775808 := by omega
      subst e; rfl
  · rw [decide_eq_false h0]
    have hn : n ≠ 0 := by
      rintro rfl
      exact h0 rfl
    simp [hn]
theorem good_eq {v : V} (h : v.wf) : good v = S.good v := by
  unfold good S.good
  have hb := bits h
  rw [hb]
  by_cases h1 : v.k = 1
  · simp [h1, bne]; cases v.b <;> cases S.emp v.s <;> cases v.id == 0 <;> cases ((v.n : Int) == 0) <;> rfl
  by_cases h2 : v.k = 2
  · simp [h2, bne]; cases v.b <;> cases S.emp v.s <;> cases v.id == 0 <;> cases ((v.n : Int) == 0) <;> rfl
  by_cases h3 : v.k = 3
  · simp [h3, bne]; cases v.b <;> cases S.emp v.s <;> cases v.id == 0 <;> cases ((v.n : Int) == 0) <;> rfl
  by_cases h4 : v.k = 4
  · simp [h4, bne]; cases v.b <;> cases S.emp v.s <;> cases v.id == 0 <;> cases ((v.n : Int) == 0) <;> rfl
  by_cases h5 : v.k = 5
  · simp [h5, bne]; cases v.b <;> cases leafIn.strOk v.s <;> cases v.id == 0 <;> cases ((v.n : Int) == 0) <;> rfl
  by_cases h6 : v.k = 6
  · simp [h6, bne]; cases v.b <;> cases S.emp v.s <;> cases leafIn.idOk v.id <;> cases ((v.n : Int) == 0) <;> rfl
  by_cases h7 : v.k = 7
  · simp [h7, bne]; cases v.b <;> cases S.emp v.s <;> cases leafIn.idOk v.id <;> cases ((v.n : Int) == 0) <;> rfl
  have : (decide (v.k < 1) || decide (v.k > 7)) = true := by
    rw [Bool.or_eq_true, decide_eq_true_eq, decide_eq_true_eq]
    omega
  rw [this]
  simp [h1, h2, h3, h4, h5, h6, h7]
theorem check_eq {d : D} (h : d.wf) : check d = S.check d := by
  unfold check slot S.check S.fields S.callable
  rw [good_eq h.1, good_eq h.2.1, good_eq h.2.2]
theorem isA_eq {d : D} (h : d.wf) : isA d = S.isA d := by
  unfold isA S.isA
  rw [check_eq h]
  unfold S.check
  cases S.fields d <;> cases S.hasD d <;> cases S.hasA d <;> rfl
theorem isD_eq {d : D} (h : d.wf) : isD d = S.isD d := by
  unfold isD S.isD
  rw [check_eq h]
theorem isG_eq {d : D} (h : d.wf) : isG d = S.isG d := by
  unfold isG
  rw [isA_eq h, isD_eq h, check_eq h]
  unfold S.isG S.isA S.isD
  cases S.check d <;> cases S.hasD d <;> cases S.hasA d <;> rfl
theorem whole_eq {d : D} (h : d.wf) : whole d = S.whole d := by
  unfold whole
  rw [check_eq h, S.whole_eq]
  unfold S.check S.hasD S.hasA
  cases S.fields d <;> cases S.there d.v <;> cases S.there d.g <;> cases S.there d.t <;> cases d.w != 0 <;> cases d.e != 0 <;> cases d.c != 0 <;> rfl
theorem filled_eq {d : D} (h : d.wf) (hc : S.check d = true) : filled d = S.complete d := by
  unfold filled S.complete
  rw [isA_eq h]
  unfold S.isA
  rw [hc]
  cases S.hasD d <;> cases S.hasA d <;> rfl
end R
end Go.Proofs.YtlliefodchfpfaaDoor.PDescKinds

/-! #### part P3 -/
/- Plain laws: Apply, Keeps and Same by the document are the program's. -/
set_option linter.unusedSimpArgs false
set_option linter.unusedVariables false
namespace Go.Proofs.YtlliefodchfpfaaDoor.PDescKinds
open Ieee FloatEq Go.RowKit
theorem neg_sgn (n : Nat) : S.neg n = sgn n := by
  unfold S.neg sgn
  rw [Bool.eq_iff_iff, decide_eq_true_eq, beq_iff_eq]
  rw [IntKind.wrap_i64]
  omega
theorem signed_ne {s t : Bool} {m n i j : Nat} (h : s ≠ t) (hm : 0 < m) : signed s m i ≠ signed t n j := by
  have hp : 0 < m <<< i := by rw [Nat.shiftLeft_eq]; exact Nat.mul_pos hm (Nat.two_pow_pos i)
  unfold signed
  generalize m <<< i = p at hp ⊢
  generalize n <<< j = q
  cases s <;> cases t <;> simp only [ne_eq, not_true_eq_false, Bool.true_eq_false, Bool.false_eq_true, not_false_eq_true] at h
  · simp only [Bool.false_eq_true, if_false, if_true]; omega
  · simp only [Bool.false_eq_true, if_false, if_true]; omega
theorem signed_zero {s t : Bool} {n i j : Nat} (hn : 0 < n) : signed s 0 i ≠ signed t n j := by
  have hp : 0 < n <<< j := by rw [Nat.shiftLeft_eq]; exact Nat.mul_pos hn (Nat.two_pow_pos j)
  have hz : (0 : Nat) <<< i = 0 := by rw [Nat.shiftLeft_eq, Nat.zero_mul]
  unfold signed
  rw [hz]
  generalize n <<< j = q at hp ⊢
  cases s <;> cases t <;> simp only [Bool.false_eq_true, if_false, if_true] <;> omega
theorem order_num {s t : Bool} {m n : Nat} {i j : Int} (h : (Datum.order (.number s m i) (.number t n j) == some Ordering.eq) = true) : (m = 0 ↔ n = 0) ∧ (m ≠ 0 → s = t) := by
  have he : signed s m (i - min i j).toNat = signed t n (j - min i j).toNat := by
    have : (some (compare (signed s m (i - min i j).toNat) (signed t n (j - min i j).toNat)) == some Ordering.eq) = true := h
    simp only [beq_iff_eq, Option.some.injEq] at this
    exact Int.compare_eq_eq.1 this
  refine ⟨⟨fun hm => ?_, fun hn => ?_⟩, fun hm => ?_⟩
  · subst hm
    by_cases hn : n = 0
    · exact hn
    · exact absurd he (signed_zero (by omega))
  · subst hn
    by_cases hm : m = 0
    · exact hm
    · exact absurd he.symm (signed_zero (by omega))
  · by_cases hs : s = t
    · exact hs
    · exact absurd he (signed_ne hs (by omega))
inductive Rd (a : Nat) : Datum → Prop where
  | num (m : Nat) (i : Int) (h : m = 0 ↔ rung a = 0) : Rd a (.number (sgn a) m i)
  | inf (h : rung a ≠ 0) : Rd a (.infinity (sgn a))
  | nan (s : Bool) (p : Nat) : Rd a (.nan s p)
theorem rd (a : Nat) : Rd a (Format.read double a) := by
  rw [read_eq]
  split
  · exact .num _ _ Iff.rfl
  · split
    · exact .num _ _ ⟨fun h => by omega, fun h => by omega⟩
    · split
      · rename_i h1 h2 h3
        exact .inf (by rw [h3]; unfold infR; omega)
      · exact .nan _ _
theorem feq_sign {a b : Nat} (h : S.feq a b = true) : (rung a = 0 ↔ rung b = 0) ∧ (rung a ≠ 0 → sgn a = sgn b) := by
  have h' : (Datum.order (Format.read double a) (Format.read double b) == some Ordering.eq) = true := h
  have ha := rd a
  have hb := rd b
  generalize Format.read double a = x at h' ha
  generalize Format.read double b = y at h' hb
  cases ha with
  | num m i hm =>
    cases hb with
    | num n j hn =>
      obtain ⟨h1, h2⟩ := order_num h'
      exact ⟨hm.symm.trans (h1.trans hn), fun h0 => h2 (fun e => h0 (hm.1 e))⟩
    | inf hn => exact absurd h' (by cases sgn b <;> simp [Datum.order])
    | nan s p => exact absurd h' (by simp [Datum.order])
  | inf hm =>
    cases hb with
    | num n j hn => exact absurd h' (by cases sgn a <;> simp [Datum.order])
    | inf hn =>
      refine ⟨⟨fun e => absurd e hm, fun e => absurd e hn⟩, fun _ => ?_⟩
      revert h'
      cases sgn a <;> cases sgn b <;> simp [Datum.order]
      all_goals decide
    | nan s p => exact absurd h' (by simp [Datum.order])
  | nan s p => exact absurd h' (by simp [Datum.order])
namespace R
theorem neg0_eq (n : Nat) : neg0 n = (decide (rung n = 0) && sgn n) := by
  unfold neg0
  rw [floatEq_zero]
  by_cases h0 : rung n = 0
  · rw [neg_eq h0]
  · rw [decide_eq_false h0]; rfl
theorem numIs_eq (a b : Nat) : numIs a b = S.numSame a b := by
  unfold numIs S.numSame
  cases S.nan a || S.nan b
  · simp only [cond_false]
    cases h : S.feq a b
    · rfl
    · obtain ⟨h1, h2⟩ := feq_sign h
      rw [neg0_eq, neg0_eq, neg_sgn, neg_sgn]
      by_cases h0 : rung a = 0
      · rw [decide_eq_true h0, decide_eq_true (h1.1 h0)]; simp
      · rw [decide_eq_false h0, decide_eq_false (fun e => h0 (h1.2 e)), h2 h0]; simp
  · rfl
theorem is_eq (a b : V) : is a b = S.same a b := by
  unfold is S.same
  rw [numIs_eq]
  by_cases hk : a.k = b.k
  · rw [hk]
    cases h4 : b.k == 4 <;> simp
  · have e1 : (a.k != b.k) = true := by simpa using hk
    have e2 : (a.k == b.k) = false := by simpa using hk
    have e3 : (a.k == 4 && b.k == 4) = false := by
      rw [Bool.and_eq_false_iff, beq_eq_false_iff_ne, beq_eq_false_iff_ne]
      omega
    rw [e1, e2, e3]; rfl
theorem same_eq {a b : V} (ha : S.okv a = true) (hb : S.okv b = true) : same a b = S.alike a b := by
  unfold same S.alike
  rw [is_eq]
  cases h1 : S.there a
  · rfl
  · cases h2 : S.there b
    · rfl
    · simp [S.okv_there ha h1, S.okv_there hb h2]
theorem zero_eq (d : D) : zero d = S.zero d := by
  unfold zero S.zero S.isD0 S.absent S.isV0
  generalize (d.v.k == 0 && (d.v.b == false && (Op.floatEq FloatKind.f64 d.v.n 0 && (d.v.s == ByteArray.mk #[] && (d.v.id == 0 && true))))) = x1
  generalize (d.g.k == 0 && (d.g.b == false && (Op.floatEq FloatKind.f64 d.g.n 0 && (d.g.s == ByteArray.mk #[] && (d.g.id == 0 && true))))) = x2
  generalize (d.t.k == 0 && (d.t.b == false && (Op.floatEq FloatKind.f64 d.t.n 0 && (d.t.s == ByteArray.mk #[] && (d.t.id == 0 && true))))) = x3
  cases x1 <;> cases x2 <;> cases x3 <;> cases S.pos d.v.n <;> cases S.pos d.g.n <;> cases S.pos d.t.n <;> cases d.w == 0 <;> cases d.e == 0 <;> cases d.c == 0 <;> rfl
theorem okA_eq {a b : D} (ha : a.wf) (hb : b.wf) : okA a b = S.okA a b := by
  unfold okA S.okA
  rw [check_eq hb, zero_eq, whole_eq ha, Bool.or_comm]
theorem okK_eq {a b : D} (ha : a.wf) (hb : b.wf) : okK a b = S.okK a b := by
  unfold okK S.okK
  rw [zero_eq, whole_eq ha, zero_eq, whole_eq hb, Bool.or_comm, Bool.or_comm (S.zero b)]
theorem isDD_eq {a b : D} (ha : S.check a = true) (hb : S.check b = true) : S.equal a b = isDD a b := by
  obtain ⟨a1, a2, a3⟩ := S.okv_of ha
  obtain ⟨b1, b2, b3⟩ := S.okv_of hb
  unfold S.equal isDD
  rw [same_eq a1 b1, same_eq a2 b2, same_eq a3 b3]
  cases a.w == b.w <;> cases a.e == b.e <;> cases a.c == b.c <;> cases S.alike a.v b.v <;> cases S.alike a.g b.g <;> cases S.alike a.t b.t <;> rfl
theorem isA_of {d : D} (h : S.check d = true) : S.isA d = (!S.hasD d && S.hasA d) := by unfold S.isA; rw [h]; rfl
theorem isD_of {d : D} (h : S.check d = true) : S.isD d = S.hasD d := by unfold S.isD; rw [h]; rfl
theorem refused_eq {a b : D} (wa : a.wf) (wb : b.wf) (ha : S.whole a = true) (hb : S.check b = true) : refused a b = S.barred a b := by
  have hca := S.check_whole ha
  obtain ⟨a1, a2, a3⟩ := S.okv_of hca
  obtain ⟨b1, b2, b3⟩ := S.okv_of hb
  unfold refused S.barred
  rw [isA_eq wa, isA_eq wb, isD_eq wa, isD_eq wb, same_eq b2 a2, same_eq b3 a3, same_eq b1 a1, S.kindN_whole ha, S.kindN_of hb, isA_of hca, isA_of hb, isD_of hca, isD_of hb]
  cases hx : b.c == 2 || b.e != 0 && b.e != a.e
  · have hk : S.hasD a = false → S.hasA a = true := by
      intro hd
      have := ha
      rw [S.whole_eq] at this
      simp only [Bool.and_eq_true] at this
      have := this.2.1
      revert hd this
      unfold S.hasD S.hasA
      cases S.there a.v <;> cases a.w != 0 <;> cases S.there a.g <;> cases S.there a.t <;> simp
    have hn : S.hasD b = false → S.hasA b = false → S.there b.v = false ∧ S.there b.g = false ∧ S.there b.t = false ∧ b.w = 0 := by
      intro h1 h2
      unfold S.hasD at h1
      unfold S.hasA at h2
      rw [Bool.or_eq_false_iff] at h1 h2
      exact ⟨h1.1, h2.1, h2.2, by simpa using h1.2⟩
    have hx2 : (S.hasD b && S.hasA b) = false := by
      have := hb
      rw [S.check_eq] at this
      simp only [Bool.and_eq_true] at this
      have := this.2
      revert this
      cases S.hasD b <;> cases S.hasA b <;> simp
    simp only [cond_false]
    cases hda : S.hasD a
    · have haa := hk hda
      rw [haa]
      cases hdb : S.hasD b
      · cases hab : S.hasA b
        · obtain ⟨n1, n2, n3, n4⟩ := hn hdb hab
          simp [n1, n2, n3, n4]
        · simp
      · simp
    · cases hdb : S.hasD b
      · cases hab : S.hasA b
        · obtain ⟨n1, n2, n3, n4⟩ := hn hdb hab
          simp [n1, n2, n3, n4]
        · simp
      · have hab : S.hasA b = false := by rw [hdb] at hx2; simpa using hx2
        simp [hab]
  · rfl
theorem turn_wf {a b : D} (h : b.wf) : (S.turn a b).wf := h
theorem become_eq {a b : D} (wa : a.wf) (wb : b.wf) (ha : S.whole a = true) (hb : S.check b = true) : become a b = bif S.kindN b != 0 && S.kindN b != S.kindN a then S.compl (S.turn a b) else S.over a b := by
  have hca := S.check_whole ha
  have hct := S.check_turn ha hb
  unfold become
  rw [isA_eq wa, isA_eq wb, isD_eq wa, isD_eq wb, S.kindN_whole ha, S.kindN_of hb, isA_of hca, isA_of hb, isD_of hca, isD_of hb, filled_eq (turn_wf wb) hct]
  unfold S.compl
  rw [hct]
  simp only [cond_true]
  have hx2 : (S.hasD b && S.hasA b) = false := by
    have := hb
    rw [S.check_eq] at this
    simp only [Bool.and_eq_true] at this
    have := this.2
    revert this
    cases S.hasD b <;> cases S.hasA b <;> simp
  have hk : S.hasD a = false → S.hasA a = true := by
    intro hd
    have := ha
    rw [S.whole_eq] at this
    simp only [Bool.and_eq_true] at this
    have := this.2.1
    revert hd this
    unfold S.hasD S.hasA
    cases S.there a.v <;> cases a.w != 0 <;> cases S.there a.g <;> cases S.there a.t <;> simp
  cases hda : S.hasD a
  · rw [hk hda]
    cases hdb : S.hasD b <;> cases hab : S.hasA b <;> simp
  · cases hdb : S.hasD b
    · cases hab : S.hasA b <;> simp
    · have hab : S.hasA b = false := by rw [hdb] at hx2; simpa using hx2
      simp [hab]
theorem apply_eq {x : Bool} {a b : D} (wa : a.wf) (wb : b.wf) (h : S.okA a b = true) : apply x a b = S.apply x a b := by
  obtain ⟨hb, ha⟩ := S.okA_of h
  unfold apply S.apply
  rw [zero_eq, filled_eq wb hb]
  cases hz : S.zero a
  · have ha : S.whole a = true := by
      rcases ha with ha | ha
      · exact ha
      · rw [hz] at ha; cases ha
    rw [refused_eq wa wb ha hb, become_eq wa wb ha hb]
    cases a.c == 1 && S.barred a b
    · cases S.kindN b != 0 && S.kindN b != S.kindN a <;> rfl
    · rfl
  · rfl
theorem keeps_eq {a b : D} (wa : a.wf) (wb : b.wf) (h : S.okK a b = true) : S.keeps a b = keeps a b := by
  have hz : ∀ d, S.zero d = true → S.okv d.v = true ∧ S.okv d.g = true ∧ S.okv d.t = true := by
    intro d hd
    unfold S.zero at hd
    simp only [Bool.and_eq_true] at hd
    unfold S.okv
    rw [hd.2.1, hd.2.2.1, hd.2.2.2]
    exact ⟨rfl, rfl, rfl⟩
  have ok : ∀ d, (S.whole d || S.zero d) = true → S.okv d.v = true ∧ S.okv d.g = true ∧ S.okv d.t = true := by
    intro d hd
    rw [Bool.or_eq_true] at hd
    rcases hd with hd | hd
    · exact S.okv_of (S.check_whole hd)
    · exact hz d hd
  unfold S.okK at h
  rw [Bool.and_eq_true] at h
  obtain ⟨a1, a2, a3⟩ := ok a h.1
  obtain ⟨b1, b2, b3⟩ := ok b h.2
  unfold keeps S.keeps
  rw [zero_eq, zero_eq, isA_eq wa, isA_eq wb, same_eq a2 b2, same_eq a3 b3, same_eq a1 b1, Bool.and_comm (S.alike a.v b.v)]
end R
end Go.Proofs.YtlliefodchfpfaaDoor.PDescKinds

