/- Parts of the proof, joined (5). -/
import Derived.Test.YtaojjpdlfnphiaaDoorCards
import Derived.Test.YtaojjpdlfnphiaaDoorTie
import Derived.WalkKit
import Derived.ProofKit
import Derived.OpenShut
import Derived.Deep.DeepHandedRow
import Derived.Lib.LaidTab
import Derived.Lib.LaidIn
import Derived.Lib.LaidU8T
import Derived.Laws.AppendOwnNone
import Derived.Test.YtaojjpdlfnphiaaDoorZ4
section
/- Plain laws: the reference's answers on descriptors are the program's. -/
set_option linter.unusedSimpArgs false
set_option linter.unusedVariables false
namespace Go.Proofs.YtaojjpdlfnphiaaDoor.PDescKinds
open Ieee FloatEq
/-- A float's bits are 64. -/
def V.wf (v : V) : Prop := v.n < 18446744073709551616
def D.wf (d : D) : Prop := d.v.wf ∧ d.g.wf ∧ d.t.wf
theorem neg_eq {n : Nat} (h : rung n = 0) : (FloatKind.f64.format.order ((Format.div double 4607182418800017408 n).getD 0) 0 == some Ordering.lt) = sgn n := by
  rw [div_one h]
  cases sgn n <;> decide +kernel
namespace R
theorem bits {n : Nat} (h : n < 18446744073709551616) : (!(Op.floatEq FloatKind.f64 n 0) || neg0 n) = !((n : Int) == 0) := by
  unfold neg0
  rw [floatEq_zero]
  by_cases h0 : rung n = 0
  · rw [decide_eq_true h0, neg_eq h0]
    simp only [Bool.not_true, Bool.true_and, Bool.false_or]
    unfold rung at h0
    unfold sgn
    by_cases hn : n = 0
    · subst hn; rfl
    · have e : n = 9223372036854775808 := by omega
      subst e; rfl
  · rw [decide_eq_false h0]
    have hn : n ≠ 0 := by
      rintro rfl
      exact h0 rfl
    simp [hn]
theorem good_eq {v : V} (h : v.wf) : good v = S.good v := by
  unfold good S.good
  have hb := bits h
  rw [hb]
  by_cases h1 : v.k = 1
  · simp [h1, bne]; cases v.b <;> cases S.emp v.s <;> cases v.id == 0 <;> cases ((v.n : Int) == 0) <;> rfl
  by_cases h2 : v.k = 2
  · simp [h2, bne]; cases v.b <;> cases S.emp v.s <;> cases v.id == 0 <;> cases ((v.n : Int) == 0) <;> rfl
  by_cases h3 : v.k = 3
  · simp [h3, bne]; cases v.b <;> cases S.emp v.s <;> cases v.id == 0 <;> cases ((v.n : Int) == 0) <;> rfl
  by_cases h4 : v.k = 4
  · simp [h4, bne]; cases v.b <;> cases S.emp v.s <;> cases v.id == 0 <;> cases ((v.n : Int) == 0) <;> rfl
  by_cases h5 : v.k = 5
  · simp [h5, bne]; cases v.b <;> cases leafIn.strOk v.s <;> cases v.id == 0 <;> cases ((v.n : Int) == 0) <;> rfl
  by_cases h6 : v.k = 6
  · simp [h6, bne]; cases v.b <;> cases S.emp v.s <;> cases leafIn.idOk v.id <;> cases ((v.n : Int) == 0) <;> rfl
  by_cases h7 : v.k = 7
  · simp [h7, bne]; cases v.b <;> cases S.emp v.s <;> cases leafIn.idOk v.id <;> cases ((v.n : Int) == 0) <;> rfl
  have : (decide (v.k < 1) || decide (v.k > 7)) = true := by
    rw [Bool.or_eq_true, decide_eq_true_eq, decide_eq_true_eq]
    omega
  rw [this]
  simp [h1, h2, h3, h4, h5, h6, h7]
theorem check_eq {d : D} (h : d.wf) : check d = S.check d := by
  unfold check slot S.check S.fields S.callable
  rw [good_eq h.1, good_eq h.2.1, good_eq h.2.2]
theorem isA_eq {d : D} (h : d.wf) : isA d = S.isA d := by
  unfold isA S.isA
  rw [check_eq h]
  unfold S.check
  cases S.fields d <;> cases S.hasD d <;> cases S.hasA d <;> rfl
theorem whole_eq {d : D} (h : d.wf) : whole d = S.whole d := by
  unfold whole
  rw [check_eq h, S.whole_eq]
  unfold S.check S.hasD S.hasA
  cases S.fields d <;> cases S.there d.v <;> cases S.there d.g <;> cases S.there d.t <;> cases d.w != 0 <;> cases d.e != 0 <;> cases d.c != 0 <;> rfl
end R
end Go.Proofs.YtaojjpdlfnphiaaDoor.PDescKinds
/-! #### part P3 -/
/- Plain laws: Apply, Keeps and Same by the document are the program's. -/
set_option linter.unusedSimpArgs false
set_option linter.unusedVariables false
namespace Go.Proofs.YtaojjpdlfnphiaaDoor.PDescKinds
open Ieee FloatEq Go.RowKit
theorem neg_sgn (n : Nat) : S.neg n = sgn n := by
  unfold S.neg sgn
  rw [Bool.eq_iff_iff, decide_eq_true_eq, beq_iff_eq]
  rw [IntKind.wrap_i64]
  omega
theorem signed_ne {s t : Bool} {m n i j : Nat} (h : s ≠ t) (hm : 0 < m) : signed s m i ≠ signed t n j := by
  have hp : 0 < m <<< i := by rw [Nat.shiftLeft_eq]; exact Nat.mul_pos hm (Nat.two_pow_pos i)
  unfold signed
  generalize m <<< i = p at hp ⊢
  generalize n <<< j = q
  cases s <;> cases t <;> simp only [ne_eq, not_true_eq_false, Bool.true_eq_false, Bool.false_eq_true, not_false_eq_true] at h
  · simp only [Bool.false_eq_true, if_false, if_true]; omega
  · simp only [Bool.false_eq_true, if_false, if_true]; omega
theorem signed_zero {s t : Bool} {n i j : Nat} (hn : 0 < n) : signed s 0 i ≠ signed t n j := by
  have hp : 0 < n <<< j := by rw [Nat.shiftLeft_eq]; exact Nat.mul_pos hn (Nat.two_pow_pos j)
  have hz : (0 : Nat) <<< i = 0 := by rw [Nat.shiftLeft_eq, Nat.zero_mul]
  unfold signed
  rw [hz]
  generalize n <<< j = q at hp ⊢
  cases s <;> cases t <;> simp only [Bool.false_eq_true, if_false, if_true] <;> omega
theorem order_num {s t : Bool} {m n : Nat} {i j : Int} (h : (Datum.order (.number s m i) (.number t n j) == some Ordering.eq) = true) : (m = 0 ↔ n = 0) ∧ (m ≠ 0 → s = t) := by
  have he : signed s m (i - min i j).toNat = signed t n (j - min i j).toNat := by
    have : (some (compare (signed s m (i - min i j).toNat) (signed t n (j - min i j).toNat)) == some Ordering.eq) = true := h
    simp only [beq_iff_eq, Option.some.injEq] at this
    exact Int.compare_eq_eq.1 this
  refine ⟨⟨fun hm => ?_, fun hn => ?_⟩, fun hm => ?_⟩
  · subst hm
    by_cases hn : n = 0
    · exact hn
    · exact absurd he (signed_zero (by omega))
  · subst hn
    by_cases hm : m = 0
    · exact hm
    · exact absurd he.symm (signed_zero (by omega))
  · by_cases hs : s = t
    · exact hs
    · exact absurd he (signed_ne hs (by omega))
inductive Rd (a : Nat) : Datum → Prop where
  | num (m : Nat) (i : Int) (h : m = 0 ↔ rung a = 0) : Rd a (.number (sgn a) m i)
  | inf (h : rung a ≠ 0) : Rd a (.infinity (sgn a))
  | nan (s : Bool) (p : Nat) : Rd a (.nan s p)
theorem rd (a : Nat) : Rd a (Format.read double a) := by
  rw [read_eq]
  split
  · exact .num _ _ Iff.rfl
  · split
    · exact .num _ _ ⟨fun h => by omega, fun h => by omega⟩
    · split
      · rename_i h1 h2 h3
        exact .inf (by rw [h3]; unfold infR; omega)
      · exact .nan _ _
theorem feq_sign {a b : Nat} (h : S.feq a b = true) : (rung a = 0 ↔ rung b = 0) ∧ (rung a ≠ 0 → sgn a = sgn b) := by
  have h' : (Datum.order (Format.read double a) (Format.read double b) == some Ordering.eq) = true := h
  have ha := rd a
  have hb := rd b
  generalize Format.read double a = x at h' ha
  generalize Format.read double b = y at h' hb
  cases ha with
  | num m i hm =>
    cases hb with
    | num n j hn =>
      obtain ⟨h1, h2⟩ := order_num h'
      exact ⟨hm.symm.trans (h1.trans hn), fun h0 => h2 (fun e => h0 (hm.1 e))⟩
    | inf hn => exact absurd h' (by cases sgn b <;> simp [Datum.order])
    | nan s p => exact absurd h' (by simp [Datum.order])
  | inf hm =>
    cases hb with
    | num n j hn => exact absurd h' (by cases sgn a <;> simp [Datum.order])
    | inf hn =>
      refine ⟨⟨fun e => absurd e hm, fun e => absurd e hn⟩, fun _ => ?_⟩
      revert h'
      cases sgn a <;> cases sgn b <;> simp [Datum.order]
      all_goals decide
    | nan s p => exact absurd h' (by simp [Datum.order])
  | nan s p => exact absurd h' (by simp [Datum.order])
namespace R
theorem neg0_eq (n : Nat) : neg0 n = (decide (rung n = 0) && sgn n) := by
  unfold neg0
  rw [floatEq_zero]
  by_cases h0 : rung n = 0
  · rw [neg_eq h0]
  · rw [decide_eq_false h0]; rfl
theorem numIs_eq (a b : Nat) : numIs a b = S.numSame a b := by
  unfold numIs S.numSame
  cases S.nan a || S.nan b
  · simp only [cond_false]
    cases h : S.feq a b
    · rfl
    · obtain ⟨h1, h2⟩ := feq_sign h
      rw [neg0_eq, neg0_eq, neg_sgn, neg_sgn]
      by_cases h0 : rung a = 0
      · rw [decide_eq_true h0, decide_eq_true (h1.1 h0)]; simp
      · rw [decide_eq_false h0, decide_eq_false (fun e => h0 (h1.2 e)), h2 h0]; simp
  · rfl
theorem is_eq (a b : V) : is a b = S.same a b := by
  unfold is S.same
  rw [numIs_eq]
  by_cases hk : a.k = b.k
  · rw [hk]
    cases h4 : b.k == 4 <;> simp
  · have e1 : (a.k != b.k) = true := by simpa using hk
    have e2 : (a.k == b.k) = false := by simpa using hk
    have e3 : (a.k == 4 && b.k == 4) = false := by
      rw [Bool.and_eq_false_iff, beq_eq_false_iff_ne, beq_eq_false_iff_ne]
      omega
    rw [e1, e2, e3]; rfl
theorem same_eq {a b : V} (ha : S.okv a = true) (hb : S.okv b = true) : same a b = S.alike a b := by
  unfold same S.alike
  rw [is_eq]
  cases h1 : S.there a
  · rfl
  · cases h2 : S.there b
    · rfl
    · simp [S.okv_there ha h1, S.okv_there hb h2]
theorem zero_eq (d : D) : zero d = S.zero d := by
  unfold zero S.zero S.isD0 S.absent S.isV0
  generalize (d.v.k == 0 && (d.v.b == false && (Op.floatEq FloatKind.f64 d.v.n 0 && (d.v.s == ByteArray.mk #[] && (d.v.id == 0 && true))))) = x1
  generalize (d.g.k == 0 && (d.g.b == false && (Op.floatEq FloatKind.f64 d.g.n 0 && (d.g.s == ByteArray.mk #[] && (d.g.id == 0 && true))))) = x2
  generalize (d.t.k == 0 && (d.t.b == false && (Op.floatEq FloatKind.f64 d.t.n 0 && (d.t.s == ByteArray.mk #[] && (d.t.id == 0 && true))))) = x3
  cases x1 <;> cases x2 <;> cases x3 <;> cases S.pos d.v.n <;> cases S.pos d.g.n <;> cases S.pos d.t.n <;> cases d.w == 0 <;> cases d.e == 0 <;> cases d.c == 0 <;> rfl
theorem okK_eq {a b : D} (ha : a.wf) (hb : b.wf) : okK a b = S.okK a b := by
  unfold okK S.okK
  rw [zero_eq, whole_eq ha, zero_eq, whole_eq hb, Bool.or_comm, Bool.or_comm (S.zero b)]
theorem keeps_eq {a b : D} (wa : a.wf) (wb : b.wf) (h : S.okK a b = true) : S.keeps a b = keeps a b := by
  have hz : ∀ d, S.zero d = true → S.okv d.v = true ∧ S.okv d.g = true ∧ S.okv d.t = true := by
    intro d hd
    unfold S.zero at hd
    simp only [Bool.and_eq_true] at hd
    unfold S.okv
    rw [hd.2.1, hd.2.2.1, hd.2.2.2]
    exact ⟨rfl, rfl, rfl⟩
  have ok : ∀ d, (S.whole d || S.zero d) = true → S.okv d.v = true ∧ S.okv d.g = true ∧ S.okv d.t = true := by
    intro d hd
    rw [Bool.or_eq_true] at hd
    rcases hd with hd | hd
    · exact S.okv_of (S.check_whole hd)
    · exact hz d hd
  unfold S.okK at h
  rw [Bool.and_eq_true] at h
  obtain ⟨a1, a2, a3⟩ := ok a h.1
  obtain ⟨b1, b2, b3⟩ := ok b h.2
  unfold keeps S.keeps
  rw [zero_eq, zero_eq, isA_eq wa, isA_eq wb, same_eq a2 b2, same_eq a3 b3, same_eq a1 b1, Bool.and_comm (S.alike a.v b.v)]
end R
end Go.Proofs.YtaojjpdlfnphiaaDoor.PDescKinds
end
section
/- Moments: what the functions over values answer; words for loops. -/
set_option linter.unusedSimpArgs false
set_option linter.unusedVariables false
set_option linter.unusedSectionVars false
namespace Go.Proofs.YtaojjpdlfnphiaaDoor.PDescKinds
open Go.RowKit Go.Ev
namespace S
/-- invariant.same. -/
def eqC (a b : V) : Bool := a.k == b.k && (a.b == b.b && (a.s.toList == b.s.toList && (a.id == b.id && numSame a.n b.n)))
/-- invariant.alike. -/
def alikeC (a b : D) : Bool := eqC a.v b.v && (eqC a.g b.g && (eqC a.t b.t && (a.w == b.w && (a.e == b.e && a.c == b.c))))
end S
namespace R
/-- Above infinity's bits, the sign left out. -/
def big (a : Nat) : Bool := decide (IntKind.u64.wrap (↑(BitVec.ofInt IntKind.u64.bits (a : Int) &&& ~~~BitVec.ofInt IntKind.u64.bits 9223372036854775808).toNat : Int) > 9218868437227405312)
/-- cameoref02.Same. -/
def num2 (a b : Nat) : Bool := (big a && big b) || ((a : Int) == (b : Int))
/-- cameoref10.Eq. -/
def eqR (a b : V) : Bool := a.k == b.k && (a.b == b.b && (a.s.toList == b.s.toList && (a.id == b.id && num2 a.n b.n)))
/-- cameoref10.EqDesc. -/
def eqDR (a b : D) : Bool := eqR a.v b.v && (eqR a.g b.g && (eqR a.t b.t && (a.w == b.w && (a.e == b.e && a.c == b.c))))
end R
namespace T
def eqC (a b : V) : DT Value := B (S.eqC a b)
def alikeC (a b : D) : DT Value := B (S.alikeC a b)
def num2 (a b : Nat) : DT Value := B (R.num2 a b)
def eqR (a b : V) : DT Value := B (R.eqR a b)
def eqDR (a b : D) : DT Value := B (R.eqDR a b)
end T
end Go.Proofs.YtaojjpdlfnphiaaDoor.PDescKinds
end
section
/- Moments: what the functions over shapes answer, and the contracts that say so. -/
set_option linter.unusedSimpArgs false
set_option linter.unusedVariables false
set_option linter.unusedSectionVars false
namespace Go.Proofs.YtaojjpdlfnphiaaDoor.PDescKinds
open Go.RowKit Go.Ev
namespace S
def keq (a b : K) : Bool := a.s == b.s && (a.n == b.n && true)
/-- The first place of a list of n at which p holds; -1. -/
def idx (p : Nat → Bool) (n : Nat) : Int := (seek (fun i => bif p i then some (i : Int) else none) n 0).getD (-1)
def find (s : Sh) (k : K) : Int := idx (fun i => keq (s.g i).k k) s.n
/-- Is some property of a not one of b? -/
def freshAt (b a : Sh) : Int := idx (fun i => decide (find b (a.g i).k < 0)) a.n
def confAt (s : Sh) : Int := idx (fun i => (s.g i).d.c != 1) s.n
def thawAt (s : Sh) : Int := idx (fun i => (s.g i).d.g.k == 0 && ((s.g i).d.t.k == 0 && (s.g i).d.w != 1)) s.n
end S
namespace S
theorem seek_some {α : Type} {p : Nat → Option α} {v : α} : ∀ (k i : Nat), seek p k i = some v → ∃ j, i ≤ j ∧ j < i + k ∧ p j = some v
  | 0, _, h => by cases h
  | k + 1, i, h => by
    simp only [seek] at h
    cases hp : p i with
    | some u =>
      rw [hp] at h
      cases h
      exact ⟨i, Nat.le_refl _, by omega, hp⟩
    | none =>
      rw [hp] at h
      obtain ⟨j, h1, h2, h3⟩ := seek_some k (i + 1) h
      exact ⟨j, by omega, by omega, h3⟩
theorem seek_none {α : Type} {p : Nat → Option α} : ∀ (k i : Nat), seek p k i = none ↔ ∀ j, i ≤ j → j < i + k → p j = none
  | 0, i => by simp only [seek, true_iff]; intro j h1 h2; omega
  | k + 1, i => by
    simp only [seek]
    cases hp : p i with
    | some u =>
      simp only [reduceCtorEq, false_iff]
      intro h
      have := h i (Nat.le_refl _) (by omega)
      rw [hp] at this
      cases this
    | none =>
      simp only
      rw [seek_none k (i + 1)]
      constructor
      · intro h j h1 h2
        by_cases e : j = i
        · rw [e, hp]
        · exact h j (by omega) (by omega)
      · intro h j h1 h2
        exact h j (by omega) (by omega)
theorem seek_congr {α : Type} {p q : Nat → Option α} : ∀ (k i : Nat), (∀ j, i ≤ j → j < i + k → p j = q j) → seek p k i = seek q k i
  | 0, _, _ => rfl
  | k + 1, i, h => by
    simp only [seek]
    rw [h i (Nat.le_refl _) (by omega), seek_congr k (i + 1) fun j h1 h2 => h j (by omega) (by omega)]
theorem idx_some {p : Nat → Bool} {n : Nat} (h : 0 ≤ idx p n) : ∃ j : Nat, idx p n = j ∧ j < n ∧ p j = true := by
  unfold idx at h ⊢
  cases hs : seek (fun i => bif p i then some (i : Int) else none) n 0 with
  | none => rw [hs] at h; exact absurd h (by decide)
  | some v =>
    obtain ⟨j, _, h2, h3⟩ := seek_some n 0 hs
    cases hp : p j with
    | false => rw [hp] at h3; cases h3
    | true =>
      rw [hp] at h3
      cases h3
      exact ⟨j, rfl, by omega, hp⟩
theorem idx_none {p : Nat → Bool} {n : Nat} (h : idx p n < 0) : ∀ j, j < n → p j = false := by
  unfold idx at h
  cases hs : seek (fun i => bif p i then some (i : Int) else none) n 0 with
  | some v =>
    obtain ⟨j, _, h2, h3⟩ := seek_some n 0 hs
    cases hp : p j with
    | false => rw [hp] at h3; cases h3
    | true =>
      rw [hp] at h3
      cases h3
      rw [hs] at h
      simp only [Option.getD_some] at h
      omega
  | none =>
    intro j hj
    have := (seek_none n 0).1 hs j (Nat.zero_le _) (by omega)
    cases hp : p j with
    | false => rfl
    | true => rw [hp] at this; cases this
theorem idx_congr {p q : Nat → Bool} {n : Nat} (h : ∀ j, j < n → p j = q j) : idx p n = idx q n := by
  unfold idx
  rw [seek_congr n 0 fun j _ h2 => by rw [h j (by omega)]]
/-- Behind 'there is none' the place is one. -/
theorem find_cond {α : Type} (s : Sh) (k : K) (x y z : α) : (bif decide (find s k < 0) then x else bif decide (0 ≤ find s k) && decide (find s k < (s.n : Int)) then y else z) = bif decide (find s k < 0) then x else y := by
  by_cases h : find s k < 0
  · rw [decide_eq_true h]; rfl
  · obtain ⟨j, h1, h2, _⟩ := idx_some (p := fun i => keq (s.g i).k k) (n := s.n) (by unfold find at h; omega)
    have h1 : find s k = j := h1
    rw [decide_eq_false h, h1, decide_eq_true (show (0 : Int) ≤ (j : Int) by omega), decide_eq_true (show (j : Int) < (s.n : Int) by omega)]
    rfl
end S
/-- A function with nothing captured. -/
def isFn : SV → Nat → Bool
  | .val (.func (.func f) x y) => fun n => Nat.beq f n && (x.isEmpty && y.isEmpty)
  | _ => fun _ => false
def fnv (n : Nat) : SV := .val (.func (.func n) #[] #[])
theorem isFn_eq {s : SV} {n : Nat} (h : isFn s n = true) : s = fnv n := by
  unfold isFn at h
  split at h
  · simp only [Bool.and_eq_true] at h
    obtain ⟨h1, h2, h3⟩ := h
    have := Nat.eq_of_beq_eq_true h1
    subst this
    simp only [Array.isEmpty_iff] at h2 h3
    subst h2 h3
    rfl
  · cases h
/-! The contract of slices.IndexFunc, by the function it is handed -/
def keyAt (mem : Mem) : List SV → Option K
  | [.ptr q off] => match mem q with
    | some k => match k.cells with
      | [.val (.string s), .val (.int .i64 n)] => bif Nat.beq off 0 then some ⟨s, n⟩ else none
      | _ => none
    | none => none
  | _ => none
def shapeAt (mem : Mem) : List SV → Option SA
  | [.ptr q off] => match mem q with
    | some k => bif Nat.beq off 0 then getSA (.arr k.cells) else none
    | none => none
  | _ => none
def idxC (M : Nat → Mo) : List SV → Mem → Option (DT SV)
  | [.xs [a, b], .fn f l], mem => bif Nat.beq f 119 then
      match keyAt mem l with
      | some k => some (.leaf (.val (.int .i64 (S.find ((M a).g b) k))))
      | none => none
    else bif Nat.beq f 105 then
      match shapeAt mem l with
      | some q => some (.leaf (.val (.int .i64 (S.freshAt (q.sh M) ((M a).g b)))))
      | none => none
    else none
  | [.xs [a, b], .val v], mem => bif isFn (.val v) 83 then some (.leaf (.val (.int .i64 (S.confAt ((M a).g b)))))
    else bif isFn (.val v) 84 then some (.leaf (.val (.int .i64 (S.thawAt ((M a).g b)))))
    else none
  | _, _ => none
/-- The same, of the keys' function alone. -/
def idxA (M : Nat → Mo) : List SV → Mem → Option (DT SV)
  | [.xs [a, b], .fn f l], mem => bif Nat.beq f 119 then
      match keyAt mem l with
      | some k => some (.leaf (.val (.int .i64 (S.find ((M a).g b) k))))
      | none => none
    else none
  | _, _ => none
theorem keyAt_eq {mem : Mem} {l : List SV} {k : K} (h : keyAt mem l = some k) : ∃ q blk, l = [.ptr q 0] ∧ mem q = some blk ∧ blk.cells = [.val (.string k.s), .val (.int .i64 k.n)] := by
  unfold keyAt at h
  split at h
  · rename_i q off
    split at h
    · rename_i blk hq
      split at h
      · rename_i s n hc
        cases ho : Nat.beq off 0 with
        | false => rw [ho] at h; cases h
        | true =>
          rw [ho] at h
          simp only [cond_true, Option.some.injEq] at h
          subst h
          have := Nat.eq_of_beq_eq_true ho
          subst this
          exact ⟨q, blk, rfl, hq, hc⟩
      · cases h
    · cases h
  · cases h
theorem shapeAt_eq {mem : Mem} {l : List SV} {k : SA} (h : shapeAt mem l = some k) : ∃ q blk, l = [.ptr q 0] ∧ mem q = some blk ∧ blk.cells = shCells k.cl k.p k.x [k.a, k.b] := by
  unfold shapeAt at h
  split at h
  · rename_i q off
    split at h
    · rename_i blk hq
      cases ho : Nat.beq off 0 with
      | false => rw [ho] at h; cases h
      | true =>
        rw [ho] at h
        simp only [cond_true] at h
        have := Nat.eq_of_beq_eq_true ho
        subst this
        have := getSA_sv h
        unfold SA.sv at this
        exact ⟨q, blk, rfl, hq, SV.arr.inj this⟩
    · cases h
  · cases h
theorem idxA_eq {M : Nat → Mo} {args : List SV} {mem : Mem} {t : DT SV} (h : idxA M args mem = some t) :
    ∃ a b l k, args = [.xs [a, b], .fn 119 l] ∧ keyAt mem l = some k ∧ t = .leaf (.val (.int .i64 (S.find ((M a).g b) k))) := by
  unfold idxA at h
  split at h
  · rename_i a b f l
    cases hf : Nat.beq f 119 with
    | false => rw [hf] at h; cases h
    | true =>
      rw [hf] at h
      simp only [cond_true] at h
      have := Nat.eq_of_beq_eq_true hf
      subst this
      split at h
      · rename_i k hk
        cases h
        exact ⟨a, b, l, k, rfl, hk, rfl⟩
      · cases h
  · cases h
theorem idxC_eq {M : Nat → Mo} {args : List SV} {mem : Mem} {t : DT SV} (h : idxC M args mem = some t) :
    (∃ a b l k, args = [.xs [a, b], .fn 119 l] ∧ keyAt mem l = some k ∧ t = .leaf (.val (.int .i64 (S.find ((M a).g b) k)))) ∨
    (∃ a b l q, args = [.xs [a, b], .fn 105 l] ∧ shapeAt mem l = some q ∧ t = .leaf (.val (.int .i64 (S.freshAt (q.sh M) ((M a).g b))))) ∨
    (∃ a b, args = [.xs [a, b], fnv 83] ∧ t = .leaf (.val (.int .i64 (S.confAt ((M a).g b))))) ∨
    (∃ a b, args = [.xs [a, b], fnv 84] ∧ t = .leaf (.val (.int .i64 (S.thawAt ((M a).g b))))) := by
  unfold idxC at h
  split at h
  · rename_i a b f l
    cases hf : Nat.beq f 119 with
    | true =>
      rw [hf] at h
      simp only [cond_true] at h
      have := Nat.eq_of_beq_eq_true hf
      subst this
      split at h
      · rename_i k hk
        cases h
        exact .inl ⟨a, b, l, k, rfl, hk, rfl⟩
      · cases h
    | false =>
      rw [hf] at h
      simp only [cond_false] at h
      cases hf : Nat.beq f 105 with
      | false => rw [hf] at h; cases h
      | true =>
        rw [hf] at h
        simp only [cond_true] at h
        have := Nat.eq_of_beq_eq_true hf
        subst this
        split at h
        · rename_i k hk
          cases h
          exact .inr (.inl ⟨a, b, l, k, rfl, hk, rfl⟩)
        · cases h
  · rename_i a b v
    cases hf : isFn (.val v) 83 with
    | true =>
      rw [hf] at h
      cases h
      have := isFn_eq hf
      rw [this]
      exact .inr (.inr (.inl ⟨a, b, rfl, rfl⟩))
    | false =>
      rw [hf] at h
      simp only [cond_false] at h
      cases hf : isFn (.val v) 84 with
      | true =>
        rw [hf] at h
        cases h
        have := isFn_eq hf
        rw [this]
        exact .inr (.inr (.inr ⟨a, b, rfl, rfl⟩))
      | false => rw [hf] at h; cases h
  · cases h
/-! Boxes -/
def Simple (s : SV) : Prop := (∃ v, s = .val v) ∨ ∃ a b, s = .xs [a, b]
theorem Simple.ok [XEnv] {s : SV} (h : Simple s) (mem : Mem) : s.ok mem := by
  rcases h with ⟨v, rfl⟩ | ⟨a, b, rfl⟩
  · exact ok_val _ _
  · exact ok_xs
theorem Simple.den {M : Nat → Mo} {bx bx' : Nat → XR} {s : SV} (h : Simple s) (m m' : Nat → Nat) : @SV.den (rowsB M bx') m' s = @SV.den (rowsB M bx) m s := by
  rcases h with ⟨v, rfl⟩ | ⟨a, b, rfl⟩
  · rw [@den_val (rowsB M bx'), @den_val (rowsB M bx)]
  · rw [@den_xs (rowsB M bx'), @den_xs (rowsB M bx)]
    rfl
theorem simple_sh (cl : Int) (p : V) (x : Bool) (a b : Nat) : ∀ s ∈ shCells cl p x [a, b], Simple s := by
  intro s hs
  simp only [shCells, List.mem_cons, List.not_mem_nil, or_false] at hs
  rcases hs with rfl | rfl | rfl | rfl | rfl | rfl | rfl | rfl <;> first | exact .inl ⟨_, rfl⟩ | exact .inr ⟨_, _, rfl⟩
theorem simple_key (k : K) : ∀ s ∈ [SV.val (.string k.s), SV.val (.int .i64 k.n)], Simple s := by
  intro s hs
  simp only [List.mem_cons, List.not_mem_nil, or_false] at hs
  rcases hs with rfl | rfl <;> exact .inl ⟨_, rfl⟩
theorem simple_pr (q : Pr) : ∀ s ∈ q.cells, Simple s := by
  intro s hs
  simp only [Pr.cells, List.mem_cons, List.not_mem_nil, or_false] at hs
  rcases hs with rfl | rfl | rfl | rfl | rfl | rfl | rfl | rfl | rfl | rfl | rfl | rfl | rfl | rfl | rfl | rfl | rfl | rfl | rfl | rfl <;> exact .inl ⟨_, rfl⟩
theorem xrow_env {M : Nat → Mo} {bx bx' : Nat → XR} {w : World} {x : XR} (hs : ∀ j, ∀ s ∈ x.g j, Simple s) (h : @XRow (rowsB M bx) w x) : @XRow (rowsB M bx') w x := by
  intro j hj
  obtain ⟨h1, h2, a, h3, h4, h5⟩ := h j hj
  refine ⟨h1, fun s hm mem => @Simple.ok (rowsB M bx') _ (hs j s hm) mem, a, h3, h4, fun k s hk m => ?_⟩
  rw [h5 k s hk m, (hs j s (List.mem_of_getElem? hk)).den]
theorem xok_box {M : Nat → Mo} {bx bx' : Nat → XR} {w : World} (h : @XOk (rowsB M bx) w) (hb : ∀ x, @XRow (rowsB M bx') w (bx' x)) : @XOk (rowsB M bx') w := by
  intro r
  match r with
  | [k] => exact xrow_env (fun j => simple_sh _ _ _ _ _) (h [k])
  | [k, j] => exact xrow_env (fun i => simple_pr _) (h [k, j])
  | [] => exact hb 0
  | x :: _ :: _ :: _ => exact hb x
theorem box_row {M : Nat → Mo} {bx bx' : Nat → XR} {w0 w : World} {m : Nat → Nat} {mem : Mem} {q : Nat} {blk : Blk} (hm : @MR (rowsB M bx) w0 m mem w) (hq : mem q = some blk) (hs : ∀ s ∈ blk.cells, Simple s) :
    @XRow (rowsB M bx') w ⟨some ⟨m q, 0, none⟩, blk.cells.length, 1, 1, fun _ => blk.cells⟩ := by
  obtain ⟨h1, h2, h3⟩ := @MR.blk (rowsB M bx) _ _ _ _ hm q blk hq
  intro j hj
  have hj : j < 1 := hj
  obtain rfl : j = 0 := by omega
  refine ⟨rfl, fun s hm mem => @Simple.ok (rowsB M bx') _ (hs s hm) mem, _, rfl, (Array.getElem?_eq_some_iff.1 h2).1, fun k s hk m' => ?_⟩
  have hk : blk.cells[k]? = some s := hk
  rw [add_none, cell_of_row w (m q) _ _ blk.ty (0, 0) h2, (hs s (List.mem_of_getElem? hk)).den (bx := bx) m m']
  simp [hk]
namespace S
/-- invariant.lost. -/
def lost (b a : Sh) : Bool := (seek (fun i => bif (b.g i).d.c != 1 || find b (b.g i).k != (i : Int) then none else
  bif decide (find a (b.g i).k < 0) then some true else
  bif okK (b.g i).d (a.g (find a (b.g i).k).toNat).d then (bif keeps (b.g i).d (a.g (find a (b.g i).k).toNat).d then none else some true) else some true) b.n 0).getD false
def sameP (a b : Sh) : Bool := bif (a.n : Int) != (b.n : Int) then false else (seek (fun i => bif keq (a.g i).k (b.g i).k && alikeC (a.g i).d (b.g i).d then none else some false) a.n 0).getD true
def sameSh (a b : Sh) : Bool := a.cl == b.cl && (eqC a.p b.p && (a.x == b.x && sameP a b))
def sameC (a b : Mo) : Bool := bif (a.n : Int) != (b.n : Int) then false else (seek (fun i => bif sameSh (a.g i) (b.g i) then none else some false) a.n 0).getD true
end S
def onFS (n : Nat) (f : Nat → Nat → Nat → Nat → DT SV) : List SV → Option (DT SV)
  | [.xs [a, b], .xs [c, d], s] => bif isFn s n then some (f a b c d) else none
  | _ => none
theorem onFS_eq {n : Nat} {f : Nat → Nat → Nat → Nat → DT SV} {l : List SV} {t : DT SV} (h : onFS n f l = some t) : ∃ a b c d, l = [.xs [a, b], .xs [c, d], fnv n] ∧ t = f a b c d := by
  unfold onFS at h
  split at h
  · rename_i a b c d s
    cases hf : isFn s n with
    | true =>
      rw [hf] at h
      simp only [cond_true, Option.some.injEq] at h
      exact ⟨a, b, c, d, by rw [isFn_eq hf], h.symm⟩
    | false => rw [hf] at h; cases h
  · cases h
def onFM (n : Nat) (f : Nat → Nat → DT SV) : List SV → Option (DT SV)
  | [.xs [a], .xs [b], s] => bif isFn s n then some (f a b) else none
  | _ => none
theorem onFM_eq {n : Nat} {f : Nat → Nat → DT SV} {l : List SV} {t : DT SV} (h : onFM n f l = some t) : ∃ a b, l = [.xs [a], .xs [b], fnv n] ∧ t = f a b := by
  unfold onFM at h
  split at h
  · rename_i a b s
    cases hf : isFn s n with
    | true =>
      rw [hf] at h
      simp only [cond_true, Option.some.injEq] at h
      exact ⟨a, b, by rw [isFn_eq hf], h.symm⟩
    | false => rw [hf] at h; cases h
  · cases h
abbrev LB (b : Bool) : DT SV := .leaf (.val (.bool b))
abbrev LI (i : Int) : DT SV := .leaf (.val (.int .i64 i))
abbrev LII (p : Int × Int) : DT SV := .leaf (.val (.tuple #[.int .i64 p.1, .int .i64 p.2]))
noncomputable def bodyOf (fn : Func) : List Code := flat (fn.body.getD .skip)
/-- A contract that asks nothing of memory. -/
abbrev noMem (g : List SV → Option (DT SV)) : List SV → Mem → Option (DT SV) := fun args _ => g args
/-! Words for rounds -/
theorem dlt {i n : Nat} (h : i < n) : decide ((i : Int) < (n : Int)) = true := decide_eq_true (by omega)
theorem dge (i : Nat) : decide (0 ≤ (i : Int)) = true := decide_eq_true (by omega)
theorem dnl (n : Nat) : decide ((n : Int) < (n : Int)) = false := decide_eq_false (by omega)
theorem wr {i n : Nat} (h : i < n) (hn : (n : Int) ≤ 9223372036854775807) : IntKind.i64.wrap ((i : Int) + 1) = ((i + 1 : Nat) : Int) := by rw [IntKind.wrap_i64]; omega
theorem cnd_and {α : Type} (a b : Bool) (x y : α) : (bif a && b then x else y) = bif a then (bif b then x else y) else y := by cases a <;> rfl
theorem cnd_or {α : Type} (a b : Bool) (x y : α) : (bif a || b then x else y) = bif a then x else (bif b then x else y) := by cases a <;> rfl
theorem cnd_not {α : Type} (a : Bool) (x y : α) : (bif !a then x else y) = bif a then y else x := by cases a <;> rfl
theorem some_cond {α : Type} (c : Bool) (x y : α) : some (bif c then x else y) = bif c then some x else some y := by cases c <;> rfl
theorem map_cond {α β : Type} (f : α → β) (c : Bool) (x y : Option α) : Option.map f (bif c then x else y) = bif c then Option.map f x else Option.map f y := by cases c <;> rfl
theorem toR_cond (d : Cut) (c : Bool) (x y : Option SV) : toR d (bif c then x else y) = bif c then toR d x else toR d y := by cases c <;> rfl
theorem toR_some (d : Cut) (x : SV) : toR d (some x) = .ret x := rfl
theorem toR_none (d : Cut) : toR d none = .cut .normal d := rfl
/-! What stands -/
def Inv (M : Nat → Mo) (bx : Nat → XR) (w : World) : Prop := Tabs w ∧ @XOk (rowsB M bx) w
theorem inv_stable (M : Nat → Mo) (bx : Nat → XR) : Stable (Inv M bx) := fun w w' h hb => ⟨tabs_stable _ _ h.1 hb, @XOk.below (rowsB M bx) _ _ h.2 hb⟩
abbrev Ent (M : Nat → Mo) (bx : Nat → XR) (p : Nat × (List SV → Mem → Option (DT SV))) : Prop := @EntryS (rowsB M bx) Tryd.prog (Inv M bx) p
theorem ctxB (M : Nat → Mo) (bx : Nat → XR) {LA : Tab} (hA : ∀ p ∈ LA, E p) {LS : TabS} (h : ∀ p ∈ LS, Ent M bx p) : @Ctx (rowsB M bx) Tryd.prog ext (tab2 LA LS) (Inv M bx) :=
  letI := rowsB M bx
  ⟨mixed, ext_sound, inv_stable M bx, fun _ h => h.2, tab2_sound (fun p hp => (hA p hp).mono (J := Inv M bx) fun w h => h.1) h⟩
theorem retPre [XEnv] {P : Program} {X : ExtFn} {G : GFn} {I : World → Prop} {N : Nat} {fn : Func} {v : SV} {fs : List Fr} {l : List Code} {st : St} {k : Nat} {ts bs : List Nat} {next : Nat} (C : Ctx P X G I) (hl : hasLoop l = true)
    (h : evK P X G k N (seqL (preOf l)) st (grab P fn ts bs next) = some (.ret v)) : Runs P I N fn v fs l st := by
  rw [split_loop l hl]
  exact Runs.app (Runs.ret C h)
theorem cond2 [XEnv] {P : Program} {I : World → Prop} {N : Nat} {fn : Func} {v : SV} {fs : List Fr} {l : List Code} {st : St} {c : Operand} {t e : Code} {b : Bool} (hb : Ev.look st.tmps c = .val (.bool b))
    (ht : b = true → Runs P I N fn v (.rest l :: fs) (flat t) st) (hf : b = false → Runs P I N fn v (.rest l :: fs) (flat e) st) : Runs P I N fn v fs (.cond c t e :: l) st := by
  refine Runs.cond hb ?_
  cases b with
  | true => exact ht rfl
  | false => exact hf rfl
theorem entsS_nil {M : Nat → Mo} {bx : Nat → XR} : ∀ p ∈ ([] : TabS), Ent M bx p := fun p hp => (by cases hp)
theorem entsS_cons {M : Nat → Mo} {bx : Nat → XR} {q} {l : TabS} (h : Ent M bx q) (hl : ∀ p ∈ l, Ent M bx p) : ∀ p ∈ q :: l, Ent M bx p := fun p hp => by
  rcases List.mem_cons.1 hp with rfl | hp
  · exact h
  · exact hl p hp
theorem ok_sa [XEnv] (q : SA) (mem : Mem) : q.sv.ok mem := by
  show (SV.arr (shCells _ _ _ _)).ok mem
  rw [ok_arr]
  intro x hx
  simp only [shCells, List.mem_cons, List.not_mem_nil, or_false] at hx
  rcases hx with rfl | rfl | rfl | rfl | rfl | rfl | rfl | rfl <;> first | exact ok_val _ _ | exact ok_xs
end Go.Proofs.YtaojjpdlfnphiaaDoor.PDescKinds
end
section
/- Moments: functions with one loop, piece by piece. Written by a program of this session. -/
set_option linter.unusedSimpArgs false
set_option linter.unusedVariables false
set_option linter.unusedSectionVars false
namespace Go.Proofs.YtaojjpdlfnphiaaDoor.PDescKinds
open Go.RowKit Go.Ev
set_option maxRecDepth 100000 in
theorem find48_pre (M : Nat → Mo) (bx : Nat → XR) (a b : Nat) (k : K) : letI := rowsB M bx
    evK Tryd.prog ext (tab2 AL []) 80 20 (seqL (preOf (bodyOf Tryd.f48))) (⟨argS [.xs [a, b], .val k.agg], fun _ => none, 0⟩) (grab Tryd.prog Tryd.f48 [0, 3, 5] [0] 1) =
    some (Res.cut Ex.normal (Cut.mk [(0, SV.xs [a, b]), (3, SV.ptr 0 0), (5, SV.val (Value.int IntKind.i64 0))] [(0, Blk.mk 64 [SV.val (Value.string k.s), SV.val (Value.int IntKind.i64 k.n)])])) := by kernel_rfl
set_option maxRecDepth 100000 in
theorem find48_round (M : Nat → Mo) (bx : Nat → XR) (a b : Nat) (k : K) (i : Nat) : letI := rowsB M bx
    evK Tryd.prog ext (tab2 AL []) 80 20 (seqL (flat (roundOf (bodyOf Tryd.f48)))) ((⟨[(0, .xs [a, b]), (3, .ptr 0 0), (5, .val (.int .i64 (i : Int)))], [(0, ⟨64, [.val (.string k.s), .val (.int .i64 k.n)]⟩)]⟩ : Cut).st 1) (grab Tryd.prog Tryd.f48 [0, 3, 5] [0] 1) =
    (bif decide ((↑i : Int) < (↑((M a).g b).n : Int)) then 
     (bif decide (0 ≤ (↑i : Int)) && decide ((↑i : Int) < (↑((M a).g b).n : Int)) then 
      (bif (((M a).g b).g i).k.s == k.s && ((((M a).g b).g i).k.n == k.n && true) then some (Res.ret (SV.val (Value.int IntKind.i64 (↑i : Int)))) else some (Res.cut Ex.normal (Cut.mk [(0, SV.xs [a, b]), (3, SV.ptr 0 0), (5, SV.val (Value.int IntKind.i64 (IntKind.i64.wrap ((↑i : Int) + 1))))] [(0, Blk.mk 64 [SV.val (Value.string k.s), SV.val (Value.int IntKind.i64 k.n)])]))) else none) else some (Res.cut (Ex.exit 0) (Cut.mk [(0, SV.xs [a, b]), (3, SV.ptr 0 0), (5, SV.val (Value.int IntKind.i64 (↑i : Int)))] [(0, Blk.mk 64 [SV.val (Value.string k.s), SV.val (Value.int IntKind.i64 k.n)])]))) := by kernel_rfl
set_option maxRecDepth 100000 in
theorem find48_post (M : Nat → Mo) (bx : Nat → XR) (a b : Nat) (k : K) (i : Nat) : letI := rowsB M bx
    evK Tryd.prog ext (tab2 AL []) 80 20 (seqL (postOf (bodyOf Tryd.f48))) ((⟨[(0, .xs [a, b]), (3, .ptr 0 0), (5, .val (.int .i64 (i : Int)))], [(0, ⟨64, [.val (.string k.s), .val (.int .i64 k.n)]⟩)]⟩ : Cut).st 1) (grab Tryd.prog Tryd.f48 [0, 3, 5] [0] 1) =
    some (Res.ret (SV.val (Value.int IntKind.i64 (-1)))) := by kernel_rfl
set_option maxRecDepth 100000 in
theorem run_find48 (M : Nat → Mo) (bx : Nat → XR) (hM : Fit M) (a b : Nat) (k : K) : letI := rowsB M bx
    Runs Tryd.prog (Inv M bx) 20 Tryd.f48 ((fun x : Int => SV.val (.int .i64 x)) ((seek (fun i => bif S.keq (((M a).g b).g i).k k then some (i : Int) else none) (((M a).g b).n) 0).getD (-1))) [] (bodyOf Tryd.f48) (⟨argS [.xs [a, b], .val k.agg], fun _ => none, 0⟩) := by
  letI := rowsB M bx
  have C := ctxB M bx entsAL entsS_nil
  refine Runs.seekFn C (n := ((M a).g b).n) (p := fun i => bif S.keq (((M a).g b).g i).k k then some (i : Int) else none) (f := (fun x : Int => SV.val (.int .i64 x))) (z := (-1)) (hd := fun i => (⟨[(0, .xs [a, b]), (3, .ptr 0 0), (5, .val (.int .i64 (i : Int)))], [(0, ⟨64, [.val (.string k.s), .val (.int .i64 k.n)]⟩)]⟩ : Cut)) (c' := (fun i : Nat => (⟨[(0, .xs [a, b]), (3, .ptr 0 0), (5, .val (.int .i64 (i : Int)))], [(0, ⟨64, [.val (.string k.s), .val (.int .i64 k.n)]⟩)]⟩ : Cut)) (((M a).g b).n)) (by kernel_rfl) (find48_pre M bx a b k) (fun i hi => ?_) ?_ (fun _ => Runs.ret C (find48_post M bx a b k (((M a).g b).n)))
  · refine (find48_round M bx a b k i).trans ?_
    simp only [dlt hi, dge, wr hi ((hM a).2 b), cond_true, cond_false, Bool.and_self, Bool.true_and, map_cond, toR_cond, some_cond, Option.map_some, Option.map_none, toR_some, toR_none, cnd_and, cnd_or, cnd_not, S.keq, S.eqC, S.alikeC]
    first | done | rfl
  · refine (find48_round M bx a b k (((M a).g b).n)).trans ?_
    simp only [dnl, cond_false]
    rfl
theorem ent_find48 (M : Nat → Mo) (bx : Nat → XR) (hM : Fit M) : Ent M bx (48, noMem (onPK fun a b k => LI (S.find ((M a).g b) k))) := by
  letI := rowsB M bx
  refine EntryS.of (fun args t v h1 h2 => ?_) (inv_stable M bx)
  obtain ⟨a, b, k, rfl, rfl⟩ := onPK_eq h1
  cases h2
  refine ⟨ok_val _ _, ?_, fun w m hI => Runs.calls (body := Tryd.f48.body.getD .skip) Tryd.func48 (by kernel_rfl) (by kernel_rfl) ?_ (run_find48 M bx hM a b k) w hI m⟩ <;>
  · intro x hx
    simp only [List.mem_cons, List.not_mem_nil, or_false] at hx
    rcases hx with rfl | rfl <;> first | exact ok_val _ _ | exact ok_xs
set_option maxRecDepth 100000 in
theorem idx119_pre (M : Nat → Mo) (bx : Nat → XR) (a b : Nat) (k : K) : letI := rowsB M (fun _ => ⟨(bx 0).A, 2, 1, 1, fun _ => [.val (.string k.s), .val (.int .i64 k.n)]⟩)
    evK Tryd.prog ext (tab2 AL []) 80 19 (seqL (preOf (bodyOf Tryd.f110))) (⟨argS [.xs [a, b], .fn 119 [.xp [0, 0, 0] 0 0]], fun _ => none, 0⟩) (grab Tryd.prog Tryd.f110 [0, 1, 7, 8] [] 0) =
    some (Res.cut Ex.normal (Cut.mk [(0, SV.xs [a, b]), (1, SV.fn 119 [SV.xp [0, 0, 0] 0 0]), (7, SV.val (Value.int IntKind.i64 (↑((M a).g b).n : Int))), (8, SV.val (Value.int IntKind.i64 0))] [])) := by kernel_rfl
set_option maxRecDepth 100000 in
theorem idx119_round (M : Nat → Mo) (bx : Nat → XR) (a b : Nat) (k : K) (i : Nat) : letI := rowsB M (fun _ => ⟨(bx 0).A, 2, 1, 1, fun _ => [.val (.string k.s), .val (.int .i64 k.n)]⟩)
    evK Tryd.prog ext (tab2 AL []) 80 19 (seqL (flat (roundOf (bodyOf Tryd.f110)))) ((⟨[(0, .xs [a, b]), (1, .fn 119 [.xp [0, 0, 0] 0 0]), (7, .val (.int .i64 ((M a).g b).n)), (8, .val (.int .i64 (i : Int)))], []⟩ : Cut).st 0) (grab Tryd.prog Tryd.f110 [0, 1, 7, 8] [] 0) =
    (bif decide ((↑i : Int) < (↑((M a).g b).n : Int)) then 
     (bif decide (0 ≤ (↑i : Int)) && decide ((↑i : Int) < (↑((M a).g b).n : Int)) then 
      (bif (((M a).g b).g i).k.s == k.s && ((((M a).g b).g i).k.n == k.n && true) then some (Res.ret (SV.val (Value.int IntKind.i64 (↑i : Int)))) else some (Res.cut Ex.normal (Cut.mk [(0, SV.xs [a, b]), (1, SV.fn 119 [SV.xp [0, 0, 0] 0 0]), (7, SV.val (Value.int IntKind.i64 (↑((M a).g b).n : Int))), (8, SV.val (Value.int IntKind.i64 (IntKind.i64.wrap ((↑i : Int) + 1))))] []))) else none) else some (Res.cut (Ex.exit 0) (Cut.mk [(0, SV.xs [a, b]), (1, SV.fn 119 [SV.xp [0, 0, 0] 0 0]), (7, SV.val (Value.int IntKind.i64 (↑((M a).g b).n : Int))), (8, SV.val (Value.int IntKind.i64 (↑i : Int)))] []))) := by kernel_rfl
set_option maxRecDepth 100000 in
theorem idx119_post (M : Nat → Mo) (bx : Nat → XR) (a b : Nat) (k : K) (i : Nat) : letI := rowsB M (fun _ => ⟨(bx 0).A, 2, 1, 1, fun _ => [.val (.string k.s), .val (.int .i64 k.n)]⟩)
    evK Tryd.prog ext (tab2 AL []) 80 19 (seqL (postOf (bodyOf Tryd.f110))) ((⟨[(0, .xs [a, b]), (1, .fn 119 [.xp [0, 0, 0] 0 0]), (7, .val (.int .i64 ((M a).g b).n)), (8, .val (.int .i64 (i : Int)))], []⟩ : Cut).st 0) (grab Tryd.prog Tryd.f110 [0, 1, 7, 8] [] 0) =
    some (Res.ret (SV.val (Value.int IntKind.i64 (-1)))) := by kernel_rfl
set_option maxRecDepth 100000 in
theorem run_idx119 (M : Nat → Mo) (bx : Nat → XR) (hM : Fit M) (a b : Nat) (k : K) : letI := rowsB M (fun _ => ⟨(bx 0).A, 2, 1, 1, fun _ => [.val (.string k.s), .val (.int .i64 k.n)]⟩)
    Runs Tryd.prog (Inv M (fun _ => ⟨(bx 0).A, 2, 1, 1, fun _ => [.val (.string k.s), .val (.int .i64 k.n)]⟩)) 19 Tryd.f110 ((fun x : Int => SV.val (.int .i64 x)) ((seek (fun i => bif S.keq (((M a).g b).g i).k k then some (i : Int) else none) (((M a).g b).n) 0).getD (-1))) [] (bodyOf Tryd.f110) (⟨argS [.xs [a, b], .fn 119 [.xp [0, 0, 0] 0 0]], fun _ => none, 0⟩) := by
  letI := rowsB M (fun _ => ⟨(bx 0).A, 2, 1, 1, fun _ => [.val (.string k.s), .val (.int .i64 k.n)]⟩)
  have C := ctxB M (fun _ => ⟨(bx 0).A, 2, 1, 1, fun _ => [.val (.string k.s), .val (.int .i64 k.n)]⟩) entsAL entsS_nil
  refine Runs.seekFn C (n := ((M a).g b).n) (p := fun i => bif S.keq (((M a).g b).g i).k k then some (i : Int) else none) (f := (fun x : Int => SV.val (.int .i64 x))) (z := (-1)) (hd := fun i => (⟨[(0, .xs [a, b]), (1, .fn 119 [.xp [0, 0, 0] 0 0]), (7, .val (.int .i64 ((M a).g b).n)), (8, .val (.int .i64 (i : Int)))], []⟩ : Cut)) (c' := (fun i : Nat => (⟨[(0, .xs [a, b]), (1, .fn 119 [.xp [0, 0, 0] 0 0]), (7, .val (.int .i64 ((M a).g b).n)), (8, .val (.int .i64 (i : Int)))], []⟩ : Cut)) (((M a).g b).n)) (by kernel_rfl) (idx119_pre M bx a b k) (fun i hi => ?_) ?_ (fun _ => Runs.ret C (idx119_post M bx a b k (((M a).g b).n)))
  · refine (idx119_round M bx a b k i).trans ?_
    simp only [dlt hi, dge, wr hi ((hM a).2 b), cond_true, cond_false, Bool.and_self, Bool.true_and, map_cond, toR_cond, some_cond, Option.map_some, Option.map_none, toR_some, toR_none, cnd_and, cnd_or, cnd_not, S.keq, S.eqC, S.alikeC]
    first | done | rfl
  · refine (idx119_round M bx a b k (((M a).g b).n)).trans ?_
    simp only [dnl, cond_false]
    rfl
theorem ent_idxA (M : Nat → Mo) (bx : Nat → XR) (hM : Fit M) : Ent M bx (110, idxA M) := by
  letI := rowsB M bx
  intro args mem t v h1 h2 hok
  obtain ⟨a, b, l, k, rfl, hk, rfl⟩ := idxA_eq h1
  obtain ⟨q, blk, rfl, hq, hc⟩ := keyAt_eq hk
  cases h2
  refine ⟨ok_val _ _, fun w0 m w hI hm => ?_⟩
  · have hw : Inv M bx w := inv_stable M bx _ _ hI hm.below
    have hw' : Inv M (fun _ => ⟨some ⟨m q, 0, none⟩, 2, 1, 1, fun _ => [.val (.string k.s), .val (.int .i64 k.n)]⟩) w := ⟨hw.1, xok_box hw.2 (fun _ => by
      have := box_row (bx' := (fun _ => ⟨some ⟨m q, 0, none⟩, 2, 1, 1, fun _ => [.val (.string k.s), .val (.int .i64 k.n)]⟩)) hm hq (by rw [hc]; exact simple_key k)
      rw [hc] at this
      exact this)⟩
    have := @Runs.calls (rowsB M (fun _ => ⟨some ⟨m q, 0, none⟩, 2, 1, 1, fun _ => [.val (.string k.s), .val (.int .i64 k.n)]⟩)) Tryd.prog (Inv M (fun _ => ⟨some ⟨m q, 0, none⟩, 2, 1, 1, fun _ => [.val (.string k.s), .val (.int .i64 k.n)]⟩)) 19 Tryd.f110 _ 110 (Tryd.f110.body.getD .skip) [.xs [a, b], .fn 119 [.xp [0, 0, 0] 0 0]] Tryd.func110 (by kernel_rfl) (by kernel_rfl) (by
      letI := rowsB M (fun _ => ⟨some ⟨m q, 0, none⟩, 2, 1, 1, fun _ => [.val (.string k.s), .val (.int .i64 k.n)]⟩)
      intro x hx
      simp only [List.mem_cons, List.not_mem_nil, or_false] at hx
      rcases hx with rfl | rfl
      · exact ok_xs
      · exact ok_fn.2 (fun c hc => by
          simp only [List.mem_cons, List.not_mem_nil, or_false] at hc
          subst hc
          exact ok_xp.2 (show 0 < 1 by decide))) (run_idx119 M (fun _ => ⟨some ⟨m q, 0, none⟩, 2, 1, 1, fun _ => [.val (.string k.s), .val (.int .i64 k.n)]⟩) hM a b k) w hw' m
    have hargs : (List.map (@SV.den (rowsB M (fun _ => ⟨some ⟨m q, 0, none⟩, 2, 1, 1, fun _ => [.val (.string k.s), .val (.int .i64 k.n)]⟩)) m) [SV.xs [a, b], SV.fn 119 [SV.xp [0, 0, 0] 0 0]]) = (List.map (@SV.den (rowsB M bx) m) [SV.xs [a, b], SV.fn 119 [SV.ptr q 0]]) := by
      simp only [List.map_cons, List.map_nil, @den_xs (rowsB M (fun _ => ⟨some ⟨m q, 0, none⟩, 2, 1, 1, fun _ => [.val (.string k.s), .val (.int .i64 k.n)]⟩)), @den_xs (rowsB M bx), @den_fn (rowsB M (fun _ => ⟨some ⟨m q, 0, none⟩, 2, 1, 1, fun _ => [.val (.string k.s), .val (.int .i64 k.n)]⟩)), @den_fn (rowsB M bx), @den_xp (rowsB M (fun _ => ⟨some ⟨m q, 0, none⟩, 2, 1, 1, fun _ => [.val (.string k.s), .val (.int .i64 k.n)]⟩)), @den_ptr (rowsB M bx)]
      rfl
    rw [hargs] at this
    refine Calls.mono this fun e w' ⟨⟨m', he⟩, hb⟩ => ⟨?_, hb⟩
    rw [he, @den_val (rowsB M (fun _ => ⟨some ⟨m q, 0, none⟩, 2, 1, 1, fun _ => [.val (.string k.s), .val (.int .i64 k.n)]⟩)), @den_val (rowsB M bx)]
    rfl
set_option maxRecDepth 100000 in
theorem idx105_pre (M : Nat → Mo) (bx : Nat → XR) (a b : Nat) (q : SA) : letI := rowsB M (fun _ => ⟨(bx 0).A, 8, 1, 1, fun _ => shCells q.cl q.p q.x [q.a, q.b]⟩)
    evK Tryd.prog ext (tab2 AL [(110, idxA M)]) 80 19 (seqL (preOf (bodyOf Tryd.f110))) (⟨argS [.xs [a, b], .fn 105 [.xp [0, 0, 0] 0 0]], fun _ => none, 0⟩) (grab Tryd.prog Tryd.f110 [0, 1, 7, 8] [] 0) =
    some (Res.cut Ex.normal (Cut.mk [(0, SV.xs [a, b]), (1, SV.fn 105 [SV.xp [0, 0, 0] 0 0]), (7, SV.val (Value.int IntKind.i64 (↑((M a).g b).n : Int))), (8, SV.val (Value.int IntKind.i64 0))] [])) := by kernel_rfl
set_option maxRecDepth 100000 in
theorem idx105_round (M : Nat → Mo) (bx : Nat → XR) (a b : Nat) (q : SA) (i : Nat) : letI := rowsB M (fun _ => ⟨(bx 0).A, 8, 1, 1, fun _ => shCells q.cl q.p q.x [q.a, q.b]⟩)
    evK Tryd.prog ext (tab2 AL [(110, idxA M)]) 80 19 (seqL (flat (roundOf (bodyOf Tryd.f110)))) ((⟨[(0, .xs [a, b]), (1, .fn 105 [.xp [0, 0, 0] 0 0]), (7, .val (.int .i64 ((M a).g b).n)), (8, .val (.int .i64 (i : Int)))], []⟩ : Cut).st 0) (grab Tryd.prog Tryd.f110 [0, 1, 7, 8] [] 0) =
    (bif decide ((↑i : Int) < (↑((M a).g b).n : Int)) then 
     (bif decide (0 ≤ (↑i : Int)) && decide ((↑i : Int) < (↑((M a).g b).n : Int)) then 
      (bif decide (S.find ((M q.a).g q.b) (K.mk (((M a).g b).g i).k.s (((M a).g b).g i).k.n) < 0) then some (Res.ret (SV.val (Value.int IntKind.i64 (↑i : Int)))) else some (Res.cut Ex.normal (Cut.mk [(0, SV.xs [a, b]), (1, SV.fn 105 [SV.xp [0, 0, 0] 0 0]), (7, SV.val (Value.int IntKind.i64 (↑((M a).g b).n : Int))), (8, SV.val (Value.int IntKind.i64 (IntKind.i64.wrap ((↑i : Int) + 1))))] []))) else none) else some (Res.cut (Ex.exit 0) (Cut.mk [(0, SV.xs [a, b]), (1, SV.fn 105 [SV.xp [0, 0, 0] 0 0]), (7, SV.val (Value.int IntKind.i64 (↑((M a).g b).n : Int))), (8, SV.val (Value.int IntKind.i64 (↑i : Int)))] []))) := by kernel_rfl
set_option maxRecDepth 100000 in
theorem idx105_post (M : Nat → Mo) (bx : Nat → XR) (a b : Nat) (q : SA) (i : Nat) : letI := rowsB M (fun _ => ⟨(bx 0).A, 8, 1, 1, fun _ => shCells q.cl q.p q.x [q.a, q.b]⟩)
    evK Tryd.prog ext (tab2 AL [(110, idxA M)]) 80 19 (seqL (postOf (bodyOf Tryd.f110))) ((⟨[(0, .xs [a, b]), (1, .fn 105 [.xp [0, 0, 0] 0 0]), (7, .val (.int .i64 ((M a).g b).n)), (8, .val (.int .i64 (i : Int)))], []⟩ : Cut).st 0) (grab Tryd.prog Tryd.f110 [0, 1, 7, 8] [] 0) =
    some (Res.ret (SV.val (Value.int IntKind.i64 (-1)))) := by kernel_rfl
set_option maxRecDepth 100000 in
theorem run_idx105 (M : Nat → Mo) (bx : Nat → XR) (hM : Fit M) (a b : Nat) (q : SA) : letI := rowsB M (fun _ => ⟨(bx 0).A, 8, 1, 1, fun _ => shCells q.cl q.p q.x [q.a, q.b]⟩)
    Runs Tryd.prog (Inv M (fun _ => ⟨(bx 0).A, 8, 1, 1, fun _ => shCells q.cl q.p q.x [q.a, q.b]⟩)) 19 Tryd.f110 ((fun x : Int => SV.val (.int .i64 x)) ((seek (fun i => bif decide (S.find (q.sh M) (((M a).g b).g i).k < 0) then some (i : Int) else none) (((M a).g b).n) 0).getD (-1))) [] (bodyOf Tryd.f110) (⟨argS [.xs [a, b], .fn 105 [.xp [0, 0, 0] 0 0]], fun _ => none, 0⟩) := by
  letI := rowsB M (fun _ => ⟨(bx 0).A, 8, 1, 1, fun _ => shCells q.cl q.p q.x [q.a, q.b]⟩)
  have C := ctxB M (fun _ => ⟨(bx 0).A, 8, 1, 1, fun _ => shCells q.cl q.p q.x [q.a, q.b]⟩) entsAL (entsS_cons (ent_idxA M (fun _ => ⟨(bx 0).A, 8, 1, 1, fun _ => shCells q.cl q.p q.x [q.a, q.b]⟩) hM) entsS_nil)
  refine Runs.seekFn C (n := ((M a).g b).n) (p := fun i => bif decide (S.find (q.sh M) (((M a).g b).g i).k < 0) then some (i : Int) else none) (f := (fun x : Int => SV.val (.int .i64 x))) (z := (-1)) (hd := fun i => (⟨[(0, .xs [a, b]), (1, .fn 105 [.xp [0, 0, 0] 0 0]), (7, .val (.int .i64 ((M a).g b).n)), (8, .val (.int .i64 (i : Int)))], []⟩ : Cut)) (c' := (fun i : Nat => (⟨[(0, .xs [a, b]), (1, .fn 105 [.xp [0, 0, 0] 0 0]), (7, .val (.int .i64 ((M a).g b).n)), (8, .val (.int .i64 (i : Int)))], []⟩ : Cut)) (((M a).g b).n)) (by kernel_rfl) (idx105_pre M bx a b q) (fun i hi => ?_) ?_ (fun _ => Runs.ret C (idx105_post M bx a b q (((M a).g b).n)))
  · refine (idx105_round M bx a b q i).trans ?_
    simp only [dlt hi, dge, wr hi ((hM a).2 b), cond_true, cond_false, Bool.and_self, Bool.true_and, map_cond, toR_cond, some_cond, Option.map_some, Option.map_none, toR_some, toR_none, cnd_and, cnd_or, cnd_not, S.keq, S.eqC, S.alikeC]
    first | done | rfl
  · refine (idx105_round M bx a b q (((M a).g b).n)).trans ?_
    simp only [dnl, cond_false]
    rfl
set_option maxRecDepth 100000 in
theorem idx83_pre (M : Nat → Mo) (bx : Nat → XR) (a b : Nat) : letI := rowsB M bx
    evK Tryd.prog ext (tab2 AL []) 80 19 (seqL (preOf (bodyOf Tryd.f110))) (⟨argS [.xs [a, b], fnv 83], fun _ => none, 0⟩) (grab Tryd.prog Tryd.f110 [0, 1, 7, 8] [] 0) =
    some (Res.cut Ex.normal (Cut.mk [(0, SV.xs [a, b]), (1, SV.val (Value.func (Fn.func 83) #[] #[])), (7, SV.val (Value.int IntKind.i64 (↑((M a).g b).n : Int))), (8, SV.val (Value.int IntKind.i64 0))] [])) := by kernel_rfl
set_option maxRecDepth 100000 in
theorem idx83_round (M : Nat → Mo) (bx : Nat → XR) (a b : Nat) (i : Nat) : letI := rowsB M bx
    evK Tryd.prog ext (tab2 AL []) 80 19 (seqL (flat (roundOf (bodyOf Tryd.f110)))) ((⟨[(0, .xs [a, b]), (1, fnv 83), (7, .val (.int .i64 ((M a).g b).n)), (8, .val (.int .i64 (i : Int)))], []⟩ : Cut).st 0) (grab Tryd.prog Tryd.f110 [0, 1, 7, 8] [] 0) =
    (bif decide ((↑i : Int) < (↑((M a).g b).n : Int)) then 
     (bif decide (0 ≤ (↑i : Int)) && decide ((↑i : Int) < (↑((M a).g b).n : Int)) then 
      (bif (((M a).g b).g i).d.c != 1 then some (Res.ret (SV.val (Value.int IntKind.i64 (↑i : Int)))) else some (Res.cut Ex.normal (Cut.mk [(0, SV.xs [a, b]), (1, SV.val (Value.func (Fn.func 83) #[] #[])), (7, SV.val (Value.int IntKind.i64 (↑((M a).g b).n : Int))), (8, SV.val (Value.int IntKind.i64 (IntKind.i64.wrap ((↑i : Int) + 1))))] []))) else none) else some (Res.cut (Ex.exit 0) (Cut.mk [(0, SV.xs [a, b]), (1, SV.val (Value.func (Fn.func 83) #[] #[])), (7, SV.val (Value.int IntKind.i64 (↑((M a).g b).n : Int))), (8, SV.val (Value.int IntKind.i64 (↑i : Int)))] []))) := by kernel_rfl
set_option maxRecDepth 100000 in
theorem idx83_post (M : Nat → Mo) (bx : Nat → XR) (a b : Nat) (i : Nat) : letI := rowsB M bx
    evK Tryd.prog ext (tab2 AL []) 80 19 (seqL (postOf (bodyOf Tryd.f110))) ((⟨[(0, .xs [a, b]), (1, fnv 83), (7, .val (.int .i64 ((M a).g b).n)), (8, .val (.int .i64 (i : Int)))], []⟩ : Cut).st 0) (grab Tryd.prog Tryd.f110 [0, 1, 7, 8] [] 0) =
    some (Res.ret (SV.val (Value.int IntKind.i64 (-1)))) := by kernel_rfl
set_option maxRecDepth 100000 in
theorem run_idx83 (M : Nat → Mo) (bx : Nat → XR) (hM : Fit M) (a b : Nat) : letI := rowsB M bx
    Runs Tryd.prog (Inv M bx) 19 Tryd.f110 ((fun x : Int => SV.val (.int .i64 x)) ((seek (fun i => bif (((M a).g b).g i).d.c != 1 then some (i : Int) else none) (((M a).g b).n) 0).getD (-1))) [] (bodyOf Tryd.f110) (⟨argS [.xs [a, b], fnv 83], fun _ => none, 0⟩) := by
  letI := rowsB M bx
  have C := ctxB M bx entsAL entsS_nil
  refine Runs.seekFn C (n := ((M a).g b).n) (p := fun i => bif (((M a).g b).g i).d.c != 1 then some (i : Int) else none) (f := (fun x : Int => SV.val (.int .i64 x))) (z := (-1)) (hd := fun i => (⟨[(0, .xs [a, b]), (1, fnv 83), (7, .val (.int .i64 ((M a).g b).n)), (8, .val (.int .i64 (i : Int)))], []⟩ : Cut)) (c' := (fun i : Nat => (⟨[(0, .xs [a, b]), (1, fnv 83), (7, .val (.int .i64 ((M a).g b).n)), (8, .val (.int .i64 (i : Int)))], []⟩ : Cut)) (((M a).g b).n)) (by kernel_rfl) (idx83_pre M bx a b) (fun i hi => ?_) ?_ (fun _ => Runs.ret C (idx83_post M bx a b (((M a).g b).n)))
  · refine (idx83_round M bx a b i).trans ?_
    simp only [dlt hi, dge, wr hi ((hM a).2 b), cond_true, cond_false, Bool.and_self, Bool.true_and, map_cond, toR_cond, some_cond, Option.map_some, Option.map_none, toR_some, toR_none, cnd_and, cnd_or, cnd_not, S.keq, S.eqC, S.alikeC]
    first | done | rfl
  · refine (idx83_round M bx a b (((M a).g b).n)).trans ?_
    simp only [dnl, cond_false]
    rfl
set_option maxRecDepth 100000 in
theorem idx84_pre (M : Nat → Mo) (bx : Nat → XR) (a b : Nat) : letI := rowsB M bx
    evK Tryd.prog ext (tab2 AL []) 80 19 (seqL (preOf (bodyOf Tryd.f110))) (⟨argS [.xs [a, b], fnv 84], fun _ => none, 0⟩) (grab Tryd.prog Tryd.f110 [0, 1, 7, 8] [] 0) =
    some (Res.cut Ex.normal (Cut.mk [(0, SV.xs [a, b]), (1, SV.val (Value.func (Fn.func 84) #[] #[])), (7, SV.val (Value.int IntKind.i64 (↑((M a).g b).n : Int))), (8, SV.val (Value.int IntKind.i64 0))] [])) := by kernel_rfl
set_option maxRecDepth 100000 in
theorem idx84_round (M : Nat → Mo) (bx : Nat → XR) (a b : Nat) (i : Nat) : letI := rowsB M bx
    evK Tryd.prog ext (tab2 AL []) 80 19 (seqL (flat (roundOf (bodyOf Tryd.f110)))) ((⟨[(0, .xs [a, b]), (1, fnv 84), (7, .val (.int .i64 ((M a).g b).n)), (8, .val (.int .i64 (i : Int)))], []⟩ : Cut).st 0) (grab Tryd.prog Tryd.f110 [0, 1, 7, 8] [] 0) =
    (bif decide ((↑i : Int) < (↑((M a).g b).n : Int)) then 
     (bif decide (0 ≤ (↑i : Int)) && decide ((↑i : Int) < (↑((M a).g b).n : Int)) then 
      (bif (((M a).g b).g i).d.g.k == 0 then 
       (bif (((M a).g b).g i).d.t.k == 0 then 
        (bif (((M a).g b).g i).d.w != 1 then some (Res.ret (SV.val (Value.int IntKind.i64 (↑i : Int)))) else some (Res.cut Ex.normal (Cut.mk [(0, SV.xs [a, b]), (1, SV.val (Value.func (Fn.func 84) #[] #[])), (7, SV.val (Value.int IntKind.i64 (↑((M a).g b).n : Int))), (8, SV.val (Value.int IntKind.i64 (IntKind.i64.wrap ((↑i : Int) + 1))))] []))) else some (Res.cut Ex.normal (Cut.mk [(0, SV.xs [a, b]), (1, SV.val (Value.func (Fn.func 84) #[] #[])), (7, SV.val (Value.int IntKind.i64 (↑((M a).g b).n : Int))), (8, SV.val (Value.int IntKind.i64 (IntKind.i64.wrap ((↑i : Int) + 1))))] []))) else some (Res.cut Ex.normal (Cut.mk [(0, SV.xs [a, b]), (1, SV.val (Value.func (Fn.func 84) #[] #[])), (7, SV.val (Value.int IntKind.i64 (↑((M a).g b).n : Int))), (8, SV.val (Value.int IntKind.i64 (IntKind.i64.wrap ((↑i : Int) + 1))))] []))) else none) else some (Res.cut (Ex.exit 0) (Cut.mk [(0, SV.xs [a, b]), (1, SV.val (Value.func (Fn.func 84) #[] #[])), (7, SV.val (Value.int IntKind.i64 (↑((M a).g b).n : Int))), (8, SV.val (Value.int IntKind.i64 (↑i : Int)))] []))) := by kernel_rfl
set_option maxRecDepth 100000 in
theorem idx84_post (M : Nat → Mo) (bx : Nat → XR) (a b : Nat) (i : Nat) : letI := rowsB M bx
    evK Tryd.prog ext (tab2 AL []) 80 19 (seqL (postOf (bodyOf Tryd.f110))) ((⟨[(0, .xs [a, b]), (1, fnv 84), (7, .val (.int .i64 ((M a).g b).n)), (8, .val (.int .i64 (i : Int)))], []⟩ : Cut).st 0) (grab Tryd.prog Tryd.f110 [0, 1, 7, 8] [] 0) =
    some (Res.ret (SV.val (Value.int IntKind.i64 (-1)))) := by kernel_rfl
set_option maxRecDepth 100000 in
theorem run_idx84 (M : Nat → Mo) (bx : Nat → XR) (hM : Fit M) (a b : Nat) : letI := rowsB M bx
    Runs Tryd.prog (Inv M bx) 19 Tryd.f110 ((fun x : Int => SV.val (.int .i64 x)) ((seek (fun i => bif (((M a).g b).g i).d.g.k == 0 && ((((M a).g b).g i).d.t.k == 0 && (((M a).g b).g i).d.w != 1) then some (i : Int) else none) (((M a).g b).n) 0).getD (-1))) [] (bodyOf Tryd.f110) (⟨argS [.xs [a, b], fnv 84], fun _ => none, 0⟩) := by
  letI := rowsB M bx
  have C := ctxB M bx entsAL entsS_nil
  refine Runs.seekFn C (n := ((M a).g b).n) (p := fun i => bif (((M a).g b).g i).d.g.k == 0 && ((((M a).g b).g i).d.t.k == 0 && (((M a).g b).g i).d.w != 1) then some (i : Int) else none) (f := (fun x : Int => SV.val (.int .i64 x))) (z := (-1)) (hd := fun i => (⟨[(0, .xs [a, b]), (1, fnv 84), (7, .val (.int .i64 ((M a).g b).n)), (8, .val (.int .i64 (i : Int)))], []⟩ : Cut)) (c' := (fun i : Nat => (⟨[(0, .xs [a, b]), (1, fnv 84), (7, .val (.int .i64 ((M a).g b).n)), (8, .val (.int .i64 (i : Int)))], []⟩ : Cut)) (((M a).g b).n)) (by kernel_rfl) (idx84_pre M bx a b) (fun i hi => ?_) ?_ (fun _ => Runs.ret C (idx84_post M bx a b (((M a).g b).n)))
  · refine (idx84_round M bx a b i).trans ?_
    simp only [dlt hi, dge, wr hi ((hM a).2 b), cond_true, cond_false, Bool.and_self, Bool.true_and, map_cond, toR_cond, some_cond, Option.map_some, Option.map_none, toR_some, toR_none, cnd_and, cnd_or, cnd_not, S.keq, S.eqC, S.alikeC]
    first | done | rfl
  · refine (idx84_round M bx a b (((M a).g b).n)).trans ?_
    simp only [dnl, cond_false]
    rfl
theorem ent_idxC (M : Nat → Mo) (bx : Nat → XR) (hM : Fit M) : Ent M bx (110, idxC M) := by
  letI := rowsB M bx
  intro args mem t v h1 h2 hok
  rcases idxC_eq h1 with ⟨a, b, l, k, rfl, hk, rfl⟩ | ⟨a, b, l, k, rfl, hk, rfl⟩ | ⟨a, b, rfl, rfl⟩ | ⟨a, b, rfl, rfl⟩
  · exact ent_idxA M bx hM [.xs [a, b], .fn 119 l] mem _ v (by
      show (match keyAt mem l with
        | some k => some (DT.leaf (SV.val (.int .i64 (S.find ((M a).g b) k))))
        | none => none) = _
      rw [hk]) h2 hok
  · obtain ⟨q, blk, rfl, hq, hc⟩ := shapeAt_eq hk
    cases h2
    refine ⟨ok_val _ _, fun w0 m w hI hm => ?_⟩
    have hw : Inv M bx w := inv_stable M bx _ _ hI hm.below
    have hw' : Inv M (fun _ => ⟨some ⟨m q, 0, none⟩, 8, 1, 1, fun _ => shCells k.cl k.p k.x [k.a, k.b]⟩) w := ⟨hw.1, xok_box hw.2 (fun _ => by
      have := box_row (bx' := (fun _ => ⟨some ⟨m q, 0, none⟩, 8, 1, 1, fun _ => shCells k.cl k.p k.x [k.a, k.b]⟩)) hm hq (by rw [hc]; exact simple_sh _ _ _ _ _)
      rw [hc] at this
      exact this)⟩
    have := @Runs.calls (rowsB M (fun _ => ⟨some ⟨m q, 0, none⟩, 8, 1, 1, fun _ => shCells k.cl k.p k.x [k.a, k.b]⟩)) Tryd.prog (Inv M (fun _ => ⟨some ⟨m q, 0, none⟩, 8, 1, 1, fun _ => shCells k.cl k.p k.x [k.a, k.b]⟩)) 19 Tryd.f110 _ 110 (Tryd.f110.body.getD .skip) [.xs [a, b], .fn 105 [.xp [0, 0, 0] 0 0]] Tryd.func110 (by kernel_rfl) (by kernel_rfl) (by
      letI := rowsB M (fun _ => ⟨some ⟨m q, 0, none⟩, 8, 1, 1, fun _ => shCells k.cl k.p k.x [k.a, k.b]⟩)
      intro x hx
      simp only [List.mem_cons, List.not_mem_nil, or_false] at hx
      rcases hx with rfl | rfl
      · exact ok_xs
      · exact ok_fn.2 (fun c hc => by
          simp only [List.mem_cons, List.not_mem_nil, or_false] at hc
          subst hc
          exact ok_xp.2 (show 0 < 1 by decide))) (run_idx105 M (fun _ => ⟨some ⟨m q, 0, none⟩, 8, 1, 1, fun _ => shCells k.cl k.p k.x [k.a, k.b]⟩) hM a b k) w hw' m
    have hargs : (List.map (@SV.den (rowsB M (fun _ => ⟨some ⟨m q, 0, none⟩, 8, 1, 1, fun _ => shCells k.cl k.p k.x [k.a, k.b]⟩)) m) [SV.xs [a, b], SV.fn 105 [SV.xp [0, 0, 0] 0 0]]) = (List.map (@SV.den (rowsB M bx) m) [SV.xs [a, b], SV.fn 105 [SV.ptr q 0]]) := by
      simp only [List.map_cons, List.map_nil, @den_xs (rowsB M (fun _ => ⟨some ⟨m q, 0, none⟩, 8, 1, 1, fun _ => shCells k.cl k.p k.x [k.a, k.b]⟩)), @den_xs (rowsB M bx), @den_fn (rowsB M (fun _ => ⟨some ⟨m q, 0, none⟩, 8, 1, 1, fun _ => shCells k.cl k.p k.x [k.a, k.b]⟩)), @den_fn (rowsB M bx), @den_xp (rowsB M (fun _ => ⟨some ⟨m q, 0, none⟩, 8, 1, 1, fun _ => shCells k.cl k.p k.x [k.a, k.b]⟩)), @den_ptr (rowsB M bx)]
      rfl
    rw [hargs] at this
    refine Calls.mono this fun e w' ⟨⟨m', he⟩, hb⟩ => ⟨?_, hb⟩
    rw [he, @den_val (rowsB M (fun _ => ⟨some ⟨m q, 0, none⟩, 8, 1, 1, fun _ => shCells k.cl k.p k.x [k.a, k.b]⟩)), @den_val (rowsB M bx)]
    rfl
  · cases h2
    refine ⟨ok_val _ _, fun w0 m w hI hm => ?_⟩
    have := @Runs.calls (rowsB M bx) Tryd.prog (Inv M bx) 19 Tryd.f110 _ 110 (Tryd.f110.body.getD .skip) [.xs [a, b], fnv 83] Tryd.func110 (by kernel_rfl) (by kernel_rfl) (by
      intro x hx
      simp only [List.mem_cons, List.not_mem_nil, or_false] at hx
      rcases hx with rfl | rfl
      · exact ok_xs
      · exact ok_val _ _) (run_idx83 M bx hM a b) w (inv_stable M bx _ _ hI hm.below) m
    refine Calls.mono this fun e w' ⟨⟨m', he⟩, hb⟩ => ⟨?_, hb⟩
    rw [he, @den_val (rowsB M bx), @den_val (rowsB M bx)]
    rfl
  · cases h2
    refine ⟨ok_val _ _, fun w0 m w hI hm => ?_⟩
    have := @Runs.calls (rowsB M bx) Tryd.prog (Inv M bx) 19 Tryd.f110 _ 110 (Tryd.f110.body.getD .skip) [.xs [a, b], fnv 84] Tryd.func110 (by kernel_rfl) (by kernel_rfl) (by
      intro x hx
      simp only [List.mem_cons, List.not_mem_nil, or_false] at hx
      rcases hx with rfl | rfl
      · exact ok_xs
      · exact ok_val _ _) (run_idx84 M bx hM a b) w (inv_stable M bx _ _ hI hm.below) m
    refine Calls.mono this fun e w' ⟨⟨m', he⟩, hb⟩ => ⟨?_, hb⟩
    rw [he, @den_val (rowsB M bx), @den_val (rowsB M bx)]
    rfl
end Go.Proofs.YtaojjpdlfnphiaaDoor.PDescKinds
end
section
/- Contracts by evaluation: what each function of a list answers. Written by a program of this session. -/
namespace Go.Proofs.YtaojjpdlfnphiaaDoor.PDescKinds
open Go.RowKit Go.Ev
set_option linter.unusedSimpArgs false
set_option linter.unusedVariables false
set_option maxRecDepth 100000
abbrev BvL0 : Tab := AL
theorem Bvents0 : ∀ p ∈ BvL0, E p := entsAL
set_option maxHeartbeats 4000000 in
theorem ev_num2 (a b : Nat) : evFn Tryd.prog ext (tab BvL0) 40 86 [.float .f64 a, .float .f64 b] = (T.num2 a b).val :=
  Eq.trans (b := 
    (bif decide (IntKind.u64.wrap (↑(BitVec.ofInt IntKind.u64.bits (↑a : Int) &&& ~~~BitVec.ofInt IntKind.u64.bits 9223372036854775808).toNat : Int) > 9218868437227405312) then 
     (bif decide (IntKind.u64.wrap (↑(BitVec.ofInt IntKind.u64.bits (↑b : Int) &&& ~~~BitVec.ofInt IntKind.u64.bits 9223372036854775808).toNat : Int) > 9218868437227405312) then some (Value.bool true) else some (Value.bool ((↑a : Int) == (↑b : Int)))) else some (Value.bool ((↑a : Int) == (↑b : Int))))) (by kernel_rfl) (by
    simp only [T.num2, T.B, DT.val_node, DT.val_leaf, DT.bind, DT.val_bad]
    repeat' (with_reducible refine bif_eq (fun h => ?_) (fun h => ?_))
    all_goals first | (simp only [*, R.num2, R.big, cond_true, cond_false, Bool.and_true, Bool.true_and, Bool.and_false, Bool.false_and, Bool.or_true, Bool.true_or, Bool.or_false, Bool.false_or]; done) | (simp_all [R.num2, R.big]; done) | grind [R.num2, R.big])
theorem ent_num2 : E (86, onFF T.num2) := byEv Bvents0 40 fun args t h => by
  obtain ⟨a, b, rfl, rfl⟩ := onFF_eq h
  exact ev_num2 a b
abbrev BvL1 : Tab := (86, onFF T.num2) :: BvL0
theorem Bvents1 : ∀ p ∈ BvL1, E p := entries_cons ent_num2 Bvents0
set_option maxHeartbeats 4000000 in
theorem ev_eqC (a b : V) : evFn Tryd.prog ext (tab BvL1) 40 77 [a.agg, b.agg] = (T.eqC a b).val :=
  Eq.trans (b := 
    (bif a.k == b.k then 
     (bif a.b == b.b then 
      (bif a.s.toList == b.s.toList then 
       (bif a.id == b.id then some (Value.bool (S.numSame a.n b.n)) else some (Value.bool false)) else some (Value.bool false)) else some (Value.bool false)) else some (Value.bool false))) (by kernel_rfl) (by
    simp only [T.eqC, T.B, DT.val_node, DT.val_leaf, DT.bind, DT.val_bad]
    repeat' (with_reducible refine bif_eq (fun h => ?_) (fun h => ?_))
    all_goals first | (simp only [*, S.eqC, cond_true, cond_false, Bool.and_true, Bool.true_and, Bool.and_false, Bool.false_and, Bool.or_true, Bool.true_or, Bool.or_false, Bool.false_or]; done) | (simp_all [S.eqC]; done) | grind [S.eqC])
theorem ent_eqC : E (77, onVV T.eqC) := byEv Bvents1 40 fun args t h => by
  obtain ⟨a, b, rfl, rfl⟩ := onVV_eq h
  exact ev_eqC a b
abbrev BvL2 : Tab := (77, onVV T.eqC) :: BvL1
theorem Bvents2 : ∀ p ∈ BvL2, E p := entries_cons ent_eqC Bvents1
set_option maxHeartbeats 4000000 in
theorem ev_alikeC (a b : D) : evFn Tryd.prog ext (tab BvL2) 40 80 [a.agg, b.agg] = (T.alikeC a b).val :=
  Eq.trans (b := 
    (bif S.eqC a.v b.v then 
     (bif S.eqC a.g b.g then 
      (bif S.eqC a.t b.t then 
       (bif a.w == b.w then 
        (bif a.e == b.e then some (Value.bool (a.c == b.c)) else some (Value.bool false)) else some (Value.bool false)) else some (Value.bool false)) else some (Value.bool false)) else some (Value.bool false))) (by kernel_rfl) (by
    simp only [T.alikeC, T.B, DT.val_node, DT.val_leaf, DT.bind, DT.val_bad]
    repeat' (with_reducible refine bif_eq (fun h => ?_) (fun h => ?_))
    all_goals first | (simp only [*, S.alikeC, cond_true, cond_false, Bool.and_true, Bool.true_and, Bool.and_false, Bool.false_and, Bool.or_true, Bool.true_or, Bool.or_false, Bool.false_or]; done) | (simp_all [S.alikeC]; done) | grind [S.alikeC])
theorem ent_alikeC : E (80, onDD T.alikeC) := byEv Bvents2 40 fun args t h => by
  obtain ⟨a, b, rfl, rfl⟩ := onDD_eq h
  exact ev_alikeC a b
abbrev BvL3 : Tab := (80, onDD T.alikeC) :: BvL2
theorem Bvents3 : ∀ p ∈ BvL3, E p := entries_cons ent_alikeC Bvents2
set_option maxHeartbeats 4000000 in
theorem ev_eqR (a b : V) : evFn Tryd.prog ext (tab BvL3) 40 47 [a.agg, b.agg] = (T.eqR a b).val :=
  Eq.trans (b := 
    (bif a.k == b.k then 
     (bif a.b == b.b then 
      (bif a.s.toList == b.s.toList then 
       (bif a.id == b.id then some (Value.bool (R.num2 a.n b.n)) else some (Value.bool false)) else some (Value.bool false)) else some (Value.bool false)) else some (Value.bool false))) (by kernel_rfl) (by
    simp only [T.eqR, T.B, DT.val_node, DT.val_leaf, DT.bind, DT.val_bad]
    repeat' (with_reducible refine bif_eq (fun h => ?_) (fun h => ?_))
    all_goals first | (simp only [*, R.eqR, cond_true, cond_false, Bool.and_true, Bool.true_and, Bool.and_false, Bool.false_and, Bool.or_true, Bool.true_or, Bool.or_false, Bool.false_or]; done) | (simp_all [R.eqR]; done) | grind [R.eqR])
theorem ent_eqR : E (47, onVV T.eqR) := byEv Bvents3 40 fun args t h => by
  obtain ⟨a, b, rfl, rfl⟩ := onVV_eq h
  exact ev_eqR a b
abbrev BvL4 : Tab := (47, onVV T.eqR) :: BvL3
theorem Bvents4 : ∀ p ∈ BvL4, E p := entries_cons ent_eqR Bvents3
set_option maxHeartbeats 4000000 in
theorem ev_eqDR (a b : D) : evFn Tryd.prog ext (tab BvL4) 40 109 [a.agg, b.agg] = (T.eqDR a b).val :=
  Eq.trans (b := 
    (bif R.eqR a.v b.v then 
     (bif R.eqR a.g b.g then 
      (bif R.eqR a.t b.t then 
       (bif a.w == b.w then 
        (bif a.e == b.e then some (Value.bool (a.c == b.c)) else some (Value.bool false)) else some (Value.bool false)) else some (Value.bool false)) else some (Value.bool false)) else some (Value.bool false))) (by kernel_rfl) (by
    simp only [T.eqDR, T.B, DT.val_node, DT.val_leaf, DT.bind, DT.val_bad]
    repeat' (with_reducible refine bif_eq (fun h => ?_) (fun h => ?_))
    all_goals first | (simp only [*, R.eqDR, cond_true, cond_false, Bool.and_true, Bool.true_and, Bool.and_false, Bool.false_and, Bool.or_true, Bool.true_or, Bool.or_false, Bool.false_or]; done) | (simp_all [R.eqDR]; done) | grind [R.eqDR])
theorem ent_eqDR : E (109, onDD T.eqDR) := byEv Bvents4 40 fun args t h => by
  obtain ⟨a, b, rfl, rfl⟩ := onDD_eq h
  exact ev_eqDR a b
abbrev BvL5 : Tab := (109, onDD T.eqDR) :: BvL4
theorem Bvents5 : ∀ p ∈ BvL5, E p := entries_cons ent_eqDR Bvents4
end Go.Proofs.YtaojjpdlfnphiaaDoor.PDescKinds
end
section
/- Moments: functions with one loop, piece by piece. Written by a program of this session. -/
set_option linter.unusedSimpArgs false
set_option linter.unusedVariables false
set_option linter.unusedSectionVars false
namespace Go.Proofs.YtaojjpdlfnphiaaDoor.PDescKinds
open Go.RowKit Go.Ev
namespace R
def sealed (s : Sh) : Bool := (seek (fun i => bif (s.g i).d.c != 1 then some false else none) s.n 0).getD (!s.x)
def frozen (s : Sh) : Bool := (seek (fun i => bif !S.there (s.g i).d.g && (!S.there (s.g i).d.t && (s.g i).d.w != 1) then some false else none) s.n 0).getD (sealed s)
def sameSh (a b : Sh) : Bool := bif a.cl != b.cl || (!eqR a.p b.p || (!(a.x == b.x) || (a.n : Int) != (b.n : Int))) then false else
  (seek (fun i => bif !S.keq (a.g i).k (b.g i).k || !eqDR (a.g i).d (b.g i).d then some false else none) a.n 0).getD true
def sameM (a b : Mo) : Bool := bif (a.n : Int) != (b.n : Int) then false else (seek (fun i => bif !sameSh (a.g i) (b.g i) then some false else none) a.n 0).getD true
end R
theorem eq_of_bne {m n : Nat} (h : ((m : Int) != (n : Int)) = false) : m = n := by
  rw [bne_eq_false_iff_eq] at h
  omega
theorem sh_guard {a b c : Bool} {m n : Nat} (h : (a || (b || (c || (m : Int) != (n : Int)))) = false) : m = n := by
  simp only [Bool.or_eq_false_iff] at h
  exact eq_of_bne h.2.2.2
set_option maxRecDepth 100000 in
theorem lost107_pre (M : Nat → Mo) (bx : Nat → XR) (q r : SA) : letI := rowsB M bx
    evK Tryd.prog ext (tab2 BvL5 [(110, idxC M)]) 80 55 (seqL (preOf (bodyOf Tryd.f107))) (⟨argS [q.sv, r.sv], fun _ => none, 0⟩) (grab Tryd.prog Tryd.f107 [2, 3, 11, 12, 13] [0, 1] 2) =
    some (Res.cut Ex.normal (Cut.mk [(2, SV.ptr 0 0), (3, SV.ptr 1 0), (11, SV.xs [q.a, q.b]), (12, SV.val (Value.int IntKind.i64 (↑((M q.a).g q.b).n : Int))), (13, SV.val (Value.int IntKind.i64 0))] [(0, Blk.mk 60 [SV.val (Value.int IntKind.i64 q.cl), SV.val (Value.int IntKind.i64 q.p.k), SV.val (Value.bool q.p.b), SV.val (Value.float FloatKind.f64 q.p.n), SV.val (Value.string q.p.s), SV.val (Value.int IntKind.i64 q.p.id), SV.val (Value.bool q.x), SV.xs [q.a, q.b]]), (1, Blk.mk 60 [SV.val (Value.int IntKind.i64 r.cl), SV.val (Value.int IntKind.i64 r.p.k), SV.val (Value.bool r.p.b), SV.val (Value.float FloatKind.f64 r.p.n), SV.val (Value.string r.p.s), SV.val (Value.int IntKind.i64 r.p.id), SV.val (Value.bool r.x), SV.xs [r.a, r.b]])])) := by kernel_rfl
set_option maxRecDepth 100000 in
theorem lost107_round (M : Nat → Mo) (bx : Nat → XR) (q r : SA) (i : Nat) : letI := rowsB M bx
    evK Tryd.prog ext (tab2 BvL5 [(110, idxC M)]) 80 55 (seqL (flat (roundOf (bodyOf Tryd.f107)))) ((⟨[(2, .ptr 0 0), (3, .ptr 1 0), (11, .xs [q.a, q.b]), (12, .val (.int .i64 ((M q.a).g q.b).n)), (13, (.val (.int .i64 (i : Int))))], [(0, ⟨60, shCells q.cl q.p q.x [q.a, q.b]⟩), (1, ⟨60, shCells r.cl r.p r.x [r.a, r.b]⟩)]⟩ : Cut).st 2) (grab Tryd.prog Tryd.f107 [2, 3, 11, 12, 13] [0, 1] 2) =
    (bif decide ((↑i : Int) < (↑((M q.a).g q.b).n : Int)) then 
     (bif decide (0 ≤ (↑i : Int)) && decide ((↑i : Int) < (↑((M q.a).g q.b).n : Int)) then 
      (bif (((M q.a).g q.b).g i).d.c != 1 then some (Res.cut Ex.normal (Cut.mk [(2, SV.ptr 0 0), (3, SV.ptr 1 0), (11, SV.xs [q.a, q.b]), (12, SV.val (Value.int IntKind.i64 (↑((M q.a).g q.b).n : Int))), (13, SV.val (Value.int IntKind.i64 (IntKind.i64.wrap ((↑i : Int) + 1))))] [(0, Blk.mk 60 [SV.val (Value.int IntKind.i64 q.cl), SV.val (Value.int IntKind.i64 q.p.k), SV.val (Value.bool q.p.b), SV.val (Value.float FloatKind.f64 q.p.n), SV.val (Value.string q.p.s), SV.val (Value.int IntKind.i64 q.p.id), SV.val (Value.bool q.x), SV.xs [q.a, q.b]]), (1, Blk.mk 60 [SV.val (Value.int IntKind.i64 r.cl), SV.val (Value.int IntKind.i64 r.p.k), SV.val (Value.bool r.p.b), SV.val (Value.float FloatKind.f64 r.p.n), SV.val (Value.string r.p.s), SV.val (Value.int IntKind.i64 r.p.id), SV.val (Value.bool r.x), SV.xs [r.a, r.b]])])) else 
       (bif S.find ((M q.a).g q.b) (K.mk (((M q.a).g q.b).g i).k.s (((M q.a).g q.b).g i).k.n) != (↑i : Int) then some (Res.cut Ex.normal (Cut.mk [(2, SV.ptr 0 0), (3, SV.ptr 1 0), (11, SV.xs [q.a, q.b]), (12, SV.val (Value.int IntKind.i64 (↑((M q.a).g q.b).n : Int))), (13, SV.val (Value.int IntKind.i64 (IntKind.i64.wrap ((↑i : Int) + 1))))] [(0, Blk.mk 60 [SV.val (Value.int IntKind.i64 q.cl), SV.val (Value.int IntKind.i64 q.p.k), SV.val (Value.bool q.p.b), SV.val (Value.float FloatKind.f64 q.p.n), SV.val (Value.string q.p.s), SV.val (Value.int IntKind.i64 q.p.id), SV.val (Value.bool q.x), SV.xs [q.a, q.b]]), (1, Blk.mk 60 [SV.val (Value.int IntKind.i64 r.cl), SV.val (Value.int IntKind.i64 r.p.k), SV.val (Value.bool r.p.b), SV.val (Value.float FloatKind.f64 r.p.n), SV.val (Value.string r.p.s), SV.val (Value.int IntKind.i64 r.p.id), SV.val (Value.bool r.x), SV.xs [r.a, r.b]])])) else 
        (bif decide (S.find ((M r.a).g r.b) (K.mk (((M q.a).g q.b).g i).k.s (((M q.a).g q.b).g i).k.n) < 0) then some (Res.ret (SV.val (Value.bool true))) else 
         (bif decide (0 ≤ S.find ((M r.a).g r.b) (K.mk (((M q.a).g q.b).g i).k.s (((M q.a).g q.b).g i).k.n)) && decide (S.find ((M r.a).g r.b) (K.mk (((M q.a).g q.b).g i).k.s (((M q.a).g q.b).g i).k.n) < (↑((M r.a).g r.b).n : Int)) then 
          (bif S.okK (((M q.a).g q.b).g i).d (((M r.a).g r.b).g (S.find ((M r.a).g r.b) (K.mk (((M q.a).g q.b).g i).k.s (((M q.a).g q.b).g i).k.n)).toNat).d then 
           (bif !S.keeps (((M q.a).g q.b).g i).d (((M r.a).g r.b).g (S.find ((M r.a).g r.b) (K.mk (((M q.a).g q.b).g i).k.s (((M q.a).g q.b).g i).k.n)).toNat).d then some (Res.ret (SV.val (Value.bool true))) else some (Res.cut Ex.normal (Cut.mk [(2, SV.ptr 0 0), (3, SV.ptr 1 0), (11, SV.xs [q.a, q.b]), (12, SV.val (Value.int IntKind.i64 (↑((M q.a).g q.b).n : Int))), (13, SV.val (Value.int IntKind.i64 (IntKind.i64.wrap ((↑i : Int) + 1))))] [(0, Blk.mk 60 [SV.val (Value.int IntKind.i64 q.cl), SV.val (Value.int IntKind.i64 q.p.k), SV.val (Value.bool q.p.b), SV.val (Value.float FloatKind.f64 q.p.n), SV.val (Value.string q.p.s), SV.val (Value.int IntKind.i64 q.p.id), SV.val (Value.bool q.x), SV.xs [q.a, q.b]]), (1, Blk.mk 60 [SV.val (Value.int IntKind.i64 r.cl), SV.val (Value.int IntKind.i64 r.p.k), SV.val (Value.bool r.p.b), SV.val (Value.float FloatKind.f64 r.p.n), SV.val (Value.string r.p.s), SV.val (Value.int IntKind.i64 r.p.id), SV.val (Value.bool r.x), SV.xs [r.a, r.b]])]))) else some (Res.ret (SV.val (Value.bool true)))) else none)))) else none) else some (Res.cut (Ex.exit 0) (Cut.mk [(2, SV.ptr 0 0), (3, SV.ptr 1 0), (11, SV.xs [q.a, q.b]), (12, SV.val (Value.int IntKind.i64 (↑((M q.a).g q.b).n : Int))), (13, SV.val (Value.int IntKind.i64 (↑i : Int)))] [(0, Blk.mk 60 [SV.val (Value.int IntKind.i64 q.cl), SV.val (Value.int IntKind.i64 q.p.k), SV.val (Value.bool q.p.b), SV.val (Value.float FloatKind.f64 q.p.n), SV.val (Value.string q.p.s), SV.val (Value.int IntKind.i64 q.p.id), SV.val (Value.bool q.x), SV.xs [q.a, q.b]]), (1, Blk.mk 60 [SV.val (Value.int IntKind.i64 r.cl), SV.val (Value.int IntKind.i64 r.p.k), SV.val (Value.bool r.p.b), SV.val (Value.float FloatKind.f64 r.p.n), SV.val (Value.string r.p.s), SV.val (Value.int IntKind.i64 r.p.id), SV.val (Value.bool r.x), SV.xs [r.a, r.b]])]))) := by kernel_rfl
set_option maxRecDepth 100000 in
theorem lost107_post (M : Nat → Mo) (bx : Nat → XR) (q r : SA) (i : Nat) : letI := rowsB M bx
    evK Tryd.prog ext (tab2 BvL5 [(110, idxC M)]) 80 55 (seqL (postOf (bodyOf Tryd.f107))) ((⟨[(2, .ptr 0 0), (3, .ptr 1 0), (11, .xs [q.a, q.b]), (12, .val (.int .i64 ((M q.a).g q.b).n)), (13, (.val (.int .i64 (i : Int))))], [(0, ⟨60, shCells q.cl q.p q.x [q.a, q.b]⟩), (1, ⟨60, shCells r.cl r.p r.x [r.a, r.b]⟩)]⟩ : Cut).st 2) (grab Tryd.prog Tryd.f107 [2, 3, 11, 12, 13] [0, 1] 2) =
    some (Res.ret (SV.val (Value.bool false))) := by kernel_rfl
set_option maxRecDepth 100000 in
theorem run_lost107 (M : Nat → Mo) (bx : Nat → XR) (hM : Fit M) (q r : SA) : letI := rowsB M bx
    Runs Tryd.prog (Inv M bx) 55 Tryd.f107 ((fun x : Bool => SV.val (.bool x)) ((seek (fun i => bif (((M q.a).g q.b).g i).d.c != 1 || S.find ((M q.a).g q.b) (((M q.a).g q.b).g i).k != (i : Int) then none else bif decide ((S.find ((M r.a).g r.b) (((M q.a).g q.b).g i).k) < 0) then some true else bif S.okK (((M q.a).g q.b).g i).d (((M r.a).g r.b).g (S.find ((M r.a).g r.b) (((M q.a).g q.b).g i).k).toNat).d then (bif S.keeps (((M q.a).g q.b).g i).d (((M r.a).g r.b).g (S.find ((M r.a).g r.b) (((M q.a).g q.b).g i).k).toNat).d then none else some true) else some true) (((M q.a).g q.b).n) 0).getD false)) [] (bodyOf Tryd.f107) (⟨argS [q.sv, r.sv], fun _ => none, 0⟩) := by
  letI := rowsB M bx
  have C := ctxB M bx Bvents5 (entsS_cons (ent_idxC M bx hM) entsS_nil)
  refine Runs.seekFn C (n := ((M q.a).g q.b).n) (p := fun i => bif (((M q.a).g q.b).g i).d.c != 1 || S.find ((M q.a).g q.b) (((M q.a).g q.b).g i).k != (i : Int) then none else bif decide ((S.find ((M r.a).g r.b) (((M q.a).g q.b).g i).k) < 0) then some true else bif S.okK (((M q.a).g q.b).g i).d (((M r.a).g r.b).g (S.find ((M r.a).g r.b) (((M q.a).g q.b).g i).k).toNat).d then (bif S.keeps (((M q.a).g q.b).g i).d (((M r.a).g r.b).g (S.find ((M r.a).g r.b) (((M q.a).g q.b).g i).k).toNat).d then none else some true) else some true) (f := (fun x : Bool => SV.val (.bool x))) (z := false) (hd := fun i => (⟨[(2, .ptr 0 0), (3, .ptr 1 0), (11, .xs [q.a, q.b]), (12, .val (.int .i64 ((M q.a).g q.b).n)), (13, (.val (.int .i64 (i : Int))))], [(0, ⟨60, shCells q.cl q.p q.x [q.a, q.b]⟩), (1, ⟨60, shCells r.cl r.p r.x [r.a, r.b]⟩)]⟩ : Cut)) (c' := (fun i : Nat => (⟨[(2, .ptr 0 0), (3, .ptr 1 0), (11, .xs [q.a, q.b]), (12, .val (.int .i64 ((M q.a).g q.b).n)), (13, (.val (.int .i64 (i : Int))))], [(0, ⟨60, shCells q.cl q.p q.x [q.a, q.b]⟩), (1, ⟨60, shCells r.cl r.p r.x [r.a, r.b]⟩)]⟩ : Cut)) (((M q.a).g q.b).n)) (by kernel_rfl) (lost107_pre M bx q r) (fun i hi => ?_) ?_ (fun _ => Runs.ret C (lost107_post M bx q r (((M q.a).g q.b).n)))
  · refine (lost107_round M bx q r i).trans ?_
    simp only [S.find_cond]
    simp only [dlt hi, dge, wr hi ((hM q.a).2 q.b), cond_true, cond_false, Bool.and_self, Bool.true_and, map_cond, toR_cond, some_cond, Option.map_some, Option.map_none, toR_some, toR_none, cnd_and, cnd_or, cnd_not, S.keq, S.eqC, S.alikeC]
    first | done | rfl
  · refine (lost107_round M bx q r (((M q.a).g q.b).n)).trans ?_
    simp only [dnl, cond_false]
    rfl
theorem ent_lost107 (M : Nat → Mo) (bx : Nat → XR) (hM : Fit M) : Ent M bx (107, noMem (onShSh fun q r => LB (S.lost (q.sh M) (r.sh M)))) := by
  letI := rowsB M bx
  refine EntryS.of (fun args t v h1 h2 => ?_) (inv_stable M bx)
  obtain ⟨q, r, rfl, rfl⟩ := onShSh_eq h1
  cases h2
  refine ⟨ok_val _ _, ?_, fun w m hI => Runs.calls (body := Tryd.f107.body.getD .skip) Tryd.func107 (by kernel_rfl) (by kernel_rfl) ?_ (run_lost107 M bx hM q r) w hI m⟩ <;>
  · intro x hx
    simp only [List.mem_cons, List.not_mem_nil, or_false] at hx
    rcases hx with rfl | rfl <;> exact ok_sa _ _
set_option maxRecDepth 100000 in
theorem eqP78_pre (M : Nat → Mo) (bx : Nat → XR) (a b c d : Nat) : letI := rowsB M bx
    evK Tryd.prog ext (tab2 BvL5 []) 80 32 (seqL (preOf (bodyOf Tryd.f78))) (⟨argS [.xs [a, b], .xs [c, d], fnv 79], fun _ => none, 0⟩) (grab Tryd.prog Tryd.f78 [0, 1, 2, 15, 16, 17] [] 0) =
    (bif (↑((M a).g b).n : Int) != (↑((M c).g d).n : Int) then some (Res.ret (SV.val (Value.bool false))) else some (Res.cut Ex.normal (Cut.mk [(0, SV.xs [a, b]), (1, SV.xs [c, d]), (2, SV.val (Value.func (Fn.func 79) #[] #[])), (15, SV.xs [a, b]), (16, SV.val (Value.int IntKind.i64 (↑((M a).g b).n : Int))), (17, SV.val (Value.int IntKind.i64 0))] []))) := by kernel_rfl
set_option maxRecDepth 100000 in
theorem eqP78_round (M : Nat → Mo) (bx : Nat → XR) (a b c d : Nat) (i : Nat) : letI := rowsB M bx
    evK Tryd.prog ext (tab2 BvL5 []) 80 32 (seqL (flat (roundOf (bodyOf Tryd.f78)))) ((⟨[(0, .xs [a, b]), (1, .xs [c, d]), (2, fnv 79), (15, .xs [a, b]), (16, .val (.int .i64 ((M a).g b).n)), (17, (.val (.int .i64 (i : Int))))], []⟩ : Cut).st 0) (grab Tryd.prog Tryd.f78 [0, 1, 2, 15, 16, 17] [] 0) =
    (bif decide ((↑i : Int) < (↑((M a).g b).n : Int)) then 
     (bif decide (0 ≤ (↑i : Int)) && decide ((↑i : Int) < (↑((M a).g b).n : Int)) then 
      (bif decide (0 ≤ (↑i : Int)) && decide ((↑i : Int) < (↑((M c).g d).n : Int)) then 
       (bif (((M a).g b).g i).k.s == (((M c).g d).g i).k.s && ((((M a).g b).g i).k.n == (((M c).g d).g i).k.n && true) then 
        (bif !S.alikeC (((M a).g b).g i).d (((M c).g d).g i).d then some (Res.ret (SV.val (Value.bool false))) else some (Res.cut Ex.normal (Cut.mk [(0, SV.xs [a, b]), (1, SV.xs [c, d]), (2, SV.val (Value.func (Fn.func 79) #[] #[])), (15, SV.xs [a, b]), (16, SV.val (Value.int IntKind.i64 (↑((M a).g b).n : Int))), (17, SV.val (Value.int IntKind.i64 (IntKind.i64.wrap ((↑i : Int) + 1))))] []))) else some (Res.ret (SV.val (Value.bool false)))) else none) else none) else some (Res.cut (Ex.exit 0) (Cut.mk [(0, SV.xs [a, b]), (1, SV.xs [c, d]), (2, SV.val (Value.func (Fn.func 79) #[] #[])), (15, SV.xs [a, b]), (16, SV.val (Value.int IntKind.i64 (↑((M a).g b).n : Int))), (17, SV.val (Value.int IntKind.i64 (↑i : Int)))] []))) := by kernel_rfl
set_option maxRecDepth 100000 in
theorem eqP78_post (M : Nat → Mo) (bx : Nat → XR) (a b c d : Nat) (i : Nat) : letI := rowsB M bx
    evK Tryd.prog ext (tab2 BvL5 []) 80 32 (seqL (postOf (bodyOf Tryd.f78))) ((⟨[(0, .xs [a, b]), (1, .xs [c, d]), (2, fnv 79), (15, .xs [a, b]), (16, .val (.int .i64 ((M a).g b).n)), (17, (.val (.int .i64 (i : Int))))], []⟩ : Cut).st 0) (grab Tryd.prog Tryd.f78 [0, 1, 2, 15, 16, 17] [] 0) =
    some (Res.ret (SV.val (Value.bool true))) := by kernel_rfl
set_option maxRecDepth 100000 in
theorem run_eqP78 (M : Nat → Mo) (bx : Nat → XR) (hM : Fit M) (a b c d : Nat) : letI := rowsB M bx
    Runs Tryd.prog (Inv M bx) 32 Tryd.f78 ((fun x : Bool => SV.val (.bool x)) (bif (((M a).g b).n : Int) != (((M c).g d).n : Int) then false else (seek (fun i => bif S.keq (((M a).g b).g i).k (((M c).g d).g i).k && S.alikeC (((M a).g b).g i).d (((M c).g d).g i).d then none else some false) (((M a).g b).n) 0).getD true)) [] (bodyOf Tryd.f78) (⟨argS [.xs [a, b], .xs [c, d], fnv 79], fun _ => none, 0⟩) := by
  letI := rowsB M bx
  have C := ctxB M bx Bvents5 entsS_nil
  have hp := (eqP78_pre M bx a b c d).trans (show _ = bif (((M a).g b).n : Int) != (((M c).g d).n : Int) then some (Res.ret ((fun x : Bool => SV.val (.bool x)) false)) else some (Res.cut .normal ((fun i : Nat => (⟨[(0, .xs [a, b]), (1, .xs [c, d]), (2, fnv 79), (15, .xs [a, b]), (16, .val (.int .i64 ((M a).g b).n)), (17, (.val (.int .i64 (i : Int))))], []⟩ : Cut)) 0)) by
    simp only [cnd_and, cnd_or, cnd_not, Bool.or_assoc]
    first | done | rfl)
  cases hg : (((M a).g b).n : Int) != (((M c).g d).n : Int) with
  | true =>
    rw [hg] at hp
    exact retPre C (by kernel_rfl) hp
  | false =>
    rw [hg] at hp
    show Runs _ _ _ _ ((fun x : Bool => SV.val (.bool x)) ((seek (fun i => bif S.keq (((M a).g b).g i).k (((M c).g d).g i).k && S.alikeC (((M a).g b).g i).d (((M c).g d).g i).d then none else some false) (((M a).g b).n) 0).getD true)) _ _ _
    refine Runs.seekFn C (n := ((M a).g b).n) (p := fun i => bif S.keq (((M a).g b).g i).k (((M c).g d).g i).k && S.alikeC (((M a).g b).g i).d (((M c).g d).g i).d then none else some false) (f := (fun x : Bool => SV.val (.bool x))) (z := true) (hd := fun i => (⟨[(0, .xs [a, b]), (1, .xs [c, d]), (2, fnv 79), (15, .xs [a, b]), (16, .val (.int .i64 ((M a).g b).n)), (17, (.val (.int .i64 (i : Int))))], []⟩ : Cut)) (c' := (fun i : Nat => (⟨[(0, .xs [a, b]), (1, .xs [c, d]), (2, fnv 79), (15, .xs [a, b]), (16, .val (.int .i64 ((M a).g b).n)), (17, (.val (.int .i64 (i : Int))))], []⟩ : Cut)) (((M a).g b).n)) (by kernel_rfl) hp (fun i hi => ?_) ?_ (fun _ => Runs.ret C (eqP78_post M bx a b c d (((M a).g b).n)))
    · refine (eqP78_round M bx a b c d i).trans ?_
      have hi2 : i < ((M c).g d).n := by have := eq_of_bne hg; omega
      simp only [dlt hi, dge, wr hi ((hM a).2 b), cond_true, cond_false, Bool.and_self, Bool.true_and, map_cond, toR_cond, some_cond, Option.map_some, Option.map_none, toR_some, toR_none, cnd_and, cnd_or, cnd_not, S.keq, S.eqC, S.alikeC, dlt hi2]
      first | done | rfl
    · refine (eqP78_round M bx a b c d (((M a).g b).n)).trans ?_
      simp only [dnl, cond_false]
      rfl
theorem ent_eqP78 (M : Nat → Mo) (bx : Nat → XR) (hM : Fit M) : Ent M bx (78, noMem (onFS 79 fun a b c d => LB (S.sameP ((M a).g b) ((M c).g d)))) := by
  letI := rowsB M bx
  refine EntryS.of (fun args t v h1 h2 => ?_) (inv_stable M bx)
  obtain ⟨a, b, c, d, rfl, rfl⟩ := onFS_eq h1
  cases h2
  refine ⟨ok_val _ _, ?_, fun w m hI => Runs.calls (body := Tryd.f78.body.getD .skip) Tryd.func78 (by kernel_rfl) (by kernel_rfl) ?_ (run_eqP78 M bx hM a b c d) w hI m⟩ <;>
  · intro x hx
    simp only [List.mem_cons, List.not_mem_nil, or_false] at hx
    rcases hx with rfl | rfl | rfl <;> first | exact ok_val _ _ | exact ok_xs
set_option maxRecDepth 100000 in
theorem eqS75_pre (M : Nat → Mo) (bx : Nat → XR) (a b : Nat) : letI := rowsB M bx
    evK Tryd.prog ext (tab2 BvL5 [(78, noMem (onFS 79 fun a b c d => LB (S.sameP ((M a).g b) ((M c).g d))))]) 80 32 (seqL (preOf (bodyOf Tryd.f75))) (⟨argS [.xs [a], .xs [b], fnv 76], fun _ => none, 0⟩) (grab Tryd.prog Tryd.f75 [0, 1, 2, 15, 16, 17] [] 0) =
    (bif (↑(M a).n : Int) != (↑(M b).n : Int) then some (Res.ret (SV.val (Value.bool false))) else some (Res.cut Ex.normal (Cut.mk [(0, SV.xs [a]), (1, SV.xs [b]), (2, SV.val (Value.func (Fn.func 76) #[] #[])), (15, SV.xs [a]), (16, SV.val (Value.int IntKind.i64 (↑(M a).n : Int))), (17, SV.val (Value.int IntKind.i64 0))] []))) := by kernel_rfl
set_option maxRecDepth 100000 in
theorem eqS75_round (M : Nat → Mo) (bx : Nat → XR) (a b : Nat) (i : Nat) : letI := rowsB M bx
    evK Tryd.prog ext (tab2 BvL5 [(78, noMem (onFS 79 fun a b c d => LB (S.sameP ((M a).g b) ((M c).g d))))]) 80 32 (seqL (flat (roundOf (bodyOf Tryd.f75)))) ((⟨[(0, .xs [a]), (1, .xs [b]), (2, fnv 76), (15, .xs [a]), (16, .val (.int .i64 (M a).n)), (17, (.val (.int .i64 (i : Int))))], []⟩ : Cut).st 0) (grab Tryd.prog Tryd.f75 [0, 1, 2, 15, 16, 17] [] 0) =
    (bif decide ((↑i : Int) < (↑(M a).n : Int)) then 
     (bif decide (0 ≤ (↑i : Int)) && decide ((↑i : Int) < (↑(M a).n : Int)) then 
      (bif decide (0 ≤ (↑i : Int)) && decide ((↑i : Int) < (↑(M b).n : Int)) then 
       (bif ((M a).g i).cl == ((M b).g i).cl then 
        (bif S.eqC ((M a).g i).p ((M b).g i).p then 
         (bif ((M a).g i).x == ((M b).g i).x then 
          (bif !S.sameP ((M a).g i) ((M b).g i) then some (Res.ret (SV.val (Value.bool false))) else some (Res.cut Ex.normal (Cut.mk [(0, SV.xs [a]), (1, SV.xs [b]), (2, SV.val (Value.func (Fn.func 76) #[] #[])), (15, SV.xs [a]), (16, SV.val (Value.int IntKind.i64 (↑(M a).n : Int))), (17, SV.val (Value.int IntKind.i64 (IntKind.i64.wrap ((↑i : Int) + 1))))] []))) else some (Res.ret (SV.val (Value.bool false)))) else some (Res.ret (SV.val (Value.bool false)))) else some (Res.ret (SV.val (Value.bool false)))) else none) else none) else some (Res.cut (Ex.exit 0) (Cut.mk [(0, SV.xs [a]), (1, SV.xs [b]), (2, SV.val (Value.func (Fn.func 76) #[] #[])), (15, SV.xs [a]), (16, SV.val (Value.int IntKind.i64 (↑(M a).n : Int))), (17, SV.val (Value.int IntKind.i64 (↑i : Int)))] []))) := by kernel_rfl
set_option maxRecDepth 100000 in
theorem eqS75_post (M : Nat → Mo) (bx : Nat → XR) (a b : Nat) (i : Nat) : letI := rowsB M bx
    evK Tryd.prog ext (tab2 BvL5 [(78, noMem (onFS 79 fun a b c d => LB (S.sameP ((M a).g b) ((M c).g d))))]) 80 32 (seqL (postOf (bodyOf Tryd.f75))) ((⟨[(0, .xs [a]), (1, .xs [b]), (2, fnv 76), (15, .xs [a]), (16, .val (.int .i64 (M a).n)), (17, (.val (.int .i64 (i : Int))))], []⟩ : Cut).st 0) (grab Tryd.prog Tryd.f75 [0, 1, 2, 15, 16, 17] [] 0) =
    some (Res.ret (SV.val (Value.bool true))) := by kernel_rfl
set_option maxRecDepth 100000 in
theorem run_eqS75 (M : Nat → Mo) (bx : Nat → XR) (hM : Fit M) (a b : Nat) : letI := rowsB M bx
    Runs Tryd.prog (Inv M bx) 32 Tryd.f75 ((fun x : Bool => SV.val (.bool x)) (bif ((M a).n : Int) != ((M b).n : Int) then false else (seek (fun i => bif S.sameSh ((M a).g i) ((M b).g i) then none else some false) ((M a).n) 0).getD true)) [] (bodyOf Tryd.f75) (⟨argS [.xs [a], .xs [b], fnv 76], fun _ => none, 0⟩) := by
  letI := rowsB M bx
  have C := ctxB M bx Bvents5 (entsS_cons (ent_eqP78 M bx hM) entsS_nil)
  have hp := (eqS75_pre M bx a b).trans (show _ = bif ((M a).n : Int) != ((M b).n : Int) then some (Res.ret ((fun x : Bool => SV.val (.bool x)) false)) else some (Res.cut .normal ((fun i : Nat => (⟨[(0, .xs [a]), (1, .xs [b]), (2, fnv 76), (15, .xs [a]), (16, .val (.int .i64 (M a).n)), (17, (.val (.int .i64 (i : Int))))], []⟩ : Cut)) 0)) by
    simp only [cnd_and, cnd_or, cnd_not, Bool.or_assoc]
    first | done | rfl)
  cases hg : ((M a).n : Int) != ((M b).n : Int) with
  | true =>
    rw [hg] at hp
    exact retPre C (by kernel_rfl) hp
  | false =>
    rw [hg] at hp
    show Runs _ _ _ _ ((fun x : Bool => SV.val (.bool x)) ((seek (fun i => bif S.sameSh ((M a).g i) ((M b).g i) then none else some false) ((M a).n) 0).getD true)) _ _ _
    refine Runs.seekFn C (n := (M a).n) (p := fun i => bif S.sameSh ((M a).g i) ((M b).g i) then none else some false) (f := (fun x : Bool => SV.val (.bool x))) (z := true) (hd := fun i => (⟨[(0, .xs [a]), (1, .xs [b]), (2, fnv 76), (15, .xs [a]), (16, .val (.int .i64 (M a).n)), (17, (.val (.int .i64 (i : Int))))], []⟩ : Cut)) (c' := (fun i : Nat => (⟨[(0, .xs [a]), (1, .xs [b]), (2, fnv 76), (15, .xs [a]), (16, .val (.int .i64 (M a).n)), (17, (.val (.int .i64 (i : Int))))], []⟩ : Cut)) ((M a).n)) (by kernel_rfl) hp (fun i hi => ?_) ?_ (fun _ => Runs.ret C (eqS75_post M bx a b ((M a).n)))
    · refine (eqS75_round M bx a b i).trans ?_
      have hi2 : i < (M b).n := by have := eq_of_bne hg; omega
      simp only [dlt hi, dge, wr hi (hM a).1, cond_true, cond_false, Bool.and_self, Bool.true_and, map_cond, toR_cond, some_cond, Option.map_some, Option.map_none, toR_some, toR_none, cnd_and, cnd_or, cnd_not, S.keq, S.eqC, S.alikeC, dlt hi2, S.sameSh]
      first | done | rfl
    · refine (eqS75_round M bx a b ((M a).n)).trans ?_
      simp only [dnl, cond_false]
      rfl
theorem ent_eqS75 (M : Nat → Mo) (bx : Nat → XR) (hM : Fit M) : Ent M bx (75, noMem (onFM 76 fun a b => LB (S.sameC (M a) (M b)))) := by
  letI := rowsB M bx
  refine EntryS.of (fun args t v h1 h2 => ?_) (inv_stable M bx)
  obtain ⟨a, b, rfl, rfl⟩ := onFM_eq h1
  cases h2
  refine ⟨ok_val _ _, ?_, fun w m hI => Runs.calls (body := Tryd.f75.body.getD .skip) Tryd.func75 (by kernel_rfl) (by kernel_rfl) ?_ (run_eqS75 M bx hM a b) w hI m⟩ <;>
  · intro x hx
    simp only [List.mem_cons, List.not_mem_nil, or_false] at hx
    rcases hx with rfl | rfl | rfl <;> first | exact ok_val _ _ | exact ok_xs
set_option maxRecDepth 100000 in
theorem seal42_pre (M : Nat → Mo) (bx : Nat → XR) (q : SA) : letI := rowsB M bx
    evK Tryd.prog ext (tab2 BvL5 []) 80 22 (seqL (preOf (bodyOf Tryd.f42))) (⟨argS [q.sv], fun _ => none, 0⟩) (grab Tryd.prog Tryd.f42 [1, 3] [0] 1) =
    some (Res.cut Ex.normal (Cut.mk [(1, SV.ptr 0 0), (3, SV.val (Value.int IntKind.i64 0))] [(0, Blk.mk 60 [SV.val (Value.int IntKind.i64 q.cl), SV.val (Value.int IntKind.i64 q.p.k), SV.val (Value.bool q.p.b), SV.val (Value.float FloatKind.f64 q.p.n), SV.val (Value.string q.p.s), SV.val (Value.int IntKind.i64 q.p.id), SV.val (Value.bool q.x), SV.xs [q.a, q.b]])])) := by kernel_rfl
set_option maxRecDepth 100000 in
theorem seal42_round (M : Nat → Mo) (bx : Nat → XR) (q : SA) (i : Nat) : letI := rowsB M bx
    evK Tryd.prog ext (tab2 BvL5 []) 80 22 (seqL (flat (roundOf (bodyOf Tryd.f42)))) ((⟨[(1, .ptr 0 0), (3, (.val (.int .i64 (i : Int))))], [(0, ⟨60, shCells q.cl q.p q.x [q.a, q.b]⟩)]⟩ : Cut).st 1) (grab Tryd.prog Tryd.f42 [1, 3] [0] 1) =
    (bif decide ((↑i : Int) < (↑((M q.a).g q.b).n : Int)) then 
     (bif decide (0 ≤ (↑i : Int)) && decide ((↑i : Int) < (↑((M q.a).g q.b).n : Int)) then 
      (bif (((M q.a).g q.b).g i).d.c != 1 then some (Res.ret (SV.val (Value.bool false))) else some (Res.cut Ex.normal (Cut.mk [(1, SV.ptr 0 0), (3, SV.val (Value.int IntKind.i64 (IntKind.i64.wrap ((↑i : Int) + 1))))] [(0, Blk.mk 60 [SV.val (Value.int IntKind.i64 q.cl), SV.val (Value.int IntKind.i64 q.p.k), SV.val (Value.bool q.p.b), SV.val (Value.float FloatKind.f64 q.p.n), SV.val (Value.string q.p.s), SV.val (Value.int IntKind.i64 q.p.id), SV.val (Value.bool q.x), SV.xs [q.a, q.b]])]))) else none) else some (Res.cut (Ex.exit 0) (Cut.mk [(1, SV.ptr 0 0), (3, SV.val (Value.int IntKind.i64 (↑i : Int)))] [(0, Blk.mk 60 [SV.val (Value.int IntKind.i64 q.cl), SV.val (Value.int IntKind.i64 q.p.k), SV.val (Value.bool q.p.b), SV.val (Value.float FloatKind.f64 q.p.n), SV.val (Value.string q.p.s), SV.val (Value.int IntKind.i64 q.p.id), SV.val (Value.bool q.x), SV.xs [q.a, q.b]])]))) := by kernel_rfl
set_option maxRecDepth 100000 in
theorem seal42_post (M : Nat → Mo) (bx : Nat → XR) (q : SA) (i : Nat) : letI := rowsB M bx
    evK Tryd.prog ext (tab2 BvL5 []) 80 22 (seqL (postOf (bodyOf Tryd.f42))) ((⟨[(1, .ptr 0 0), (3, (.val (.int .i64 (i : Int))))], [(0, ⟨60, shCells q.cl q.p q.x [q.a, q.b]⟩)]⟩ : Cut).st 1) (grab Tryd.prog Tryd.f42 [1, 3] [0] 1) =
    some (Res.ret (SV.val (Value.bool !q.x))) := by kernel_rfl
set_option maxRecDepth 100000 in
theorem run_seal42 (M : Nat → Mo) (bx : Nat → XR) (hM : Fit M) (q : SA) : letI := rowsB M bx
    Runs Tryd.prog (Inv M bx) 22 Tryd.f42 ((fun x : Bool => SV.val (.bool x)) ((seek (fun i => bif (((M q.a).g q.b).g i).d.c != 1 then some false else none) (((M q.a).g q.b).n) 0).getD (!q.x))) [] (bodyOf Tryd.f42) (⟨argS [q.sv], fun _ => none, 0⟩) := by
  letI := rowsB M bx
  have C := ctxB M bx Bvents5 entsS_nil
  refine Runs.seekFn C (n := ((M q.a).g q.b).n) (p := fun i => bif (((M q.a).g q.b).g i).d.c != 1 then some false else none) (f := (fun x : Bool => SV.val (.bool x))) (z := (!q.x)) (hd := fun i => (⟨[(1, .ptr 0 0), (3, (.val (.int .i64 (i : Int))))], [(0, ⟨60, shCells q.cl q.p q.x [q.a, q.b]⟩)]⟩ : Cut)) (c' := (fun i : Nat => (⟨[(1, .ptr 0 0), (3, (.val (.int .i64 (i : Int))))], [(0, ⟨60, shCells q.cl q.p q.x [q.a, q.b]⟩)]⟩ : Cut)) (((M q.a).g q.b).n)) (by kernel_rfl) (seal42_pre M bx q) (fun i hi => ?_) ?_ (fun _ => Runs.ret C (seal42_post M bx q (((M q.a).g q.b).n)))
  · refine (seal42_round M bx q i).trans ?_
    simp only [dlt hi, dge, wr hi ((hM q.a).2 q.b), cond_true, cond_false, Bool.and_self, Bool.true_and, map_cond, toR_cond, some_cond, Option.map_some, Option.map_none, toR_some, toR_none, cnd_and, cnd_or, cnd_not, S.keq, S.eqC, S.alikeC]
    first | done | rfl
  · refine (seal42_round M bx q (((M q.a).g q.b).n)).trans ?_
    simp only [dnl, cond_false]
    rfl
theorem ent_seal42 (M : Nat → Mo) (bx : Nat → XR) (hM : Fit M) : Ent M bx (42, noMem (onSh fun q => LB (R.sealed (q.sh M)))) := by
  letI := rowsB M bx
  refine EntryS.of (fun args t v h1 h2 => ?_) (inv_stable M bx)
  obtain ⟨q, rfl, rfl⟩ := onSh_eq h1
  cases h2
  refine ⟨ok_val _ _, ?_, fun w m hI => Runs.calls (body := Tryd.f42.body.getD .skip) Tryd.func42 (by kernel_rfl) (by kernel_rfl) ?_ (run_seal42 M bx hM q) w hI m⟩ <;>
  · intro x hx
    simp only [List.mem_cons, List.not_mem_nil, or_false] at hx
    rcases hx with rfl; exact ok_sa _ _
set_option maxRecDepth 100000 in
theorem froz44_pre (M : Nat → Mo) (bx : Nat → XR) (q : SA) : letI := rowsB M bx
    evK Tryd.prog ext (tab2 BvL5 [(42, noMem (onSh fun q => LB (R.sealed (q.sh M))))]) 80 35 (seqL (preOf (bodyOf Tryd.f44))) (⟨argS [q.sv], fun _ => none, 0⟩) (grab Tryd.prog Tryd.f44 [1, 3] [0] 1) =
    some (Res.cut Ex.normal (Cut.mk [(1, SV.ptr 0 0), (3, SV.val (Value.int IntKind.i64 0))] [(0, Blk.mk 60 [SV.val (Value.int IntKind.i64 q.cl), SV.val (Value.int IntKind.i64 q.p.k), SV.val (Value.bool q.p.b), SV.val (Value.float FloatKind.f64 q.p.n), SV.val (Value.string q.p.s), SV.val (Value.int IntKind.i64 q.p.id), SV.val (Value.bool q.x), SV.xs [q.a, q.b]])])) := by kernel_rfl
set_option maxRecDepth 100000 in
theorem froz44_round (M : Nat → Mo) (bx : Nat → XR) (q : SA) (i : Nat) : letI := rowsB M bx
    evK Tryd.prog ext (tab2 BvL5 [(42, noMem (onSh fun q => LB (R.sealed (q.sh M))))]) 80 35 (seqL (flat (roundOf (bodyOf Tryd.f44)))) ((⟨[(1, .ptr 0 0), (3, (.val (.int .i64 (i : Int))))], [(0, ⟨60, shCells q.cl q.p q.x [q.a, q.b]⟩)]⟩ : Cut).st 1) (grab Tryd.prog Tryd.f44 [1, 3] [0] 1) =
    (bif decide ((↑i : Int) < (↑((M q.a).g q.b).n : Int)) then 
     (bif decide (0 ≤ (↑i : Int)) && decide ((↑i : Int) < (↑((M q.a).g q.b).n : Int)) then 
      (bif !S.there (((M q.a).g q.b).g i).d.g then 
       (bif !S.there (((M q.a).g q.b).g i).d.t then 
        (bif (((M q.a).g q.b).g i).d.w != 1 then some (Res.ret (SV.val (Value.bool false))) else some (Res.cut Ex.normal (Cut.mk [(1, SV.ptr 0 0), (3, SV.val (Value.int IntKind.i64 (IntKind.i64.wrap ((↑i : Int) + 1))))] [(0, Blk.mk 60 [SV.val (Value.int IntKind.i64 q.cl), SV.val (Value.int IntKind.i64 q.p.k), SV.val (Value.bool q.p.b), SV.val (Value.float FloatKind.f64 q.p.n), SV.val (Value.string q.p.s), SV.val (Value.int IntKind.i64 q.p.id), SV.val (Value.bool q.x), SV.xs [q.a, q.b]])]))) else some (Res.cut Ex.normal (Cut.mk [(1, SV.ptr 0 0), (3, SV.val (Value.int IntKind.i64 (IntKind.i64.wrap ((↑i : Int) + 1))))] [(0, Blk.mk 60 [SV.val (Value.int IntKind.i64 q.cl), SV.val (Value.int IntKind.i64 q.p.k), SV.val (Value.bool q.p.b), SV.val (Value.float FloatKind.f64 q.p.n), SV.val (Value.string q.p.s), SV.val (Value.int IntKind.i64 q.p.id), SV.val (Value.bool q.x), SV.xs [q.a, q.b]])]))) else some (Res.cut Ex.normal (Cut.mk [(1, SV.ptr 0 0), (3, SV.val (Value.int IntKind.i64 (IntKind.i64.wrap ((↑i : Int) + 1))))] [(0, Blk.mk 60 [SV.val (Value.int IntKind.i64 q.cl), SV.val (Value.int IntKind.i64 q.p.k), SV.val (Value.bool q.p.b), SV.val (Value.float FloatKind.f64 q.p.n), SV.val (Value.string q.p.s), SV.val (Value.int IntKind.i64 q.p.id), SV.val (Value.bool q.x), SV.xs [q.a, q.b]])]))) else none) else some (Res.cut (Ex.exit 0) (Cut.mk [(1, SV.ptr 0 0), (3, SV.val (Value.int IntKind.i64 (↑i : Int)))] [(0, Blk.mk 60 [SV.val (Value.int IntKind.i64 q.cl), SV.val (Value.int IntKind.i64 q.p.k), SV.val (Value.bool q.p.b), SV.val (Value.float FloatKind.f64 q.p.n), SV.val (Value.string q.p.s), SV.val (Value.int IntKind.i64 q.p.id), SV.val (Value.bool q.x), SV.xs [q.a, q.b]])]))) := by kernel_rfl
set_option maxRecDepth 100000 in
theorem froz44_post (M : Nat → Mo) (bx : Nat → XR) (q : SA) (i : Nat) : letI := rowsB M bx
    evK Tryd.prog ext (tab2 BvL5 [(42, noMem (onSh fun q => LB (R.sealed (q.sh M))))]) 80 35 (seqL (postOf (bodyOf Tryd.f44))) ((⟨[(1, .ptr 0 0), (3, (.val (.int .i64 (i : Int))))], [(0, ⟨60, shCells q.cl q.p q.x [q.a, q.b]⟩)]⟩ : Cut).st 1) (grab Tryd.prog Tryd.f44 [1, 3] [0] 1) =
    some (Res.ret (SV.val (Value.bool (R.sealed (SA.sh M (SA.mk q.cl q.p q.x q.a q.b)))))) := by kernel_rfl
set_option maxRecDepth 100000 in
theorem run_froz44 (M : Nat → Mo) (bx : Nat → XR) (hM : Fit M) (q : SA) : letI := rowsB M bx
    Runs Tryd.prog (Inv M bx) 35 Tryd.f44 ((fun x : Bool => SV.val (.bool x)) ((seek (fun i => bif !S.there (((M q.a).g q.b).g i).d.g && (!S.there (((M q.a).g q.b).g i).d.t && (((M q.a).g q.b).g i).d.w != 1) then some false else none) (((M q.a).g q.b).n) 0).getD (R.sealed (q.sh M)))) [] (bodyOf Tryd.f44) (⟨argS [q.sv], fun _ => none, 0⟩) := by
  letI := rowsB M bx
  have C := ctxB M bx Bvents5 (entsS_cons (ent_seal42 M bx hM) entsS_nil)
  refine Runs.seekFn C (n := ((M q.a).g q.b).n) (p := fun i => bif !S.there (((M q.a).g q.b).g i).d.g && (!S.there (((M q.a).g q.b).g i).d.t && (((M q.a).g q.b).g i).d.w != 1) then some false else none) (f := (fun x : Bool => SV.val (.bool x))) (z := (R.sealed (q.sh M))) (hd := fun i => (⟨[(1, .ptr 0 0), (3, (.val (.int .i64 (i : Int))))], [(0, ⟨60, shCells q.cl q.p q.x [q.a, q.b]⟩)]⟩ : Cut)) (c' := (fun i : Nat => (⟨[(1, .ptr 0 0), (3, (.val (.int .i64 (i : Int))))], [(0, ⟨60, shCells q.cl q.p q.x [q.a, q.b]⟩)]⟩ : Cut)) (((M q.a).g q.b).n)) (by kernel_rfl) (froz44_pre M bx q) (fun i hi => ?_) ?_ (fun _ => Runs.ret C (froz44_post M bx q (((M q.a).g q.b).n)))
  · refine (froz44_round M bx q i).trans ?_
    simp only [dlt hi, dge, wr hi ((hM q.a).2 q.b), cond_true, cond_false, Bool.and_self, Bool.true_and, map_cond, toR_cond, some_cond, Option.map_some, Option.map_none, toR_some, toR_none, cnd_and, cnd_or, cnd_not, S.keq, S.eqC, S.alikeC]
    first | done | rfl
  · refine (froz44_round M bx q (((M q.a).g q.b).n)).trans ?_
    simp only [dnl, cond_false]
    rfl
theorem ent_froz44 (M : Nat → Mo) (bx : Nat → XR) (hM : Fit M) : Ent M bx (44, noMem (onSh fun q => LB (R.frozen (q.sh M)))) := by
  letI := rowsB M bx
  refine EntryS.of (fun args t v h1 h2 => ?_) (inv_stable M bx)
  obtain ⟨q, rfl, rfl⟩ := onSh_eq h1
  cases h2
  refine ⟨ok_val _ _, ?_, fun w m hI => Runs.calls (body := Tryd.f44.body.getD .skip) Tryd.func44 (by kernel_rfl) (by kernel_rfl) ?_ (run_froz44 M bx hM q) w hI m⟩ <;>
  · intro x hx
    simp only [List.mem_cons, List.not_mem_nil, or_false] at hx
    rcases hx with rfl; exact ok_sa _ _
set_option maxRecDepth 100000 in
theorem sameSh81_pre (M : Nat → Mo) (bx : Nat → XR) (q r : SA) : letI := rowsB M bx
    evK Tryd.prog ext (tab2 BvL5 []) 80 71 (seqL (preOf (bodyOf Tryd.f81))) (⟨argS [q.sv, r.sv], fun _ => none, 0⟩) (grab Tryd.prog Tryd.f81 [2, 3, 5] [0, 1] 2) =
    (bif q.cl != r.cl then some (Res.ret (SV.val (Value.bool false))) else 
     (bif !R.eqR q.p r.p then some (Res.ret (SV.val (Value.bool false))) else 
      (bif !q.x == r.x then some (Res.ret (SV.val (Value.bool false))) else 
       (bif (↑((M q.a).g q.b).n : Int) != (↑((M r.a).g r.b).n : Int) then some (Res.ret (SV.val (Value.bool false))) else some (Res.cut Ex.normal (Cut.mk [(2, SV.ptr 0 0), (3, SV.ptr 1 0), (5, SV.val (Value.int IntKind.i64 0))] [(0, Blk.mk 60 [SV.val (Value.int IntKind.i64 q.cl), SV.val (Value.int IntKind.i64 q.p.k), SV.val (Value.bool q.p.b), SV.val (Value.float FloatKind.f64 q.p.n), SV.val (Value.string q.p.s), SV.val (Value.int IntKind.i64 q.p.id), SV.val (Value.bool q.x), SV.xs [q.a, q.b]]), (1, Blk.mk 60 [SV.val (Value.int IntKind.i64 r.cl), SV.val (Value.int IntKind.i64 r.p.k), SV.val (Value.bool r.p.b), SV.val (Value.float FloatKind.f64 r.p.n), SV.val (Value.string r.p.s), SV.val (Value.int IntKind.i64 r.p.id), SV.val (Value.bool r.x), SV.xs [r.a, r.b]])])))))) := by kernel_rfl
set_option maxRecDepth 100000 in
theorem sameSh81_round (M : Nat → Mo) (bx : Nat → XR) (q r : SA) (i : Nat) : letI := rowsB M bx
    evK Tryd.prog ext (tab2 BvL5 []) 80 71 (seqL (flat (roundOf (bodyOf Tryd.f81)))) ((⟨[(2, .ptr 0 0), (3, .ptr 1 0), (5, (.val (.int .i64 (i : Int))))], [(0, ⟨60, shCells q.cl q.p q.x [q.a, q.b]⟩), (1, ⟨60, shCells r.cl r.p r.x [r.a, r.b]⟩)]⟩ : Cut).st 2) (grab Tryd.prog Tryd.f81 [2, 3, 5] [0, 1] 2) =
    (bif decide ((↑i : Int) < (↑((M q.a).g q.b).n : Int)) then 
     (bif decide (0 ≤ (↑i : Int)) && decide ((↑i : Int) < (↑((M q.a).g q.b).n : Int)) then 
      (bif decide (0 ≤ (↑i : Int)) && decide ((↑i : Int) < (↑((M r.a).g r.b).n : Int)) then 
       (bif !((((M q.a).g q.b).g i).k.s == (((M r.a).g r.b).g i).k.s && ((((M q.a).g q.b).g i).k.n == (((M r.a).g r.b).g i).k.n && true)) then some (Res.ret (SV.val (Value.bool false))) else 
        (bif decide (0 ≤ (↑i : Int)) && decide ((↑i : Int) < (↑((M q.a).g q.b).n : Int)) then 
         (bif decide (0 ≤ (↑i : Int)) && decide ((↑i : Int) < (↑((M r.a).g r.b).n : Int)) then 
          (bif !R.eqDR (((M q.a).g q.b).g i).d (((M r.a).g r.b).g i).d then some (Res.ret (SV.val (Value.bool false))) else some (Res.cut Ex.normal (Cut.mk [(2, SV.ptr 0 0), (3, SV.ptr 1 0), (5, SV.val (Value.int IntKind.i64 (IntKind.i64.wrap ((↑i : Int) + 1))))] [(0, Blk.mk 60 [SV.val (Value.int IntKind.i64 q.cl), SV.val (Value.int IntKind.i64 q.p.k), SV.val (Value.bool q.p.b), SV.val (Value.float FloatKind.f64 q.p.n), SV.val (Value.string q.p.s), SV.val (Value.int IntKind.i64 q.p.id), SV.val (Value.bool q.x), SV.xs [q.a, q.b]]), (1, Blk.mk 60 [SV.val (Value.int IntKind.i64 r.cl), SV.val (Value.int IntKind.i64 r.p.k), SV.val (Value.bool r.p.b), SV.val (Value.float FloatKind.f64 r.p.n), SV.val (Value.string r.p.s), SV.val (Value.int IntKind.i64 r.p.id), SV.val (Value.bool r.x), SV.xs [r.a, r.b]])]))) else none) else none)) else none) else none) else some (Res.cut (Ex.exit 0) (Cut.mk [(2, SV.ptr 0 0), (3, SV.ptr 1 0), (5, SV.val (Value.int IntKind.i64 (↑i : Int)))] [(0, Blk.mk 60 [SV.val (Value.int IntKind.i64 q.cl), SV.val (Value.int IntKind.i64 q.p.k), SV.val (Value.bool q.p.b), SV.val (Value.float FloatKind.f64 q.p.n), SV.val (Value.string q.p.s), SV.val (Value.int IntKind.i64 q.p.id), SV.val (Value.bool q.x), SV.xs [q.a, q.b]]), (1, Blk.mk 60 [SV.val (Value.int IntKind.i64 r.cl), SV.val (Value.int IntKind.i64 r.p.k), SV.val (Value.bool r.p.b), SV.val (Value.float FloatKind.f64 r.p.n), SV.val (Value.string r.p.s), SV.val (Value.int IntKind.i64 r.p.id), SV.val (Value.bool r.x), SV.xs [r.a, r.b]])]))) := by kernel_rfl
set_option maxRecDepth 100000 in
theorem sameSh81_post (M : Nat → Mo) (bx : Nat → XR) (q r : SA) (i : Nat) : letI := rowsB M bx
    evK Tryd.prog ext (tab2 BvL5 []) 80 71 (seqL (postOf (bodyOf Tryd.f81))) ((⟨[(2, .ptr 0 0), (3, .ptr 1 0), (5, (.val (.int .i64 (i : Int))))], [(0, ⟨60, shCells q.cl q.p q.x [q.a, q.b]⟩), (1, ⟨60, shCells r.cl r.p r.x [r.a, r.b]⟩)]⟩ : Cut).st 2) (grab Tryd.prog Tryd.f81 [2, 3, 5] [0, 1] 2) =
    some (Res.ret (SV.val (Value.bool true))) := by kernel_rfl
set_option maxRecDepth 100000 in
theorem run_sameSh81 (M : Nat → Mo) (bx : Nat → XR) (hM : Fit M) (q r : SA) : letI := rowsB M bx
    Runs Tryd.prog (Inv M bx) 71 Tryd.f81 ((fun x : Bool => SV.val (.bool x)) (bif q.cl != r.cl || (!R.eqR q.p r.p || (!(q.x == r.x) || (((M q.a).g q.b).n : Int) != (((M r.a).g r.b).n : Int))) then false else (seek (fun i => bif !S.keq (((M q.a).g q.b).g i).k (((M r.a).g r.b).g i).k || !R.eqDR (((M q.a).g q.b).g i).d (((M r.a).g r.b).g i).d then some false else none) (((M q.a).g q.b).n) 0).getD true)) [] (bodyOf Tryd.f81) (⟨argS [q.sv, r.sv], fun _ => none, 0⟩) := by
  letI := rowsB M bx
  have C := ctxB M bx Bvents5 entsS_nil
  have hp := (sameSh81_pre M bx q r).trans (show _ = bif q.cl != r.cl || (!R.eqR q.p r.p || (!(q.x == r.x) || (((M q.a).g q.b).n : Int) != (((M r.a).g r.b).n : Int))) then some (Res.ret ((fun x : Bool => SV.val (.bool x)) false)) else some (Res.cut .normal ((fun i : Nat => (⟨[(2, .ptr 0 0), (3, .ptr 1 0), (5, (.val (.int .i64 (i : Int))))], [(0, ⟨60, shCells q.cl q.p q.x [q.a, q.b]⟩), (1, ⟨60, shCells r.cl r.p r.x [r.a, r.b]⟩)]⟩ : Cut)) 0)) by
    simp only [cnd_and, cnd_or, cnd_not, Bool.or_assoc]
    first | done | rfl)
  cases hg : q.cl != r.cl || (!R.eqR q.p r.p || (!(q.x == r.x) || (((M q.a).g q.b).n : Int) != (((M r.a).g r.b).n : Int))) with
  | true =>
    rw [hg] at hp
    exact retPre C (by kernel_rfl) hp
  | false =>
    rw [hg] at hp
    show Runs _ _ _ _ ((fun x : Bool => SV.val (.bool x)) ((seek (fun i => bif !S.keq (((M q.a).g q.b).g i).k (((M r.a).g r.b).g i).k || !R.eqDR (((M q.a).g q.b).g i).d (((M r.a).g r.b).g i).d then some false else none) (((M q.a).g q.b).n) 0).getD true)) _ _ _
    refine Runs.seekFn C (n := ((M q.a).g q.b).n) (p := fun i => bif !S.keq (((M q.a).g q.b).g i).k (((M r.a).g r.b).g i).k || !R.eqDR (((M q.a).g q.b).g i).d (((M r.a).g r.b).g i).d then some false else none) (f := (fun x : Bool => SV.val (.bool x))) (z := true) (hd := fun i => (⟨[(2, .ptr 0 0), (3, .ptr 1 0), (5, (.val (.int .i64 (i : Int))))], [(0, ⟨60, shCells q.cl q.p q.x [q.a, q.b]⟩), (1, ⟨60, shCells r.cl r.p r.x [r.a, r.b]⟩)]⟩ : Cut)) (c' := (fun i : Nat => (⟨[(2, .ptr 0 0), (3, .ptr 1 0), (5, (.val (.int .i64 (i : Int))))], [(0, ⟨60, shCells q.cl q.p q.x [q.a, q.b]⟩), (1, ⟨60, shCells r.cl r.p r.x [r.a, r.b]⟩)]⟩ : Cut)) (((M q.a).g q.b).n)) (by kernel_rfl) hp (fun i hi => ?_) ?_ (fun _ => Runs.ret C (sameSh81_post M bx q r (((M q.a).g q.b).n)))
    · refine (sameSh81_round M bx q r i).trans ?_
      have hi2 : i < ((M r.a).g r.b).n := by have := sh_guard hg; omega
      simp only [dlt hi, dge, wr hi ((hM q.a).2 q.b), cond_true, cond_false, Bool.and_self, Bool.true_and, map_cond, toR_cond, some_cond, Option.map_some, Option.map_none, toR_some, toR_none, cnd_and, cnd_or, cnd_not, S.keq, S.eqC, S.alikeC, dlt hi2]
      first | done | rfl
    · refine (sameSh81_round M bx q r (((M q.a).g q.b).n)).trans ?_
      simp only [dnl, cond_false]
      rfl
theorem ent_sameSh81 (M : Nat → Mo) (bx : Nat → XR) (hM : Fit M) : Ent M bx (81, noMem (onShSh fun q r => LB (R.sameSh (q.sh M) (r.sh M)))) := by
  letI := rowsB M bx
  refine EntryS.of (fun args t v h1 h2 => ?_) (inv_stable M bx)
  obtain ⟨q, r, rfl, rfl⟩ := onShSh_eq h1
  cases h2
  refine ⟨ok_val _ _, ?_, fun w m hI => Runs.calls (body := Tryd.f81.body.getD .skip) Tryd.func81 (by kernel_rfl) (by kernel_rfl) ?_ (run_sameSh81 M bx hM q r) w hI m⟩ <;>
  · intro x hx
    simp only [List.mem_cons, List.not_mem_nil, or_false] at hx
    rcases hx with rfl | rfl <;> exact ok_sa _ _
set_option maxRecDepth 100000 in
theorem same40_pre (M : Nat → Mo) (bx : Nat → XR) (a b : Nat) : letI := rowsB M bx
    evK Tryd.prog ext (tab2 BvL5 [(81, noMem (onShSh fun q r => LB (R.sameSh (q.sh M) (r.sh M))))]) 80 27 (seqL (preOf (bodyOf Tryd.f40))) (⟨argS [.xs [a], .xs [b]], fun _ => none, 0⟩) (grab Tryd.prog Tryd.f40 [0, 1, 5] [] 0) =
    (bif (↑(M a).n : Int) != (↑(M b).n : Int) then some (Res.ret (SV.val (Value.bool false))) else some (Res.cut Ex.normal (Cut.mk [(0, SV.xs [a]), (1, SV.xs [b]), (5, SV.val (Value.int IntKind.i64 0))] []))) := by kernel_rfl
set_option maxRecDepth 100000 in
theorem same40_round (M : Nat → Mo) (bx : Nat → XR) (a b : Nat) (i : Nat) : letI := rowsB M bx
    evK Tryd.prog ext (tab2 BvL5 [(81, noMem (onShSh fun q r => LB (R.sameSh (q.sh M) (r.sh M))))]) 80 27 (seqL (flat (roundOf (bodyOf Tryd.f40)))) ((⟨[(0, .xs [a]), (1, .xs [b]), (5, (.val (.int .i64 (i : Int))))], []⟩ : Cut).st 0) (grab Tryd.prog Tryd.f40 [0, 1, 5] [] 0) =
    (bif decide ((↑i : Int) < (↑(M a).n : Int)) then 
     (bif decide (0 ≤ (↑i : Int)) && decide ((↑i : Int) < (↑(M a).n : Int)) then 
      (bif decide (0 ≤ (↑i : Int)) && decide ((↑i : Int) < (↑(M b).n : Int)) then 
       (bif !R.sameSh (SA.sh M (SA.mk ((M a).g i).cl ((M a).g i).p ((M a).g i).x a i)) (SA.sh M (SA.mk ((M b).g i).cl ((M b).g i).p ((M b).g i).x b i)) then some (Res.ret (SV.val (Value.bool false))) else some (Res.cut Ex.normal (Cut.mk [(0, SV.xs [a]), (1, SV.xs [b]), (5, SV.val (Value.int IntKind.i64 (IntKind.i64.wrap ((↑i : Int) + 1))))] []))) else none) else none) else some (Res.cut (Ex.exit 0) (Cut.mk [(0, SV.xs [a]), (1, SV.xs [b]), (5, SV.val (Value.int IntKind.i64 (↑i : Int)))] []))) := by kernel_rfl
set_option maxRecDepth 100000 in
theorem same40_post (M : Nat → Mo) (bx : Nat → XR) (a b : Nat) (i : Nat) : letI := rowsB M bx
    evK Tryd.prog ext (tab2 BvL5 [(81, noMem (onShSh fun q r => LB (R.sameSh (q.sh M) (r.sh M))))]) 80 27 (seqL (postOf (bodyOf Tryd.f40))) ((⟨[(0, .xs [a]), (1, .xs [b]), (5, (.val (.int .i64 (i : Int))))], []⟩ : Cut).st 0) (grab Tryd.prog Tryd.f40 [0, 1, 5] [] 0) =
    some (Res.ret (SV.val (Value.bool true))) := by kernel_rfl
set_option maxRecDepth 100000 in
theorem run_same40 (M : Nat → Mo) (bx : Nat → XR) (hM : Fit M) (a b : Nat) : letI := rowsB M bx
    Runs Tryd.prog (Inv M bx) 27 Tryd.f40 ((fun x : Bool => SV.val (.bool x)) (bif ((M a).n : Int) != ((M b).n : Int) then false else (seek (fun i => bif !R.sameSh ((M a).g i) ((M b).g i) then some false else none) ((M a).n) 0).getD true)) [] (bodyOf Tryd.f40) (⟨argS [.xs [a], .xs [b]], fun _ => none, 0⟩) := by
  letI := rowsB M bx
  have C := ctxB M bx Bvents5 (entsS_cons (ent_sameSh81 M bx hM) entsS_nil)
  have hp := (same40_pre M bx a b).trans (show _ = bif ((M a).n : Int) != ((M b).n : Int) then some (Res.ret ((fun x : Bool => SV.val (.bool x)) false)) else some (Res.cut .normal ((fun i : Nat => (⟨[(0, .xs [a]), (1, .xs [b]), (5, (.val (.int .i64 (i : Int))))], []⟩ : Cut)) 0)) by
    simp only [cnd_and, cnd_or, cnd_not, Bool.or_assoc]
    first | done | rfl)
  cases hg : ((M a).n : Int) != ((M b).n : Int) with
  | true =>
    rw [hg] at hp
    exact retPre C (by kernel_rfl) hp
  | false =>
    rw [hg] at hp
    show Runs _ _ _ _ ((fun x : Bool => SV.val (.bool x)) ((seek (fun i => bif !R.sameSh ((M a).g i) ((M b).g i) then some false else none) ((M a).n) 0).getD true)) _ _ _
    refine Runs.seekFn C (n := (M a).n) (p := fun i => bif !R.sameSh ((M a).g i) ((M b).g i) then some false else none) (f := (fun x : Bool => SV.val (.bool x))) (z := true) (hd := fun i => (⟨[(0, .xs [a]), (1, .xs [b]), (5, (.val (.int .i64 (i : Int))))], []⟩ : Cut)) (c' := (fun i : Nat => (⟨[(0, .xs [a]), (1, .xs [b]), (5, (.val (.int .i64 (i : Int))))], []⟩ : Cut)) ((M a).n)) (by kernel_rfl) hp (fun i hi => ?_) ?_ (fun _ => Runs.ret C (same40_post M bx a b ((M a).n)))
    · refine (same40_round M bx a b i).trans ?_
      have hi2 : i < (M b).n := by have := eq_of_bne hg; omega
      simp only [dlt hi, dge, wr hi (hM a).1, cond_true, cond_false, Bool.and_self, Bool.true_and, map_cond, toR_cond, some_cond, Option.map_some, Option.map_none, toR_some, toR_none, cnd_and, cnd_or, cnd_not, S.keq, S.eqC, S.alikeC, dlt hi2]
      first | done | rfl
    · refine (same40_round M bx a b ((M a).n)).trans ?_
      simp only [dnl, cond_false]
      rfl
theorem ent_same40 (M : Nat → Mo) (bx : Nat → XR) (hM : Fit M) : Ent M bx (40, noMem (onMM fun a b => LB (R.sameM (M a) (M b)))) := by
  letI := rowsB M bx
  refine EntryS.of (fun args t v h1 h2 => ?_) (inv_stable M bx)
  obtain ⟨a, b, rfl, rfl⟩ := onMM_eq h1
  cases h2
  refine ⟨ok_val _ _, ?_, fun w m hI => Runs.calls (body := Tryd.f40.body.getD .skip) Tryd.func40 (by kernel_rfl) (by kernel_rfl) ?_ (run_same40 M bx hM a b) w hI m⟩ <;>
  · intro x hx
    simp only [List.mem_cons, List.not_mem_nil, or_false] at hx
    rcases hx with rfl | rfl <;> exact ok_xs
end Go.Proofs.YtaojjpdlfnphiaaDoor.PDescKinds
end
section
/- Moments: Broken. Written by a program of this session. -/
set_option linter.unusedSimpArgs false
set_option linter.unusedVariables false
set_option linter.unusedSectionVars false
namespace Go.Proofs.YtaojjpdlfnphiaaDoor.PDescKinds
open Go.RowKit Go.Ev
theorem dgeF {i n : Nat} (h : i < n) : decide ((i : Int) ≥ (n : Int)) = false := decide_eq_false (by omega)
theorem dgeT {i n : Nat} (h : n ≤ i) : decide ((i : Int) ≥ (n : Int)) = true := decide_eq_true (by omega)
namespace S
/-- The rules of invariant.Broken. -/
def ruleO (b a : Sh) : Option Int := bif a.cl != b.cl then some 2 else bif !b.x && a.x then some 3 else bif !b.x && !eqC a.p b.p then some 4 else bif !b.x && decide (freshAt b a ≥ 0) then some 5 else bif lost b a then some 6 else none
def brokenO (b a : Mo) : Int × Int := (seek (fun i => bif decide ((i : Int) ≥ (a.n : Int)) then some ((i : Int) + 1, 1) else (ruleO (b.g i) (a.g i)).map fun r => ((i : Int) + 1, r)) b.n 0).getD (0, 0)
end S
namespace R
/-- The last rule of cameoref10.rule. -/
def rule2 (b a : Sh) : Option Int := seek (fun i => bif S.find b (b.g i).k != (i : Int) || (b.g i).d.c != 1 then none else bif decide (S.find a (b.g i).k < 0) then some 6 else
  bif okK (b.g i).d (a.g (S.find a (b.g i).k).toNat).d then (bif keeps (b.g i).d (a.g (S.find a (b.g i).k).toNat).d then none else some 6) else some 6) b.n 0
/-- cameoref10.rule. -/
def rule (b a : Sh) : Int := bif b.cl != a.cl then 2 else bif !b.x then (bif a.x then 3 else bif !eqR b.p a.p then 4 else
  ((seek (fun i => bif decide (S.find b (a.g i).k < 0) then some 5 else none) a.n 0).getD ((rule2 b a).getD 0))) else (rule2 b a).getD 0
def broken (b a : Mo) : Int × Int := (seek (fun i => bif decide ((i : Int) ≥ (a.n : Int)) then some ((i : Int) + 1, 1) else bif rule (b.g i) (a.g i) != 0 then some ((i : Int) + 1, rule (b.g i) (a.g i)) else none) b.n 0).getD (0, 0)
end R
noncomputable def ruleA : List Code := (bodyOf Tryd.f74).take 4
noncomputable def ruleB : List Code := (bodyOf Tryd.f74).drop 5
def thenOf : Code → Code
  | .cond _ t _ => t
  | c => c
def elseOf : Code → Code
  | .cond _ _ e => e
  | c => c
def condOf : Code → Operand
  | .cond o _ _ => o
  | _ => .tmp 0
noncomputable def ruleC5 : Code := (bodyOf Tryd.f74).getD 4 .skip
set_option maxRecDepth 100000 in
theorem broken37_pre (M : Nat → Mo) (bx : Nat → XR) (a b : Nat) : letI := rowsB M bx
    evK Tryd.prog ext (tab2 BvL5 [(110, idxC M), (107, noMem (onShSh fun q r => LB (S.lost (q.sh M) (r.sh M))))]) 120 43 (seqL (preOf (bodyOf Tryd.f37))) (⟨argS [.xs [a], .xs [b]], fun _ => none, 0⟩) (grab Tryd.prog Tryd.f37 [0, 1, 10, 11, 12] [] 0) =
    some (Res.cut Ex.normal (Cut.mk [(0, SV.xs [a]), (1, SV.xs [b]), (10, SV.xs [a]), (11, SV.val (Value.int IntKind.i64 (↑(M a).n : Int))), (12, SV.val (Value.int IntKind.i64 0))] [])) := by kernel_rfl
set_option maxRecDepth 100000 in
theorem broken37_round (M : Nat → Mo) (bx : Nat → XR) (a b : Nat) (i : Nat) : letI := rowsB M bx
    evK Tryd.prog ext (tab2 BvL5 [(110, idxC M), (107, noMem (onShSh fun q r => LB (S.lost (q.sh M) (r.sh M))))]) 120 43 (seqL (flat (roundOf (bodyOf Tryd.f37)))) ((⟨[(0, .xs [a]), (1, .xs [b]), (10, .xs [a]), (11, .val (.int .i64 (M a).n)), (12, (.val (.int .i64 (i : Int))))], []⟩ : Cut).st 0) (grab Tryd.prog Tryd.f37 [0, 1, 10, 11, 12] [] 0) =
    (bif decide ((↑i : Int) < (↑(M a).n : Int)) then 
     (bif decide (0 ≤ (↑i : Int)) && decide ((↑i : Int) < (↑(M a).n : Int)) then 
      (bif decide ((↑i : Int) ≥ (↑(M b).n : Int)) then some (Res.ret (SV.val (Value.tuple #[Value.int IntKind.i64 (IntKind.i64.wrap ((↑i : Int) + 1)), Value.int IntKind.i64 1]))) else 
       (bif decide (0 ≤ (↑i : Int)) && decide ((↑i : Int) < (↑(M b).n : Int)) then 
        (bif ((M b).g i).cl != ((M a).g i).cl then some (Res.ret (SV.val (Value.tuple #[Value.int IntKind.i64 (IntKind.i64.wrap ((↑i : Int) + 1)), Value.int IntKind.i64 2]))) else 
         (bif decide (0 ≤ (↑i : Int)) && decide ((↑i : Int) < (↑(M b).n : Int)) then 
          (bif !((M a).g i).x then 
           (bif ((M b).g i).x then some (Res.ret (SV.val (Value.tuple #[Value.int IntKind.i64 (IntKind.i64.wrap ((↑i : Int) + 1)), Value.int IntKind.i64 3]))) else 
            (bif decide (0 ≤ (↑i : Int)) && decide ((↑i : Int) < (↑(M b).n : Int)) then 
             (bif !((M a).g i).x then 
              (bif !S.eqC ((M b).g i).p ((M a).g i).p then some (Res.ret (SV.val (Value.tuple #[Value.int IntKind.i64 (IntKind.i64.wrap ((↑i : Int) + 1)), Value.int IntKind.i64 4]))) else 
               (bif decide (0 ≤ (↑i : Int)) && decide ((↑i : Int) < (↑(M b).n : Int)) then 
                (bif !((M a).g i).x then 
                 (bif decide (S.freshAt (SA.sh M (SA.mk ((M a).g i).cl ((M a).g i).p ((M a).g i).x a i)) ((M b).g i) ≥ 0) then some (Res.ret (SV.val (Value.tuple #[Value.int IntKind.i64 (IntKind.i64.wrap ((↑i : Int) + 1)), Value.int IntKind.i64 5]))) else 
                  (bif decide (0 ≤ (↑i : Int)) && decide ((↑i : Int) < (↑(M b).n : Int)) then 
                   (bif S.lost (SA.sh M (SA.mk ((M a).g i).cl ((M a).g i).p ((M a).g i).x a i)) (SA.sh M (SA.mk ((M b).g i).cl ((M b).g i).p ((M b).g i).x b i)) then some (Res.ret (SV.val (Value.tuple #[Value.int IntKind.i64 (IntKind.i64.wrap ((↑i : Int) + 1)), Value.int IntKind.i64 6]))) else some (Res.cut Ex.normal (Cut.mk [(0, SV.xs [a]), (1, SV.xs [b]), (10, SV.xs [a]), (11, SV.val (Value.int IntKind.i64 (↑(M a).n : Int))), (12, SV.val (Value.int IntKind.i64 (IntKind.i64.wrap ((↑i : Int) + 1))))] []))) else none)) else 
                 (bif decide (0 ≤ (↑i : Int)) && decide ((↑i : Int) < (↑(M b).n : Int)) then 
                  (bif S.lost (SA.sh M (SA.mk ((M a).g i).cl ((M a).g i).p ((M a).g i).x a i)) (SA.sh M (SA.mk ((M b).g i).cl ((M b).g i).p ((M b).g i).x b i)) then some (Res.ret (SV.val (Value.tuple #[Value.int IntKind.i64 (IntKind.i64.wrap ((↑i : Int) + 1)), Value.int IntKind.i64 6]))) else some (Res.cut Ex.normal (Cut.mk [(0, SV.xs [a]), (1, SV.xs [b]), (10, SV.xs [a]), (11, SV.val (Value.int IntKind.i64 (↑(M a).n : Int))), (12, SV.val (Value.int IntKind.i64 (IntKind.i64.wrap ((↑i : Int) + 1))))] []))) else none)) else none)) else 
              (bif decide (0 ≤ (↑i : Int)) && decide ((↑i : Int) < (↑(M b).n : Int)) then 
               (bif !((M a).g i).x then 
                (bif decide (S.freshAt (SA.sh M (SA.mk ((M a).g i).cl ((M a).g i).p ((M a).g i).x a i)) ((M b).g i) ≥ 0) then some (Res.ret (SV.val (Value.tuple #[Value.int IntKind.i64 (IntKind.i64.wrap ((↑i : Int) + 1)), Value.int IntKind.i64 5]))) else 
                 (bif decide (0 ≤ (↑i : Int)) && decide ((↑i : Int) < (↑(M b).n : Int)) then 
                  (bif S.lost (SA.sh M (SA.mk ((M a).g i).cl ((M a).g i).p ((M a).g i).x a i)) (SA.sh M (SA.mk ((M b).g i).cl ((M b).g i).p ((M b).g i).x b i)) then some (Res.ret (SV.val (Value.tuple #[Value.int IntKind.i64 (IntKind.i64.wrap ((↑i : Int) + 1)), Value.int IntKind.i64 6]))) else some (Res.cut Ex.normal (Cut.mk [(0, SV.xs [a]), (1, SV.xs [b]), (10, SV.xs [a]), (11, SV.val (Value.int IntKind.i64 (↑(M a).n : Int))), (12, SV.val (Value.int IntKind.i64 (IntKind.i64.wrap ((↑i : Int) + 1))))] []))) else none)) else 
                (bif decide (0 ≤ (↑i : Int)) && decide ((↑i : Int) < (↑(M b).n : Int)) then 
                 (bif S.lost (SA.sh M (SA.mk ((M a).g i).cl ((M a).g i).p ((M a).g i).x a i)) (SA.sh M (SA.mk ((M b).g i).cl ((M b).g i).p ((M b).g i).x b i)) then some (Res.ret (SV.val (Value.tuple #[Value.int IntKind.i64 (IntKind.i64.wrap ((↑i : Int) + 1)), Value.int IntKind.i64 6]))) else some (Res.cut Ex.normal (Cut.mk [(0, SV.xs [a]), (1, SV.xs [b]), (10, SV.xs [a]), (11, SV.val (Value.int IntKind.i64 (↑(M a).n : Int))), (12, SV.val (Value.int IntKind.i64 (IntKind.i64.wrap ((↑i : Int) + 1))))] []))) else none)) else none)) else none)) else 
           (bif decide (0 ≤ (↑i : Int)) && decide ((↑i : Int) < (↑(M b).n : Int)) then 
            (bif !((M a).g i).x then 
             (bif !S.eqC ((M b).g i).p ((M a).g i).p then some (Res.ret (SV.val (Value.tuple #[Value.int IntKind.i64 (IntKind.i64.wrap ((↑i : Int) + 1)), Value.int IntKind.i64 4]))) else 
              (bif decide (0 ≤ (↑i : Int)) && decide ((↑i : Int) < (↑(M b).n : Int)) then 
               (bif !((M a).g i).x then 
                (bif decide (S.freshAt (SA.sh M (SA.mk ((M a).g i).cl ((M a).g i).p ((M a).g i).x a i)) ((M b).g i) ≥ 0) then some (Res.ret (SV.val (Value.tuple #[Value.int IntKind.i64 (IntKind.i64.wrap ((↑i : Int) + 1)), Value.int IntKind.i64 5]))) else 
                 (bif decide (0 ≤ (↑i : Int)) && decide ((↑i : Int) < (↑(M b).n : Int)) then 
                  (bif S.lost (SA.sh M (SA.mk ((M a).g i).cl ((M a).g i).p ((M a).g i).x a i)) (SA.sh M (SA.mk ((M b).g i).cl ((M b).g i).p ((M b).g i).x b i)) then some (Res.ret (SV.val (Value.tuple #[Value.int IntKind.i64 (IntKind.i64.wrap ((↑i : Int) + 1)), Value.int IntKind.i64 6]))) else some (Res.cut Ex.normal (Cut.mk [(0, SV.xs [a]), (1, SV.xs [b]), (10, SV.xs [a]), (11, SV.val (Value.int IntKind.i64 (↑(M a).n : Int))), (12, SV.val (Value.int IntKind.i64 (IntKind.i64.wrap ((↑i : Int) + 1))))] []))) else none)) else 
                (bif decide (0 ≤ (↑i : Int)) && decide ((↑i : Int) < (↑(M b).n : Int)) then 
                 (bif S.lost (SA.sh M (SA.mk ((M a).g i).cl ((M a).g i).p ((M a).g i).x a i)) (SA.sh M (SA.mk ((M b).g i).cl ((M b).g i).p ((M b).g i).x b i)) then some (Res.ret (SV.val (Value.tuple #[Value.int IntKind.i64 (IntKind.i64.wrap ((↑i : Int) + 1)), Value.int IntKind.i64 6]))) else some (Res.cut Ex.normal (Cut.mk [(0, SV.xs [a]), (1, SV.xs [b]), (10, SV.xs [a]), (11, SV.val (Value.int IntKind.i64 (↑(M a).n : Int))), (12, SV.val (Value.int IntKind.i64 (IntKind.i64.wrap ((↑i : Int) + 1))))] []))) else none)) else none)) else 
             (bif decide (0 ≤ (↑i : Int)) && decide ((↑i : Int) < (↑(M b).n : Int)) then 
              (bif !((M a).g i).x then 
               (bif decide (S.freshAt (SA.sh M (SA.mk ((M a).g i).cl ((M a).g i).p ((M a).g i).x a i)) ((M b).g i) ≥ 0) then some (Res.ret (SV.val (Value.tuple #[Value.int IntKind.i64 (IntKind.i64.wrap ((↑i : Int) + 1)), Value.int IntKind.i64 5]))) else 
                (bif decide (0 ≤ (↑i : Int)) && decide ((↑i : Int) < (↑(M b).n : Int)) then 
                 (bif S.lost (SA.sh M (SA.mk ((M a).g i).cl ((M a).g i).p ((M a).g i).x a i)) (SA.sh M (SA.mk ((M b).g i).cl ((M b).g i).p ((M b).g i).x b i)) then some (Res.ret (SV.val (Value.tuple #[Value.int IntKind.i64 (IntKind.i64.wrap ((↑i : Int) + 1)), Value.int IntKind.i64 6]))) else some (Res.cut Ex.normal (Cut.mk [(0, SV.xs [a]), (1, SV.xs [b]), (10, SV.xs [a]), (11, SV.val (Value.int IntKind.i64 (↑(M a).n : Int))), (12, SV.val (Value.int IntKind.i64 (IntKind.i64.wrap ((↑i : Int) + 1))))] []))) else none)) else 
               (bif decide (0 ≤ (↑i : Int)) && decide ((↑i : Int) < (↑(M b).n : Int)) then 
                (bif S.lost (SA.sh M (SA.mk ((M a).g i).cl ((M a).g i).p ((M a).g i).x a i)) (SA.sh M (SA.mk ((M b).g i).cl ((M b).g i).p ((M b).g i).x b i)) then some (Res.ret (SV.val (Value.tuple #[Value.int IntKind.i64 (IntKind.i64.wrap ((↑i : Int) + 1)), Value.int IntKind.i64 6]))) else some (Res.cut Ex.normal (Cut.mk [(0, SV.xs [a]), (1, SV.xs [b]), (10, SV.xs [a]), (11, SV.val (Value.int IntKind.i64 (↑(M a).n : Int))), (12, SV.val (Value.int IntKind.i64 (IntKind.i64.wrap ((↑i : Int) + 1))))] []))) else none)) else none)) else none)) else none)) else none)) else none) else some (Res.cut (Ex.exit 0) (Cut.mk [(0, SV.xs [a]), (1, SV.xs [b]), (10, SV.xs [a]), (11, SV.val (Value.int IntKind.i64 (↑(M a).n : Int))), (12, SV.val (Value.int IntKind.i64 (↑i : Int)))] []))) := by kernel_rfl
set_option maxRecDepth 100000 in
theorem broken37_post (M : Nat → Mo) (bx : Nat → XR) (a b : Nat) (i : Nat) : letI := rowsB M bx
    evK Tryd.prog ext (tab2 BvL5 [(110, idxC M), (107, noMem (onShSh fun q r => LB (S.lost (q.sh M) (r.sh M))))]) 120 43 (seqL (postOf (bodyOf Tryd.f37))) ((⟨[(0, .xs [a]), (1, .xs [b]), (10, .xs [a]), (11, .val (.int .i64 (M a).n)), (12, (.val (.int .i64 (i : Int))))], []⟩ : Cut).st 0) (grab Tryd.prog Tryd.f37 [0, 1, 10, 11, 12] [] 0) =
    some (Res.ret (SV.val (Value.tuple #[Value.int IntKind.i64 0, Value.int IntKind.i64 0]))) := by kernel_rfl
set_option maxRecDepth 100000 in
theorem run_broken37 (M : Nat → Mo) (bx : Nat → XR) (hM : Fit M) (a b : Nat) : letI := rowsB M bx
    Runs Tryd.prog (Inv M bx) 43 Tryd.f37 ((fun p : Int × Int => SV.val (.tuple #[.int .i64 p.1, .int .i64 p.2])) ((seek (fun i => bif decide ((i : Int) ≥ ((M b).n : Int)) then some ((i : Int) + 1, 1) else (S.ruleO ((M a).g i) ((M b).g i)).map fun r => ((i : Int) + 1, r)) ((M a).n) 0).getD (0, 0))) [] (bodyOf Tryd.f37) (⟨argS [.xs [a], .xs [b]], fun _ => none, 0⟩) := by
  letI := rowsB M bx
  have C := ctxB M bx Bvents5 (entsS_cons (ent_idxC M bx hM) (entsS_cons (ent_lost107 M bx hM) entsS_nil))
  refine Runs.seekFn C (n := (M a).n) (p := fun i => bif decide ((i : Int) ≥ ((M b).n : Int)) then some ((i : Int) + 1, 1) else (S.ruleO ((M a).g i) ((M b).g i)).map fun r => ((i : Int) + 1, r)) (f := (fun p : Int × Int => SV.val (.tuple #[.int .i64 p.1, .int .i64 p.2]))) (z := (0, 0)) (hd := fun i => (⟨[(0, .xs [a]), (1, .xs [b]), (10, .xs [a]), (11, .val (.int .i64 (M a).n)), (12, (.val (.int .i64 (i : Int))))], []⟩ : Cut)) (c' := (fun i : Nat => (⟨[(0, .xs [a]), (1, .xs [b]), (10, .xs [a]), (11, .val (.int .i64 (M a).n)), (12, (.val (.int .i64 (i : Int))))], []⟩ : Cut)) ((M a).n)) (by kernel_rfl) (broken37_pre M bx a b) (fun i hi => ?_) ?_ (fun _ => Runs.ret C (broken37_post M bx a b ((M a).n)))
  · refine (broken37_round M bx a b i).trans ?_
    rcases Nat.lt_or_ge i ((M b).n) with hi2 | hi2
    · simp only [dgeF hi2, dlt hi2, dlt hi, dge, wr hi (hM a).1, cond_true, cond_false, Bool.and_self, Bool.true_and, map_cond, toR_cond, some_cond, Option.map_some, Option.map_none, toR_some, toR_none, cnd_and, cnd_or, cnd_not, S.keq, S.eqC, S.alikeC, S.ruleO, Option.map_some, Option.map_none]
      first | done | rfl
    · simp only [dgeT hi2, dlt hi, dge, wr hi (hM a).1, cond_true, cond_false, Bool.and_self, Bool.true_and, map_cond, toR_cond, some_cond, Option.map_some, Option.map_none, toR_some, toR_none, cnd_and, cnd_or, cnd_not, S.keq, S.eqC, S.alikeC, S.ruleO, Option.map_some, Option.map_none]
      first | done | rfl
  · refine (broken37_round M bx a b ((M a).n)).trans ?_
    simp only [dnl, cond_false]
    rfl
theorem ent_broken37 (M : Nat → Mo) (bx : Nat → XR) (hM : Fit M) : Ent M bx (37, noMem (onMM fun a b => LII (S.brokenO (M a) (M b)))) := by
  letI := rowsB M bx
  refine EntryS.of (fun args t v h1 h2 => ?_) (inv_stable M bx)
  obtain ⟨a, b, rfl, rfl⟩ := onMM_eq h1
  cases h2
  refine ⟨ok_val _ _, ?_, fun w m hI => Runs.calls (body := Tryd.f37.body.getD .skip) Tryd.func37 (by kernel_rfl) (by kernel_rfl) ?_ (run_broken37 M bx hM a b) w hI m⟩ <;>
  · intro x hx
    simp only [List.mem_cons, List.not_mem_nil, or_false] at hx
    rcases hx with rfl | rfl <;> exact ok_xs
set_option maxRecDepth 100000 in
theorem ruleA_all (M : Nat → Mo) (bx : Nat → XR) (q r : SA) : letI := rowsB M bx
    evK Tryd.prog ext (tab2 BvL5 [(48, noMem (onPK fun a b k => LI (S.find ((M a).g b) k)))]) 80 94 (seqL (ruleA)) (⟨argS [q.sv, r.sv], fun _ => none, 0⟩) (grab Tryd.prog Tryd.f74 [2, 3, 18] [0, 1] 2) =
    (bif q.cl != r.cl then some (Res.ret (SV.val (Value.int IntKind.i64 2))) else some (Res.cut Ex.normal (Cut.mk [(2, SV.ptr 0 0), (3, SV.ptr 1 0), (18, SV.val (Value.bool !q.x))] [(0, Blk.mk 60 [SV.val (Value.int IntKind.i64 q.cl), SV.val (Value.int IntKind.i64 q.p.k), SV.val (Value.bool q.p.b), SV.val (Value.float FloatKind.f64 q.p.n), SV.val (Value.string q.p.s), SV.val (Value.int IntKind.i64 q.p.id), SV.val (Value.bool q.x), SV.xs [q.a, q.b]]), (1, Blk.mk 60 [SV.val (Value.int IntKind.i64 r.cl), SV.val (Value.int IntKind.i64 r.p.k), SV.val (Value.bool r.p.b), SV.val (Value.float FloatKind.f64 r.p.n), SV.val (Value.string r.p.s), SV.val (Value.int IntKind.i64 r.p.id), SV.val (Value.bool r.x), SV.xs [r.a, r.b]])]))) := by kernel_rfl
set_option maxRecDepth 100000 in
theorem ruleT_pre (M : Nat → Mo) (bx : Nat → XR) (q r : SA) : letI := rowsB M bx
    evK Tryd.prog ext (tab2 BvL5 [(48, noMem (onPK fun a b k => LI (S.find ((M a).g b) k)))]) 80 94 (seqL (preOf (flat (thenOf ruleC5)))) ((⟨[(2, .ptr 0 0), (3, .ptr 1 0), (18, .val (.bool (!q.x)))], [(0, ⟨60, shCells q.cl q.p q.x [q.a, q.b]⟩), (1, ⟨60, shCells r.cl r.p r.x [r.a, r.b]⟩)]⟩ : Cut).st 2) (grab Tryd.prog Tryd.f74 [2, 3, 5] [0, 1] 2) =
    (bif r.x then some (Res.ret (SV.val (Value.int IntKind.i64 3))) else 
     (bif !R.eqR q.p r.p then some (Res.ret (SV.val (Value.int IntKind.i64 4))) else some (Res.cut Ex.normal (Cut.mk [(2, SV.ptr 0 0), (3, SV.ptr 1 0), (5, SV.val (Value.int IntKind.i64 0))] [(0, Blk.mk 60 [SV.val (Value.int IntKind.i64 q.cl), SV.val (Value.int IntKind.i64 q.p.k), SV.val (Value.bool q.p.b), SV.val (Value.float FloatKind.f64 q.p.n), SV.val (Value.string q.p.s), SV.val (Value.int IntKind.i64 q.p.id), SV.val (Value.bool q.x), SV.xs [q.a, q.b]]), (1, Blk.mk 60 [SV.val (Value.int IntKind.i64 r.cl), SV.val (Value.int IntKind.i64 r.p.k), SV.val (Value.bool r.p.b), SV.val (Value.float FloatKind.f64 r.p.n), SV.val (Value.string r.p.s), SV.val (Value.int IntKind.i64 r.p.id), SV.val (Value.bool r.x), SV.xs [r.a, r.b]])])))) := by kernel_rfl
set_option maxRecDepth 100000 in
theorem ruleT_round (M : Nat → Mo) (bx : Nat → XR) (q r : SA) (i : Nat) : letI := rowsB M bx
    evK Tryd.prog ext (tab2 BvL5 [(48, noMem (onPK fun a b k => LI (S.find ((M a).g b) k)))]) 80 94 (seqL (flat (roundOf (flat (thenOf ruleC5))))) ((⟨[(2, .ptr 0 0), (3, .ptr 1 0), (5, (.val (.int .i64 (i : Int))))], [(0, ⟨60, shCells q.cl q.p q.x [q.a, q.b]⟩), (1, ⟨60, shCells r.cl r.p r.x [r.a, r.b]⟩)]⟩ : Cut).st 2) (grab Tryd.prog Tryd.f74 [2, 3, 5] [0, 1] 2) =
    (bif decide ((↑i : Int) < (↑((M r.a).g r.b).n : Int)) then 
     (bif decide (0 ≤ (↑i : Int)) && decide ((↑i : Int) < (↑((M r.a).g r.b).n : Int)) then 
      (bif decide (S.find ((M q.a).g q.b) (K.mk (((M r.a).g r.b).g i).k.s (((M r.a).g r.b).g i).k.n) < 0) then some (Res.ret (SV.val (Value.int IntKind.i64 5))) else some (Res.cut Ex.normal (Cut.mk [(2, SV.ptr 0 0), (3, SV.ptr 1 0), (5, SV.val (Value.int IntKind.i64 (IntKind.i64.wrap ((↑i : Int) + 1))))] [(0, Blk.mk 60 [SV.val (Value.int IntKind.i64 q.cl), SV.val (Value.int IntKind.i64 q.p.k), SV.val (Value.bool q.p.b), SV.val (Value.float FloatKind.f64 q.p.n), SV.val (Value.string q.p.s), SV.val (Value.int IntKind.i64 q.p.id), SV.val (Value.bool q.x), SV.xs [q.a, q.b]]), (1, Blk.mk 60 [SV.val (Value.int IntKind.i64 r.cl), SV.val (Value.int IntKind.i64 r.p.k), SV.val (Value.bool r.p.b), SV.val (Value.float FloatKind.f64 r.p.n), SV.val (Value.string r.p.s), SV.val (Value.int IntKind.i64 r.p.id), SV.val (Value.bool r.x), SV.xs [r.a, r.b]])]))) else none) else some (Res.cut (Ex.exit 0) (Cut.mk [(2, SV.ptr 0 0), (3, SV.ptr 1 0), (5, SV.val (Value.int IntKind.i64 (↑i : Int)))] [(0, Blk.mk 60 [SV.val (Value.int IntKind.i64 q.cl), SV.val (Value.int IntKind.i64 q.p.k), SV.val (Value.bool q.p.b), SV.val (Value.float FloatKind.f64 q.p.n), SV.val (Value.string q.p.s), SV.val (Value.int IntKind.i64 q.p.id), SV.val (Value.bool q.x), SV.xs [q.a, q.b]]), (1, Blk.mk 60 [SV.val (Value.int IntKind.i64 r.cl), SV.val (Value.int IntKind.i64 r.p.k), SV.val (Value.bool r.p.b), SV.val (Value.float FloatKind.f64 r.p.n), SV.val (Value.string r.p.s), SV.val (Value.int IntKind.i64 r.p.id), SV.val (Value.bool r.x), SV.xs [r.a, r.b]])]))) := by kernel_rfl
set_option maxRecDepth 100000 in
theorem ruleB_pre (M : Nat → Mo) (bx : Nat → XR) (q r : SA) : letI := rowsB M bx
    evK Tryd.prog ext (tab2 BvL5 [(48, noMem (onPK fun a b k => LI (S.find ((M a).g b) k)))]) 80 94 (seqL (preOf (ruleB))) ((⟨[(2, .ptr 0 0), (3, .ptr 1 0)], [(0, ⟨60, shCells q.cl q.p q.x [q.a, q.b]⟩), (1, ⟨60, shCells r.cl r.p r.x [r.a, r.b]⟩)]⟩ : Cut).st 2) (grab Tryd.prog Tryd.f74 [2, 3, 6] [0, 1] 2) =
    some (Res.cut Ex.normal (Cut.mk [(2, SV.ptr 0 0), (3, SV.ptr 1 0), (6, SV.val (Value.int IntKind.i64 0))] [(0, Blk.mk 60 [SV.val (Value.int IntKind.i64 q.cl), SV.val (Value.int IntKind.i64 q.p.k), SV.val (Value.bool q.p.b), SV.val (Value.float FloatKind.f64 q.p.n), SV.val (Value.string q.p.s), SV.val (Value.int IntKind.i64 q.p.id), SV.val (Value.bool q.x), SV.xs [q.a, q.b]]), (1, Blk.mk 60 [SV.val (Value.int IntKind.i64 r.cl), SV.val (Value.int IntKind.i64 r.p.k), SV.val (Value.bool r.p.b), SV.val (Value.float FloatKind.f64 r.p.n), SV.val (Value.string r.p.s), SV.val (Value.int IntKind.i64 r.p.id), SV.val (Value.bool r.x), SV.xs [r.a, r.b]])])) := by kernel_rfl
set_option maxRecDepth 100000 in
theorem ruleB_round (M : Nat → Mo) (bx : Nat → XR) (q r : SA) (i : Nat) : letI := rowsB M bx
    evK Tryd.prog ext (tab2 BvL5 [(48, noMem (onPK fun a b k => LI (S.find ((M a).g b) k)))]) 80 94 (seqL (flat (roundOf (ruleB)))) ((⟨[(2, .ptr 0 0), (3, .ptr 1 0), (6, (.val (.int .i64 (i : Int))))], [(0, ⟨60, shCells q.cl q.p q.x [q.a, q.b]⟩), (1, ⟨60, shCells r.cl r.p r.x [r.a, r.b]⟩)]⟩ : Cut).st 2) (grab Tryd.prog Tryd.f74 [2, 3, 6] [0, 1] 2) =
    (bif decide ((↑i : Int) < (↑((M q.a).g q.b).n : Int)) then 
     (bif decide (0 ≤ (↑i : Int)) && decide ((↑i : Int) < (↑((M q.a).g q.b).n : Int)) then 
      (bif S.find ((M q.a).g q.b) (K.mk (((M q.a).g q.b).g i).k.s (((M q.a).g q.b).g i).k.n) != (↑i : Int) then some (Res.cut Ex.normal (Cut.mk [(2, SV.ptr 0 0), (3, SV.ptr 1 0), (6, SV.val (Value.int IntKind.i64 (IntKind.i64.wrap ((↑i : Int) + 1))))] [(0, Blk.mk 60 [SV.val (Value.int IntKind.i64 q.cl), SV.val (Value.int IntKind.i64 q.p.k), SV.val (Value.bool q.p.b), SV.val (Value.float FloatKind.f64 q.p.n), SV.val (Value.string q.p.s), SV.val (Value.int IntKind.i64 q.p.id), SV.val (Value.bool q.x), SV.xs [q.a, q.b]]), (1, Blk.mk 60 [SV.val (Value.int IntKind.i64 r.cl), SV.val (Value.int IntKind.i64 r.p.k), SV.val (Value.bool r.p.b), SV.val (Value.float FloatKind.f64 r.p.n), SV.val (Value.string r.p.s), SV.val (Value.int IntKind.i64 r.p.id), SV.val (Value.bool r.x), SV.xs [r.a, r.b]])])) else 
       (bif (((M q.a).g q.b).g i).d.c != 1 then some (Res.cut Ex.normal (Cut.mk [(2, SV.ptr 0 0), (3, SV.ptr 1 0), (6, SV.val (Value.int IntKind.i64 (IntKind.i64.wrap ((↑i : Int) + 1))))] [(0, Blk.mk 60 [SV.val (Value.int IntKind.i64 q.cl), SV.val (Value.int IntKind.i64 q.p.k), SV.val (Value.bool q.p.b), SV.val (Value.float FloatKind.f64 q.p.n), SV.val (Value.string q.p.s), SV.val (Value.int IntKind.i64 q.p.id), SV.val (Value.bool q.x), SV.xs [q.a, q.b]]), (1, Blk.mk 60 [SV.val (Value.int IntKind.i64 r.cl), SV.val (Value.int IntKind.i64 r.p.k), SV.val (Value.bool r.p.b), SV.val (Value.float FloatKind.f64 r.p.n), SV.val (Value.string r.p.s), SV.val (Value.int IntKind.i64 r.p.id), SV.val (Value.bool r.x), SV.xs [r.a, r.b]])])) else 
        (bif decide (S.find ((M r.a).g r.b) (K.mk (((M q.a).g q.b).g i).k.s (((M q.a).g q.b).g i).k.n) < 0) then some (Res.ret (SV.val (Value.int IntKind.i64 6))) else 
         (bif decide (0 ≤ S.find ((M r.a).g r.b) (K.mk (((M q.a).g q.b).g i).k.s (((M q.a).g q.b).g i).k.n)) && decide (S.find ((M r.a).g r.b) (K.mk (((M q.a).g q.b).g i).k.s (((M q.a).g q.b).g i).k.n) < (↑((M r.a).g r.b).n : Int)) then 
          (bif R.okK (((M q.a).g q.b).g i).d (((M r.a).g r.b).g (S.find ((M r.a).g r.b) (K.mk (((M q.a).g q.b).g i).k.s (((M q.a).g q.b).g i).k.n)).toNat).d then 
           (bif !R.keeps (((M q.a).g q.b).g i).d (((M r.a).g r.b).g (S.find ((M r.a).g r.b) (K.mk (((M q.a).g q.b).g i).k.s (((M q.a).g q.b).g i).k.n)).toNat).d then some (Res.ret (SV.val (Value.int IntKind.i64 6))) else some (Res.cut Ex.normal (Cut.mk [(2, SV.ptr 0 0), (3, SV.ptr 1 0), (6, SV.val (Value.int IntKind.i64 (IntKind.i64.wrap ((↑i : Int) + 1))))] [(0, Blk.mk 60 [SV.val (Value.int IntKind.i64 q.cl), SV.val (Value.int IntKind.i64 q.p.k), SV.val (Value.bool q.p.b), SV.val (Value.float FloatKind.f64 q.p.n), SV.val (Value.string q.p.s), SV.val (Value.int IntKind.i64 q.p.id), SV.val (Value.bool q.x), SV.xs [q.a, q.b]]), (1, Blk.mk 60 [SV.val (Value.int IntKind.i64 r.cl), SV.val (Value.int IntKind.i64 r.p.k), SV.val (Value.bool r.p.b), SV.val (Value.float FloatKind.f64 r.p.n), SV.val (Value.string r.p.s), SV.val (Value.int IntKind.i64 r.p.id), SV.val (Value.bool r.x), SV.xs [r.a, r.b]])]))) else some (Res.ret (SV.val (Value.int IntKind.i64 6)))) else none)))) else none) else some (Res.cut (Ex.exit 2) (Cut.mk [(2, SV.ptr 0 0), (3, SV.ptr 1 0), (6, SV.val (Value.int IntKind.i64 (↑i : Int)))] [(0, Blk.mk 60 [SV.val (Value.int IntKind.i64 q.cl), SV.val (Value.int IntKind.i64 q.p.k), SV.val (Value.bool q.p.b), SV.val (Value.float FloatKind.f64 q.p.n), SV.val (Value.string q.p.s), SV.val (Value.int IntKind.i64 q.p.id), SV.val (Value.bool q.x), SV.xs [q.a, q.b]]), (1, Blk.mk 60 [SV.val (Value.int IntKind.i64 r.cl), SV.val (Value.int IntKind.i64 r.p.k), SV.val (Value.bool r.p.b), SV.val (Value.float FloatKind.f64 r.p.n), SV.val (Value.string r.p.s), SV.val (Value.int IntKind.i64 r.p.id), SV.val (Value.bool r.x), SV.xs [r.a, r.b]])]))) := by kernel_rfl
set_option maxRecDepth 100000 in
theorem ruleB_post (M : Nat → Mo) (bx : Nat → XR) (q r : SA) (i : Nat) : letI := rowsB M bx
    evK Tryd.prog ext (tab2 BvL5 [(48, noMem (onPK fun a b k => LI (S.find ((M a).g b) k)))]) 80 94 (seqL (postOf (ruleB))) ((⟨[(2, .ptr 0 0), (3, .ptr 1 0), (6, (.val (.int .i64 (i : Int))))], [(0, ⟨60, shCells q.cl q.p q.x [q.a, q.b]⟩), (1, ⟨60, shCells r.cl r.p r.x [r.a, r.b]⟩)]⟩ : Cut).st 2) (grab Tryd.prog Tryd.f74 [2, 3, 6] [0, 1] 2) =
    some (Res.ret (SV.val (Value.int IntKind.i64 0))) := by kernel_rfl
set_option maxRecDepth 100000 in
theorem run_ruleB (M : Nat → Mo) (bx : Nat → XR) (hM : Fit M) (q r : SA) : letI := rowsB M bx
    Runs Tryd.prog (Inv M bx) 94 Tryd.f74 ((fun x : Int => SV.val (.int .i64 x)) ((seek (fun i => bif S.find ((M q.a).g q.b) (((M q.a).g q.b).g i).k != (i : Int) || (((M q.a).g q.b).g i).d.c != 1 then none else bif decide ((S.find ((M r.a).g r.b) (((M q.a).g q.b).g i).k) < 0) then some 6 else bif R.okK (((M q.a).g q.b).g i).d (((M r.a).g r.b).g (S.find ((M r.a).g r.b) (((M q.a).g q.b).g i).k).toNat).d then (bif R.keeps (((M q.a).g q.b).g i).d (((M r.a).g r.b).g (S.find ((M r.a).g r.b) (((M q.a).g q.b).g i).k).toNat).d then none else some 6) else some 6) (((M q.a).g q.b).n) 0).getD 0)) [] (ruleB) ((⟨[(2, .ptr 0 0), (3, .ptr 1 0)], [(0, ⟨60, shCells q.cl q.p q.x [q.a, q.b]⟩), (1, ⟨60, shCells r.cl r.p r.x [r.a, r.b]⟩)]⟩ : Cut).st 2) := by
  letI := rowsB M bx
  have C := ctxB M bx Bvents5 (entsS_cons (ent_find48 M bx hM) entsS_nil)
  refine Runs.seekFn C (n := ((M q.a).g q.b).n) (p := fun i => bif S.find ((M q.a).g q.b) (((M q.a).g q.b).g i).k != (i : Int) || (((M q.a).g q.b).g i).d.c != 1 then none else bif decide ((S.find ((M r.a).g r.b) (((M q.a).g q.b).g i).k) < 0) then some 6 else bif R.okK (((M q.a).g q.b).g i).d (((M r.a).g r.b).g (S.find ((M r.a).g r.b) (((M q.a).g q.b).g i).k).toNat).d then (bif R.keeps (((M q.a).g q.b).g i).d (((M r.a).g r.b).g (S.find ((M r.a).g r.b) (((M q.a).g q.b).g i).k).toNat).d then none else some 6) else some 6) (f := (fun x : Int => SV.val (.int .i64 x))) (z := 0) (hd := fun i => (⟨[(2, .ptr 0 0), (3, .ptr 1 0), (6, (.val (.int .i64 (i : Int))))], [(0, ⟨60, shCells q.cl q.p q.x [q.a, q.b]⟩), (1, ⟨60, shCells r.cl r.p r.x [r.a, r.b]⟩)]⟩ : Cut)) (c' := (fun i : Nat => (⟨[(2, .ptr 0 0), (3, .ptr 1 0), (6, (.val (.int .i64 (i : Int))))], [(0, ⟨60, shCells q.cl q.p q.x [q.a, q.b]⟩), (1, ⟨60, shCells r.cl r.p r.x [r.a, r.b]⟩)]⟩ : Cut)) (((M q.a).g q.b).n)) (by kernel_rfl) (ruleB_pre M bx q r) (fun i hi => ?_) ?_ (fun _ => Runs.ret C (ruleB_post M bx q r (((M q.a).g q.b).n)))
  · refine (ruleB_round M bx q r i).trans ?_
    simp only [S.find_cond]
    simp only [dlt hi, dge, wr hi ((hM q.a).2 q.b), cond_true, cond_false, Bool.and_self, Bool.true_and, map_cond, toR_cond, some_cond, Option.map_some, Option.map_none, toR_some, toR_none, cnd_and, cnd_or, cnd_not, S.keq, S.eqC, S.alikeC]
    first | done | rfl
  · refine (ruleB_round M bx q r (((M q.a).g q.b).n)).trans ?_
    simp only [dnl, cond_false]
    rfl
set_option maxRecDepth 100000 in
theorem ruleT_post (M : Nat → Mo) (bx : Nat → XR) (q r : SA) (i : Nat) : letI := rowsB M bx
    evK Tryd.prog ext (tab2 BvL5 [(48, noMem (onPK fun a b k => LI (S.find ((M a).g b) k)))]) 80 94  (seqL (postOf (flat (thenOf ruleC5)))) ((⟨[(2, .ptr 0 0), (3, .ptr 1 0), (5, (.val (.int .i64 (i : Int))))], [(0, ⟨60, shCells q.cl q.p q.x [q.a, q.b]⟩), (1, ⟨60, shCells r.cl r.p r.x [r.a, r.b]⟩)]⟩ : Cut).st 2) (grab Tryd.prog Tryd.f74 [2, 3] [0, 1] 2) = some (.cut .normal (⟨[(2, .ptr 0 0), (3, .ptr 1 0)], [(0, ⟨60, shCells q.cl q.p q.x [q.a, q.b]⟩), (1, ⟨60, shCells r.cl r.p r.x [r.a, r.b]⟩)]⟩ : Cut)) := by kernel_rfl
set_option maxRecDepth 100000 in
theorem ruleE_all (M : Nat → Mo) (bx : Nat → XR) (q r : SA) : letI := rowsB M bx
    evK Tryd.prog ext (tab2 BvL5 [(48, noMem (onPK fun a b k => LI (S.find ((M a).g b) k)))]) 80 94  (seqL (flat (elseOf ruleC5))) ((⟨[(2, .ptr 0 0), (3, .ptr 1 0), (18, .val (.bool (!q.x)))], [(0, ⟨60, shCells q.cl q.p q.x [q.a, q.b]⟩), (1, ⟨60, shCells r.cl r.p r.x [r.a, r.b]⟩)]⟩ : Cut).st 2) (grab Tryd.prog Tryd.f74 [2, 3] [0, 1] 2) = some (.cut .normal (⟨[(2, .ptr 0 0), (3, .ptr 1 0)], [(0, ⟨60, shCells q.cl q.p q.x [q.a, q.b]⟩), (1, ⟨60, shCells r.cl r.p r.x [r.a, r.b]⟩)]⟩ : Cut)) := by kernel_rfl
theorem rule_split : bodyOf Tryd.f74 = ruleA ++ (Code.cond (condOf ruleC5) (thenOf ruleC5) (elseOf ruleC5) :: ruleB) := by kernel_rfl
set_option maxRecDepth 100000 in
theorem run_rule74 (M : Nat → Mo) (bx : Nat → XR) (hM : Fit M) (q r : SA) : letI := rowsB M bx
    Runs Tryd.prog (Inv M bx) 94 Tryd.f74 (.val (.int .i64 (R.rule (q.sh M) (r.sh M)))) [] (bodyOf Tryd.f74) ⟨argS [q.sv, r.sv], fun _ => none, 0⟩ := by
  letI := rowsB M bx
  have C := ctxB M bx Bvents5 (entsS_cons (ent_find48 M bx hM) entsS_nil)
  rw [rule_split]
  refine Runs.app ?_
  have hA := ruleA_all M bx q r
  have restB := run_ruleB M bx hM q r
  cases hcl : (q.cl != r.cl) with
  | true =>
    have e : R.rule (q.sh M) (r.sh M) = 2 := by
      show (bif q.cl != r.cl then _ else _) = _
      rw [hcl]; rfl
    rw [e]
    exact Runs.ret C (hA.trans (by simp only [hcl, cond_true]))
  | false =>
    have e0 : R.rule (q.sh M) (r.sh M) = bif !q.x then (bif r.x then 3 else bif !R.eqR q.p r.p then 4 else
        ((seek (fun i => bif decide (S.find ((M q.a).g q.b) (((M r.a).g r.b).g i).k < 0) then some 5 else none) ((M r.a).g r.b).n 0).getD ((R.rule2 (q.sh M) (r.sh M)).getD 0))) else (R.rule2 (q.sh M) (r.sh M)).getD 0 := by
      show (bif q.cl != r.cl then _ else _) = _
      rw [hcl]; rfl
    refine Runs.step C (hA.trans (by simp only [hcl, cond_false]; rfl)) (RunsX.rest (cond2 (b := !q.x) rfl (fun hx => ?_) (fun hx => ?_)))
    · rw [hx] at e0
      have hp := ruleT_pre M bx q r
      by_cases h3 : r.x = true
      · rw [h3] at e0
        have e : R.rule (q.sh M) (r.sh M) = 3 := e0
        rw [e]
        exact retPre C (by kernel_rfl) (hp.trans (by simp only [h3, cond_true]))
      · have h3 : r.x = false := by simpa using h3
        rw [h3] at e0
        cases h4 : R.eqR q.p r.p with
        | false =>
          rw [h4] at e0
          have e : R.rule (q.sh M) (r.sh M) = 4 := e0
          rw [e]
          exact retPre C (by kernel_rfl) (hp.trans (by simp only [h3, h4, cond_true, cond_false, Bool.not_false]))
        | true =>
          rw [h4] at e0
          simp only [cond_true, cond_false, Bool.not_true] at e0
          rw [e0]
          refine Runs.seekFn C (n := ((M r.a).g r.b).n) (p := fun i => bif decide (S.find ((M q.a).g q.b) (((M r.a).g r.b).g i).k < 0) then some 5 else none) (f := fun x : Int => SV.val (.int .i64 x)) (z := (R.rule2 (q.sh M) (r.sh M)).getD 0)
            (hd := fun i => (⟨[(2, .ptr 0 0), (3, .ptr 1 0), (5, (.val (.int .i64 (i : Int))))], [(0, ⟨60, shCells q.cl q.p q.x [q.a, q.b]⟩), (1, ⟨60, shCells r.cl r.p r.x [r.a, r.b]⟩)]⟩ : Cut)) (c' := (fun i : Nat => (⟨[(2, .ptr 0 0), (3, .ptr 1 0), (5, (.val (.int .i64 (i : Int))))], [(0, ⟨60, shCells q.cl q.p q.x [q.a, q.b]⟩), (1, ⟨60, shCells r.cl r.p r.x [r.a, r.b]⟩)]⟩ : Cut)) ((M r.a).g r.b).n) (by kernel_rfl)
            (hp.trans (by simp only [h3, h4, cond_true, cond_false, Bool.not_true]; rfl)) (fun i hi => ?_) ?_ (fun _ => Runs.step C (ruleT_post M bx q r _) (RunsX.rest restB))
          · refine (ruleT_round M bx q r i).trans ?_
            simp only [dlt hi, dge, wr hi ((hM r.a).2 r.b), cond_true, cond_false, Bool.and_self, Bool.true_and, map_cond, toR_cond, some_cond, Option.map_some, Option.map_none, toR_some, toR_none]
            first | done | rfl
          · refine (ruleT_round M bx q r ((M r.a).g r.b).n).trans ?_
            simp only [dnl, cond_false]
            rfl
    · rw [hx] at e0
      have e : R.rule (q.sh M) (r.sh M) = (R.rule2 (q.sh M) (r.sh M)).getD 0 := e0
      rw [e]
      exact Runs.step C (ruleE_all M bx q r) (RunsX.rest restB)
theorem ent_rule74 (M : Nat → Mo) (bx : Nat → XR) (hM : Fit M) : Ent M bx (74, noMem (onShSh fun q r => LI (R.rule (q.sh M) (r.sh M)))) := by
  letI := rowsB M bx
  refine EntryS.of (fun args t v h1 h2 => ?_) (inv_stable M bx)
  obtain ⟨q, r, rfl, rfl⟩ := onShSh_eq h1
  cases h2
  refine ⟨ok_val _ _, ?_, fun w m hI => Runs.calls (body := Tryd.f74.body.getD .skip) Tryd.func74 (by kernel_rfl) (by kernel_rfl) ?_ (run_rule74 M bx hM q r) w hI m⟩ <;>
  · intro x hx
    simp only [List.mem_cons, List.not_mem_nil, or_false] at hx
    rcases hx with rfl | rfl <;> exact ok_sa _ _
set_option maxRecDepth 100000 in
theorem rbroken38_pre (M : Nat → Mo) (bx : Nat → XR) (a b : Nat) : letI := rowsB M bx
    evK Tryd.prog ext (tab2 BvL5 [(74, noMem (onShSh fun q r => LI (R.rule (q.sh M) (r.sh M))))]) 80 34 (seqL (preOf (bodyOf Tryd.f38))) (⟨argS [.xs [a], .xs [b]], fun _ => none, 0⟩) (grab Tryd.prog Tryd.f38 [0, 1, 6] [] 0) =
    some (Res.cut Ex.normal (Cut.mk [(0, SV.xs [a]), (1, SV.xs [b]), (6, SV.val (Value.int IntKind.i64 0))] [])) := by kernel_rfl
set_option maxRecDepth 100000 in
theorem rbroken38_round (M : Nat → Mo) (bx : Nat → XR) (a b : Nat) (i : Nat) : letI := rowsB M bx
    evK Tryd.prog ext (tab2 BvL5 [(74, noMem (onShSh fun q r => LI (R.rule (q.sh M) (r.sh M))))]) 80 34 (seqL (flat (roundOf (bodyOf Tryd.f38)))) ((⟨[(0, .xs [a]), (1, .xs [b]), (6, (.val (.int .i64 (i : Int))))], []⟩ : Cut).st 0) (grab Tryd.prog Tryd.f38 [0, 1, 6] [] 0) =
    (bif decide ((↑i : Int) < (↑(M a).n : Int)) then 
     (bif decide ((↑i : Int) ≥ (↑(M b).n : Int)) then some (Res.ret (SV.val (Value.tuple #[Value.int IntKind.i64 (IntKind.i64.wrap ((↑i : Int) + 1)), Value.int IntKind.i64 1]))) else 
      (bif decide (0 ≤ (↑i : Int)) && decide ((↑i : Int) < (↑(M a).n : Int)) then 
       (bif decide (0 ≤ (↑i : Int)) && decide ((↑i : Int) < (↑(M b).n : Int)) then 
        (bif R.rule (SA.sh M (SA.mk ((M a).g i).cl ((M a).g i).p ((M a).g i).x a i)) (SA.sh M (SA.mk ((M b).g i).cl ((M b).g i).p ((M b).g i).x b i)) != 0 then some (Res.ret (SV.val (Value.tuple #[Value.int IntKind.i64 (IntKind.i64.wrap ((↑i : Int) + 1)), Value.int IntKind.i64 (R.rule (SA.sh M (SA.mk ((M a).g i).cl ((M a).g i).p ((M a).g i).x a i)) (SA.sh M (SA.mk ((M b).g i).cl ((M b).g i).p ((M b).g i).x b i)))]))) else some (Res.cut Ex.normal (Cut.mk [(0, SV.xs [a]), (1, SV.xs [b]), (6, SV.val (Value.int IntKind.i64 (IntKind.i64.wrap ((↑i : Int) + 1))))] []))) else none) else none)) else some (Res.cut (Ex.exit 0) (Cut.mk [(0, SV.xs [a]), (1, SV.xs [b]), (6, SV.val (Value.int IntKind.i64 (↑i : Int)))] []))) := by kernel_rfl
set_option maxRecDepth 100000 in
theorem rbroken38_post (M : Nat → Mo) (bx : Nat → XR) (a b : Nat) (i : Nat) : letI := rowsB M bx
    evK Tryd.prog ext (tab2 BvL5 [(74, noMem (onShSh fun q r => LI (R.rule (q.sh M) (r.sh M))))]) 80 34 (seqL (postOf (bodyOf Tryd.f38))) ((⟨[(0, .xs [a]), (1, .xs [b]), (6, (.val (.int .i64 (i : Int))))], []⟩ : Cut).st 0) (grab Tryd.prog Tryd.f38 [0, 1, 6] [] 0) =
    some (Res.ret (SV.val (Value.tuple #[Value.int IntKind.i64 0, Value.int IntKind.i64 0]))) := by kernel_rfl
set_option maxRecDepth 100000 in
theorem run_rbroken38 (M : Nat → Mo) (bx : Nat → XR) (hM : Fit M) (a b : Nat) : letI := rowsB M bx
    Runs Tryd.prog (Inv M bx) 34 Tryd.f38 ((fun p : Int × Int => SV.val (.tuple #[.int .i64 p.1, .int .i64 p.2])) ((seek (fun i => bif decide ((i : Int) ≥ ((M b).n : Int)) then some ((i : Int) + 1, 1) else bif R.rule ((M a).g i) ((M b).g i) != 0 then some ((i : Int) + 1, R.rule ((M a).g i) ((M b).g i)) else none) ((M a).n) 0).getD (0, 0))) [] (bodyOf Tryd.f38) (⟨argS [.xs [a], .xs [b]], fun _ => none, 0⟩) := by
  letI := rowsB M bx
  have C := ctxB M bx Bvents5 (entsS_cons (ent_rule74 M bx hM) entsS_nil)
  refine Runs.seekFn C (n := (M a).n) (p := fun i => bif decide ((i : Int) ≥ ((M b).n : Int)) then some ((i : Int) + 1, 1) else bif R.rule ((M a).g i) ((M b).g i) != 0 then some ((i : Int) + 1, R.rule ((M a).g i) ((M b).g i)) else none) (f := (fun p : Int × Int => SV.val (.tuple #[.int .i64 p.1, .int .i64 p.2]))) (z := (0, 0)) (hd := fun i => (⟨[(0, .xs [a]), (1, .xs [b]), (6, (.val (.int .i64 (i : Int))))], []⟩ : Cut)) (c' := (fun i : Nat => (⟨[(0, .xs [a]), (1, .xs [b]), (6, (.val (.int .i64 (i : Int))))], []⟩ : Cut)) ((M a).n)) (by kernel_rfl) (rbroken38_pre M bx a b) (fun i hi => ?_) ?_ (fun _ => Runs.ret C (rbroken38_post M bx a b ((M a).n)))
  · refine (rbroken38_round M bx a b i).trans ?_
    rcases Nat.lt_or_ge i ((M b).n) with hi2 | hi2
    · simp only [dgeF hi2, dlt hi2, dlt hi, dge, wr hi (hM a).1, cond_true, cond_false, Bool.and_self, Bool.true_and, map_cond, toR_cond, some_cond, Option.map_some, Option.map_none, toR_some, toR_none, cnd_and, cnd_or, cnd_not, S.keq, S.eqC, S.alikeC]
      first | done | rfl
    · simp only [dgeT hi2, dlt hi, dge, wr hi (hM a).1, cond_true, cond_false, Bool.and_self, Bool.true_and, map_cond, toR_cond, some_cond, Option.map_some, Option.map_none, toR_some, toR_none, cnd_and, cnd_or, cnd_not, S.keq, S.eqC, S.alikeC]
      first | done | rfl
  · refine (rbroken38_round M bx a b ((M a).n)).trans ?_
    simp only [dnl, cond_false]
    rfl
theorem ent_rbroken38 (M : Nat → Mo) (bx : Nat → XR) (hM : Fit M) : Ent M bx (38, noMem (onMM fun a b => LII (R.broken (M a) (M b)))) := by
  letI := rowsB M bx
  refine EntryS.of (fun args t v h1 h2 => ?_) (inv_stable M bx)
  obtain ⟨a, b, rfl, rfl⟩ := onMM_eq h1
  cases h2
  refine ⟨ok_val _ _, ?_, fun w m hI => Runs.calls (body := Tryd.f38.body.getD .skip) Tryd.func38 (by kernel_rfl) (by kernel_rfl) ?_ (run_rbroken38 M bx hM a b) w hI m⟩ <;>
  · intro x hx
    simp only [List.mem_cons, List.not_mem_nil, or_false] at hx
    rcases hx with rfl | rfl <;> exact ok_xs
end Go.Proofs.YtaojjpdlfnphiaaDoor.PDescKinds
end
section
/- Moments: few; the law's own pieces. Written by a program of this session. -/
set_option linter.unusedSimpArgs false
set_option linter.unusedVariables false
set_option linter.unusedSectionVars false
namespace Go.Proofs.YtaojjpdlfnphiaaDoor.PDescKinds
open Go.RowKit Go.Ev
namespace S
def fewAcc (s : Mo) : Nat → Nat → Int → Int
  | 0, _, x => x
  | k + 1, i, x => bif decide ((i : Int) < (s.n : Int)) && decide ((i : Int) ≤ 60) then fewAcc s k (i + 1) (IntKind.i64.wrap (x + ((s.g i).n : Int))) else x
def few (s : Mo) : Bool := decide ((s.n : Int) ≤ 60) && decide (fewAcc s 62 0 0 ≤ 400)
end S
noncomputable def brkA : List Code := (bodyOf Tryd.f8).take 3
noncomputable def brkR : List Code := (bodyOf Tryd.f8).drop 5
set_option maxRecDepth 100000 in
theorem few35_pre (M : Nat → Mo) (bx : Nat → XR) (a : Nat) (x : Int) : letI := rowsB M bx
    evK Tryd.prog ext (tab2 BvL5 []) 80 30 (seqL (preOf (bodyOf Tryd.f35))) (⟨argS [.xs [a]], fun _ => none, 0⟩) (grab Tryd.prog Tryd.f35 [0, 3, 4] [] 0) =
    some (Res.cut Ex.normal (Cut.mk [(0, SV.xs [a]), (3, SV.val (Value.int IntKind.i64 0)), (4, SV.val (Value.int IntKind.i64 0))] [])) := by kernel_rfl
set_option maxRecDepth 100000 in
theorem few35_round (M : Nat → Mo) (bx : Nat → XR) (a : Nat) (x : Int) (i : Nat) : letI := rowsB M bx
    evK Tryd.prog ext (tab2 BvL5 []) 80 30 (seqL (flat (roundOf (bodyOf Tryd.f35)))) ((⟨[(0, .xs [a]), (3, .val (.int .i64 x)), (4, (.val (.int .i64 (i : Int))))], []⟩ : Cut).st 0) (grab Tryd.prog Tryd.f35 [0, 3, 4] [] 0) =
    (bif decide ((↑i : Int) < (↑(M a).n : Int)) then 
     (bif decide ((↑i : Int) ≤ 60) then 
      (bif decide (0 ≤ (↑i : Int)) && decide ((↑i : Int) < (↑(M a).n : Int)) then some (Res.cut Ex.normal (Cut.mk [(0, SV.xs [a]), (3, SV.val (Value.int IntKind.i64 (IntKind.i64.wrap (x + (↑((M a).g i).n : Int))))), (4, SV.val (Value.int IntKind.i64 (IntKind.i64.wrap ((↑i : Int) + 1))))] [])) else none) else some (Res.cut (Ex.exit 0) (Cut.mk [(0, SV.xs [a]), (3, SV.val (Value.int IntKind.i64 x)), (4, SV.val (Value.int IntKind.i64 (↑i : Int)))] []))) else some (Res.cut (Ex.exit 0) (Cut.mk [(0, SV.xs [a]), (3, SV.val (Value.int IntKind.i64 x)), (4, SV.val (Value.int IntKind.i64 (↑i : Int)))] []))) := by kernel_rfl
set_option maxRecDepth 100000 in
theorem few35_post (M : Nat → Mo) (bx : Nat → XR) (a : Nat) (x : Int) (i : Nat) : letI := rowsB M bx
    evK Tryd.prog ext (tab2 BvL5 []) 80 30 (seqL (postOf (bodyOf Tryd.f35))) ((⟨[(0, .xs [a]), (3, .val (.int .i64 x)), (4, (.val (.int .i64 (i : Int))))], []⟩ : Cut).st 0) (grab Tryd.prog Tryd.f35 [0, 3, 4] [] 0) =
    (bif decide ((↑(M a).n : Int) ≤ 60) then some (Res.ret (SV.val (Value.bool (decide (x ≤ 400))))) else some (Res.ret (SV.val (Value.bool false)))) := by kernel_rfl
theorem run_fewL (M : Nat → Mo) (bx : Nat → XR) (hM : Fit M) (a : Nat) : letI := rowsB M bx
    ∀ (k i : Nat) (x : Int), 61 ≤ i + k → Runs Tryd.prog (Inv M bx) 30 Tryd.f35 (.val (.bool (decide (((M a).n : Int) ≤ 60) && decide (S.fewAcc (M a) (k + 1) i x ≤ 400))))
      [.loop (idOf (bodyOf Tryd.f35)) (roundOf (bodyOf Tryd.f35)) k, .rest (postOf (bodyOf Tryd.f35))] (flat (roundOf (bodyOf Tryd.f35))) ((⟨[(0, .xs [a]), (3, .val (.int .i64 x)), (4, .val (.int .i64 (i : Int)))], []⟩ : Cut).st 0) := by
  letI := rowsB M bx
  have C := ctxB M bx Bvents5 entsS_nil
  intro k
  induction k with
  | zero =>
    intro i x h
    have h60 : decide ((i : Int) ≤ 60) = false := decide_eq_false (by omega)
    have e : S.fewAcc (M a) (0 + 1) i x = x := by simp only [S.fewAcc, h60, Bool.and_false, cond_false]
    rw [e]
    have hr := few35_round M bx a x i
    rw [h60] at hr
    have hpost : Runs Tryd.prog (Inv M bx) 30 Tryd.f35 (.val (.bool (decide (((M a).n : Int) ≤ 60) && decide (x ≤ 400)))) [] (postOf (bodyOf Tryd.f35)) ((⟨[(0, .xs [a]), (3, .val (.int .i64 x)), (4, .val (.int .i64 (i : Int)))], []⟩ : Cut).st 0) := Runs.ret C ((few35_post M bx a x i).trans (by
      cases decide (((M a).n : Int) ≤ 60) <;> rfl))
    exact Runs.step (ex := .exit (idOf (bodyOf Tryd.f35))) (c := (⟨[(0, .xs [a]), (3, .val (.int .i64 x)), (4, .val (.int .i64 (i : Int)))], []⟩ : Cut)) C (hr.trans (by cases decide ((i : Int) < ((M a).n : Int)) <;> rfl)) (RunsX.out (RunsX.rest hpost))
  | succ k ih =>
    intro i x h
    have hr := few35_round M bx a x i
    have hpost : ∀ y, S.fewAcc (M a) (k + 1 + 1) i x = y → y = x → Runs Tryd.prog (Inv M bx) 30 Tryd.f35 (.val (.bool (decide (((M a).n : Int) ≤ 60) && decide (y ≤ 400)))) [] (postOf (bodyOf Tryd.f35)) ((⟨[(0, .xs [a]), (3, .val (.int .i64 x)), (4, .val (.int .i64 (i : Int)))], []⟩ : Cut).st 0) := fun y _ hy => by
      rw [hy]
      exact Runs.ret C ((few35_post M bx a x i).trans (by cases decide (((M a).n : Int) ≤ 60) <;> rfl))
    by_cases hi : i < (M a).n
    · by_cases h60 : (i : Int) ≤ 60
      · have e : S.fewAcc (M a) (k + 1 + 1) i x = S.fewAcc (M a) (k + 1) (i + 1) (IntKind.i64.wrap (x + (((M a).g i).n : Int))) := by
          show (bif decide ((i : Int) < ((M a).n : Int)) && decide ((i : Int) ≤ 60) then _ else _) = _
          rw [dlt hi, decide_eq_true h60]; rfl
        rw [e]
        refine Runs.step (ex := .normal) (c := ⟨[(0, .xs [a]), (3, .val (.int .i64 (IntKind.i64.wrap (x + (((M a).g i).n : Int))))), (4, .val (.int .i64 ((i + 1 : Nat) : Int)))], []⟩) C (hr.trans ?_) (RunsX.again (ih (i + 1) (IntKind.i64.wrap (x + (((M a).g i).n : Int))) (by omega)))
        simp only [dlt hi, dge, decide_eq_true h60, wr hi (hM a).1, cond_true, Bool.and_self]
        first | done | rfl
      · have e : S.fewAcc (M a) (k + 1 + 1) i x = x := by
          show (bif decide ((i : Int) < ((M a).n : Int)) && decide ((i : Int) ≤ 60) then _ else _) = _
          rw [decide_eq_false h60, Bool.and_false]; rfl
        have hp := hpost _ e rfl
        rw [e]
        refine Runs.step (ex := .exit (idOf (bodyOf Tryd.f35))) (c := (⟨[(0, .xs [a]), (3, .val (.int .i64 x)), (4, .val (.int .i64 (i : Int)))], []⟩ : Cut)) C (hr.trans ?_) (RunsX.out (RunsX.rest hp))
        simp only [dlt hi, decide_eq_false h60, cond_true, cond_false]
        rfl
    · have hd : decide ((i : Int) < ((M a).n : Int)) = false := decide_eq_false (by omega)
      have e : S.fewAcc (M a) (k + 1 + 1) i x = x := by
        show (bif decide ((i : Int) < ((M a).n : Int)) && decide ((i : Int) ≤ 60) then _ else _) = _
        rw [hd, Bool.false_and]; rfl
      have hp := hpost _ e rfl
      rw [e]
      refine Runs.step (ex := .exit (idOf (bodyOf Tryd.f35))) (c := (⟨[(0, .xs [a]), (3, .val (.int .i64 x)), (4, .val (.int .i64 (i : Int)))], []⟩ : Cut)) C (hr.trans ?_) (RunsX.out (RunsX.rest hp))
      simp only [hd, cond_false]
      rfl
theorem run_few35 (M : Nat → Mo) (bx : Nat → XR) (hM : Fit M) (a : Nat) : letI := rowsB M bx
    Runs Tryd.prog (Inv M bx) 30 Tryd.f35 (.val (.bool (S.few (M a)))) [] (bodyOf Tryd.f35) ⟨argS [.xs [a]], fun _ => none, 0⟩ := by
  letI := rowsB M bx
  have C := ctxB M bx Bvents5 entsS_nil
  exact Runs.looped C (by kernel_rfl) 61 (few35_pre M bx a 0) (run_fewL M bx hM a 61 0 0 (by omega))
theorem ent_few35 (M : Nat → Mo) (bx : Nat → XR) (hM : Fit M) : Ent M bx (35, noMem (onM fun a => LB (S.few (M a)))) := by
  letI := rowsB M bx
  refine EntryS.of (fun args t v h1 h2 => ?_) (inv_stable M bx)
  obtain ⟨a, rfl, rfl⟩ := onM_eq h1
  cases h2
  refine ⟨ok_val _ _, ?_, fun w m hI => Runs.calls (body := Tryd.f35.body.getD .skip) Tryd.func35 (by kernel_rfl) (by kernel_rfl) ?_ (run_few35 M bx hM a) w hI m⟩ <;>
  · intro x hx
    simp only [List.mem_cons, List.not_mem_nil, or_false] at hx
    rcases hx with rfl; exact ok_xs
set_option maxRecDepth 100000 in
theorem brkA_all (M : Nat → Mo) (bx : Nat → XR) : letI := rowsB M bx
    evK Tryd.prog ext (tab2 BvL5 [(35, noMem (onM fun a => LB (S.few (M a))))]) 80 91 (seqL (brkA)) (⟨argS [.xs [0], .xs [1]], fun _ => none, 0⟩) (grab Tryd.prog Tryd.f8 [0, 1] [] 0) =
    (bif !S.few (M 0) then some (Res.ret (SV.val (Value.bool true))) else 
     (bif !S.few (M 1) then some (Res.ret (SV.val (Value.bool true))) else some (Res.cut Ex.normal (Cut.mk [(0, SV.xs [0]), (1, SV.xs [1])] [])))) := by kernel_rfl
set_option maxRecDepth 100000 in
theorem brkR_pre (M : Nat → Mo) (bx : Nat → XR) : letI := rowsB M bx
    evK Tryd.prog ext (tab2 BvL5 [(110, idxC M), (37, noMem (onMM fun a b => LII (S.brokenO (M a) (M b)))), (38, noMem (onMM fun a b => LII (R.broken (M a) (M b)))), (75, noMem (onFM 76 fun a b => LB (S.sameC (M a) (M b)))), (40, noMem (onMM fun a b => LB (R.sameM (M a) (M b)))), (42, noMem (onSh fun q => LB (R.sealed (q.sh M)))), (44, noMem (onSh fun q => LB (R.frozen (q.sh M))))]) 80 91 (seqL (preOf (brkR))) ((⟨[(0, .xs [0]), (1, .xs [1]), (5, .xs [2]), (6, .xs [3])], []⟩ : Cut).st 0) (grab Tryd.prog Tryd.f8 [0, 1, 5, 6, 11] [] 0) =
    (bif (S.brokenO (M 2) (M 3)).fst != (R.broken (M 0) (M 1)).fst then some (Res.ret (SV.val (Value.bool false))) else 
     (bif (S.brokenO (M 2) (M 3)).snd != (R.broken (M 0) (M 1)).snd then some (Res.ret (SV.val (Value.bool false))) else 
      (bif !S.sameC (M 2) (M 3) == R.sameM (M 0) (M 1) then some (Res.ret (SV.val (Value.bool false))) else some (Res.cut Ex.normal (Cut.mk [(0, SV.xs [0]), (1, SV.xs [1]), (5, SV.xs [2]), (6, SV.xs [3]), (11, SV.val (Value.int IntKind.i64 0))] []))))) := by kernel_rfl
set_option maxRecDepth 100000 in
theorem brkR_round (M : Nat → Mo) (bx : Nat → XR) (i : Nat) : letI := rowsB M bx
    evK Tryd.prog ext (tab2 BvL5 [(110, idxC M), (37, noMem (onMM fun a b => LII (S.brokenO (M a) (M b)))), (38, noMem (onMM fun a b => LII (R.broken (M a) (M b)))), (75, noMem (onFM 76 fun a b => LB (S.sameC (M a) (M b)))), (40, noMem (onMM fun a b => LB (R.sameM (M a) (M b)))), (42, noMem (onSh fun q => LB (R.sealed (q.sh M)))), (44, noMem (onSh fun q => LB (R.frozen (q.sh M))))]) 80 91 (seqL (flat (roundOf (brkR)))) ((⟨[(0, .xs [0]), (1, .xs [1]), (5, .xs [2]), (6, .xs [3]), (11, (.val (.int .i64 (i : Int))))], []⟩ : Cut).st 0) (grab Tryd.prog Tryd.f8 [0, 1, 5, 6, 11] [] 0) =
    (bif decide ((↑i : Int) < (↑(M 2).n : Int)) then 
     (bif decide (0 ≤ (↑i : Int)) && decide ((↑i : Int) < (↑(M 2).n : Int)) then 
      (bif !((M 2).g i).x then 
       (bif decide (0 ≤ (↑i : Int)) && decide ((↑i : Int) < (↑(M 0).n : Int)) then 
        (bif !(!decide (S.confAt ((M 2).g i) ≥ 0)) == R.sealed (SA.sh M (SA.mk ((M 0).g i).cl ((M 0).g i).p ((M 0).g i).x 0 i)) then some (Res.ret (SV.val (Value.bool false))) else 
         (bif decide (0 ≤ (↑i : Int)) && decide ((↑i : Int) < (↑(M 2).n : Int)) then 
          (bif !((M 2).g i).x then 
           (bif !decide (S.confAt ((M 2).g i) ≥ 0) then 
            (bif decide (0 ≤ (↑i : Int)) && decide ((↑i : Int) < (↑(M 0).n : Int)) then 
             (bif !(!decide (S.thawAt ((M 2).g i) ≥ 0)) == R.frozen (SA.sh M (SA.mk ((M 0).g i).cl ((M 0).g i).p ((M 0).g i).x 0 i)) then some (Res.ret (SV.val (Value.bool false))) else some (Res.cut Ex.normal (Cut.mk [(0, SV.xs [0]), (1, SV.xs [1]), (5, SV.xs [2]), (6, SV.xs [3]), (11, SV.val (Value.int IntKind.i64 (IntKind.i64.wrap ((↑i : Int) + 1))))] []))) else none) else 
            (bif decide (0 ≤ (↑i : Int)) && decide ((↑i : Int) < (↑(M 0).n : Int)) then 
             (bif !false == R.frozen (SA.sh M (SA.mk ((M 0).g i).cl ((M 0).g i).p ((M 0).g i).x 0 i)) then some (Res.ret (SV.val (Value.bool false))) else some (Res.cut Ex.normal (Cut.mk [(0, SV.xs [0]), (1, SV.xs [1]), (5, SV.xs [2]), (6, SV.xs [3]), (11, SV.val (Value.int IntKind.i64 (IntKind.i64.wrap ((↑i : Int) + 1))))] []))) else none)) else 
           (bif decide (0 ≤ (↑i : Int)) && decide ((↑i : Int) < (↑(M 0).n : Int)) then 
            (bif !false == R.frozen (SA.sh M (SA.mk ((M 0).g i).cl ((M 0).g i).p ((M 0).g i).x 0 i)) then some (Res.ret (SV.val (Value.bool false))) else some (Res.cut Ex.normal (Cut.mk [(0, SV.xs [0]), (1, SV.xs [1]), (5, SV.xs [2]), (6, SV.xs [3]), (11, SV.val (Value.int IntKind.i64 (IntKind.i64.wrap ((↑i : Int) + 1))))] []))) else none)) else none)) else none) else 
       (bif decide (0 ≤ (↑i : Int)) && decide ((↑i : Int) < (↑(M 0).n : Int)) then 
        (bif !false == R.sealed (SA.sh M (SA.mk ((M 0).g i).cl ((M 0).g i).p ((M 0).g i).x 0 i)) then some (Res.ret (SV.val (Value.bool false))) else 
         (bif decide (0 ≤ (↑i : Int)) && decide ((↑i : Int) < (↑(M 2).n : Int)) then 
          (bif !((M 2).g i).x then 
           (bif !decide (S.confAt ((M 2).g i) ≥ 0) then 
            (bif decide (0 ≤ (↑i : Int)) && decide ((↑i : Int) < (↑(M 0).n : Int)) then 
             (bif !(!decide (S.thawAt ((M 2).g i) ≥ 0)) == R.frozen (SA.sh M (SA.mk ((M 0).g i).cl ((M 0).g i).p ((M 0).g i).x 0 i)) then some (Res.ret (SV.val (Value.bool false))) else some (Res.cut Ex.normal (Cut.mk [(0, SV.xs [0]), (1, SV.xs [1]), (5, SV.xs [2]), (6, SV.xs [3]), (11, SV.val (Value.int IntKind.i64 (IntKind.i64.wrap ((↑i : Int) + 1))))] []))) else none) else 
            (bif decide (0 ≤ (↑i : Int)) && decide ((↑i : Int) < (↑(M 0).n : Int)) then 
             (bif !false == R.frozen (SA.sh M (SA.mk ((M 0).g i).cl ((M 0).g i).p ((M 0).g i).x 0 i)) then some (Res.ret (SV.val (Value.bool false))) else some (Res.cut Ex.normal (Cut.mk [(0, SV.xs [0]), (1, SV.xs [1]), (5, SV.xs [2]), (6, SV.xs [3]), (11, SV.val (Value.int IntKind.i64 (IntKind.i64.wrap ((↑i : Int) + 1))))] []))) else none)) else 
           (bif decide (0 ≤ (↑i : Int)) && decide ((↑i : Int) < (↑(M 0).n : Int)) then 
            (bif !false == R.frozen (SA.sh M (SA.mk ((M 0).g i).cl ((M 0).g i).p ((M 0).g i).x 0 i)) then some (Res.ret (SV.val (Value.bool false))) else some (Res.cut Ex.normal (Cut.mk [(0, SV.xs [0]), (1, SV.xs [1]), (5, SV.xs [2]), (6, SV.xs [3]), (11, SV.val (Value.int IntKind.i64 (IntKind.i64.wrap ((↑i : Int) + 1))))] []))) else none)) else none)) else none)) else none) else some (Res.cut (Ex.exit 0) (Cut.mk [(0, SV.xs [0]), (1, SV.xs [1]), (5, SV.xs [2]), (6, SV.xs [3]), (11, SV.val (Value.int IntKind.i64 (↑i : Int)))] []))) := by kernel_rfl
set_option maxRecDepth 100000 in
theorem brkR_post (M : Nat → Mo) (bx : Nat → XR) (i : Nat) : letI := rowsB M bx
    evK Tryd.prog ext (tab2 BvL5 [(110, idxC M), (37, noMem (onMM fun a b => LII (S.brokenO (M a) (M b)))), (38, noMem (onMM fun a b => LII (R.broken (M a) (M b)))), (75, noMem (onFM 76 fun a b => LB (S.sameC (M a) (M b)))), (40, noMem (onMM fun a b => LB (R.sameM (M a) (M b)))), (42, noMem (onSh fun q => LB (R.sealed (q.sh M)))), (44, noMem (onSh fun q => LB (R.frozen (q.sh M))))]) 80 91 (seqL (postOf (brkR))) ((⟨[(0, .xs [0]), (1, .xs [1]), (5, .xs [2]), (6, .xs [3]), (11, (.val (.int .i64 (i : Int))))], []⟩ : Cut).st 0) (grab Tryd.prog Tryd.f8 [0, 1, 5, 6, 11] [] 0) =
    (bif R.sameM (M 2) (M 0) then some (Res.ret (SV.val (Value.bool (R.sameM (M 3) (M 1))))) else some (Res.ret (SV.val (Value.bool false)))) := by kernel_rfl
namespace S
def sealedC (s : Sh) : Bool := !s.x && !decide (confAt s ≥ 0)
def frozenC (s : Sh) : Bool := sealedC s && !decide (thawAt s ≥ 0)
end S
theorem seek_void {α : Type} (n i : Nat) : seek (fun _ => (none : Option α)) n i = none := (S.seek_none n i).2 fun _ _ _ => rfl
set_option maxRecDepth 100000 in
theorem run_brkR (M : Nat → Mo) (bx : Nat → XR) (hM : Fit M) (hn : (M 2).n = (M 0).n) (h1 : S.brokenO (M 2) (M 3) = R.broken (M 0) (M 1)) (h2 : S.sameC (M 2) (M 3) = R.sameM (M 0) (M 1))
    (h3 : ∀ i, i < (M 2).n → S.sealedC ((M 2).g i) = R.sealed ((M 0).g i)) (h4 : ∀ i, i < (M 2).n → S.frozenC ((M 2).g i) = R.frozen ((M 0).g i)) (h5 : R.sameM (M 2) (M 0) = true) (h6 : R.sameM (M 3) (M 1) = true) : letI := rowsB M bx
    Runs Tryd.prog (Inv M bx) 91 Tryd.f8 (.val (.bool true)) [] brkR ((⟨[(0, .xs [0]), (1, .xs [1]), (5, .xs [2]), (6, .xs [3])], []⟩ : Cut).st 0) := by
  letI := rowsB M bx
  have C := ctxB M bx Bvents5 (entsS_cons (ent_idxC M bx hM) (entsS_cons (ent_broken37 M bx hM) (entsS_cons (ent_rbroken38 M bx hM) (entsS_cons (ent_eqS75 M bx hM) (entsS_cons (ent_same40 M bx hM) (entsS_cons (ent_seal42 M bx hM) (entsS_cons (ent_froz44 M bx hM) entsS_nil)))))))
  have := Runs.seekFn (fs := []) (fn := Tryd.f8) (N := 91) (l := brkR) (st := (⟨[(0, .xs [0]), (1, .xs [1]), (5, .xs [2]), (6, .xs [3])], []⟩ : Cut).st 0) C (n := (M 2).n) (p := fun _ => (none : Option Bool)) (f := fun x : Bool => SV.val (.bool x)) (z := true) (hd := fun i => (⟨[(0, .xs [0]), (1, .xs [1]), (5, .xs [2]), (6, .xs [3]), (11, .val (.int .i64 (i : Int)))], []⟩ : Cut)) (c' := (fun i : Nat => (⟨[(0, .xs [0]), (1, .xs [1]), (5, .xs [2]), (6, .xs [3]), (11, .val (.int .i64 (i : Int)))], []⟩ : Cut)) (M 2).n) (by kernel_rfl)
    ((brkR_pre M bx).trans (by rw [h1, h2]; simp only [bne_self_eq_false, beq_self_eq_true, Bool.not_true, cond_false]; rfl)) (fun i hi => ?_) ?_ (fun _ => Runs.ret C ((brkR_post M bx (M 2).n).trans (by rw [h5, h6]; rfl)))
  · rw [seek_void] at this
    exact this
  · have hi0 : i < (M 0).n := by omega
    have e3 : R.sealed (SA.sh M (SA.mk ((M 0).g i).cl ((M 0).g i).p ((M 0).g i).x 0 i)) = S.sealedC ((M 2).g i) := (h3 i hi).symm
    have e4 : R.frozen (SA.sh M (SA.mk ((M 0).g i).cl ((M 0).g i).p ((M 0).g i).x 0 i)) = S.frozenC ((M 2).g i) := (h4 i hi).symm
    refine (brkR_round M bx i).trans ?_
    simp only [dlt hi, dlt hi0, dge, wr hi (hM 2).1, cond_true, Bool.and_self, e3, e4, S.frozenC, S.sealedC]
    cases ((M 2).g i).x <;> cases decide (S.confAt ((M 2).g i) ≥ 0) <;> cases decide (S.thawAt ((M 2).g i) ≥ 0) <;> rfl
  · refine (brkR_round M bx (M 2).n).trans ?_
    simp only [dnl, cond_false]
    rfl
end Go.Proofs.YtaojjpdlfnphiaaDoor.PDescKinds
end
section
/- What the rows' arguments read as: descriptors as plain data; what the rows' tables give. -/
set_option linter.unusedSimpArgs false
set_option linter.unusedVariables false
set_option linter.unusedSectionVars false
namespace Go.Proofs.YtaojjpdlfnphiaaDoor.PDescKinds
open Go.ChangeShapes Go.WideShapes Go.ChangeAt Go.RowKit Go.Lib
section
variable {H : Type} {enc : TypeId × Value → H} {P : Program} {w : World} {base : Nat} {spare : Nat → Bool} {held : Bool} {fuel : Nat} {t : TypeId} {cs : List Value} {x : DataW H × List MemPlace}
theorem read_int {k : IntKind} (ht : P.underlying t = some (.int k)) (h : DataW.trod enc P w base spare held fuel t cs = some x) : ∃ n, cs = [.int k n] := by
  obtain ⟨n, h, _⟩ := DataW.trod_int ht h
  exact ⟨n, h⟩
theorem read_bool (ht : P.underlying t = some .bool) (h : DataW.trod enc P w base spare held fuel t cs = some x) : ∃ b, cs = [.bool b] := by
  cases fuel with
  | zero => simp [DataW.trod] at h
  | succ n =>
    rw [DataW.trod.eq_def] at h
    simp only [ht] at h
    split at h <;> first | (simp_all; done) | exact ⟨_, rfl⟩
theorem read_f64 (ht : P.underlying t = some (.float .f64)) (h : DataW.trod enc P w base spare held fuel t cs = some x) : ∃ b, cs = [.float .f64 b] ∧ b < 18446744073709551616 := by
  cases fuel with
  | zero => simp [DataW.trod] at h
  | succ n =>
    rw [DataW.trod.eq_def] at h
    simp only [ht] at h
    split at h <;> first | (simp at *; done) | skip
    rename_i k1 k2 b' e1
    simp only [Option.some.injEq, TypeDesc.float.injEq] at e1
    subst e1
    split at h
    · rename_i hc
      obtain ⟨rfl, hw⟩ := hc
      exact ⟨b', rfl, of_decide_eq_true hw⟩
    · cases h
theorem read_string (ht : P.underlying t = some .string) (h : DataW.trod enc P w base spare held fuel t cs = some x) : ∃ s, cs = [.string s] ∧ s.size ≤ maxLen := by
  cases fuel with
  | zero => simp [DataW.trod] at h
  | succ n =>
    rw [DataW.trod.eq_def] at h
    simp only [ht] at h
    split at h <;> first | (simp_all; done) | skip
end
def V.list (v : V) : List Value := [.int .i64 v.k, .bool v.b, .float .f64 v.n, .string v.s, .int .i64 v.id]
def D.list (d : D) : List Value := d.v.list ++ (d.g.list ++ (d.t.list ++ [.int .i64 d.w, .int .i64 d.e, .int .i64 d.c]))
section
variable {H : Type} {enc : TypeId × Value → H} {w : World} {base : Nat} {spare : Nat → Bool} {held : Bool} {fuel : Nat} {cs : List Value} {x : DataW H × List MemPlace}
theorem cells3 : Tryd.prog.cellsOf 3 = 1 := by kernel_rfl
theorem cells4 : Tryd.prog.cellsOf 4 = 1 := by kernel_rfl
theorem cells9 : Tryd.prog.cellsOf 9 = 1 := by kernel_rfl
theorem cells22 : Tryd.prog.cellsOf 22 = 1 := by kernel_rfl
theorem cells24 : Tryd.prog.cellsOf 24 = 5 := by kernel_rfl
theorem cells25 : Tryd.prog.cellsOf 25 = 1 := by kernel_rfl
theorem cells27 : Tryd.prog.cellsOf 27 = 18 := by kernel_rfl
set_option maxRecDepth 100000 in
theorem read_V (h : DataW.trod enc Tryd.prog w base spare held fuel 24 cs = some x) : ∃ v : V, cs = v.list ∧ v.wf := by
  obtain ⟨xs, n, _, _, hl, hn, hf⟩ := DataW.trod_struct Tryd.underlying24 h
  rw [cells24] at hl
  match cs, hl, xs, hn with
  | [c0, c1, c2, c3, c4], _, [y0, y1, y2, y3, y4], _ =>
    have h0 := hf 0 ⟨"Kind", 3, 0, false, "", "", 0⟩ rfl
    have h1 := hf 1 ⟨"Bool", 4, 1, false, "", "", 8⟩ rfl
    have h2 := hf 2 ⟨"Num", 22, 2, false, "", "", 16⟩ rfl
    have h3 := hf 3 ⟨"Str", 9, 3, false, "", "", 24⟩ rfl
    have h4 := hf 4 ⟨"Id", 3, 4, false, "", "", 40⟩ rfl
    simp only [cells3, cells4, cells9, cells22, List.drop_succ_cons, List.drop_zero, List.take_succ_cons, List.take_zero] at h0 h1 h2 h3 h4
    obtain ⟨v0, e0⟩ := read_int Tryd.underlying3 h0
    obtain ⟨v1, e1⟩ := read_bool Tryd.underlying4 h1
    obtain ⟨v2, e2, w2⟩ := read_f64 Tryd.underlying22 h2
    obtain ⟨v3, e3, _⟩ := read_string Tryd.underlying9 h3
    obtain ⟨v4, e4⟩ := read_int Tryd.underlying3 h4
    cases e0; cases e1; cases e2; cases e3; cases e4
    exact ⟨⟨v0, v1, v2, v3, v4⟩, rfl, w2⟩
set_option maxRecDepth 100000 in
theorem read_D (h : DataW.trod enc Tryd.prog w base spare held fuel 27 cs = some x) : ∃ d : D, cs = d.list ∧ d.wf := by
  obtain ⟨xs, n, _, _, hl, hn, hf⟩ := DataW.trod_struct Tryd.underlying27 h
  rw [cells27] at hl
  match cs, hl, xs, hn with
  | [c0, c1, c2, c3, c4, c5, c6, c7, c8, c9, c10, c11, c12, c13, c14, c15, c16, c17], _, [y0, y1, y2, y3, y4, y5], _ =>
    have h0 := hf 0 ⟨"Value", 24, 0, false, "", "", 0⟩ rfl
    have h1 := hf 1 ⟨"Get", 24, 5, false, "", "", 48⟩ rfl
    have h2 := hf 2 ⟨"Set", 24, 10, false, "", "", 96⟩ rfl
    have h3 := hf 3 ⟨"Writable", 25, 15, false, "", "", 144⟩ rfl
    have h4 := hf 4 ⟨"Enumerable", 25, 16, false, "", "", 152⟩ rfl
    have h5 := hf 5 ⟨"Configurable", 25, 17, false, "", "", 160⟩ rfl
    simp only [cells24, cells25, List.drop_succ_cons, List.drop_zero, List.take_succ_cons, List.take_zero] at h0 h1 h2 h3 h4 h5
    obtain ⟨v0, e0, w0⟩ := read_V h0
    obtain ⟨v1, e1, w1⟩ := read_V h1
    obtain ⟨v2, e2, w2⟩ := read_V h2
    obtain ⟨v3, e3⟩ := read_int Tryd.underlying25 h3
    obtain ⟨v4, e4⟩ := read_int Tryd.underlying25 h4
    obtain ⟨v5, e5⟩ := read_int Tryd.underlying25 h5
    unfold V.list at e0 e1 e2
    cases e0; cases e1; cases e2; cases e3; cases e4; cases e5
    exact ⟨⟨v0, v1, v2, v3, v4, v5⟩, rfl, w0, w1, w2⟩
end
theorem own : ownKnob Tryd.prog.godebug = none := by kernel_rfl
theorem laidOut : laidOutB Tryd.prog = true := by kernel_rfl
theorem accept_eq : Rows.laid_unicode_utf8_acceptRanges = Lib.acceptData := by kernel_rfl
theorem first_eq : Rows.laid_unicode_utf8_first = Lib.firstData := by kernel_rfl
theorem u8extra : U8Extra Tryd.prog Tryd.lays260_ren := ⟨by kernel_rfl, by kernel_rfl, by kernel_rfl, by kernel_rfl, by kernel_rfl, by kernel_rfl, by kernel_rfl⟩
/-- What the rows' list gives. -/
theorem tabs_of {W : World} (h : laidMetH Tryd.prog [("unicode/utf8.acceptRanges", Rows.laid_unicode_utf8_acceptRanges), ("unicode/utf8.first", Rows.laid_unicode_utf8_first)] W) : Tabs W := by
  rw [accept_eq, first_eq] at h
  exact utf8Tabs_of_readsT (U8Types.of260 Tryd.lays260) u8extra (Lib.laidMet.reads h (.tail _ (.head _))) (Lib.laidMet.reads h (.head _))
/-- A world in which both tables hold what their initialisers lay. -/
noncomputable def laidWorld (os : Os) : World :=
  let w0 := World.holding Tryd.prog os ⟨#[], #[], []⟩
  let put (h : Array Obj) (g : Nat) (cs : Array Value) : Array Obj := h.modify g fun
    | .cells _ t frozen => .cells cs t frozen
    | o => o
  let h1 := put w0.heap 1 (Lib.firstTab.map fun z => Value.int .u8 z).toArray
  let h2 := put h1 2 ((List.range 16).flatMap fun i => [Value.int .u8 (Lib.accLo i), Value.int .u8 (Lib.accHi i)]).toArray
  { w0 with heap := h2 }
theorem laid_met (os : Os) (args : Array Value) : laidMet Tryd.prog [("unicode/utf8.acceptRanges", Rows.laid_unicode_utf8_acceptRanges), ("unicode/utf8.first", Rows.laid_unicode_utf8_first)] ((laidWorld os).forCall (fun _ _ => 0) ⟨#[], args, []⟩).memory := by
  rw [accept_eq, first_eq]
  exact (LaidIn.of_run (l := [("unicode/utf8.acceptRanges", Lib.acceptData), ("unicode/utf8.first", Lib.firstData)]) [2, 1] 8 (by kernel_rfl) (by kernel_rfl) (by kernel_rfl) (by kernel_rfl)).met
end Go.Proofs.YtaojjpdlfnphiaaDoor.PDescKinds
end
section
/- cameoref10.Copy: shapes in memory of their own. -/
set_option linter.unusedSimpArgs false
set_option linter.unusedVariables false
set_option linter.unusedSectionVars false
namespace Go.Ev
open Go.RowKit
section
variable [XEnv]
variable {P : Program} {X : ExtFn} {call : CallFn} {I : World → Prop} {N : Nat} {ops : Array Oper} {w0 : World} {Q : Exit → Act → World → Prop}
/-- Some operations of a region, and what is behind them. -/
theorem ops_sound_tail (hX : ExtSound P X) (hI : I w0) (hs : Stable I) (hXO : ∀ w, I w → XOk w) (hcall : CallSound P I call) (tail : List Oper) : ∀ (l : List Oper) (st st' : St) (m : Nat → Nat) (a : Act) (w : World), evOps P X call ops N l st = some st' → SR w0 N m st a w →
    (∀ m' a' w', Later st m st' m' → SR w0 N m' st' a' w' → wpList P ops Q tail a' w') → wpList P ops Q (l ++ tail) a w
  | [], st, st', m, a, w, h, hr, k => by
    simp only [evOps, Option.some.injEq] at h
    subst h
    exact k m a w (Later.refl _ _) hr
  | o :: r, st, st', m, a, w, h, hr, k => by
    unfold evOps at h
    cases hdg : dstOk N o.dst && knownG ops st.tmps o with
    | false => rw [hdg] at h; cases h
    | true =>
      rw [hdg] at h
      rw [Bool.and_eq_true] at hdg
      obtain ⟨hd, hgk⟩ := hdg
      simp only [cond_true] at h
      simp only [List.cons_append]
      unfold wpList
      rw [want_eq hr.ar.tm o hgk]
      cases hw : wantS ops st.tmps o with
      | true =>
        rw [hw] at h
        simp only [cond_true] at h
        simp only [if_true]
        split at h
        · rename_i v e he
          refine .inl (op_sound hX hI hs hXO hcall he (fun _ => hr.fresh _ (Nat.le_refl _)) (fun _ => hr.fresh) hr.ar.look_ok hr.ar.eval hr.mr ?_)
          intro m' w' hag hmr hv hg hall
          have hf := hall hr.fresh
          exact ops_sound_tail hX hI hs hXO hcall tail r _ st' m' _ w' h ⟨hmr, hr.ar.put hag hg hd hv, hf.1⟩ (fun m2 a2 w2 hl hr2 => k m2 a2 w2 (Later.trans ⟨hag, hg, hf.2⟩ hl) hr2)
        · cases h
      | false =>
        rw [hw] at h
        simp only [cond_false] at h
        simp only [Bool.false_eq_true, if_false]
        exact ops_sound_tail hX hI hs hXO hcall tail r _ st' m _ w h ⟨hr.mr, (den_val m undef) ▸ hr.ar.put (v := .val undef) (Agree.refl _ _) (Grows.refl _) hd (ok_val _ _), hr.fresh⟩ (fun m2 a2 w2 hl hr2 => k m2 a2 w2 ⟨hl.agree, hl.grows, hl.le⟩ hr2)
theorem pickT_mem (t : Nat) : ∀ ts : List (Nat × SV), pickT ts t = SV.unk ∨ (t, pickT ts t) ∈ ts
  | [] => .inl rfl
  | p :: r => by
    simp only [pickT]
    cases h : Nat.beq t p.1 with
    | true =>
      have := Nat.eq_of_beq_eq_true h
      subst this
      exact .inr List.mem_cons_self
    | false =>
      rcases pickT_mem t r with h | h
      · exact .inl h
      · exact .inr (List.mem_cons_of_mem _ h)
/-- All that is, is as if it had come in. -/
theorem epoch {a : Act} {w : World} (hs : a.tmps.size = N) (hd : a.defers = []) (ts : List (Nat × SV)) (m : Nat → Nat) (h : ∀ p ∈ ts, a.tmps.getD p.1 undef = p.2.den m) (hok : ∀ p ∈ ts, p.2.ok fun _ => none) :
    SR w N m ((Cut.mk ts []).st 0) a w := by
  refine ⟨MR.start w m, ⟨hs, hd, fun t ht => ?_, fun t => ?_⟩, fun _ _ => rfl⟩
  · have ht : (pickT ts t).known = true := ht
    show a.tmps.getD t undef = (pickT ts t).den m
    rcases pickT_mem t ts with h1 | h1
    · rw [h1] at ht; cases ht
    · exact h _ h1
  · show (pickT ts t).ok _
    rcases pickT_mem t ts with h1 | h1
    · rw [h1]; exact ok_unk
    · exact hok _ h1
/-- The same, with own blocks. -/
theorem epochB {a : Act} {w w' : World} {next : Nat} (hb : Below w.heap.size w w') (hs : a.tmps.size = N) (hd : a.defers = []) (ts : List (Nat × SV)) (bs : List (Nat × Blk)) (m : Nat → Nat) (h : ∀ p ∈ ts, a.tmps.getD p.1 undef = p.2.den m)
    (hok : ∀ p ∈ ts, p.2.ok (pickM bs)) (hblk : ∀ b k, pickM bs b = some k → w.heap.size ≤ m b ∧ w'.heap[m b]? = some (.cells (k.cells.map (SV.den m)).toArray k.ty (0, 0)) ∧ ∀ c ∈ k.cells, c.ok (pickM bs))
    (hinj : ∀ b b' k k', pickM bs b = some k → pickM bs b' = some k' → m b = m b' → b = b') (hfr : ∀ b, next ≤ b → pickM bs b = none) :
    SR w N m ((Cut.mk ts bs).st next) a w' := by
  refine ⟨⟨hb, hblk, hinj⟩, ⟨hs, hd, fun t ht => ?_, fun t => ?_⟩, hfr⟩
  · have ht : (pickT ts t).known = true := ht
    show a.tmps.getD t undef = (pickT ts t).den m
    rcases pickT_mem t ts with h1 | h1
    · rw [h1] at ht; cases ht
    · exact h _ h1
  · show (pickT ts t).ok _
    rcases pickT_mem t ts with h1 | h1
    · rw [h1]; exact ok_unk
    · exact hok _ h1
theorem pickM_two {x y b : Nat} {k k1 k2 : Blk} (h : pickM [(x, k1), (y, k2)] b = some k) : (b = x ∧ k = k1) ∨ (b = y ∧ k = k2) := by
  simp only [pickM] at h
  cases h1 : Nat.beq b x with
  | true =>
    rw [h1] at h
    simp only [cond_true, Option.some.injEq] at h
    exact .inl ⟨Nat.eq_of_beq_eq_true h1, h.symm⟩
  | false =>
    rw [h1] at h
    simp only [cond_false] at h
    cases h2 : Nat.beq b y with
    | true =>
      rw [h2] at h
      simp only [cond_true, Option.some.injEq] at h
      exact .inr ⟨Nat.eq_of_beq_eq_true h2, h.symm⟩
    | false => rw [h2] at h; cases h
end
end Go.Ev
namespace Go.Proofs.YtaojjpdlfnphiaaDoor.PDescKinds
open Go.RowKit Go.Ev
/-! ### Moments as the world has them -/
def Pr.list (q : Pr) : List Value := .string q.k.s :: .int .i64 q.k.n :: q.d.list
theorem Pr.cells_list (q : Pr) : q.cells = q.list.map SV.val := rfl
/-- A shape's cells, its properties where u says. -/
def shVals (s : Sh) (u : Value) : List Value := [.int .i64 s.cl, .int .i64 s.p.k, .bool s.p.b, .float .f64 s.p.n, .string s.p.s, .int .i64 s.p.id, .bool s.x, u]
def Sh.row (s : Sh) : Value := .slice s.A s.n s.c
structure RawMo (w : World) (mo : Mo) : Prop where
  nils : ∀ j, (mo.g j).A = none → (mo.g j).n = 0 ∧ (mo.g j).c = 0
  top : ∀ j, j < mo.n → ∃ a, mo.A = some a ∧ a.block < w.heap.size ∧ ∀ t v, (shVals (mo.g j) (mo.g j).row)[t]? = some v → w.cell? (a.add (j * 8 + t)) = some v
  row : ∀ j i, i < (mo.g j).n → ∃ a, (mo.g j).A = some a ∧ a.block < w.heap.size ∧ ∀ t v, ((mo.g j).g i).list[t]? = some v → w.cell? (a.add (i * 20 + t)) = some v
theorem add_block (a : Addr) (k : Nat) : (a.add k).block = a.block := by unfold Addr.add; split <;> rfl
theorem RawMo.below {w w' : World} {mo : Mo} (h : RawMo w mo) (hb : Below w.heap.size w w') : RawMo w' mo := by
  refine ⟨h.nils, fun j hj => ?_, fun j i hi => ?_⟩
  · obtain ⟨a, h1, h2, h3⟩ := h.top j hj
    exact ⟨a, h1, Nat.lt_of_lt_of_le h2 hb.size, fun t v ht => (hb.cell (by rw [add_block]; exact h2)).trans (h3 t v ht)⟩
  · obtain ⟨a, h1, h2, h3⟩ := h.row j i hi
    exact ⟨a, h1, Nat.lt_of_lt_of_le h2 hb.size, fun t v ht => (hb.cell (by rw [add_block]; exact h2)).trans (h3 t v ht)⟩
/-- No box. -/
def noBox : Nat → XR := fun _ => ⟨none, 1, 0, 0, fun _ => []⟩
theorem xok_raw {M : Nat → Mo} {w : World} (h : ∀ k, RawMo w (M k)) : @XOk (rowsB M noBox) w := by
  intro r
  match r with
  | [k] =>
    intro j hj
    obtain ⟨a, h1, h2, h3⟩ := (h k).top j hj
    refine ⟨rfl, fun s hs mem => @Simple.ok (rowsB M noBox) _ (simple_sh _ _ _ _ _ s hs) mem, a, h1, h2, fun t s ht m => ?_⟩
    have ht : (shCells ((M k).g j).cl ((M k).g j).p ((M k).g j).x [k, j])[t]? = some s := ht
    have e : (shCells ((M k).g j).cl ((M k).g j).p ((M k).g j).x [k, j]).map (@SV.den (rowsB M noBox) m) = shVals ((M k).g j) ((M k).g j).row := by
      simp only [shCells, List.map_cons, List.map_nil, @den_val (rowsB M noBox), @den_xs (rowsB M noBox)]
      rfl
    refine h3 t _ ?_
    rw [← e, List.getElem?_map, ht]
    rfl
  | [k, j] =>
    intro i hi
    obtain ⟨a, h1, h2, h3⟩ := (h k).row j i hi
    refine ⟨rfl, fun s hs mem => @Simple.ok (rowsB M noBox) _ (simple_pr _ s hs) mem, a, h1, h2, fun t s ht m => ?_⟩
    have ht : (((M k).g j).g i).cells[t]? = some s := ht
    rw [Pr.cells_list, List.getElem?_map, Option.map_eq_some_iff] at ht
    obtain ⟨v, hv, rfl⟩ := ht
    rw [@den_val (rowsB M noBox)]
    exact h3 t v hv
  | [] => intro j hj; exact absurd hj (Nat.not_lt_zero _)
  | _ :: _ :: _ :: _ => intro j hj; exact absurd hj (Nat.not_lt_zero _)
def inB : Code → Code
  | .block _ c => c
  | c => c
def opsOf : Code → Array Oper
  | .region _ ops _ => ops
  | _ => #[]
namespace Copy
noncomputable def rd : List Code := flat (roundOf (bodyOf Tryd.f36))
noncomputable def inn : List Code := flat (inB (rd.getD 2 .skip))
noncomputable def ops6 : Array Oper := opsOf (inn.getD 1 .skip)
noncomputable def ops7 : Array Oper := opsOf (inn.getD 2 .skip)
noncomputable def o19 : Oper := ops6.toList.getD 3 default
noncomputable def o24 : Oper := ops7.toList.getD 3 default
noncomputable def o25 : Oper := ops7.toList.getD 4 default
abbrev CL : GFn := tab2 BvL5 []
noncomputable abbrev cw : CallFn := callWith Tryd.prog CL (ev Tryd.prog ext CL 0)
end Copy
namespace Copy
/-- A shape's cells, its properties where u says. -/
def shCells7 (s : Sh) (u : SV) : List SV := [.val (.int .i64 s.cl), .val (.int .i64 s.p.k), .val (.bool s.p.b), .val (.float .f64 s.p.n), .val (.string s.p.s), .val (.int .i64 s.p.id), .val (.bool s.x), u]
abbrev hd (a i : Nat) (v : Value) : Cut := ⟨[(0, .xs [a]), (3, .val v), (4, .val (.int .i64 (i : Int)))], []⟩
abbrev boxed (a i : Nat) (v : Value) (l : List SV) : Cut := ⟨[(0, .xs [a]), (3, .val v), (4, .val (.int .i64 (i : Int))), (5, .ptr 0 0)], [(0, ⟨60, l⟩)]⟩
set_option maxRecDepth 100000 in
theorem cp0 (M : Nat → Mo) (bx : Nat → XR) (a : Nat) : letI := rowsB M bx
    evK Tryd.prog ext Copy.CL 80 26 (seqL (preOf (bodyOf Tryd.f36))) ⟨argS [.xs [a]], fun _ => none, 0⟩ (grab Tryd.prog Tryd.f36 [0, 3, 4] [] 0) =
    some (.cut .normal (hd a 0 (.slice none 0 0))) := by kernel_rfl
set_option maxRecDepth 100000 in
theorem cp1 (M : Nat → Mo) (bx : Nat → XR) (a i : Nat) (v : Value) : letI := rowsB M bx
    evK Tryd.prog ext Copy.CL 80 26 (seqL (rd.take 2)) ((hd a i v).st 0) (grab Tryd.prog Tryd.f36 [0, 3, 4] [] 0) =
    bif decide ((i : Int) < ((M a).n : Int)) then some (.cut .normal (hd a i v)) else some (.cut (.exit 0) (hd a i v)) := by kernel_rfl
set_option maxRecDepth 100000 in
theorem cp2 (M : Nat → Mo) (bx : Nat → XR) (a i : Nat) (v : Value) : letI := rowsB M bx
    evK Tryd.prog ext Copy.CL 80 26 (seqL (inn.take 1)) ((hd a i v).st 0) (grab Tryd.prog Tryd.f36 [0, 3, 4, 5] [0] 1) =
    bif decide (0 ≤ (i : Int)) && decide ((i : Int) < ((M a).n : Int)) then some (.cut .normal (boxed a i v (shCells ((M a).g i).cl ((M a).g i).p ((M a).g i).x [a, i]))) else none := by kernel_rfl
set_option maxRecDepth 100000 in
theorem cp3 (M : Nat → Mo) (bx : Nat → XR) (a i : Nat) (v : Value) (s : Sh) : letI := rowsB M bx
    (evOps Tryd.prog ext cw ops6 26 (ops6.toList.take 3) ((boxed a i v (shCells s.cl s.p s.x [a, i])).st 1)).bind (cutS [0, 3, 4, 5, 16, 18] [0, 1] 2) =
    some ⟨[(0, .xs [a]), (3, .val v), (4, .val (.int .i64 (i : Int))), (5, .ptr 0 0), (16, .slc 1 0 0 0), (18, .xs [a, i])], [(0, ⟨60, shCells s.cl s.p s.x [a, i]⟩), (1, ⟨66, []⟩)]⟩ := by kernel_rfl
set_option maxRecDepth 100000 in
theorem cp4 (M : Nat → Mo) (bx : Nat → XR) (a i : Nat) (v : Value) (s : Sh) (L : List SV) (n c : Nat) : letI := rowsB M bx
    (evOps Tryd.prog ext cw ops6 26 (ops6.toList.drop 4) ((⟨[(0, .xs [a]), (3, .val v), (4, .val (.int .i64 (i : Int))), (5, .ptr 0 0), (19, .slc 1 0 n c)], [(0, ⟨60, shCells s.cl s.p s.x [a, i]⟩), (1, ⟨66, L⟩)]⟩ : Cut).st 2)).map (fun st => (st.tmps 0, st.tmps 3, st.tmps 4, st.tmps 5, st.mem 0, st.mem 1)) =
    some (.xs [a], .val v, .val (.int .i64 (i : Int)), .ptr 0 0, some ⟨60, shCells7 s (.slc 1 0 n c)⟩, some ⟨66, L⟩) := by kernel_rfl
set_option maxRecDepth 100000 in
theorem cp5 (M : Nat → Mo) (bx : Nat → XR) (a i : Nat) (v : Value) (s : Sh) (L : List SV) (n c : Nat) : letI := rowsB M bx
    (evOps Tryd.prog ext cw ops7 26 (ops7.toList.take 3) ((⟨[(0, .xs [a]), (3, .val v), (4, .val (.int .i64 (i : Int))), (5, .ptr 0 0)], [(0, ⟨60, shCells7 s (.slc 1 0 n c)⟩), (1, ⟨66, L⟩)]⟩ : Cut).st 2)).map (fun st => (st.tmps 0, st.tmps 4, st.tmps 21, st.tmps 23, st.mem 1, st.mem 2)) =
    some (.xs [a], .val (.int .i64 (i : Int)), .val v, .slc 2 0 1 1, some ⟨66, L⟩, some ⟨60, shCells7 s (.slc 1 0 n c)⟩) := by kernel_rfl
set_option maxRecDepth 100000 in
theorem cp6 (M : Nat → Mo) (bx : Nat → XR) (a i : Nat) (v : Value) : letI := rowsB M bx
    evK Tryd.prog ext Copy.CL 80 26 (seqL (rd.drop 3)) ((hd a i v).st 0) (grab Tryd.prog Tryd.f36 [0, 3, 4] [] 0) =
    some (.cut .normal ⟨[(0, .xs [a]), (3, .val v), (4, .val (.int .i64 (IntKind.i64.wrap ((i : Int) + 1))))], []⟩) := by kernel_rfl
set_option maxRecDepth 100000 in
theorem cp7 (M : Nat → Mo) (bx : Nat → XR) (a i : Nat) (v : Value) : letI := rowsB M bx
    evK Tryd.prog ext Copy.CL 80 26 (seqL (postOf (bodyOf Tryd.f36))) ((hd a i v).st 0) (grab Tryd.prog Tryd.f36 [0, 3, 4] [] 0) =
    some (.ret (.val v)) := by kernel_rfl
theorem rd_eq : rd = rd.take 2 ++ (Code.block 1 (inB (rd.getD 2 .skip)) :: rd.drop 3) := by kernel_rfl
theorem inn_eq : inn = inn.take 1 ++ [.region 6 ops6 false, .region 7 ops7 false] := by kernel_rfl
theorem ops6_eq : ops6.toList = ops6.toList.take 3 ++ (o19 :: ops6.toList.drop 4) := by kernel_rfl
theorem ops7_eq : ops7.toList = ops7.toList.take 3 ++ [o24, o25] := by kernel_rfl
theorem o19_op : o19.op = .call { callee := .builtin .append, args := #[.tmp 16, .tmp 18], argTypes := #[58, 58] } := by kernel_rfl
theorem o19_guard : o19.guard = none := by kernel_rfl
theorem o19_dst : o19.dst = some 19 := by kernel_rfl
theorem o24_op : o24.op = .call { callee := .builtin .append, args := #[.tmp 21, .tmp 23], argTypes := #[51, 51] } := by kernel_rfl
theorem o24_guard : o24.guard = none := by kernel_rfl
theorem o24_dst : o24.dst = some 24 := by kernel_rfl
theorem o25_op : o25.op = .assign (.tmp 24) := by kernel_rfl
theorem o25_guard : o25.guard = none := by kernel_rfl
theorem o25_dst : o25.dst = some 3 := by kernel_rfl
theorem info60 : ∃ (i : TypeInfo) (z : Value), Tryd.prog.info? 60 = some i ∧ i.zero = some z ∧ i.size = 8 ∧ i.bytes = 88 ∧ z.cells.size = 8 := by
  have h : (Tryd.prog.info? 60).bind (fun i => i.zero.map fun z => (i.size, i.bytes, z.cells.size)) = some (8, 88, 8) := by kernel_rfl
  obtain ⟨i, hi, h⟩ := Option.bind_eq_some_iff.1 h
  obtain ⟨z, hz, h⟩ := Option.map_eq_some_iff.1 h
  simp only [Prod.mk.injEq] at h
  exact ⟨i, z, hi, hz, h.1, h.2.1, h.2.2⟩
theorem info66 : ∃ (i : TypeInfo) (z : Value), Tryd.prog.info? 66 = some i ∧ i.zero = some z ∧ i.size = 20 ∧ i.bytes = 192 ∧ z.cells.size = 20 := by
  have h : (Tryd.prog.info? 66).bind (fun i => i.zero.map fun z => (i.size, i.bytes, z.cells.size)) = some (20, 192, 20) := by kernel_rfl
  obtain ⟨i, hi, h⟩ := Option.bind_eq_some_iff.1 h
  obtain ⟨z, hz, h⟩ := Option.map_eq_some_iff.1 h
  simp only [Prod.mk.injEq] at h
  exact ⟨i, z, hi, hz, h.1, h.2.1, h.2.2⟩
end Copy
end Go.Proofs.YtaojjpdlfnphiaaDoor.PDescKinds
end
section
/- cameoref10.Copy: a round; the whole. -/
set_option linter.unusedSimpArgs false
set_option linter.unusedVariables false
set_option linter.unusedSectionVars false
namespace Go.Proofs.YtaojjpdlfnphiaaDoor.PDescKinds
open Go.RowKit Go.Ev
/-! Rows laid one behind the other -/
theorem flat_len {f : Nat → List Value} {z : Nat} (hz : ∀ t, (f t).length = z) (n : Nat) : ((List.range n).flatMap f).length = n * z := by
  induction n with
  | zero => simp
  | succ n ih => rw [List.range_succ, List.flatMap_append, List.length_append, ih, Nat.succ_mul]; simp [hz]
theorem flat_in {f : Nat → List Value} {z : Nat} (hz : ∀ t, (f t).length = z) : ∀ (n t k : Nat) (u : Value), t < n → (f t)[k]? = some u → ((List.range n).flatMap f)[t * z + k]? = some u
  | 0, t, k, u, h, _ => absurd h (Nat.not_lt_zero _)
  | n + 1, t, k, u, h, hk => by
    have hkz : k < z := by rw [← hz t]; exact (List.getElem?_eq_some_iff.1 hk).1
    rw [List.range_succ, List.flatMap_append]
    by_cases e : t = n
    · subst e
      rw [List.getElem?_append_right (by rw [flat_len hz]; omega), flat_len hz]
      simpa using hk
    · have hlt : t < n := by omega
      have h1 : t * z + k < n * z := by
        have : (t + 1) * z ≤ n * z := Nat.mul_le_mul_right z hlt
        rw [Nat.add_mul] at this
        omega
      rw [List.getElem?_append_left (by rw [flat_len hz]; exact h1)]
      exact flat_in hz n t k u hlt hk
theorem flat_out {f : Nat → List Value} {z : Nat} (hz : ∀ t, (f t).length = z) : ∀ (n j : Nat) (u : Value), ((List.range n).flatMap f)[j]? = some u → ∃ t k, t < n ∧ j = t * z + k ∧ (f t)[k]? = some u
  | 0, j, u, h => by simp at h
  | n + 1, j, u, h => by
    rw [List.range_succ, List.flatMap_append] at h
    by_cases hj : j < n * z
    · rw [List.getElem?_append_left (by rw [flat_len hz]; exact hj)] at h
      obtain ⟨t, k, h1, h2, h3⟩ := flat_out hz n j u h
      exact ⟨t, k, by omega, h2, h3⟩
    · rw [List.getElem?_append_right (by rw [flat_len hz]; omega), flat_len hz] at h
      refine ⟨n, j - n * z, by omega, by omega, by simpa using h⟩
theorem flat_congr {f g : Nat → List Value} (n : Nat) (h : ∀ j, j < n → f j = g j) : (List.range n).flatMap f = (List.range n).flatMap g := by
  induction n with
  | zero => rfl
  | succ n ih => rw [List.range_succ, List.flatMap_append, List.flatMap_append, ih fun j hj => h j (by omega)]; simp [h n (by omega)]
theorem Pr.list_length (q : Pr) : q.list.length = 20 := rfl
theorem shVals_length (s : Sh) (u : Value) : (shVals s u).length = 8 := rfl
theorem Pr.list_one (q : Pr) : ∀ u ∈ q.list, u.oneCell' = true := by
  intro u hu
  simp only [Pr.list, D.list, V.list, List.cons_append, List.nil_append, List.mem_cons, List.not_mem_nil, or_false] at hu
  rcases hu with rfl | rfl | rfl | rfl | rfl | rfl | rfl | rfl | rfl | rfl | rfl | rfl | rfl | rfl | rfl | rfl | rfl | rfl | rfl | rfl <;> rfl
theorem shVals_one (s : Sh) (A : Option Addr) (n c : Nat) : ∀ u ∈ shVals s (.slice A n c), u.oneCell' = true := by
  intro u hu
  simp only [shVals, List.mem_cons, List.not_mem_nil, or_false] at hu
  rcases hu with rfl | rfl | rfl | rfl | rfl | rfl | rfl | rfl <;> rfl
theorem own_ne {w : World} {b b' n n' : Nat} {v u : Value} {xs ys : List Value} (h : w.ownsRow b 60 8 v n xs) (h' : w.ownsRow b' 66 20 u n' ys) : u.ownBlock = none ∨ u.ownBlock ≠ v.ownBlock := by
  rcases h'.2 with ⟨rfl, _⟩ | ⟨g', cap', cur', rfl, _, hg', _⟩
  · exact .inl rfl
  · refine .inr fun e => ?_
    rcases h.2 with ⟨rfl, _⟩ | ⟨g, cap, cur, rfl, _, hg, _⟩
    · simp [Value.ownBlock] at e
    · simp only [Value.ownBlock, Option.some.injEq] at e
      subst e
      rw [hg] at hg'
      simp at hg'
theorem grown_of {w w' : World} (hb : Below w.heap.size w w') (row : Option Nat) : w.grownBy w' row := ⟨hb.os, hb.tape, hb.output, hb.size, fun k hk _ => hb.block k hk⟩
namespace Copy
theorem put_self (a : Act) (d : Nat) (v : Value) (h : d < a.tmps.size) : (a.put (some d) v).tmps.getD d undef = v := by
  show (a.tmps.setIfInBounds d v).getD d undef = v
  simp [h]
theorem put_ne (a : Act) (d t : Nat) (v : Value) (h : d ≠ t) : (a.put (some d) v).tmps.getD t undef = a.tmps.getD t undef := by
  show (a.tmps.setIfInBounds d v).getD t undef = _
  simp [Array.getElem?_setIfInBounds_ne h]
section
variable {M : Nat → Mo} {bx : Nat → XR} {a : Nat} {w0 : World}
def rowOf (s : Sh) : List Value := (List.range s.n).flatMap fun t => (s.g t).list
structure Head (M : Nat → Mo) (a : Nat) (w0 : World) (i k : Nat) (v : Value) (S : Nat → Value) (act : Act) (w : World) : Prop where
  below : Below w0.heap.size w0 w
  size : act.tmps.size = 26
  defers : act.defers = []
  t0 : act.tmps.getD 0 undef = .slice (M a).A (M a).n (M a).c
  t3 : act.tmps.getD 3 undef = v
  t4 : act.tmps.getD 4 undef = .int .i64 (i : Int)
  own : w.ownsRow w0.heap.size 60 8 v k ((List.range k).flatMap fun j => shVals ((M a).g j) (S j))
  rows : ∀ j, j < k → w.ownsRow w0.heap.size 66 20 (S j) ((M a).g j).n (rowOf ((M a).g j))
theorem Head.enter {i k : Nat} {v : Value} {S : Nat → Value} {act : Act} {w : World} (h : Head M a w0 i k v S act w) : @SR (rowsB M bx) w 26 (fun _ => 0) ((hd a i v).st 0) act w := by
  letI := rowsB M bx
  refine epoch h.size h.defers _ _ (fun p hp => ?_) (fun p hp => ?_)
  · simp only [List.mem_cons, List.not_mem_nil, or_false] at hp
    rcases hp with rfl | rfl | rfl
    · exact h.t0.trans (den_xs _ [a]).symm
    · exact h.t3.trans (den_val _ _).symm
    · exact h.t4.trans (den_val _ _).symm
  · simp only [List.mem_cons, List.not_mem_nil, or_false] at hp
    rcases hp with rfl | rfl | rfl
    · exact ok_xs
    · exact ok_val _ _
    · exact ok_val _ _
theorem Head.later {i i' k : Nat} {v : Value} {S : Nat → Value} {act act' : Act} {w w' : World} (h : Head M a w0 i k v S act w) (hb : Below w.heap.size w w') (h1 : act'.tmps.size = 26) (h2 : act'.defers = [])
    (h3 : act'.tmps.getD 0 undef = .slice (M a).A (M a).n (M a).c) (h4 : act'.tmps.getD 3 undef = v) (h5 : act'.tmps.getD 4 undef = .int .i64 (i' : Int)) : Head M a w0 i' k v S act' w' :=
  ⟨h.below.trans (hb.mono h.below.size), h1, h2, h3, h4, h5, h.own.kept (grown_of hb none) (by cases hv : v.ownBlock <;> simp), fun j hj => (h.rows j hj).kept (grown_of hb none) (by cases hv : (S j).ownBlock <;> simp)⟩
theorem cells7_den [XEnv] (m : Nat → Nat) (s : Sh) (n c : Nat) : (shCells7 s (.slc 1 0 n c)).map (SV.den m) = shVals s (.slice (some ⟨m 1, 0, none⟩) n c) := by
  simp only [shCells7, List.map_cons, List.map_nil, den_val, den_slc]
  rfl
theorem vals_den' [XEnv] (m : Nat → Nat) (cur : Array Value) : ((cur.toList.map SV.val).map (SV.den m)).toArray = cur := by
  rw [List.map_map, show (SV.den m ∘ SV.val) = _root_.id from funext fun v => den_val m v, List.map_id]
abbrev two (a i : Nat) (v : Value) (s : Sh) (n c : Nat) (cur : Array Value) : Cut := ⟨[(0, .xs [a]), (3, .val v), (4, .val (.int .i64 (i : Int))), (5, .ptr 0 0)], [(0, ⟨60, shCells7 s (.slc 1 0 n c)⟩), (1, ⟨66, cur.toList.map SV.val⟩)]⟩
set_option maxRecDepth 100000 in
theorem tail7 (hI : Inv M bx w0) (hn : (M a).n ≤ 1048576) {i c : Nat} {v : Value} {S : Nat → Value} {act a5 : Act} {w w5 : World} {m : Nat → Nat} {cur : Array Value} (h : Head M a w0 i i v S act w) (hi : i < (M a).n)
    (hr : @SR (rowsB M bx) w 26 m ((two a i v ((M a).g i) ((M a).g i).n c cur).st 2) a5 w5) (hc1 : ((M a).g i).n ≤ c) (hc2 : c ≤ maxLen) (hc3 : cur.size = c * 20) (hc4 : cur.toList.take (((M a).g i).n * 20) = rowOf ((M a).g i))
    {Q : Exit → Act → World → Prop} (hQ : ∀ v' S' act' w', Head M a w0 i (i + 1) v' S' act' w' → Q .normal act' w') : wpL Tryd.prog [.region 7 ops7 false] Q a5 w5 := by
  letI := rowsB M bx
  have hIw : Inv M bx w := inv_stable _ _ _ _ hI h.below
  have C := ctxB M bx Bvents5 entsS_nil
  have hc : CallSound Tryd.prog (Inv M bx) cw := call_sound C.hs C.hG (ev_sound mixed ext_sound C.hs C.hXO C.hG 0).1
  simp only [wpL]
  refine wp_region_list ?_
  rw [ops7_eq]
  obtain ⟨st, hst, hpr⟩ := Option.map_eq_some_iff.1 (cp5 M bx a i v ((M a).g i) (cur.toList.map SV.val) ((M a).g i).n c)
  simp only [Prod.mk.injEq] at hpr
  obtain ⟨p0, p4, p21, p23, pm1, pm2⟩ := hpr
  refine ops_sound_tail ext_sound hIw C.hs C.hXO hc _ _ _ _ m a5 w5 hst hr ?_
  intro m6 a6 w6 _ hr6
  have b6 := hr6.mr.below
  have e21 : a6.eval (.tmp 21) = v := (hr6.ar.tm 21 (by rw [p21]; rfl)).trans (by rw [p21]; exact den_val _ _)
  have e23 : a6.eval (.tmp 23) = .slice (some ⟨m6 2, 0, none⟩) 1 1 := (hr6.ar.tm 23 (by rw [p23]; rfl)).trans (by rw [p23]; exact den_slc _ _ _ _ _)
  have hb1 := hr6.mr.blk 1 _ pm1
  have hb2 := hr6.mr.blk 2 _ pm2
  have hsz6 : a6.tmps.size = 26 := hr6.ar.size
  have hh1 : w6.heap[m6 1]? = some (.cells cur 66 (0, 0)) := by
    have := hb1.2.1
    rw [vals_den'] at this
    exact this
  have hh2 : w6.heap[m6 2]? = some (.cells (shVals ((M a).g i) (.slice (some ⟨m6 1, 0, none⟩) ((M a).g i).n c)).toArray 60 (0, 0)) := by
    have := hb2.2.1
    rw [cells7_den] at this
    exact this
  have hown : w6.ownsRow w0.heap.size 60 8 v i ((List.range i).flatMap fun j => shVals ((M a).g j) (S j)) := h.own.kept (grown_of b6 none) (by cases hv : v.ownBlock <;> simp)
  have hU : w6.ownsRow w0.heap.size 66 20 (.slice (some ⟨m6 1, 0, none⟩) ((M a).g i).n c) ((M a).g i).n (rowOf ((M a).g i)) :=
    ⟨flat_len (fun t => Pr.list_length _) _, .inr ⟨m6 1, c, cur, rfl, Nat.le_trans h.below.size hb1.1, hh1, hc1, hc2, hc3, hc4⟩⟩
  have hM : maxLen = 9223372036854775807 := by decide +kernel
  obtain ⟨i60, z60, hi1, hi2, hi3, hi4, hi5⟩ := info60
  refine wpList_append_own w6 o24_guard (.tmp 21) (.tmp 23) 51 o24_op w0.heap.size 60 i60 z60 8 88 Tryd.underlying51 hi1 hi2 hi3 hi4 hi5 (by decide) _ i _ e21 hown ⟨m6 2, 0, none⟩ 1 1 (shVals ((M a).g i) (.slice (some ⟨m6 1, 0, none⟩) ((M a).g i).n c)) e23 rfl ?_ (shVals_one _ _ _ _) ?_ ?_ ?_ ?_
  · intro j u hu
    rw [add_none, cell_of_row w6 (m6 2) _ _ 60 (0, 0) hh2]
    simpa using hu
  · omega
  · omega
  · exact Nat.le_trans h.below.size b6.size
  intro v' w7 hown7 hgr hnil
  refine wpList_plain o25_guard fun K hK => ?_
  have hex : (execOp (a6.put o24.dst v').eval o25).run Tryd.prog w7 = .ok (.value v') w7 := by
    have e24 : (a6.put o24.dst v').eval (.tmp 24) = v' := by rw [o24_dst]; exact put_self a6 24 v' (by omega)
    unfold execOp
    simp only [o25_op, e24, Sem.run_pure]
  unfold Oper.wp
  rw [hex, Oper.upon_value, o24_dst, o25_dst]
  have hsz7 : (a6.put (some 24) v').tmps.size = 26 := by simp [Act.put, hsz6]
  have e3 : ((a6.put (some 24) v').put (some 3) v').tmps.getD 3 undef = v' := put_self _ 3 v' (by omega)
  have eo : ∀ t, t ≠ 24 → t ≠ 3 → ((a6.put (some 24) v').put (some 3) v').tmps.getD t undef = a6.tmps.getD t undef := fun t h1 h2 => by rw [put_ne _ _ _ _ (Ne.symm h2), put_ne _ _ _ _ (Ne.symm h1)]
  have hbel6 : Below w0.heap.size w0 w6 := h.below.trans (b6.mono h.below.size)
  refine hK _ _ (hQ v' (fun j => if j = i then .slice (some ⟨m6 1, 0, none⟩) ((M a).g i).n c else S j) _ _ ⟨?_, by simp [Act.put, hsz6], hr6.ar.defers, ?_, e3, ?_, ?_, ?_⟩)
  · exact hbel6.trans ⟨hgr.os, hgr.tape, hgr.output, hgr.size, fun k hk => hgr.block k (Nat.lt_of_lt_of_le hk hbel6.size) (fun e => by
      have := (hown.lt k e.symm).1
      omega)⟩
  · rw [eo 0 (by decide) (by decide)]
    exact (hr6.ar.tm 0 (by rw [p0]; rfl)).trans (by rw [p0]; exact den_xs _ [a])
  · rw [eo 4 (by decide) (by decide)]
    exact (hr6.ar.tm 4 (by rw [p4]; rfl)).trans (by rw [p4]; exact den_val _ _)
  · have e : ((List.range (i + 1)).flatMap fun j => shVals ((M a).g j) (if j = i then .slice (some ⟨m6 1, 0, none⟩) ((M a).g i).n c else S j)) =
        ((List.range i).flatMap fun j => shVals ((M a).g j) (S j)) ++ shVals ((M a).g i) (.slice (some ⟨m6 1, 0, none⟩) ((M a).g i).n c) := by
      rw [List.range_succ, List.flatMap_append, flat_congr i (g := fun j => shVals ((M a).g j) (S j)) fun j hj => by rw [if_neg (by omega)]]
      simp
    rw [e]
    exact hown7
  · intro j hj
    by_cases e : j = i
    · subst e
      simp only [if_true]
      exact hU.kept hgr (own_ne hown hU)
    · simp only [if_neg e]
      have := (h.rows j (by omega)).kept (grown_of b6 none) (by cases hv : (S j).ownBlock <;> simp)
      exact this.kept hgr (own_ne hown this)
set_option maxRecDepth 100000 in
theorem tail6 (hI : Inv M bx w0) (hn : (M a).n ≤ 1048576) {i c g : Nat} {v : Value} {S : Nat → Value} {act a3 : Act} {w w3 w4 : World} {m3 : Nat → Nat} (h : Head M a w0 i i v S act w) (hi : i < (M a).n) {st3 : St}
    (hr3 : @SR (rowsB M bx) w 26 m3 ((⟨[(0, .xs [a]), (3, .val v), (4, .val (.int .i64 (i : Int))), (5, .ptr 0 0), (16, .slc 1 0 0 0), (18, .xs [a, i])], [(0, ⟨60, shCells ((M a).g i).cl ((M a).g i).p ((M a).g i).x [a, i]⟩), (1, ⟨66, []⟩)]⟩ : Cut).st 2) a3 w3)
    (hown : w4.ownsRow w.heap.size 66 20 (.slice (some ⟨g, 0, none⟩) ((M a).g i).n c) ((M a).g i).n (rowOf ((M a).g i))) (hgr : w3.grownBy w4 (some (m3 1)))
    {Q : Exit → Act → World → Prop} (hQ : ∀ v' S' act' w', Head M a w0 i (i + 1) v' S' act' w' → Q .normal act' w') :
    wpList Tryd.prog ops6 (Exit.then (wpL Tryd.prog [.region 7 ops7 false] Q) Q) (ops6.toList.drop 4) (a3.put o19.dst (.slice (some ⟨g, 0, none⟩) ((M a).g i).n c)) w4 := by
  letI := rowsB M bx
  have hIw : Inv M bx w := inv_stable _ _ _ _ hI h.below
  have C := ctxB M bx Bvents5 entsS_nil
  have hc : CallSound Tryd.prog (Inv M bx) cw := call_sound C.hs C.hG (ev_sound mixed ext_sound C.hs C.hXO C.hG 0).1
  have b3 := hr3.mr.below
  have hb0 := hr3.mr.blk 0 ⟨60, shCells ((M a).g i).cl ((M a).g i).p ((M a).g i).x [a, i]⟩ rfl
  have hb1 := hr3.mr.blk 1 ⟨66, []⟩ rfl
  have hne01 : m3 0 ≠ m3 1 := fun e => by have := hr3.mr.inj 0 1 _ _ rfl rfl e; cases this
  have hsz3 : a3.tmps.size = 26 := hr3.ar.size
  rcases hown.2 with ⟨e, _⟩ | ⟨g', cap, cur, e, hgb, hgh, h1, h2, h3, h4⟩
  · cases e
  simp only [Value.slice.injEq, Option.some.injEq, Addr.mk.injEq, and_true] at e
  obtain ⟨rfl, _, rfl⟩ := e
  have hw40 : w4.heap[m3 0]? = some (.cells ((shCells ((M a).g i).cl ((M a).g i).p ((M a).g i).x [a, i]).map (SV.den m3)).toArray 60 (0, 0)) := (hgr.block (m3 0) (Array.getElem?_eq_some_iff.1 hb0.2.1).1 (fun e => hne01 (Option.some.inj e))).trans hb0.2.1
  have hne : m3 0 ≠ g := fun e => by
    rw [e, hgh] at hw40
    simp at hw40
  have b4 : Below w.heap.size w w4 := b3.trans ⟨hgr.os, hgr.tape, hgr.output, hgr.size, fun k hk => hgr.block k (Nat.lt_of_lt_of_le hk b3.size) (fun e => by
    have := Option.some.inj e
    have := hb1.1
    omega)⟩
  have hr4 : SR w 26 (fun b => if b = 0 then m3 0 else g) ((⟨[(0, .xs [a]), (3, .val v), (4, .val (.int .i64 (i : Int))), (5, .ptr 0 0), (19, .slc 1 0 ((M a).g i).n c)], [(0, ⟨60, shCells ((M a).g i).cl ((M a).g i).p ((M a).g i).x [a, i]⟩), (1, ⟨66, cur.toList.map SV.val⟩)]⟩ : Cut).st 2) (a3.put o19.dst (.slice (some ⟨g, 0, none⟩) ((M a).g i).n c)) w4 := by
    rw [o19_dst]
    have eo : ∀ t, t ≠ 19 → (a3.put (some 19) (.slice (some ⟨g, 0, none⟩) ((M a).g i).n c)).tmps.getD t undef = a3.tmps.getD t undef := fun t h1 => put_ne _ _ _ _ (Ne.symm h1)
    refine epochB (a := a3.put (some 19) (.slice (some ⟨g, 0, none⟩) ((M a).g i).n c)) b4 (by simp [Act.put, hsz3]) hr3.ar.defers _ _ _ (fun p hp => ?_) (fun p hp => ?_) (fun b k hk => ?_) (fun b b' k k' hk hk' he => ?_) (fun b hb => ?_)
    · simp only [List.mem_cons, List.not_mem_nil, or_false] at hp
      rcases hp with rfl | rfl | rfl | rfl | rfl
      · rw [eo 0 (by decide)]; exact (hr3.ar.tm 0 rfl).trans (by rw [den_xs]; exact den_xs _ [a])
      · rw [eo 3 (by decide)]; exact (hr3.ar.tm 3 rfl).trans (by rw [den_val]; exact den_val _ _)
      · rw [eo 4 (by decide)]; exact (hr3.ar.tm 4 rfl).trans (by rw [den_val]; exact den_val _ _)
      · rw [eo 5 (by decide)]; exact (hr3.ar.tm 5 rfl).trans (by rw [den_ptr]; exact den_ptr _ 0 0)
      · rw [put_self a3 19 _ (by omega), den_slc]; rfl
    · simp only [List.mem_cons, List.not_mem_nil, or_false] at hp
      rcases hp with rfl | rfl | rfl | rfl | rfl
      · exact ok_xs
      · exact ok_val _ _
      · exact ok_val _ _
      · exact ok_ptr.2 rfl
      · exact ok_slc.2 rfl
    · rcases pickM_two hk with ⟨rfl, rfl⟩ | ⟨rfl, rfl⟩
      · refine ⟨hb0.1, ?_, fun c hc => (simple_sh _ _ _ _ _ c hc).ok _⟩
        show w4.heap[m3 0]? = _
        rw [hw40]
        rfl
      · refine ⟨hgb, ?_, fun c hc => ?_⟩
        · show w4.heap[g]? = _
          rw [vals_den']
          exact hgh
        · obtain ⟨u, _, rfl⟩ := List.mem_map.1 hc
          exact ok_val _ _
    · rcases pickM_two hk with ⟨rfl, _⟩ | ⟨rfl, _⟩ <;> rcases pickM_two hk' with ⟨rfl, _⟩ | ⟨rfl, _⟩
      · rfl
      · exact absurd he hne
      · exact absurd he.symm hne
      · rfl
    · cases hq : pickM _ b with
      | none => rfl
      | some k => rcases pickM_two hq with ⟨rfl, _⟩ | ⟨rfl, _⟩ <;> omega
  obtain ⟨st, hst, hpr⟩ := Option.map_eq_some_iff.1 (cp4 M bx a i v ((M a).g i) (cur.toList.map SV.val) ((M a).g i).n c)
  simp only [Prod.mk.injEq] at hpr
  obtain ⟨p0, p3, p4, p5, pm0, pm1⟩ := hpr
  rw [← List.append_nil (ops6.toList.drop 4)]
  refine ops_sound_tail ext_sound hIw C.hs C.hXO hc [] _ _ _ _ _ _ hst hr4 ?_
  intro m5 a5 w5 _ hr5
  refine tail7 (bx := bx) (m := m5) (cur := cur) hI hn h hi ?_ h1 h2 h3 h4 hQ
  have q0 := hr5.mr.blk 0 _ pm0
  have q1 := hr5.mr.blk 1 _ pm1
  refine epochB hr5.mr.below hr5.ar.size hr5.ar.defers _ _ _ (fun p hp => ?_) (fun p hp => ?_) (fun b k hk => ?_) (fun b b' k k' hk hk' he => ?_) (fun b hb => ?_)
  · simp only [List.mem_cons, List.not_mem_nil, or_false] at hp
    rcases hp with rfl | rfl | rfl | rfl
    · exact (hr5.ar.tm 0 (by rw [p0]; rfl)).trans (by rw [p0])
    · exact (hr5.ar.tm 3 (by rw [p3]; rfl)).trans (by rw [p3])
    · exact (hr5.ar.tm 4 (by rw [p4]; rfl)).trans (by rw [p4])
    · exact (hr5.ar.tm 5 (by rw [p5]; rfl)).trans (by rw [p5])
  · simp only [List.mem_cons, List.not_mem_nil, or_false] at hp
    rcases hp with rfl | rfl | rfl | rfl
    · exact ok_xs
    · exact ok_val _ _
    · exact ok_val _ _
    · exact ok_ptr.2 rfl
  · rcases pickM_two hk with ⟨rfl, rfl⟩ | ⟨rfl, rfl⟩
    · refine ⟨q0.1, q0.2.1, fun c hc => ?_⟩
      simp only [shCells7, List.mem_cons, List.not_mem_nil, or_false] at hc
      rcases hc with rfl | rfl | rfl | rfl | rfl | rfl | rfl | rfl <;> first | exact ok_val _ _ | exact ok_slc.2 rfl
    · refine ⟨q1.1, q1.2.1, fun c hc => ?_⟩
      obtain ⟨u, _, rfl⟩ := List.mem_map.1 hc
      exact ok_val _ _
  · rcases pickM_two hk with ⟨rfl, _⟩ | ⟨rfl, _⟩ <;> rcases pickM_two hk' with ⟨rfl, _⟩ | ⟨rfl, _⟩
    · rfl
    · exact hr5.mr.inj 0 1 _ _ pm0 pm1 he
    · exact hr5.mr.inj 1 0 _ _ pm1 pm0 he
    · rfl
  · cases hq : pickM _ b with
    | none => rfl
    | some k => rcases pickM_two hq with ⟨rfl, _⟩ | ⟨rfl, _⟩ <;> omega
set_option maxRecDepth 100000 in
theorem inner (hI : Inv M bx w0) (hn : (M a).n ≤ 1048576) (hp : ∀ j, ((M a).g j).n ≤ 1048576) (hnil : ∀ j, ((M a).g j).A = none → ((M a).g j).n = 0 ∧ ((M a).g j).c = 0)
    {i : Nat} {v : Value} {S : Nat → Value} {act a1 : Act} {w w1 : World} {m1 : Nat → Nat} (h : Head M a w0 i i v S act w) (hi : i < (M a).n) (hr1 : @SR (rowsB M bx) w 26 m1 ((hd a i v).st 0) a1 w1) {Q : Exit → Act → World → Prop}
    (hQ : ∀ v' S' act' w', Head M a w0 i (i + 1) v' S' act' w' → Q .normal act' w') : wpL Tryd.prog inn Q a1 w1 := by
  letI := rowsB M bx
  have hIw : Inv M bx w := inv_stable _ _ _ _ hI h.below
  have C := ctxB M bx Bvents5 entsS_nil
  have hc : CallSound Tryd.prog (Inv M bx) cw := call_sound C.hs C.hG (ev_sound mixed ext_sound C.hs C.hXO C.hG 0).1
  rw [inn_eq, wpL_app]
  have e2 := cp2 M bx a i v
  rw [dlt hi, dge] at e2
  simp only [cond_true, Bool.and_self] at e2
  refine piece C.mix C.hX C.hs C.hXO C.hG e2 hIw hr1 (fun v hv => by cases hv) (fun ex d hd m2 a2 w2 hr2 => ?_)
  cases hd
  show (Code.region 6 ops6 false).wp Tryd.prog (Exit.then (wpL Tryd.prog [.region 7 ops7 false] Q) Q) a2 w2
  refine wp_region_list ?_
  rw [ops6_eq]
  obtain ⟨st3, hst3, hcut3⟩ := Option.bind_eq_some_iff.1 (cp3 M bx a i v ((M a).g i))
  refine ops_sound_tail ext_sound hIw C.hs C.hXO hc _ _ _ _ m2 a2 w2 hst3 hr2 ?_
  intro m3 a3 w3 _ hr3
  have hr3 := cut_sound hcut3 hr3
  have b3 := hr3.mr.below
  have e16 : a3.eval (.tmp 16) = .slice (some ⟨m3 1, 0, none⟩) 0 0 := (hr3.ar.tm 16 rfl).trans (den_slc m3 1 0 0 0)
  have e18 : a3.eval (.tmp 18) = .slice ((M a).g i).A ((M a).g i).n ((M a).g i).c := (hr3.ar.tm 18 rfl).trans (den_xs m3 [a, i])
  have hb1 := hr3.mr.blk 1 ⟨66, []⟩ rfl
  have hlit : w3.ownsRow w.heap.size 66 20 (.slice (some ⟨m3 1, 0, none⟩) 0 0) 0 [] := ⟨rfl, .inr ⟨m3 1, 0, #[], rfl, hb1.1, hb1.2.1, Nat.le_refl _, Nat.zero_le _, rfl, rfl⟩⟩
  have key : ∀ (g c' : Nat) (w4 : World), w4.ownsRow w.heap.size 66 20 (.slice (some ⟨g, 0, none⟩) ((M a).g i).n c') ((M a).g i).n (rowOf ((M a).g i)) → w3.grownBy w4 (some (m3 1)) → _ :=
    fun g c' w4 h1 h2 => tail6 (bx := bx) (Q := Q) hI hn h hi (st3 := st3) hr3 h1 h2 hQ
  obtain ⟨i66, z66, hi1, hi2, hi3, hi4, hi5⟩ := info66
  cases hA : ((M a).g i).A with
  | none =>
    obtain ⟨h0, h0c⟩ := hnil i hA
    rw [hA, h0, h0c] at e18
    refine wpList_append_own_none o19_guard (.tmp 16) (.tmp 18) 58 o19_op w.heap.size 66 i66 20 Tryd.underlying58 hi1 _ 0 [] e16 hlit e18 ?_
    have := key (m3 1) 0 w3 (by
      have e : rowOf ((M a).g i) = [] := by unfold rowOf; rw [h0]; rfl
      rw [e, h0]; exact hlit) ⟨rfl, rfl, rfl, Nat.le_refl _, fun _ _ _ => rfl⟩
    rw [h0] at this
    exact this
  | some ad =>
    rw [hA] at e18
    refine wpList_append_own w3 o19_guard (.tmp 16) (.tmp 18) 58 o19_op w.heap.size 66 i66 z66 20 192 Tryd.underlying58 hi1 hi2 hi3 hi4 hi5 (by decide) _ 0 [] e16 hlit ad ((M a).g i).n ((M a).g i).c (rowOf ((M a).g i)) e18 ?_ ?_ ?_ ?_ ?_ b3.size ?_
    · exact flat_len (fun t => Pr.list_length _) _
    · intro j u hu
      obtain ⟨t, k, ht, rfl, hk⟩ := flat_out (fun t => Pr.list_length _) _ _ _ hu
      have hX := (inv_stable M bx _ _ hIw b3).2 [a, i] t ht
      obtain ⟨_, _, ad', hA', _, hcell⟩ := hX
      have hA' : ((M a).g i).A = some ad' := hA'
      rw [hA] at hA'
      cases hA'
      have := hcell k (.val u) (by
        show (((M a).g i).g t).cells[k]? = _
        rw [Pr.cells_list, List.getElem?_map, hk]; rfl) m3
      rw [den_val] at this
      exact this
    · intro u hu
      obtain ⟨t, _, hu⟩ := List.mem_flatMap.1 hu
      exact Pr.list_one _ u hu
    · have : maxLen = 9223372036854775807 := by decide +kernel
      have := hp i
      omega
    · have := hp i
      omega
    · intro v' w4 hown hgr hnilv
      rw [Nat.zero_add, List.nil_append] at hown
      have hown' := hown
      rcases hown.2 with ⟨rfl, _⟩ | ⟨g, cap, cur, rfl, _⟩
      · have := (hnilv.1 rfl).1
        cases this
      · exact key g cap w4 hown' hgr
set_option maxRecDepth 100000 in
theorem round (hI : Inv M bx w0) (hn : (M a).n ≤ 1048576) (hp : ∀ j, ((M a).g j).n ≤ 1048576) (hnil : ∀ j, ((M a).g j).A = none → ((M a).g j).n = 0 ∧ ((M a).g j).c = 0)
    {i : Nat} {v : Value} {S : Nat → Value} {act : Act} {w : World} (h : Head M a w0 i i v S act w) (hi : i < (M a).n) {Q : Exit → Act → World → Prop}
    (hQ : ∀ v' S' act' w', Head M a w0 (i + 1) (i + 1) v' S' act' w' → Q .normal act' w') : wpL Tryd.prog rd Q act w := by
  letI := rowsB M bx
  have hIw : Inv M bx w := inv_stable _ _ _ _ hI h.below
  have C := ctxB M bx Bvents5 entsS_nil
  have hr := h.enter (bx := bx)
  rw [rd_eq, wpL_app]
  have e1 := cp1 M bx a i v
  rw [dlt hi] at e1
  simp only [cond_true] at e1
  refine piece C.mix C.hX C.hs C.hXO C.hG e1 hIw hr (fun v hv => by cases hv) (fun ex d hd m1 a1 w1 hr1 => ?_)
  cases hd
  show wpL Tryd.prog (Code.block 1 (inB (rd.getD 2 .skip)) :: rd.drop 3) Q a1 w1
  simp only [wpL]
  refine wp_block (wpL_flat _ ?_)
  refine inner (bx := bx) hI hn hp hnil h hi hr1 (fun v' S' act' w' h' => ?_)
  show wpL Tryd.prog (rd.drop 3) Q act' w'
  have hI' : Inv M bx w' := inv_stable _ _ _ _ hI h'.below
  have e6 := cp6 M bx a i v'
  rw [wr hi (by omega)] at e6
  refine piece C.mix C.hX C.hs C.hXO C.hG e6 hI' (h'.enter (bx := bx)) (fun v hv => by cases hv) (fun ex d hd m2 a2 w2 hr2 => ?_)
  cases hd
  exact hQ v' S' a2 w2 (h'.later (hr2.mr.below) hr2.ar.size hr2.ar.defers ((hr2.ar.tm 0 rfl).trans (den_xs _ [a])) ((hr2.ar.tm 3 rfl).trans (den_val _ _)) ((hr2.ar.tm 4 rfl).trans (den_val _ _)))
/-- What Copy hands out. -/
def Copied (M : Nat → Mo) (a : Nat) (w0 : World) (v : Value) (S : Nat → Value) (w : World) : Prop :=
  Below w0.heap.size w0 w ∧ w.ownsRow w0.heap.size 60 8 v (M a).n ((List.range (M a).n).flatMap fun j => shVals ((M a).g j) (S j)) ∧
  ∀ j, j < (M a).n → w.ownsRow w0.heap.size 66 20 (S j) ((M a).g j).n (rowOf ((M a).g j))
set_option maxRecDepth 100000 in
theorem calls (hI : Inv M bx w0) (hn : (M a).n ≤ 1048576) (hp : ∀ j, ((M a).g j).n ≤ 1048576) (hnil : ∀ j, ((M a).g j).A = none → ((M a).g j).n = 0 ∧ ((M a).g j).c = 0) :
    Calls Tryd.prog 36 #[.slice (M a).A (M a).n (M a).c] w0 (fun e w' => ∃ v S, e = .returned v ∧ Copied M a w0 v S w') := by
  letI := rowsB M bx
  have C := ctxB M bx Bvents5 entsS_nil
  refine calls_of_wp Tryd.func36 (c := Tryd.f36.body.getD .skip) (by kernel_rfl) ?_
  refine wpL_flat _ ?_
  show wpL Tryd.prog (bodyOf Tryd.f36) _ _ _
  rw [split_loop (bodyOf Tryd.f36) (by kernel_rfl), wpL_app]
  have hst := start_sound (fn := Tryd.f36) [.xs [a]] (fun x hx => by
    simp only [List.mem_cons, List.not_mem_nil, or_false] at hx
    subst hx
    exact ok_xs) w0 (fun _ => 0)
  have loop : ∀ (k i : Nat) (v : Value) (S : Nat → Value) (act : Act) (w : World), Head M a w0 i i v S act w → i ≤ (M a).n → (M a).n - i < k →
      Code.rounds Tryd.prog (roundOf (bodyOf Tryd.f36)) (Exit.inBlock (idOf (bodyOf Tryd.f36)) (Exit.then (wpL Tryd.prog (postOf (bodyOf Tryd.f36)) (bodyPost Tryd.prog Tryd.f36 (fun e w' => ∃ v S, e = .returned v ∧ Copied M a w0 v S w'))) (bodyPost Tryd.prog Tryd.f36 (fun e w' => ∃ v S, e = .returned v ∧ Copied M a w0 v S w')))) k act w := by
    intro k
    induction k with
    | zero => intro i v S act w h h1 h2; omega
    | succ k ih =>
      intro i v S act w h h1 h2
      rw [rounds_succ]
      refine wpL_flat _ ?_
      show wpL Tryd.prog rd _ act w
      by_cases hi : i < (M a).n
      · exact round (bx := bx) hI hn hp hnil h hi (fun v' S' act' w' h' => ih (i + 1) v' S' act' w' h' (by omega) (by omega))
      · obtain rfl : i = (M a).n := by omega
        have hIw : Inv M bx w := inv_stable _ _ _ _ hI h.below
        rw [rd_eq, wpL_app]
        have e1 := cp1 M bx a (M a).n v
        rw [dnl] at e1
        simp only [cond_false] at e1
        refine piece C.mix C.hX C.hs C.hXO C.hG e1 hIw (h.enter (bx := bx)) (fun v hv => by cases hv) (fun ex d hd m1 a1 w1 hr1 => ?_)
        cases hd
        have h1 := h.later (hr1.mr.below) hr1.ar.size hr1.ar.defers ((hr1.ar.tm 0 rfl).trans (den_xs _ [a])) ((hr1.ar.tm 3 rfl).trans (den_val _ _)) ((hr1.ar.tm 4 rfl).trans (den_val _ _))
        have hI1 : Inv M bx w1 := inv_stable _ _ _ _ hI h1.below
        show wpL Tryd.prog (postOf (bodyOf Tryd.f36)) _ a1 w1
        refine piece C.mix C.hX C.hs C.hXO C.hG (cp7 M bx a (M a).n v) hI1 (h1.enter (bx := bx)) (fun u hu m' a' w' g1 g2 g3 => ?_) (fun ex d hd => by cases hd)
        cases hu
        rw [den_val] at g2
        have h2 := h1.below.trans (g3.mono h1.below.size)
        exact ⟨g1, _, g2, v, S, rfl, h2, h1.own.kept (grown_of g3 none) (by cases hv : v.ownBlock <;> simp), fun j hj => (h1.rows j hj).kept (grown_of g3 none) (by cases hv : (S j).ownBlock <;> simp)⟩
  refine piece C.mix C.hX C.hs C.hXO C.hG (cp0 M bx a) hI hst (fun v hv => by cases hv) (fun ex d hd m1 a1 w1 hr1 => ?_)
  cases hd
  show wpL Tryd.prog (Code.block (idOf (bodyOf Tryd.f36)) (.loop (roundOf (bodyOf Tryd.f36))) :: postOf (bodyOf Tryd.f36)) _ a1 w1
  simp only [wpL]
  refine wp_block (wp_loop_rounds ((M a).n + 1) ?_)
  refine loop ((M a).n + 1) 0 (.slice none 0 0) (fun _ => undef) a1 w1 ⟨hr1.mr.below, hr1.ar.size, hr1.ar.defers, (hr1.ar.tm 0 rfl).trans (den_xs _ [a]), (hr1.ar.tm 3 rfl).trans (den_val _ _), (hr1.ar.tm 4 rfl).trans (den_val _ _), World.ownsRow_nil _ _ _ _, fun j hj => absurd hj (Nat.not_lt_zero _)⟩ (Nat.zero_le _) (by omega)
end
end Copy
end Go.Proofs.YtaojjpdlfnphiaaDoor.PDescKinds
end
section
/- InvariantBroken: the law runs; what is left is plain. -/
set_option linter.unusedSimpArgs false
set_option linter.unusedVariables false
set_option linter.unusedSectionVars false
namespace Go.Proofs.YtaojjpdlfnphiaaDoor.PDescKinds
open Go.RowKit Go.Ev
def slA : Value → Option Addr
  | .slice A _ _ => A
  | _ => none
def slC : Value → Nat
  | .slice _ _ c => c
  | _ => 0
/-- The same moment, elsewhere. -/
def Twin (mo m : Mo) : Prop := mo.n = m.n ∧ ∃ f : Nat → Option Addr × Nat, mo.g = fun j => { m.g j with A := (f j).1, c := (f j).2 }
theorem own_slice {w : World} {b e z n : Nat} {v : Value} {xs : List Value} (h : w.ownsRow b e z v n xs) : v = .slice (slA v) n (slC v) ∧ (slA v = none → n = 0 ∧ slC v = 0) := by
  rcases h.2 with ⟨rfl, rfl⟩ | ⟨g, cap, cur, rfl, _⟩
  · exact ⟨rfl, fun _ => ⟨rfl, rfl⟩⟩
  · exact ⟨rfl, fun h => by cases h⟩
theorem own_cell {w : World} {b e z n : Nat} {v : Value} {f : Nat → List Value} (hz : ∀ t, (f t).length = z) (h : w.ownsRow b e z v n ((List.range n).flatMap f)) (t : Nat) (ht : t < n) :
    ∃ a, slA v = some a ∧ a.block < w.heap.size ∧ ∀ k u, (f t)[k]? = some u → w.cell? (a.add (t * z + k)) = some u := by
  have hl := h.lt
  have hc := h.cells (g := (v.ownBlock).getD 0)
  rcases h.2 with ⟨_, h0⟩ | ⟨g, cap, cur, rfl, _⟩
  · omega
  · exact ⟨⟨g, 0, none⟩, rfl, (hl g rfl).2, fun k u hk => hc rfl _ _ (flat_in hz n t k u ht hk)⟩
theorem copied_mo {M : Nat → Mo} {a : Nat} {w0 w : World} {v : Value} {S : Nat → Value} (h : Copy.Copied M a w0 v S w) (hr : RawMo w0 (M a)) :
    ∃ mo : Mo, v = .slice mo.A mo.n mo.c ∧ RawMo w mo ∧ Twin mo (M a) := by
  obtain ⟨hb, ho, hrow⟩ := h
  have hr' := hr.below hb
  refine ⟨⟨slA v, (M a).n, slC v, fun j => { (M a).g j with A := if j < (M a).n then slA (S j) else ((M a).g j).A, c := if j < (M a).n then slC (S j) else ((M a).g j).c }⟩, (own_slice ho).1, ?_, rfl, fun j => (if j < (M a).n then slA (S j) else ((M a).g j).A, if j < (M a).n then slC (S j) else ((M a).g j).c), rfl⟩
  refine ⟨fun j hj => ?_, fun j hj => ?_, fun j i hi => ?_⟩
  · simp only at hj ⊢
    by_cases h : j < (M a).n
    · simp only [if_pos h] at hj ⊢
      exact (own_slice (hrow j h)).2 hj
    · simp only [if_neg h] at hj ⊢
      exact hr.nils j hj
  · simp only at hj ⊢
    obtain ⟨ad, h1, h2, h3⟩ := own_cell (fun t => shVals_length _ _) ho j hj
    refine ⟨ad, h1, h2, fun t u ht => h3 t u ?_⟩
    simp only [Sh.row, if_pos hj] at ht
    have e := (own_slice (hrow j hj)).1
    rw [e]
    exact ht
  · simp only at hi ⊢
    by_cases h : j < (M a).n
    · simp only [if_pos h]
      exact own_cell (fun t => Pr.list_length _) (hrow j h) i hi
    · simp only [if_neg h]
      exact hr'.row j i hi
/-! A call of one argument, and its answer in a variable -/
theorem call_region {P : Program} {id : Nat} {ops : Array Oper} {mv cl asg : Oper} {src d1 d2 d3 : Nat} {f : FuncId} {ats : Array TypeId} {va : Value} {a : Act} {w : World} {N : Nat} {R : Ending → World → Prop} {Q : Exit → Act → World → Prop}
    (hops : ops.toList = [mv, cl, asg]) (g1 : mv.guard = none) (g2 : cl.guard = none) (g3 : asg.guard = none) (o1 : mv.op = .move (.tmp src)) (t1 : mv.dst = some d1) (o2 : cl.op = .call { callee := .value (.func f), args := #[.tmp d1], argTypes := ats }) (t2 : cl.dst = some d2)
    (o3 : asg.op = .assign (.tmp d2)) (t3 : asg.dst = some d3) (he : enters P f = true) (hs : a.tmps.size = N) (l1 : d1 < N) (l2 : d2 < N) (hv : a.tmps.getD src undef = va) (hc : Calls P f #[va] w R) (hR : ∀ e w', R e w' → ∃ v, e = .returned v)
    (h : ∀ v w', R (.returned v) w' → Q .normal (((a.put (some d1) va).put (some d2) v).put (some d3) v) w') : (Code.region id ops false).wp P Q a w := by
  refine wp_region_list ?_
  rw [hops]
  refine wpList_plain g1 fun K hK => ?_
  have e1 : a.eval (.tmp src) = va := hv
  have x1 : (execOp a.eval mv).run P w = .ok (.value va) w := by
    unfold execOp
    simp only [o1, e1, Sem.run_pure]
  unfold Oper.wp
  rw [x1, Oper.upon_value, t1]
  refine hK _ _ (wpList_plain g2 fun K hK => ?_)
  have e2 : (a.put (some d1) va).eval (.tmp d1) = va := Copy.put_self a d1 va (by omega)
  have x2 : (execOp (a.put (some d1) va).eval cl).run P w = .ok (.enter f #[va]) w := by
    rw [← run_enters he #[va] w]
    unfold execOp
    have em : (#[Operand.tmp d1] : Array Operand).map (a.put (some d1) va).eval = #[va] := by simp [e2]
    simp only [o2, resolve, em, Act.eval, Deferred.ofValue, Sem.run_bind, Sem.run_pure, Result.andThen_ok, invoke]
    simp
  unfold Oper.wp
  rw [x2, Oper.upon_enter, t2]
  refine Calls.mono hc fun e w' hr => ?_
  obtain ⟨v, rfl⟩ := hR e w' hr
  refine hK _ _ (wpList_plain g3 fun K hK => ?_)
  have e3 : ((a.put (some d1) va).put (some d2) v).eval (.tmp d2) = v := Copy.put_self _ d2 v (by simp [Act.put]; omega)
  have x3 : (execOp ((a.put (some d1) va).put (some d2) v).eval asg).run P w' = .ok (.value v) w' := by
    unfold execOp
    simp only [o3, e3, Sem.run_pure]
  unfold Oper.wp
  rw [x3, Oper.upon_value, t3]
  exact hK _ _ (h v w' hr)
theorem body_mono {P : Program} {fn : Func} {R R' : Ending → World → Prop} (h : ∀ e w, R e w → R' e w) {e : Exit} {a : Act} {w : World} (hb : bodyPost P fn R e a w) : bodyPost P fn R' e a w := by
  cases e with
  | normal => obtain ⟨h1, v, h2, h3⟩ := hb; exact ⟨h1, v, h2, h _ _ h3⟩
  | ret => obtain ⟨h1, v, h2, h3⟩ := hb; exact ⟨h1, v, h2, h _ _ h3⟩
  | panic c => exact ⟨hb.1, h _ _ hb.2⟩
  | outgrown => exact h _ _ hb
  | _ => exact hb
/-! The law -/
def Sh0 : Sh := ⟨0, S.V0, false, none, 0, 0, fun _ => ⟨⟨⟨#[]⟩, 0⟩, S.D0⟩⟩
def Mo0 : Mo := ⟨none, 0, 0, fun _ => Sh0⟩
def moments (m0 m1 m2 m3 : Mo) : Nat → Mo
  | 0 => m0
  | 1 => m1
  | 2 => m2
  | 3 => m3
  | _ => Mo0
theorem raw0 (w : World) : RawMo w Mo0 := ⟨fun _ _ => ⟨rfl, rfl⟩, fun j hj => absurd hj (Nat.not_lt_zero _), fun j i hi => absurd hi (Nat.not_lt_zero _)⟩
theorem raw_moments {w : World} {m0 m1 m2 m3 : Mo} (h0 : RawMo w m0) (h1 : RawMo w m1) (h2 : RawMo w m2) (h3 : RawMo w m3) : ∀ k, RawMo w (moments m0 m1 m2 m3 k)
  | 0 => h0
  | 1 => h1
  | 2 => h2
  | 3 => h3
  | _ + 4 => raw0 w
def Small (m : Mo) : Prop := m.n ≤ 1048576 ∧ ∀ j, (m.g j).n ≤ 1048576
theorem small0 : Small Mo0 := ⟨by decide, fun _ => by show 0 ≤ _; omega⟩
theorem fit_moments {m0 m1 m2 m3 : Mo} (h0 : Small m0) (h1 : Small m1) (h2 : Small m2) (h3 : Small m3) : Fit (moments m0 m1 m2 m3) := by
  have key : ∀ m : Mo, Small m → (m.n : Int) ≤ 9223372036854775807 ∧ ∀ j, ((m.g j).n : Int) ≤ 9223372036854775807 := fun m h => ⟨by have := h.1; omega, fun j => by have := h.2 j; omega⟩
  intro k
  match k with
  | 0 => exact key m0 h0
  | 1 => exact key m1 h1
  | 2 => exact key m2 h2
  | 3 => exact key m3 h3
  | _ + 4 => exact key Mo0 small0
theorem Twin.small {mo m : Mo} (h : Twin mo m) (hs : Small m) : Small mo := by
  obtain ⟨h1, f, h2⟩ := h
  refine ⟨by rw [h1]; exact hs.1, fun j => ?_⟩
  rw [h2]
  exact hs.2 j
namespace Brk
noncomputable def r3 : Code := (bodyOf Tryd.f8).getD 3 .skip
noncomputable def r4 : Code := (bodyOf Tryd.f8).getD 4 .skip
noncomputable def o (c : Code) (k : Nat) : Oper := (opsOf c).toList.getD k default
theorem split8 : bodyOf Tryd.f8 = brkA ++ (.region 3 (opsOf r3) false :: .region 4 (opsOf r4) false :: brkR) := by kernel_rfl
theorem ops3 : (opsOf r3).toList = [o r3 0, o r3 1, o r3 2] := by kernel_rfl
theorem ops4 : (opsOf r4).toList = [o r4 0, o r4 1, o r4 2] := by kernel_rfl
/-- What the plain law must give. -/
structure Plain (m0 m1 m2 m3 : Mo) : Prop where
  broken : S.brokenO m2 m3 = R.broken m0 m1
  same : S.sameC m2 m3 = R.sameM m0 m1
  sealed : ∀ i, i < m2.n → S.sealedC (m2.g i) = R.sealed (m0.g i)
  frozen : ∀ i, i < m2.n → S.frozenC (m2.g i) = R.frozen (m0.g i)
  back0 : R.sameM m2 m0 = true
  back1 : R.sameM m3 m1 = true
set_option maxRecDepth 100000 in
theorem calls {m0 m1 : Mo} {w : World} (ht : Tabs w) (h0 : RawMo w m0) (h1 : RawMo w m1) (s0 : Small m0) (s1 : Small m1) (hplain : ∀ m2 m3, Twin m2 m0 → Twin m3 m1 → Plain m0 m1 m2 m3) :
    Calls Tryd.prog 8 #[.slice m0.A m0.n m0.c, .slice m1.A m1.n m1.c] w (fun e w' => e = .returned (.bool true) ∧ Below w.heap.size w w') := by
  have hI : Inv (moments m0 m1 Mo0 Mo0) noBox w := ⟨ht, xok_raw (raw_moments h0 h1 (raw0 w) (raw0 w))⟩
  have hM := fit_moments s0 s1 small0 small0
  have hfew : ∀ p ∈ ([(35, noMem (onM fun a => LB (S.few (moments m0 m1 Mo0 Mo0 a))))] : TabS), Ent (moments m0 m1 Mo0 Mo0) noBox p := entsS_cons (ent_few35 _ _ hM) entsS_nil
  letI := rowsB (moments m0 m1 Mo0 Mo0) noBox
  have C := ctxB (moments m0 m1 Mo0 Mo0) noBox Bvents5 hfew
  refine calls_of_wp Tryd.func8 (c := Tryd.f8.body.getD .skip) (by kernel_rfl) ?_
  refine wpL_flat _ ?_
  show wpL Tryd.prog (bodyOf Tryd.f8) _ _ _
  rw [split8, wpL_app]
  have hst := start_sound (fn := Tryd.f8) [.xs [0], .xs [1]] (fun x hx => by
    simp only [List.mem_cons, List.not_mem_nil, or_false] at hx
    rcases hx with rfl | rfl <;> exact ok_xs) w (fun _ => 0)
  have hev := brkA_all (moments m0 m1 Mo0 Mo0) noBox
  have hret : ∀ (m' : Nat → Nat) (a' : Act) (w' : World), a'.defers = [] → (results Tryd.f8 a'.tmps).run Tryd.prog w' = .ok ((SV.val (.bool true)).den m') w' → Below w.heap.size w w' → bodyPost Tryd.prog Tryd.f8 (fun e w' => e = .returned (.bool true) ∧ Below w.heap.size w w') .ret a' w' := by
    intro m' a' w' g1 g2 g3
    rw [den_val] at g2
    exact ⟨g1, _, g2, rfl, g3⟩
  cases f0 : S.few (moments m0 m1 Mo0 Mo0 0) with
  | false =>
    rw [f0] at hev
    refine piece C.mix C.hX C.hs C.hXO C.hG hev hI hst (fun v hv => ?_) (fun ex d hd => by cases hd)
    cases hv
    exact hret
  | true =>
  cases f1 : S.few (moments m0 m1 Mo0 Mo0 1) with
  | false =>
    rw [f0, f1] at hev
    refine piece C.mix C.hX C.hs C.hXO C.hG hev hI hst (fun v hv => ?_) (fun ex d hd => by cases hd)
    cases hv
    exact hret
  | true =>
  rw [f0, f1] at hev
  refine piece C.mix C.hX C.hs C.hXO C.hG hev hI hst (fun v hv => by cases hv) (fun ex d hd m' a1 w1 hr1 => ?_)
  cases hd
  simp only [Ex.out, Exit.then, wpL]
  have b1 : Below w.heap.size w w1 := hr1.mr.below
  have hI1 : Inv (moments m0 m1 Mo0 Mo0) noBox w1 := inv_stable _ _ _ _ hI b1
  have hs1 : a1.tmps.size = 91 := hr1.ar.size
  have t0 : a1.tmps.getD 0 undef = .slice m0.A m0.n m0.c := (hr1.ar.tm 0 rfl).trans (den_xs _ [0])
  have t1 : a1.tmps.getD 1 undef = .slice m1.A m1.n m1.c := (hr1.ar.tm 1 rfl).trans (den_xs _ [1])
  -- the first copy
  refine call_region (mv := o r3 0) (cl := o r3 1) (asg := o r3 2) (src := 0) (d1 := 20) (d2 := 21) (d3 := 5) (f := 36) (ats := #[51]) (N := 91) ops3 (by kernel_rfl) (by kernel_rfl) (by kernel_rfl) (by kernel_rfl) (by kernel_rfl) (by kernel_rfl) (by kernel_rfl) (by kernel_rfl) (by kernel_rfl) (by kernel_rfl) hs1 (by decide) (by decide) t0
    (Copy.calls (M := moments m0 m1 Mo0 Mo0) (bx := noBox) (a := 0) hI1 s0.1 s0.2 h0.nils) (fun e w' ⟨v, _, h, _⟩ => ⟨v, h⟩) (fun v2 w2 ⟨v2', S2, e2, c2⟩ => ?_)
  cases e2
  have b2 : Below w.heap.size w w2 := b1.trans (c2.1.mono b1.size)
  obtain ⟨mb, rfl, rb, tb⟩ := copied_mo c2 (h0.below b1)
  have hI2 : Inv (moments m0 m1 Mo0 Mo0) noBox w2 := inv_stable _ _ _ _ hI b2
  generalize ha2 : ((a1.put (some 20) (.slice m0.A m0.n m0.c)).put (some 21) (.slice mb.A mb.n mb.c)).put (some 5) (.slice mb.A mb.n mb.c) = a2
  have hs2 : a2.tmps.size = 91 := by rw [← ha2]; simp [Act.put, hs1]
  have d2 : a2.defers = [] := by rw [← ha2]; exact hr1.ar.defers
  have u0 : a2.tmps.getD 0 undef = .slice m0.A m0.n m0.c := by rw [← ha2, Copy.put_ne _ _ _ _ (by decide), Copy.put_ne _ _ _ _ (by decide), Copy.put_ne _ _ _ _ (by decide)]; exact t0
  have u1 : a2.tmps.getD 1 undef = .slice m1.A m1.n m1.c := by rw [← ha2, Copy.put_ne _ _ _ _ (by decide), Copy.put_ne _ _ _ _ (by decide), Copy.put_ne _ _ _ _ (by decide)]; exact t1
  have u5 : a2.tmps.getD 5 undef = .slice mb.A mb.n mb.c := by rw [← ha2]; exact Copy.put_self _ 5 _ (by simp [Act.put, hs1])
  -- the second
  show (Code.region 4 (opsOf r4) false).wp Tryd.prog _ a2 w2
  refine call_region (mv := o r4 0) (cl := o r4 1) (asg := o r4 2) (src := 1) (d1 := 22) (d2 := 23) (d3 := 6) (f := 36) (ats := #[51]) (N := 91) ops4 (by kernel_rfl) (by kernel_rfl) (by kernel_rfl) (by kernel_rfl) (by kernel_rfl) (by kernel_rfl) (by kernel_rfl) (by kernel_rfl) (by kernel_rfl) (by kernel_rfl) hs2 (by decide) (by decide) u1
    (Copy.calls (M := moments m0 m1 Mo0 Mo0) (bx := noBox) (a := 1) hI2 s1.1 s1.2 h1.nils) (fun e w' ⟨v, _, h, _⟩ => ⟨v, h⟩) (fun v3 w3 ⟨v3', S3, e3, c3⟩ => ?_)
  cases e3
  have b3 : Below w.heap.size w w3 := b2.trans (c3.1.mono b2.size)
  obtain ⟨ma, rfl, ra, ta⟩ := copied_mo c3 (h1.below b2)
  generalize ha3 : ((a2.put (some 22) (.slice m1.A m1.n m1.c)).put (some 23) (.slice ma.A ma.n ma.c)).put (some 6) (.slice ma.A ma.n ma.c) = a3
  have hs3 : a3.tmps.size = 91 := by rw [← ha3]; simp [Act.put, hs2]
  have d3 : a3.defers = [] := by rw [← ha3]; exact d2
  have x0 : a3.tmps.getD 0 undef = .slice m0.A m0.n m0.c := by rw [← ha3, Copy.put_ne _ _ _ _ (by decide), Copy.put_ne _ _ _ _ (by decide), Copy.put_ne _ _ _ _ (by decide)]; exact u0
  have x1 : a3.tmps.getD 1 undef = .slice m1.A m1.n m1.c := by rw [← ha3, Copy.put_ne _ _ _ _ (by decide), Copy.put_ne _ _ _ _ (by decide), Copy.put_ne _ _ _ _ (by decide)]; exact u1
  have x5 : a3.tmps.getD 5 undef = .slice mb.A mb.n mb.c := by rw [← ha3, Copy.put_ne _ _ _ _ (by decide), Copy.put_ne _ _ _ _ (by decide), Copy.put_ne _ _ _ _ (by decide)]; exact u5
  have x6 : a3.tmps.getD 6 undef = .slice ma.A ma.n ma.c := by rw [← ha3]; exact Copy.put_self _ 6 _ (by simp [Act.put, hs2])
  show wpL Tryd.prog brkR _ a3 w3
  have hp := hplain mb ma tb ta
  have hI3 : Inv (moments m0 m1 mb ma) noBox w3 := ⟨tabs_stable _ _ ht b3, xok_raw (raw_moments (h0.below b3) (h1.below b3) (rb.below c3.1) ra)⟩
  have hrun := run_brkR (moments m0 m1 mb ma) noBox (fit_moments s0 s1 (tb.small s0) (ta.small s1)) tb.1 hp.broken hp.same hp.sealed hp.frozen hp.back0 hp.back1
  have hsr : @SR (rowsB (moments m0 m1 mb ma) noBox) w3 91 (fun _ => 0) ((⟨[(0, .xs [0]), (1, .xs [1]), (5, .xs [2]), (6, .xs [3])], []⟩ : Cut).st 0) a3 w3 := by
    letI := rowsB (moments m0 m1 mb ma) noBox
    refine epoch hs3 d3 _ _ (fun p hp => ?_) (fun p hp => ?_)
    · simp only [List.mem_cons, List.not_mem_nil, or_false] at hp
      rcases hp with rfl | rfl | rfl | rfl
      · exact x0.trans (den_xs _ [0]).symm
      · exact x1.trans (den_xs _ [1]).symm
      · exact x5.trans (den_xs _ [2]).symm
      · exact x6.trans (den_xs _ [3]).symm
    · simp only [List.mem_cons, List.not_mem_nil, or_false] at hp
      rcases hp with rfl | rfl | rfl | rfl <;> exact ok_xs
  refine wpL_mono brkR (hrun w3 hI3 _ a3 w3 hsr) fun e a' w' h => body_mono (fun e w' ⟨⟨m', he⟩, g3⟩ => ?_) h
  rw [@den_val (rowsB (moments m0 m1 mb ma) noBox)] at he
  exact ⟨he, b3.trans (g3.mono b3.size)⟩
end Brk
end Go.Proofs.YtaojjpdlfnphiaaDoor.PDescKinds
end
section
/- InvariantBroken, plain: what the program answers of two moments is what the document says. -/
set_option linter.unusedSimpArgs false
set_option linter.unusedVariables false
set_option linter.unusedSectionVars false
namespace Go.Proofs.YtaojjpdlfnphiaaDoor.PDescKinds
open Go.RowKit Go.Ev FloatEq
namespace R
theorem big_eq {a : Nat} (h : a < 18446744073709551616) : big a = decide (infR < rung a) := by
  have e : IntKind.u64.wrap (↑(BitVec.ofInt IntKind.u64.bits (a : Int) &&& ~~~BitVec.ofInt IntKind.u64.bits 9223372036854775808).toNat : Int) = ((a &&& (18446744073709551615 - 9223372036854775808) : Nat) : Int) := by
    have := u64_andNot (a : Int) 9223372036854775808 (by omega) (by omega) (by omega) (by omega)
    exact this
  unfold big
  rw [e, show 18446744073709551615 - 9223372036854775808 = 2 ^ 63 - 1 by decide, Nat.and_two_pow_sub_one_eq_mod]
  refine decide_eq_decide.2 ?_
  unfold infR rung
  omega
theorem bits_eq {a b : Nat} (ha : a < 18446744073709551616) (hb : b < 18446744073709551616) : (a = b) ↔ (sgn a = sgn b ∧ rung a = rung b) := by
  unfold sgn rung
  constructor
  · rintro rfl; exact ⟨rfl, rfl⟩
  · rintro ⟨h1, h2⟩
    have e1 : a / 9223372036854775808 % 2 = b / 9223372036854775808 % 2 := by
      have k1 : a / 9223372036854775808 % 2 = 0 ∨ a / 9223372036854775808 % 2 = 1 := by omega
      have k2 : b / 9223372036854775808 % 2 = 0 ∨ b / 9223372036854775808 % 2 = 1 := by omega
      rcases k1 with k1 | k1 <;> rcases k2 with k2 | k2 <;> rw [k1, k2] at h1 <;> first | (rw [k1, k2]; done) | (exact absurd h1 (by decide))
    omega
theorem nan_big {a : Nat} (h : a < 18446744073709551616) : S.nan a = big a := by
  rw [big_eq h, ← nan_iff]
  rfl
theorem ieq (a b : Nat) : (((a : Nat) : Int) == ((b : Nat) : Int)) = decide (a = b) := by
  by_cases h : a = b
  · subst h; simp
  · have : ¬ (a : Int) = b := by omega
    simp [h, this]
theorem num_eq {a b : Nat} (ha : a < 18446744073709551616) (hb : b < 18446744073709551616) : S.numSame a b = num2 a b := by
  unfold S.numSame num2
  rw [nan_big ha, nan_big hb, ieq, big_eq ha, big_eq hb]
  by_cases h : infR < rung a <;> by_cases h2 : infR < rung b
  · simp [h, h2]
  · have : ¬ a = b := by rintro rfl; exact h2 h
    simp [h, h2, this]
  · have : ¬ a = b := by rintro rfl; exact h h2
    simp [h, h2, this]
  · simp only [decide_eq_false h, decide_eq_false h2, Bool.or_self, cond_false, Bool.and_self, Bool.false_or]
    rw [neg_sgn, neg_sgn]
    by_cases hs : sgn a = sgn b
    · have hf : S.feq a b = decide (rung a = rung b) := feq_same h h2 hs
      rw [hf]
      by_cases hr : rung a = rung b
      · have : a = b := (bits_eq ha hb).2 ⟨hs, hr⟩
        subst this; simp
      · have : ¬ a = b := fun e => hr ((bits_eq ha hb).1 e).2
        simp [hr, this]
    · have : ¬ a = b := fun e => hs ((bits_eq ha hb).1 e).1
      have hs' : (sgn a == sgn b) = false := by simpa using hs
      rw [hs']
      simp [this]
end R
/-! Moments whose numbers are numbers -/
def WfMo (m : Mo) : Prop := ∀ j, (m.g j).p.wf ∧ ∀ i, ((m.g j).g i).d.wf
theorem eqV_eq {a b : V} (ha : a.wf) (hb : b.wf) : S.eqC a b = R.eqR a b := by
  unfold S.eqC R.eqR
  rw [R.num_eq ha hb]
theorem eqD_eq {a b : D} (ha : a.wf) (hb : b.wf) : S.alikeC a b = R.eqDR a b := by
  unfold S.alikeC R.eqDR
  rw [eqV_eq ha.1 hb.1, eqV_eq ha.2.1 hb.2.1, eqV_eq ha.2.2 hb.2.2]
theorem eqR_symm (a b : V) : R.eqR a b = R.eqR b a := by
  unfold R.eqR R.num2
  rw [Bool.beq_comm (a := a.k), Bool.beq_comm (a := a.b), Bool.beq_comm (a := a.s.toList), Bool.beq_comm (a := a.id), Bool.and_comm (R.big a.n), Bool.beq_comm (a := (a.n : Int))]
theorem num2_refl (a : Nat) : R.num2 a a = true := by unfold R.num2; simp
theorem eqR_refl (a : V) : R.eqR a a = true := by unfold R.eqR; simp [num2_refl]
theorem eqDR_refl (a : D) : R.eqDR a a = true := by unfold R.eqDR; simp [eqR_refl]
theorem bytes_refl (a : ByteArray) : (a == a) = true := by
  cases a with | mk d =>
  show ByteArray.beq ⟨d⟩ ⟨d⟩ = true
  unfold ByteArray.beq
  simp
theorem keq_refl (a : K) : S.keq a a = true := by
  unfold S.keq
  rw [bytes_refl]
  simp
/-- A search of which but the finding counts. -/
theorem seek_bool {α : Type} (q : Nat → Bool) (x : α) (n : Nat) : seek (fun i => bif q i then some x else none) n 0 = bif decide (S.idx q n ≥ 0) then some x else none := by
  by_cases h : S.idx q n ≥ 0
  · obtain ⟨j, _, h2, h3⟩ := S.idx_some h
    rw [decide_eq_true h]
    cases hs : seek (fun i => bif q i then some x else none) n 0 with
    | none =>
      have := (S.seek_none n 0).1 hs j (Nat.zero_le _) (by omega)
      rw [h3] at this
      cases this
    | some v =>
      obtain ⟨k, _, _, h4⟩ := S.seek_some n 0 hs
      cases hq : q k with
      | false => rw [hq] at h4; cases h4
      | true => rw [hq] at h4; cases h4; rfl
  · rw [decide_eq_false h]
    have := S.idx_none (p := q) (n := n) (by omega)
    refine (S.seek_none n 0).2 fun j _ hj => ?_
    rw [this j (by omega)]
    rfl
theorem seek_map {α β : Type} (f : α → β) (p : Nat → Option α) : ∀ k i, seek (fun i => (p i).map f) k i = (seek p k i).map f
  | 0, _ => rfl
  | k + 1, i => by
    simp only [seek]
    cases p i with
    | some u => rfl
    | none => exact seek_map f p k (i + 1)
theorem lost_eq {b a : Sh} (hb : ∀ i, (b.g i).d.wf) (ha : ∀ i, (a.g i).d.wf) : R.rule2 b a = bif S.lost b a then some 6 else none := by
  have e : R.rule2 b a = (seek (fun i => bif (b.g i).d.c != 1 || S.find b (b.g i).k != (i : Int) then none else
      bif decide (S.find a (b.g i).k < 0) then some true else
      bif S.okK (b.g i).d (a.g (S.find a (b.g i).k).toNat).d then (bif S.keeps (b.g i).d (a.g (S.find a (b.g i).k).toNat).d then none else some true) else some true) b.n 0).map fun _ => 6 := by
    unfold R.rule2
    rw [← seek_map]
    refine S.seek_congr _ _ fun i _ _ => ?_
    rw [Bool.or_comm]
    cases ((b.g i).d.c != 1 || S.find b (b.g i).k != (i : Int)) with
    | true => rfl
    | false =>
      simp only [cond_false]
      cases decide (S.find a (b.g i).k < 0) with
      | true => rfl
      | false =>
        simp only [cond_false]
        have w1 := hb i
        have w2 := ha (S.find a (b.g i).k).toNat
        rw [R.okK_eq w1 w2]
        cases ho : S.okK (b.g i).d (a.g (S.find a (b.g i).k).toNat).d with
        | false => rfl
        | true =>
          simp only [cond_true]
          rw [R.keeps_eq w1 w2 ho]
          cases R.keeps (b.g i).d (a.g (S.find a (b.g i).k).toNat).d <;> rfl
  rw [e]
  unfold S.lost
  cases hs : seek _ b.n 0 with
  | none => rfl
  | some u =>
    obtain ⟨j, _, _, h3⟩ := S.seek_some b.n 0 hs
    have hu : u = true := by
      revert h3
      cases ((b.g j).d.c != 1 || S.find b (b.g j).k != (j : Int)) <;> cases decide (S.find a (b.g j).k < 0) <;> cases S.okK (b.g j).d (a.g (S.find a (b.g j).k).toNat).d <;> cases S.keeps (b.g j).d (a.g (S.find a (b.g j).k).toNat).d <;>
        simp only [cond_true, cond_false] <;> intro h <;> cases h <;> rfl
    subst hu
    rfl
theorem rule_eq {b a : Sh} (hb : b.p.wf) (ha : a.p.wf) (hbd : ∀ i, (b.g i).d.wf) (had : ∀ i, (a.g i).d.wf) : R.rule b a = (S.ruleO b a).getD 0 := by
  unfold R.rule S.ruleO
  rw [lost_eq hbd had, seek_bool (fun i => decide (S.find b (a.g i).k < 0)) (5 : Int) a.n, eqV_eq ha hb, eqR_symm a.p b.p, bne_comm (a := a.cl)]
  have hf : S.idx (fun i => decide (S.find b (a.g i).k < 0)) a.n = S.freshAt b a := rfl
  rw [hf]
  cases b.cl != a.cl <;> cases b.x <;> cases a.x <;> cases R.eqR b.p a.p <;> cases decide (S.freshAt b a ≥ 0) <;> cases S.lost b a <;> rfl
theorem ruleO_ne {b a : Sh} {r : Int} (h : S.ruleO b a = some r) : (r != 0) = true := by
  revert h
  unfold S.ruleO
  cases a.cl != b.cl <;> cases !b.x && a.x <;> cases !b.x && !S.eqC a.p b.p <;> cases !b.x && decide (S.freshAt b a ≥ 0) <;> cases S.lost b a <;> simp only [cond_true, cond_false] <;> intro h <;> cases h <;> rfl
theorem broken_eq {b a : Mo} (hb : WfMo b) (ha : WfMo a) : S.brokenO b a = R.broken b a := by
  unfold S.brokenO R.broken
  congr 1
  refine S.seek_congr _ _ fun i _ _ => ?_
  cases decide ((i : Int) ≥ (a.n : Int)) with
  | true => rfl
  | false =>
    simp only [cond_false]
    rw [rule_eq (hb i).1 (ha i).1 (hb i).2 (ha i).2]
    cases hr : S.ruleO (b.g i) (a.g i) with
    | none => rfl
    | some r =>
      simp only [Option.map_some, Option.getD_some, ruleO_ne hr, cond_true]
theorem sameSh_eq {a b : Sh} (ha : a.p.wf) (hb : b.p.wf) (had : ∀ i, (a.g i).d.wf) (hbd : ∀ i, (b.g i).d.wf) : S.sameSh a b = R.sameSh a b := by
  unfold S.sameSh R.sameSh S.sameP
  rw [eqV_eq ha hb]
  have e : seek (fun i => bif S.keq (a.g i).k (b.g i).k && S.alikeC (a.g i).d (b.g i).d then none else some false) a.n 0 = seek (fun i => bif !S.keq (a.g i).k (b.g i).k || !R.eqDR (a.g i).d (b.g i).d then some false else none) a.n 0 := by
    refine S.seek_congr _ _ fun i _ _ => ?_
    rw [eqD_eq (had i) (hbd i)]
    cases S.keq (a.g i).k (b.g i).k <;> cases R.eqDR (a.g i).d (b.g i).d <;> rfl
  rw [e]
  have h1 : (a.cl != b.cl) = !(a.cl == b.cl) := rfl
  rw [h1]
  cases a.cl == b.cl <;> cases R.eqR a.p b.p <;> cases a.x == b.x <;> cases (a.n : Int) != (b.n : Int) <;> simp
theorem same_eq {a b : Mo} (ha : WfMo a) (hb : WfMo b) : S.sameC a b = R.sameM a b := by
  unfold S.sameC R.sameM
  have e : seek (fun i => bif S.sameSh (a.g i) (b.g i) then none else some false) a.n 0 = seek (fun i => bif !R.sameSh (a.g i) (b.g i) then some false else none) a.n 0 := by
    refine S.seek_congr _ _ fun i _ _ => ?_
    rw [sameSh_eq (ha i).1 (hb i).1 (ha i).2 (hb i).2]
    cases R.sameSh (a.g i) (b.g i) <;> rfl
  rw [e]
theorem sealed_eq (s : Sh) : S.sealedC s = R.sealed s := by
  unfold S.sealedC R.sealed
  rw [seek_bool (fun i => (s.g i).d.c != 1) false s.n]
  have : S.idx (fun i => (s.g i).d.c != 1) s.n = S.confAt s := rfl
  rw [this]
  cases s.x <;> cases decide (S.confAt s ≥ 0) <;> rfl
theorem frozen_eq (s : Sh) : S.frozenC s = R.frozen s := by
  unfold S.frozenC R.frozen
  rw [seek_bool (fun i => !S.there (s.g i).d.g && (!S.there (s.g i).d.t && (s.g i).d.w != 1)) false s.n, sealed_eq]
  have : S.idx (fun i => !S.there (s.g i).d.g && (!S.there (s.g i).d.t && (s.g i).d.w != 1)) s.n = S.thawAt s := by
    unfold S.thawAt
    refine S.idx_congr fun i _ => ?_
    unfold S.there
    simp only [bne, Bool.not_not]
  rw [this]
  cases R.sealed s <;> cases decide (S.thawAt s ≥ 0) <;> rfl
theorem sameSh_refl (s : Sh) : R.sameSh s s = true := by
  unfold R.sameSh
  have e : seek (fun i => bif !S.keq (s.g i).k (s.g i).k || !R.eqDR (s.g i).d (s.g i).d then some false else none) s.n 0 = none := by
    refine (S.seek_none _ _).2 fun j _ _ => ?_
    rw [keq_refl, eqDR_refl]
    rfl
  rw [e, eqR_refl]
  simp
theorem sameM_refl (m : Mo) : R.sameM m m = true := by
  unfold R.sameM
  have e : seek (fun i => bif !R.sameSh (m.g i) (m.g i) then some false else none) m.n 0 = none := by
    refine (S.seek_none _ _).2 fun j _ _ => ?_
    rw [sameSh_refl]
    rfl
  rw [e]
  simp
theorem plain {m0 m1 m2 m3 : Mo} (w0 : WfMo m0) (w1 : WfMo m1) (t2 : Twin m2 m0) (t3 : Twin m3 m1) : Brk.Plain m0 m1 m2 m3 := by
  obtain ⟨A2, n2, c2, g2⟩ := m2
  obtain ⟨A3, n3, c3, g3⟩ := m3
  obtain ⟨h2, f2, e2⟩ := t2
  obtain ⟨h3, f3, e3⟩ := t3
  simp only at h2 e2 h3 e3
  subst h2 e2 h3 e3
  exact ⟨broken_eq (b := m0) (a := m1) w0 w1, same_eq (a := m0) (b := m1) w0 w1, fun i _ => sealed_eq (m0.g i), fun i _ => frozen_eq (m0.g i), sameM_refl m0, sameM_refl m1⟩
end Go.Proofs.YtaojjpdlfnphiaaDoor.PDescKinds
end
section
/- Moments that come in: what they read as. -/
set_option linter.unusedSimpArgs false
set_option linter.unusedVariables false
set_option linter.unusedSectionVars false
namespace Go.Proofs.YtaojjpdlfnphiaaDoor.PDescKinds
open Go.ChangeShapes Go.WideShapes Go.ChangeAt Go.RowKit
section
variable {H : Type}
theorem bulk_pos (d : DataW H) : 1 ≤ Rows.uptoBulk d := by
  cases d with
  | lit l => cases l <;> simp [Rows.uptoBulk]
  | _ => simp [Rows.uptoBulk]
theorem bulk_mem {d : DataW H} : ∀ {l : List (DataW H)}, d ∈ l → Rows.uptoBulk d ≤ Rows.uptoBulkAll l
  | x :: r, h => by
    simp only [Rows.uptoBulkAll]
    rcases List.mem_cons.1 h with rfl | h
    · omega
    · have := bulk_mem h
      omega
theorem bulk_len : ∀ (l : List (DataW H)), l.length ≤ Rows.uptoBulkAll l
  | [] => Nat.zero_le _
  | x :: r => by
    simp only [Rows.uptoBulkAll, List.length_cons]
    have := bulk_len r
    have := bulk_pos x
    omega
end
theorem cells58 : Tryd.prog.cellsOf 58 = 1 := by kernel_rfl
theorem cells60 : Tryd.prog.cellsOf 60 = 8 := by kernel_rfl
theorem cells64 : Tryd.prog.cellsOf 64 = 2 := by kernel_rfl
theorem cells66 : Tryd.prog.cellsOf 66 = 20 := by kernel_rfl
def Pr0 : Pr := ⟨⟨⟨#[]⟩, 0⟩, S.D0⟩
theorem wf0 : S.D0.wf := ⟨by show 0 < _; omega, by show 0 < _; omega, by show 0 < _; omega⟩
section
variable {H : Type} {enc : TypeId × Value → H} {w : World} {base : Nat} {spare : Nat → Bool} {held : Bool} {fuel : Nat} {cs : List Value} {x : DataW H × List MemPlace}
set_option maxRecDepth 100000 in
theorem read_K (h : DataW.trod enc Tryd.prog w base spare held fuel 64 cs = some x) : ∃ k : K, cs = [.string k.s, .int .i64 k.n] := by
  obtain ⟨xs, n, _, _, hl, hn, hf⟩ := DataW.trod_struct Tryd.underlying64 h
  rw [cells64] at hl
  match cs, hl, xs, hn with
  | [c0, c1], _, [y0, y1], _ =>
    have h0 := hf 0 ⟨"Str", 9, 0, false, "", "", 0⟩ rfl
    have h1 := hf 1 ⟨"Sym", 3, 1, false, "", "", 16⟩ rfl
    simp only [cells3, cells9, List.drop_succ_cons, List.drop_zero, List.take_succ_cons, List.take_zero] at h0 h1
    obtain ⟨v0, e0, _⟩ := read_string Tryd.underlying9 h0
    obtain ⟨v1, e1⟩ := read_int Tryd.underlying3 h1
    cases e0; cases e1
    exact ⟨⟨v0, v1⟩, rfl⟩
set_option maxRecDepth 100000 in
theorem read_Pr (h : DataW.trod enc Tryd.prog w base spare held fuel 66 cs = some x) : ∃ q : Pr, cs = q.list ∧ q.d.wf := by
  obtain ⟨xs, n, _, _, hl, hn, hf⟩ := DataW.trod_struct Tryd.underlying66 h
  rw [cells66] at hl
  match cs, hl, xs, hn with
  | c0 :: c1 :: r, hl, [y0, y1], _ =>
    have h0 := hf 0 ⟨"Key", 64, 0, false, "", "", 0⟩ rfl
    have h1 := hf 1 ⟨"Desc", 27, 2, false, "", "", 24⟩ rfl
    simp only [cells64, cells27, List.drop_succ_cons, List.drop_zero, List.take_succ_cons, List.take_zero] at h0 h1
    have hr : r.length = 18 := by simpa using hl
    rw [List.take_of_length_le (by omega)] at h1
    obtain ⟨k, e0⟩ := read_K h0
    obtain ⟨d, e1, w1⟩ := read_D h1
    cases e0; subst e1
    exact ⟨⟨k, d⟩, rfl, w1⟩
/-- The properties of a shape, as the world has them. -/
def RawPs (w : World) (A : Option Addr) (n : Nat) (g : Nat → Pr) : Prop := ∀ i, i < n → ∃ a, A = some a ∧ a.block < w.heap.size ∧ ∀ t v, (g i).list[t]? = some v → w.cell? (a.add (i * 20 + t)) = some v
set_option maxRecDepth 100000 in
theorem read_Ps (h : DataW.trod enc Tryd.prog w base spare held fuel 58 cs = some x) :
    ∃ (A : Option Addr) (n c : Nat) (g : Nat → Pr), cs = [.slice A n c] ∧ n ≤ Rows.uptoBulk x.1 ∧ (A = none → n = 0 ∧ c = 0) ∧ RawPs w A n g ∧ ∀ i, (g i).d.wf := by
  rcases DataW.trod_slice Tryd.underlying58 h with ⟨rfl, _⟩ | ⟨a', len, cap, elems, rest, n, rfl, rfl, rfl, hb, hlc, hcm, hel, hall, _, _⟩
  · exact ⟨none, 0, 0, fun _ => Pr0, rfl, Nat.zero_le _, fun _ => ⟨rfl, rfl⟩, fun i hi => absurd hi (Nat.not_lt_zero _), fun _ => wf0⟩
  · have key : ∀ j, ∃ z : Pr, z.d.wf ∧ (j < len → a'.block < w.heap.size ∧ ∀ k v, z.list[k]? = some v → w.cell? (a'.add (j * 20 + k)) = some v) := by
      intro j
      by_cases hj : j < len
      · have h1 := hall j hj
        have hj' : j < elems.length := by rw [hel]; exact hj
        obtain ⟨e, he⟩ : ∃ e, elems[j]? = some e := ⟨elems[j]'hj', List.getElem?_eq_getElem hj'⟩
        rw [he, cells66] at h1
        obtain ⟨cs, hcs, htr⟩ := Option.bind_eq_some_iff.1 h1
        obtain ⟨z, rfl, hz⟩ := read_Pr htr
        refine ⟨z, hz, fun _ => ⟨add_block a' (j * 20) ▸ World.cells?_block hcs (Nat.zero_lt_succ 19), fun k v hk => ?_⟩⟩
        obtain ⟨_, hl, hce⟩ := World.cells?_some hcs
        have hk20 : k < 20 := by
          rw [← hl]
          exact (List.getElem?_eq_some_iff.1 hk).1
        have := hce k hk20
        rw [hk, Go.Ev.add_add] at this
        exact this
      · exact ⟨Pr0, wf0, fun h => absurd h hj⟩
    obtain ⟨g, hg⟩ := Classical.axiomOfChoice key
    refine ⟨some a', len, cap, g, rfl, ?_, fun h => (by cases h), fun i hi => ?_, fun i => (hg i).1⟩
    · simp only [Rows.uptoBulk]
      have := bulk_len (elems.map (·.1))
      rw [List.length_map, hel] at this
      omega
    · obtain ⟨hbl, hgc⟩ := (hg i).2 hi
      exact ⟨a', rfl, hbl, hgc⟩
/-- A shape as the world has it. -/
structure RawSh (w : World) (s : Sh) : Prop where
  nils : s.A = none → s.n = 0 ∧ s.c = 0
  row : RawPs w s.A s.n s.g
  wfp : s.p.wf
  wfd : ∀ i, (s.g i).d.wf
set_option maxRecDepth 100000 in
theorem read_Sh (h : DataW.trod enc Tryd.prog w base spare held fuel 60 cs = some x) : ∃ s : Sh, cs = shVals s s.row ∧ s.n ≤ Rows.uptoBulk x.1 ∧ RawSh w s := by
  obtain ⟨xs, n, _, hx, hl, hn, hf⟩ := DataW.trod_struct Tryd.underlying60 h
  rw [cells60] at hl
  match cs, hl, xs, hn with
  | [c0, c1, c2, c3, c4, c5, c6, c7], _, [y0, y1, y2, y3], _ =>
    have h0 := hf 0 ⟨"Class", 3, 0, false, "", "", 0⟩ rfl
    have h1 := hf 1 ⟨"Proto", 24, 1, false, "", "", 8⟩ rfl
    have h2 := hf 2 ⟨"Extensible", 4, 6, false, "", "", 56⟩ rfl
    have h3 := hf 3 ⟨"Props", 58, 7, false, "", "", 64⟩ rfl
    simp only [cells3, cells4, cells24, cells58, List.drop_succ_cons, List.drop_zero, List.take_succ_cons, List.take_zero] at h0 h1 h2 h3
    obtain ⟨v0, e0⟩ := read_int Tryd.underlying3 h0
    obtain ⟨v1, e1, w1⟩ := read_V h1
    obtain ⟨v2, e2⟩ := read_bool Tryd.underlying4 h2
    obtain ⟨A, m, c, g, e3, hb, hnil, hrow, hwf⟩ := read_Ps (x := y3) h3
    unfold V.list at e1
    cases e0; cases e1; cases e2; cases e3
    refine ⟨⟨v0, v1, v2, A, m, c, g⟩, rfl, ?_, hnil, hrow, w1, hwf⟩
    subst hx
    simp only [Rows.uptoBulk, List.map_cons, List.map_nil, Rows.uptoBulkAll]
    omega
theorem rawSh0 : RawSh w Sh0 := ⟨fun _ => ⟨rfl, rfl⟩, fun i hi => absurd hi (Nat.not_lt_zero _), by show 0 < _; omega, fun _ => wf0⟩
set_option maxRecDepth 100000 in
/-- A moment that came in. -/
theorem open_M {v : Value} {base' : Nat} {d : DataW H} {p : List MemPlace} (hv : Value.okWide Tryd.prog w .any base' 51 v) (h : DataW.Trod enc Tryd.prog w base spare held 51 v d p) (hs : Rows.uptoBulk d ≤ 1048576) :
    ∃ m : Mo, v = .slice m.A m.n m.c ∧ RawMo w m ∧ Small m ∧ WfMo m := by
  obtain ⟨a, len, cap, rfl⟩ := okWide_slice Tryd.underlying51 hv
  obtain ⟨f, hf⟩ := h
  rcases DataW.trod_slice Tryd.underlying51 hf with ⟨hc, _⟩ | ⟨a', len', cap', elems, rest, n, rfl, hc, hd, hb, hlc, hcm, hel, hall, _, _⟩
  · simp only [Value.cells, List.cons.injEq, Value.slice.injEq, and_true] at hc
    obtain ⟨rfl, rfl, rfl⟩ := hc
    exact ⟨Mo0, rfl, raw0 w, small0, fun j => ⟨rawSh0 (w := w).wfp, fun _ => wf0⟩⟩
  · simp only [Value.cells, List.cons.injEq, Value.slice.injEq, and_true] at hc
    obtain ⟨rfl, rfl, rfl⟩ := hc
    have hd1 : d = .slice (elems.map (·.1)) (rest.map (·.1)) := congrArg Prod.fst hd
    have hbulk : Rows.uptoBulkAll (elems.map (·.1)) ≤ 1048576 := by
      rw [hd1] at hs
      simp only [Rows.uptoBulk] at hs
      omega
    have key : ∀ j, ∃ z : Sh, (RawSh w z ∧ z.n ≤ 1048576) ∧ (j < len → a'.block < w.heap.size ∧ ∀ k v, (shVals z z.row)[k]? = some v → w.cell? (a'.add (j * 8 + k)) = some v) := by
      intro j
      by_cases hj : j < len
      · have h1 := hall j hj
        have hj' : j < elems.length := by rw [hel]; exact hj
        obtain ⟨e, he⟩ : ∃ e, elems[j]? = some e := ⟨elems[j]'hj', List.getElem?_eq_getElem hj'⟩
        rw [he, cells60] at h1
        obtain ⟨cs, hcs, htr⟩ := Option.bind_eq_some_iff.1 h1
        obtain ⟨z, rfl, hzn, hz⟩ := read_Sh htr
        have hm : Rows.uptoBulk e.1 ≤ Rows.uptoBulkAll (elems.map (·.1)) := bulk_mem (List.mem_map.2 ⟨e, List.mem_of_getElem? he, rfl⟩)
        refine ⟨z, ⟨hz, by omega⟩, fun _ => ⟨add_block a' (j * 8) ▸ World.cells?_block hcs (Nat.zero_lt_succ 7), fun k v hk => ?_⟩⟩
        obtain ⟨_, hl, hce⟩ := World.cells?_some hcs
        have hk8 : k < 8 := by
          rw [← hl]
          exact (List.getElem?_eq_some_iff.1 hk).1
        have := hce k hk8
        rw [hk, Go.Ev.add_add] at this
        exact this
      · exact ⟨Sh0, ⟨rawSh0, by decide⟩, fun h => absurd h hj⟩
    obtain ⟨g, hg⟩ := Classical.axiomOfChoice key
    refine ⟨⟨some a', len, cap, g⟩, rfl, ⟨fun j => (hg j).1.1.nils, fun j hj => ?_, fun j i hi => (hg j).1.1.row i hi⟩, ⟨?_, fun j => (hg j).1.2⟩, fun j => ⟨(hg j).1.1.wfp, (hg j).1.1.wfd⟩⟩
    · obtain ⟨hbl, hgc⟩ := (hg j).2 hj
      exact ⟨a', rfl, hbl, hgc⟩
    · have := bulk_len (elems.map (·.1))
      rw [List.length_map, hel] at this
      show len ≤ _
      omega
end
end Go.Proofs.YtaojjpdlfnphiaaDoor.PDescKinds
end
