/-
  The plain law of InvariantDiffs, first part: rounds that are enough, and the small functions' answers.
-/
import Derived.Test.YtaojjpdlfnphiaaDOpen
import Derived.Test.YtaojjpdlfnphiaaDFloatEq
import Derived.Test.YtaojjpdlfnphiaaTInvariantDiffsx10
namespace Go.Proofs.Ytaojjpdlfnphiaa.Pure
open Go.RowKit Go.Proofs.YtaojjpdlfnphiaaW.PrintWords Go.Proofs.Ytaojjpdlfnphiaa.PInvariantDiffs Go.Proofs.Ytaojjpdlfnphiaa.opens Go.Proofs.YtaojjpdlfnphiaaW.FloatEq
set_option linter.unusedVariables false
set_option linter.unusedSimpArgs false

/-- With rounds enough the answer is v. -/
def Ev {α : Type} (g : Nat → Option α) (v : α) : Prop := ∃ k0, ∀ k, k0 ≤ k → g k = some v
section
variable {α β : Type} {g g' b : Nat → Option α} {v : α}
theorem Ev.val (h : ∀ k, g k = some v) : Ev g v := ⟨0, fun k _ => h k⟩
theorem Ev.succ (hb : Ev b v) (h : ∀ k, g (k + 1) = b k) : Ev g v := by
  obtain ⟨k0, hk⟩ := hb
  refine ⟨k0 + 1, fun k hk1 => ?_⟩
  obtain ⟨j, rfl⟩ : ∃ j, k = j + 1 := ⟨k - 1, by omega⟩
  rw [h]
  exact hk j (by omega)
theorem Ev.congr (hb : Ev b v) (h : ∀ k, g k = b k) : Ev g v := by
  obtain ⟨k0, hk⟩ := hb
  exact ⟨k0, fun k hk1 => (h k).trans (hk k hk1)⟩
theorem Ev.bind {f : Nat → Option β} {u : β} {c : Nat → β → Option α} (hf : Ev f u) (hc : Ev (fun k => c k u) v) : Ev (fun k => (f k).bind (c k)) v := by
  obtain ⟨k0, h0⟩ := hf
  obtain ⟨k1, h1⟩ := hc
  refine ⟨max k0 k1, fun k hk => ?_⟩
  show (f k).bind (c k) = some v
  rw [h0 k (by omega), Option.bind_some]
  exact h1 k (by omega)
theorem Ev.same {u : α} (h : Ev g u) (e : u = v) : Ev g v := e ▸ h
end
theorem w64 {n : Int} (h0 : 0 ≤ n) (h1 : n < 9223372036854775808) : wrap64 n = n := by unfold wrap64; omega
theorem w1 (n : Nat) (h : n < 4611686018427387904) : wrap64 ((n : Int) + 1) = ((n + 1 : Nat) : Int) := by rw [w64 (by omega) (by omega)]; omega

/-! ### numbers -/
def sm (a b : Nat) : Bool := if infR < rung a then (if infR < rung b then true else decide (a = b)) else decide (a = b)
theorem size_eq (a : Nat) (h : a < 2 ^ 64) : cameoref02_size.f a = some ((rung a : Nat) : Int) := by
  unfold cameoref02_size.f
  rw [u64_andNot (a : Int) 9223372036854775808 (by omega) (by omega) (by omega) (by omega)]
  congr 2
  rw [show ((a : Int).toNat) = a by omega, show (18446744073709551615 - (9223372036854775808 : Int).toNat) = 2 ^ 63 - 1 by decide, Nat.and_two_pow_sub_one_eq_mod]
  rfl
theorem nan_eq (a : Nat) (h : a < 2 ^ 64) : cameoref02_nan.f a = some (decide (infR < rung a)) := by
  unfold cameoref02_nan.f
  rw [size_eq a h, Option.bind_some]
  congr 1
  refine decide_eq_decide.2 ?_
  unfold infR
  omega
theorem ieq (a b : Nat) : (((a : Nat) : Int) == ((b : Nat) : Int)) = decide (a = b) := by
  by_cases h : a = b
  · subst h; simp
  · have : ¬ (a : Int) = b := by omega
    simp [h, this]
theorem ref_same (a b : Nat) (ha : a < 2 ^ 64) (hb : b < 2 ^ 64) : cameoref02_Same.f a b = some (sm a b) := by
  unfold cameoref02_Same.f sm
  rw [nan_eq a ha, nan_eq b hb]
  by_cases h : infR < rung a <;> by_cases h2 : infR < rung b <;> simp [h, h2, ieq]
theorem bits_eq {a b : Nat} (ha : a < 2 ^ 64) (hb : b < 2 ^ 64) : (a = b) ↔ (sgn a = sgn b ∧ rung a = rung b) := by
  unfold sgn rung
  constructor
  · rintro rfl; exact ⟨rfl, rfl⟩
  · rintro ⟨h1, h2⟩
    have e1 : a / 9223372036854775808 % 2 = b / 9223372036854775808 % 2 := by
      have k1 : a / 9223372036854775808 % 2 = 0 ∨ a / 9223372036854775808 % 2 = 1 := by omega
      have k2 : b / 9223372036854775808 % 2 = 0 ∨ b / 9223372036854775808 % 2 = 1 := by omega
      rcases k1 with k1 | k1 <;> rcases k2 with k2 | k2 <;> rw [k1, k2] at h1 <;> first | (rw [k1, k2]; done) | (exact absurd h1 (by decide))
    omega
theorem sgn_eq (a : Nat) (h : a < 2 ^ 64) : math_Signbit.f a = some (sgn a) := by
  show some (decide (wrap64 (a : Int) < 0)) = some (a / 9223372036854775808 % 2 == 1)
  unfold wrap64
  rw [Option.some.injEq]
  have k1 : a / 9223372036854775808 = 0 ∨ a / 9223372036854775808 = 1 := by omega
  rcases k1 with k1 | k1 <;> rw [k1]
  · exact decide_eq_false (by omega)
  · exact decide_eq_true (by omega)
theorem num_same (a b : Nat) (ha : a < 2 ^ 64) (hb : b < 2 ^ 64) : Ev (fun k => number_Same.f k a b) (sm a b) := by
  refine Ev.succ (b := fun _ => some (sm a b)) (Ev.val fun _ => rfl) fun k => ?_
  simp only [number_Same.f, math_IsNaN.f, nan_iff, number_Same.j0, Option.bind_some, sgn_eq a ha, sgn_eq b hb, decide_eq_true_eq]
  unfold sm
  by_cases h : infR < rung a <;> by_cases h2 : infR < rung b
  · simp [h, h2]
  · have : ¬ a = b := by rintro rfl; exact h2 h
    simp [h, h2, this]
  · have : ¬ a = b := by rintro rfl; exact h h2
    simp [h, h2, this]
  · simp only [h, h2, if_false, Bool.false_eq_true]
    by_cases hs : sgn a = sgn b
    · rw [feq_same h h2 hs]
      by_cases hr : rung a = rung b
      · have : a = b := (bits_eq ha hb).2 ⟨hs, hr⟩
        subst this; simp
      · have : ¬ a = b := fun e => hr ((bits_eq ha hb).1 e).2
        simp [hr, this]
    · have : ¬ a = b := fun e => hs ((bits_eq ha hb).1 e).1
      have hs' : (sgn a == sgn b) = false := by simpa using hs
      rw [hs']
      simp [this]
theorem sm_refl (a : Nat) : sm a a = true := by unfold sm; simp
theorem sm_comm (a b : Nat) : sm a b = sm b a := by
  unfold sm
  have e : decide (a = b) = decide (b = a) := decide_eq_decide.2 ⟨Eq.symm, Eq.symm⟩
  by_cases h : infR < rung a <;> by_cases h2 : infR < rung b <;> simp [h, h2, e]

/-! ### values, descriptors -/
def eqV (x y : S28) : Bool := if x.f0 = y.f0 then (if (x.f1 == y.f1) = true then (if x.f3.toList = y.f3.toList then (if x.f4 = y.f4 then sm x.f2 y.f2 else false) else false) else false) else false
theorem eqV_refl (x : S28) : eqV x x = true := by unfold eqV; simp [sm_refl]
theorem eqV_comm (x y : S28) : eqV x y = eqV y x := by
  unfold eqV
  rw [sm_comm x.f2 y.f2, show (x.f1 == y.f1) = (y.f1 == x.f1) from Bool.beq_comm]
  simp only [eq_comm (a := x.f0), eq_comm (a := x.f3.toList), eq_comm (a := x.f4)]
theorem ref_Eq (x y : S28) (hx : wf28 x) (hy : wf28 y) : cameoref10_Eq.f x.f0 x.f1 x.f2 x.f3 x.f4 y.f0 y.f1 y.f2 y.f3 y.f4 = some (eqV x y) := by
  unfold cameoref10_Eq.f eqV
  rw [ref_same _ _ hx hy]
  simp only [Option.bind_some]
  split <;> (try split) <;> (try split) <;> (try split) <;> rfl
theorem inv_same (x y : S28) (hx : wf28 x) (hy : wf28 y) : Ev (fun k => invariant_same.f k x.f0 x.f1 x.f2 x.f3 x.f4 y.f0 y.f1 y.f2 y.f3 y.f4) (eqV x y) := by
  obtain ⟨k0, h0⟩ := num_same _ _ hx hy
  refine ⟨k0, fun k hk => ?_⟩
  unfold invariant_same.f eqV
  dsimp only at h0 ⊢
  rw [h0 k hk]
  simp only [Option.bind_some]
  split <;> (try split) <;> (try split) <;> (try split) <;> rfl
def eqD (x y : S33) : Bool := eqV x.f0 y.f0 && (eqV x.f1 y.f1 && (eqV x.f2 y.f2 && (decide (x.f3 = y.f3) && (decide (x.f4 = y.f4) && decide (x.f5 = y.f5)))))
theorem eqD_refl (x : S33) : eqD x x = true := by unfold eqD; simp [eqV_refl]
theorem eqD_comm (x y : S33) : eqD x y = eqD y x := by
  unfold eqD
  rw [eqV_comm x.f0, eqV_comm x.f1, eqV_comm x.f2]
  simp only [eq_comm (a := x.f3), eq_comm (a := x.f4), eq_comm (a := x.f5)]
theorem int_beq (a b : Int) : (a == b) = decide (a = b) := by by_cases h : a = b <;> simp [h]
theorem ref_EqDesc (x y : S33) (hx : wf33 x) (hy : wf33 y) : cameoref10_EqDesc.f x.f0.f0 x.f0.f1 x.f0.f2 x.f0.f3 x.f0.f4 x.f1.f0 x.f1.f1 x.f1.f2 x.f1.f3 x.f1.f4 x.f2.f0 x.f2.f1 x.f2.f2 x.f2.f3 x.f2.f4 x.f3 x.f4 x.f5
    y.f0.f0 y.f0.f1 y.f0.f2 y.f0.f3 y.f0.f4 y.f1.f0 y.f1.f1 y.f1.f2 y.f1.f3 y.f1.f4 y.f2.f0 y.f2.f1 y.f2.f2 y.f2.f3 y.f2.f4 y.f3 y.f4 y.f5 = some (eqD x y) := by
  unfold cameoref10_EqDesc.f eqD
  rw [ref_Eq _ _ hx.1 hy.1, ref_Eq _ _ hx.2.1 hy.2.1, ref_Eq _ _ hx.2.2 hy.2.2]
  simp only [Option.bind_some, int_beq]
  cases eqV x.f0 y.f0 <;> cases eqV x.f1 y.f1 <;> cases eqV x.f2 y.f2 <;> by_cases h3 : x.f3 = y.f3 <;> by_cases h4 : x.f4 = y.f4 <;> simp [h3, h4]
theorem inv_alike (x y : S33) (hx : wf33 x) (hy : wf33 y) : Ev (fun k => invariant_alike.f k x.f0.f0 x.f0.f1 x.f0.f2 x.f0.f3 x.f0.f4 x.f1.f0 x.f1.f1 x.f1.f2 x.f1.f3 x.f1.f4 x.f2.f0 x.f2.f1 x.f2.f2 x.f2.f3 x.f2.f4 x.f3 x.f4 x.f5
    y.f0.f0 y.f0.f1 y.f0.f2 y.f0.f3 y.f0.f4 y.f1.f0 y.f1.f1 y.f1.f2 y.f1.f3 y.f1.f4 y.f2.f0 y.f2.f1 y.f2.f2 y.f2.f3 y.f2.f4 y.f3 y.f4 y.f5) (eqD x y) := by
  obtain ⟨k0, h0⟩ := inv_same _ _ hx.1 hy.1
  obtain ⟨k1, h1⟩ := inv_same _ _ hx.2.1 hy.2.1
  obtain ⟨k2, h2⟩ := inv_same _ _ hx.2.2 hy.2.2
  refine ⟨max k0 (max k1 k2), fun k hk => ?_⟩
  unfold invariant_alike.f eqD
  dsimp only at h0 h1 h2 ⊢
  rw [h0 k (by omega), h1 k (by omega), h2 k (by omega)]
  simp only [Option.bind_some, int_beq]
  cases eqV x.f0 y.f0 <;> cases eqV x.f1 y.f1 <;> cases eqV x.f2 y.f2 <;> by_cases h3 : x.f3 = y.f3 <;> by_cases h4 : x.f4 = y.f4 <;> simp [h3, h4]

/-! ### where a key lies -/
def key (p q : S55) : Bool := invariant_find.keyIs q.f0.f0 q.f0.f1 p
def idx (l : List S55) (q : S55) : Int := invariant_find.idxOf (invariant_find.keyIs q.f0.f0 q.f0.f1) l
theorem rd55 {l : List S55} {i : Nat} (h : i < l.length) : rd_T55 l (i : Int) = l[i] := by simp [rd_T55, h]
theorem rd52 {l : List S52} {i : Nat} (h : i < l.length) : rd_T52 l (i : Int) = l[i] := by simp [rd_T52, h]
theorem rd35 {l : List S35} {i : Nat} (h : i < l.length) : rd_T35 l (i : Int) = l[i] := by simp [rd_T35, h]
theorem find_loop (l : List S55) (q : S55) (hl : l.length < 4611686018427387904) : ∀ (r i : Nat), l.length - i = r → i ≤ l.length → (∀ p ∈ l.take i, key p q = false) → Ev (fun k => cameoref10_Find.l0 k l (i : Int) q.f0.f0 q.f0.f1) (idx l q)
  | 0, i, hr, hi, hn => by
    have he : i = l.length := by omega
    refine Ev.succ (b := fun _ => some (-1)) (Ev.val fun _ => ?_) fun k => ?_
    · rw [show idx l q = -1 from invariant_find.idxOf_none (fun p hp => hn p (by rw [he, List.take_length]; exact hp))]
    · rw [cameoref10_Find.l0, if_neg (by omega)]
  | r + 1, i, hr, hi, hn => by
    have hlt : i < l.length := by omega
    by_cases hk : key l[i] q = true
    · refine Ev.succ (b := fun _ => some (i : Int)) (Ev.val fun _ => ?_) fun k => ?_
      · rw [show idx l q = (i : Int) from invariant_find.idxOf_some hlt hn (by rw [rd55 hlt]; exact hk)]
      · rw [cameoref10_Find.l0, if_pos (by omega), if_pos (by omega), rd55 hlt, if_pos (show (l[i].f0.f0.toList == q.f0.f0.toList && l[i].f0.f1 == q.f0.f1) = true from hk)]
    · have hk' : key l[i] q = false := by simpa using hk
      refine Ev.succ (find_loop l q hl r (i + 1) (by omega) (by omega) (invariant_find.take_add_false hlt hn (by rw [rd55 hlt]; exact hk'))) fun k => ?_
      rw [cameoref10_Find.l0, if_pos (by omega), if_pos (by omega), rd55 hlt, if_neg (show ¬ (l[i].f0.f0.toList == q.f0.f0.toList && l[i].f0.f1 == q.f0.f1) = true from hk), w1 i (by omega)]
theorem ref_Find (l : List S55) (q : S55) (hl : l.length < 4611686018427387904) : Ev (fun k => cameoref10_Find.f k l q.f0.f0 q.f0.f1) (idx l q) := by
  have := find_loop l q hl _ 0 rfl (by omega) (by simp)
  exact this.congr fun k => rfl
theorem inv_find (l : List S55) (q : S55) (hl : l.length < 4611686018427387904) (a0 a1 : Int) (a2 : Bool) (a3 : Nat) (a4 : ByteArray) (a5 : Int) (a6 : Bool) : invariant_find.f a0 a1 a2 a3 a4 a5 a6 l q.f0.f0 q.f0.f1 = some (idx l q) := by
  unfold invariant_find.f
  rw [if_pos (by omega)]
  rfl
theorem idx_spec (l : List S55) (q : S55) : (idx l q = -1 ∧ ∀ p ∈ l, key p q = false) ∨ ∃ n : Nat, ∃ h : n < l.length, idx l q = n ∧ key l[n] q = true ∧ ∀ j, ∀ hj : j < n, key l[j] q = false := by
  unfold idx invariant_find.idxOf
  cases h : l.findIdx? (invariant_find.keyIs q.f0.f0 q.f0.f1) with
  | none => exact .inl ⟨rfl, fun p hp => List.findIdx?_eq_none_iff.1 h p hp⟩
  | some n =>
    obtain ⟨hn, hp, hq⟩ := List.findIdx?_eq_some_iff_getElem.1 h
    exact .inr ⟨n, hn, rfl, hp, fun j hj => Bool.eq_false_iff.2 (by simpa [key] using hq j hj)⟩
theorem idx_lt (l : List S55) (q : S55) : idx l q < l.length := by
  rcases idx_spec l q with ⟨h, _⟩ | ⟨n, hn, h, _⟩ <;> omega
theorem idx_ge (l : List S55) (q : S55) : -1 ≤ idx l q := by
  rcases idx_spec l q with ⟨h, _⟩ | ⟨n, hn, h, _⟩ <;> omega
/-- In the first m: the same place, if that is one of them. -/
theorem idx_take (l : List S55) (q : S55) (m : Nat) (hm : m ≤ l.length) : (idx (l.take m) q < 0) ↔ (idx l q < 0 ∨ (m : Int) ≤ idx l q) := by
  rcases idx_spec l q with ⟨h, hn⟩ | ⟨n, hn, h, hk, hj⟩
  · rcases idx_spec (l.take m) q with ⟨h2, _⟩ | ⟨n2, hn2, h2, hk2, _⟩
    · omega
    · rw [List.getElem_take] at hk2
      rw [hn _ (List.getElem_mem _)] at hk2
      cases hk2
  · rcases idx_spec (l.take m) q with ⟨h2, hn2⟩ | ⟨n2, hn2, h2, hk2, hj2⟩
    · by_cases hnm : n < m
      · have := hn2 l[n] (by rw [List.mem_take_iff_getElem]; exact ⟨n, by omega, rfl⟩)
        rw [this] at hk; cases hk
      · omega
    · have hl2 : n2 < m := by have := hn2; rw [List.length_take] at this; omega
      rw [List.getElem_take] at hk2
      have : n ≤ n2 := by
        refine Nat.le_of_not_lt fun hlt => ?_
        rw [hj n2 hlt] at hk2; cases hk2
      omega
end Go.Proofs.Ytaojjpdlfnphiaa.Pure
