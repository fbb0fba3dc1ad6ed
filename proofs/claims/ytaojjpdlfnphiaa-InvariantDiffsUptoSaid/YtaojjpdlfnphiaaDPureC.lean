/-
  The plain law of InvariantDiffs, third part: the deltas of one object.
-/
import Derived.Test.YtaojjpdlfnphiaaDPureB
import Derived.Test.YtaojjpdlfnphiaaTInvariantDiffsx10
import Derived.Test.YtaojjpdlfnphiaaTInvariantDiffsx9
namespace Go.Proofs.Ytaojjpdlfnphiaa.Pure
open Go.RowKit Go.Proofs.YtaojjpdlfnphiaaW.PrintWords Go.Proofs.Ytaojjpdlfnphiaa.PInvariantDiffs Go.Proofs.Ytaojjpdlfnphiaa.opens Go.Proofs.YtaojjpdlfnphiaaW.FloatEq
set_option linter.unusedVariables false
set_option linter.unusedSimpArgs false

/-! ### keys that stand twice -/
theorem ev_ex {α : Type} {g : Nat → Option α} {v : α} (h : Ev g v) : ∃ k, g k = some v := by
  obtain ⟨k0, h⟩ := h
  exact ⟨k0, h k0 (Nat.le_refl _)⟩
theorem key_comm (p q : S55) : key p q = key q p := by
  unfold key invariant_find.keyIs
  rw [Bool.beq_comm (a := p.f0.f0.toList), Bool.beq_comm (a := p.f0.f1)]
theorem seen_iff (l : List S55) (q : S55) : invariant_twice.keySeen (invariant_twice.keysBefore l) q.f0.f0 q.f0.f1 = true ↔ ∃ p ∈ l, key p q = true := by
  unfold invariant_twice.keySeen invariant_twice.keysBefore key invariant_find.keyIs
  simp only [List.any_eq_true, List.mem_reverse, List.mem_map]
  constructor
  · rintro ⟨_, ⟨p, hp, rfl⟩, h⟩
    exact ⟨p, hp, h⟩
  · rintro ⟨p, hp, h⟩
    exact ⟨_, ⟨p, hp, rfl⟩, h⟩
theorem idx_self (l : List S55) (i : Nat) (h : i < l.length) : (idx l l[i] = (i : Int)) ↔ ∀ p ∈ l.take i, key p l[i] = false := by
  rcases idx_spec l l[i] with ⟨_, hn⟩ | ⟨n, hn, he, hk, hj⟩
  · have := hn l[i] (List.getElem_mem _)
    rw [key_refl] at this; cases this
  · have hle : n ≤ i := by
      refine Nat.le_of_not_lt fun hlt => ?_
      have := hj i hlt
      rw [key_refl] at this; cases this
    constructor
    · intro e p hp
      obtain ⟨j, hj2, rfl⟩ := List.mem_take_iff_getElem.1 hp
      exact hj j (by omega)
    · intro hall
      refine Int.le_antisymm (by omega) ?_
      refine Int.not_lt.1 fun hlt => ?_
      have := hall l[n] (List.mem_take_iff_getElem.2 ⟨n, by omega, rfl⟩)
      rw [hk] at this; cases this
theorem twice_row (l0 : List S52) (a : Nat) (ha : a < l0.length) (hl : l0.length ≤ 2097152) (hp : l0[a].f3.length ≤ 2097152) {v : Bool} (hnext : Ev (fun k => cameoref10_Twice.l0 k l0 (((a + 1 : Nat) : Nat) : Int)) v) :
    ∀ (r i : Nat), l0[a].f3.length - i = r → i ≤ l0[a].f3.length → Ev (fun k => cameoref10_Twice.l1 k l0 (a : Int) (i : Int)) (if invariant_twice.twiceIn (invariant_twice.keysBefore (l0[a].f3.take i)) (l0[a].f3.drop i) = true then true else v) := by
  intro r
  induction r with
  | zero =>
    intro i hr hi
    have he : i = l0[a].f3.length := by omega
    refine Ev.same (Ev.succ hnext fun k => ?_) ?_
    · rw [cameoref10_Twice.l1, if_pos (by omega), if_pos (by omega), rd52 ha, if_neg (by omega), w1 a (by omega)]
    · rw [he, List.drop_length, invariant_twice.twiceIn]; simp
  | succ r ih =>
    intro i hr hi
    have hlt : i < l0[a].f3.length := by omega
    have hd : l0[a].f3.drop i = l0[a].f3[i] :: l0[a].f3.drop (i + 1) := List.drop_eq_getElem_cons hlt
    have hs := seen_iff (l0[a].f3.take i) l0[a].f3[i]
    have hi2 := idx_self l0[a].f3 i hlt
    refine Ev.same (Ev.succ (Ev.bind (c := fun k t => if t = (i : Int) then cameoref10_Twice.l1 k l0 (a : Int) (((i + 1 : Nat) : Nat) : Int) else some true) (ref_Find l0[a].f3 l0[a].f3[i] (by omega)) (v := if idx l0[a].f3 l0[a].f3[i] = (i : Int) then (if invariant_twice.twiceIn (invariant_twice.keysBefore (l0[a].f3.take (i + 1))) (l0[a].f3.drop (i + 1)) = true then true else v) else true) ?_) fun k => ?_) ?_
    · by_cases he : idx l0[a].f3 l0[a].f3[i] = (i : Int)
      · simp only [if_pos he]
        exact ih (i + 1) (by omega) (by omega)
      · simp only [if_neg he]
        exact Ev.val fun _ => rfl
    · rw [cameoref10_Twice.l1, if_pos (by omega), if_pos (by omega), rd52 ha, if_pos (by omega), if_pos (by omega), rd55 hlt, w1 i (by omega)]
    · rw [hd, invariant_twice.twiceIn]
      have hb : invariant_twice.keysBefore (l0[a].f3.take (i + 1)) = (l0[a].f3[i].f0.f0, l0[a].f3[i].f0.f1) :: invariant_twice.keysBefore (l0[a].f3.take i) := by
        have := invariant_twice.keysBefore_step hlt
        rw [rd55 hlt] at this
        exact this
      by_cases he : idx l0[a].f3 l0[a].f3[i] = (i : Int)
      · have hns : ¬ invariant_twice.keySeen (invariant_twice.keysBefore (l0[a].f3.take i)) l0[a].f3[i].f0.f0 l0[a].f3[i].f0.f1 = true := by
          rw [hs]
          rintro ⟨p, hp1, hp2⟩
          rw [hi2.1 he p hp1] at hp2; cases hp2
        rw [if_pos he, if_neg hns, hb]
      · have hns : invariant_twice.keySeen (invariant_twice.keysBefore (l0[a].f3.take i)) l0[a].f3[i].f0.f0 l0[a].f3[i].f0.f1 = true := by
          rw [hs]
          refine Classical.byContradiction fun hc => he (hi2.2 fun p hp1 => ?_)
          exact Bool.eq_false_iff.2 fun hp2 => hc ⟨p, hp1, hp2⟩
        rw [if_neg he, if_pos hns, if_pos rfl]
theorem twice_loop (l0 : List S52) (hl : l0.length ≤ 2097152) (hp : ∀ y ∈ l0, y.f3.length ≤ 2097152) : ∀ (r a : Nat), l0.length - a = r → a ≤ l0.length → Ev (fun k => cameoref10_Twice.l0 k l0 (a : Int)) ((l0.drop a).any fun s => invariant_twice.twiceIn [] s.f3) := by
  intro r
  induction r with
  | zero =>
    intro a hr ha
    have he : a = l0.length := by omega
    refine Ev.same (Ev.succ (b := fun _ => some false) (Ev.val fun _ => rfl) fun k => ?_) ?_
    · rw [cameoref10_Twice.l0, if_neg (by omega)]
    · rw [he, List.drop_length]; rfl
  | succ r ih =>
    intro a hr ha
    have hlt : a < l0.length := by omega
    have h := twice_row l0 a hlt hl (hp _ (List.getElem_mem _)) (ih (a + 1) (by omega) (by omega)) _ 0 rfl (by omega)
    refine Ev.same (Ev.succ h fun k => ?_) ?_
    · rw [cameoref10_Twice.l0, if_pos (by omega)]; rfl
    · rw [List.drop_eq_getElem_cons hlt, List.any_cons]
      simp only [List.take_zero, List.drop_zero, invariant_twice.keysBefore, List.map_nil, List.reverse_nil]
      cases invariant_twice.twiceIn [] l0[a].f3 <;> simp
theorem ref_Twice (l0 : List S52) (hl : l0.length ≤ 2097152) (hp : ∀ y ∈ l0, y.f3.length ≤ 2097152) : Ev (fun k => cameoref10_Twice.f k l0) (l0.any fun s => invariant_twice.twiceIn [] s.f3) :=
  (twice_loop l0 hl hp _ 0 rfl (by omega)).congr fun k => rfl
theorem inv_twice (l0 : List S52) (hl : l0.length ≤ 2097152) (hp : ∀ y ∈ l0, y.f3.length ≤ 2097152) (hw : ∀ y ∈ l0, wf52 y) : invariant_twice.f l0 = some (l0.any fun s => invariant_twice.twiceIn [] s.f3) := by
  unfold invariant_twice.f
  rw [if_pos]
  simp only [Bool.and_eq_true, decide_eq_true_eq, List.all_eq_true]
  refine ⟨Nat.le_trans hl (by decide), fun s hs => ?_⟩
  unfold invariant_twice.propsOk
  simp only [Bool.and_eq_true, decide_eq_true_eq, List.all_eq_true]
  exact ⟨Nat.lt_of_le_of_lt (hp s hs) (by decide), fun p hp1 => ((hw s hs).2 p hp1).1⟩
end Go.Proofs.Ytaojjpdlfnphiaa.Pure
