/-
  The plain law of InvariantDiffs, fifth part: the program's deltas of one object.
-/
import Derived.Test.YtaojjpdlfnphiaaDPureD
namespace Go.Proofs.Ytaojjpdlfnphiaa.Pure
open Go.RowKit Go.Proofs.YtaojjpdlfnphiaaW.PrintWords Go.Proofs.Ytaojjpdlfnphiaa.PInvariantDiffs Go.Proofs.Ytaojjpdlfnphiaa.opens Go.Proofs.YtaojjpdlfnphiaaW.FloatEq
set_option linter.unusedVariables false
set_option linter.unusedSimpArgs false
set_option linter.unusedSectionVars false

def dC (o : Int) (a : S52) : S35 := ⟨o, 2, a.f0, false, zV, zK, zD⟩
def dR (o : Int) (a : S52) : S35 := ⟨o, 3, 0, false, a.f1, zK, zD⟩
def dE (o : Int) (a : S52) : S35 := ⟨o, 4, 0, a.f2, zV, zK, zD⟩
def dM (o : Int) (a : S52) : S35 := ⟨o, 1, a.f0, a.f2, a.f1, zK, zD⟩
def headS (o : Int) (b a : S52) : List S35 := (if a.f0 = b.f0 then [] else [dC o a]) ++ ((if eqV a.f1 b.f1 = true then [] else [dR o a]) ++ (if (a.f2 != b.f2) = true then [dE o a] else []))
theorem headS_le (o : Int) (b a : S52) : (headS o b a).length ≤ 3 := by
  unfold headS
  split <;> split <;> split <;> simp
theorem Ev.c2 {α β γ : Type} {f : Nat → Option α} {u : α} {b : Nat → Option β} {v : β} {g : Nat → Option γ} {y : γ} (hf : Ev f u) (hb : Ev b v) (h : ∀ k, f k = some u → b k = some v → g k = some y) : Ev g y := by
  obtain ⟨k1, h1⟩ := hf
  obtain ⟨k0, h0⟩ := hb
  exact ⟨max k1 k0, fun k hk => h k (h1 k (by omega)) (h0 k (by omega))⟩
theorem Ev.c1 {β γ : Type} {b : Nat → Option β} {v : β} {g : Nat → Option γ} {y : γ} (hb : Ev b v) (h : ∀ k, b k = some v → g k = some y) : Ev g y := by
  obtain ⟨k0, h0⟩ := hb
  exact ⟨k0, fun k hk => h k (h0 k hk)⟩

section prog
variable (o : Int) (b a : S52) (hb : b.f3.length ≤ 2097152) (ha : a.f3.length ≤ 2097152) (wb : wf52 b) (wa : wf52 a)
include hb ha wb wa
theorem prog_kept : ∀ (r i : Nat) (at_ : Int), a.f3.length - i = r → i ≤ a.f3.length → Ev (fun k => invariant_kept.l0 k at_ a.f3 (a.f3.length : Int) (i : Int) b.f0 b.f1.f0 b.f1.f1 b.f1.f2 b.f1.f3 b.f1.f4 b.f2 b.f3 a.f0 a.f1.f0 a.f1.f1 a.f1.f2 a.f1.f3 a.f1.f4 a.f2 a.f3) (((i + keptS b.f3 at_ (a.f3.drop i) : Nat) : Int)) := by
  intro r
  induction r with
  | zero =>
    intro i at_ hr hi
    have he : i = a.f3.length := by omega
    refine Ev.s0 fun k => ?_
    rw [invariant_kept.l0, if_neg (by omega), he, List.drop_length, keptS, Nat.add_zero]
  | succ r ih =>
    intro i at_ hr hi
    have hlt : i < a.f3.length := by omega
    rw [drop_cons hlt, keptS]
    by_cases hc : idx b.f3 a.f3[i] > at_
    · rw [if_pos hc, show i + (keptS b.f3 (idx b.f3 a.f3[i]) (a.f3.drop (i + 1)) + 1) = (i + 1) + keptS b.f3 (idx b.f3 a.f3[i]) (a.f3.drop (i + 1)) by omega]
      refine (ih (i + 1) (idx b.f3 a.f3[i]) (by omega) (by omega)).s1 fun k h2 => ?_
      rw [invariant_kept.l0, if_pos (by omega), if_pos (by omega), if_pos (by omega), rd55 hlt, inv_find _ _ (by omega), Option.bind_some, if_neg (by omega), w1 i (by omega)]
      exact h2
    · rw [if_neg hc, Nat.add_zero]
      refine Ev.s0 fun k => ?_
      rw [invariant_kept.l0, if_pos (by omega), if_pos (by omega), if_pos (by omega), rd55 hlt, inv_find _ _ (by omega), Option.bind_some, if_pos (by omega)]
theorem prog_put (n : Nat) (hn : n ≤ a.f3.length) (hidx : ∀ i (h : i < a.f3.length), i < n → 0 ≤ idx b.f3 a.f3[i]) : ∀ (r i : Nat) (acc : List S35), a.f3.length - i = r → i ≤ a.f3.length → acc.length + r ≤ 517417236500 →
    Ev (fun k => invariant_between.l1 k o acc (n : Int) a.f3 (a.f3.length : Int) (i : Int) b.f0 b.f1.f0 b.f1.f1 b.f1.f2 b.f1.f3 b.f1.f4 b.f2 b.f3) (acc ++ putS o b.f3 n i (a.f3.drop i)) := by
  intro r
  induction r with
  | zero =>
    intro i acc hr hi hB
    have he : i = a.f3.length := by omega
    refine Ev.s0 fun k => ?_
    rw [invariant_between.l1, if_neg (by omega), he, List.drop_length, putS, List.append_nil]
  | succ r ih =>
    intro i acc hr hi hB
    have hlt : i < a.f3.length := by omega
    have hwa := (wa.2 _ (List.getElem_mem hlt)).2
    have hpush := ih (i + 1) (acc ++ [dP o a.f3[i]]) (by omega) (by omega) (by simp only [List.length_append, List.length_cons, List.length_nil]; omega)
    rw [List.append_assoc] at hpush
    rw [drop_cons hlt, putS]
    by_cases hin : n ≤ i
    · rw [if_neg (by omega)]
      refine hpush.s1 fun k h2 => ?_
      rw [invariant_between.l1, if_pos (by omega), if_pos (by omega), if_pos (by omega), if_pos (by omega), if_pos (by omega), rd55 hlt, w1 i (by omega)]
      exact h2
    · have hge := hidx i hlt (by omega)
      have hil := idx_lt b.f3 a.f3[i]
      obtain ⟨t, ht⟩ : ∃ t : Nat, idx b.f3 a.f3[i] = (t : Int) := ⟨(idx b.f3 a.f3[i]).toNat, by omega⟩
      have htl : t < b.f3.length := by omega
      have hwb := (wb.2 _ (List.getElem_mem htl)).2
      have hal := inv_alike _ _ hwb hwa
      rw [ht, rd55 htl]
      by_cases hq : eqD b.f3[t].f1 a.f3[i].f1 = true
      · rw [if_pos ⟨by omega, hq⟩, List.nil_append]
        refine hal.s2 (ih (i + 1) acc (by omega) (by omega) (by omega)) fun k h1 h2 => ?_
        rw [invariant_between.l1, if_pos (by omega), if_pos (by omega), if_pos (by omega), if_neg (by omega), rd55 hlt, inv_find _ _ (by omega), Option.bind_some, ht, if_pos (by omega), if_pos (by omega), rd55 htl, h1, Option.bind_some, if_pos hq, w1 i (by omega)]
        exact h2
      · rw [if_neg (fun h => hq h.2)]
        refine hal.s2 hpush fun k h1 h2 => ?_
        rw [invariant_between.l1, if_pos (by omega), if_pos (by omega), if_pos (by omega), if_neg (by omega), rd55 hlt, inv_find _ _ (by omega), Option.bind_some, ht, if_pos (by omega), if_pos (by omega), rd55 htl, h1, Option.bind_some, if_neg hq, if_pos (by omega), w1 i (by omega)]
        exact h2
theorem prog_gone (n : Nat) (hn : n ≤ a.f3.length) (hidx : ∀ i (h : i < a.f3.length), i < n → 0 ≤ idx b.f3 a.f3[i]) : ∀ (r i : Nat) (acc : List S35), b.f3.length - i = r → i ≤ b.f3.length → acc.length + r ≤ 517417236500 - 2097152 →
    Ev (fun k => invariant_between.l0 k o acc (n : Int) b.f3 (b.f3.length : Int) (i : Int) b.f0 b.f1.f0 b.f1.f1 b.f1.f2 b.f1.f3 b.f1.f4 b.f2 b.f3 a.f0 a.f1.f0 a.f1.f1 a.f1.f2 a.f1.f3 a.f1.f4 a.f2 a.f3) (acc ++ goneS o a.f3 n (b.f3.drop i) ++ putS o b.f3 n 0 a.f3) := by
  intro r
  induction r with
  | zero =>
    intro i acc hr hi hB
    have he : i = b.f3.length := by omega
    have h := prog_put o b a hb ha wb wa n hn hidx _ 0 acc rfl (by omega) (by omega)
    rw [List.drop_zero] at h
    rw [he, List.drop_length, goneS, List.append_nil]
    refine h.s1 fun k h2 => ?_
    rw [invariant_between.l0, if_neg (by omega)]
    exact h2
  | succ r ih =>
    intro i acc hr hi hB
    have hlt : i < b.f3.length := by omega
    have hpush := ih (i + 1) (acc ++ [dG o b.f3[i]]) (by omega) (by omega) (by simp only [List.length_append, List.length_cons, List.length_nil]; omega)
    rw [List.append_assoc acc] at hpush
    rw [drop_cons hlt, goneS]
    by_cases h0 : idx a.f3 b.f3[i] < 0
    · rw [if_pos (.inl h0)]
      refine hpush.s1 fun k h2 => ?_
      rw [invariant_between.l0, if_pos (by omega), if_pos (by omega), if_pos (by omega), rd55 hlt, inv_find _ _ (by omega), Option.bind_some, if_pos h0, if_pos (by omega), w1 i (by omega)]
      exact h2
    · by_cases h1 : (n : Int) ≤ idx a.f3 b.f3[i]
      · rw [if_pos (.inr h1)]
        refine hpush.s1 fun k h2 => ?_
        rw [invariant_between.l0, if_pos (by omega), if_pos (by omega), if_pos (by omega), rd55 hlt, inv_find _ _ (by omega), Option.bind_some, if_neg h0, if_pos h1, if_pos (by omega), w1 i (by omega)]
        exact h2
      · rw [if_neg (fun h => h.elim h0 h1), List.nil_append]
        refine (ih (i + 1) acc (by omega) (by omega) (by omega)).s1 fun k h2 => ?_
        rw [invariant_between.l0, if_pos (by omega), if_pos (by omega), if_pos (by omega), rd55 hlt, inv_find _ _ (by omega), Option.bind_some, if_neg h0, if_neg h1, w1 i (by omega)]
        exact h2
theorem prog_j2 (acc : List S35) (hacc : acc.length ≤ 3) : Ev (fun k => invariant_between.j2 k o acc b.f0 b.f1.f0 b.f1.f1 b.f1.f2 b.f1.f3 b.f1.f4 b.f2 b.f3 a.f0 a.f1.f0 a.f1.f1 a.f1.f2 a.f1.f3 a.f1.f4 a.f2 a.f3) (acc ++ propsS o b.f3 a.f3) := by
  have hk := keptS_le b.f3 a.f3 (-1)
  have h1 := prog_gone o b a hb ha wb wa (keptS b.f3 (-1) a.f3) hk (fun i h hi => keptS_idx b.f3 a.f3 (-1) i h (by omega) hi) _ 0 acc rfl (by omega) (by omega)
  have h0 := prog_kept b a hb ha wb wa _ 0 (-1) rfl (by omega)
  rw [List.drop_zero, Nat.zero_add] at h0
  rw [List.drop_zero, List.append_assoc] at h1
  refine h0.s2 h1 fun k e0 e1 => ?_
  rw [invariant_between.j2]
  unfold invariant_kept.f
  have e0' := e0
  rw [show (invariant_kept.l0 k (-1) a.f3 (a.f3.length : Int) 0 b.f0 b.f1.f0 b.f1.f1 b.f1.f2 b.f1.f3 b.f1.f4 b.f2 b.f3 a.f0 a.f1.f0 a.f1.f1 a.f1.f2 a.f1.f3 a.f1.f4 a.f2 a.f3) = some ((keptS b.f3 (-1) a.f3 : Nat) : Int) from e0, Option.bind_some]
  exact e1
theorem prog_j1 (acc : List S35) (hacc : acc.length ≤ 2) : Ev (fun k => invariant_between.j1 k o acc b.f0 b.f1.f0 b.f1.f1 b.f1.f2 b.f1.f3 b.f1.f4 b.f2 b.f3 a.f0 a.f1.f0 a.f1.f1 a.f1.f2 a.f1.f3 a.f1.f4 a.f2 a.f3) (acc ++ ((if (a.f2 != b.f2) = true then [dE o a] else []) ++ propsS o b.f3 a.f3)) := by
  by_cases hc : (a.f2 != b.f2) = true
  · rw [if_pos hc, ← List.append_assoc]
    refine (prog_j2 o b a hb ha wb wa (acc ++ [dE o a]) (by simp only [List.length_append, List.length_cons, List.length_nil]; omega)).s1 fun k h => ?_
    rw [invariant_between.j1, if_pos hc, if_pos (by omega)]
    exact h
  · rw [if_neg hc, List.nil_append]
    refine (prog_j2 o b a hb ha wb wa acc (by omega)).s1 fun k h => ?_
    rw [invariant_between.j1, if_neg hc]
    exact h
theorem prog_j0 (acc : List S35) (hacc : acc.length ≤ 1) : Ev (fun k => invariant_between.j0 k o acc b.f0 b.f1.f0 b.f1.f1 b.f1.f2 b.f1.f3 b.f1.f4 b.f2 b.f3 a.f0 a.f1.f0 a.f1.f1 a.f1.f2 a.f1.f3 a.f1.f4 a.f2 a.f3) (acc ++ ((if eqV a.f1 b.f1 = true then [] else [dR o a]) ++ ((if (a.f2 != b.f2) = true then [dE o a] else []) ++ propsS o b.f3 a.f3))) := by
  have hs := inv_same _ _ wa.1 wb.1
  by_cases hc : eqV a.f1 b.f1 = true
  · rw [if_pos hc, List.nil_append]
    refine hs.s2 (prog_j1 o b a hb ha wb wa acc (by omega)) fun k h1 h => ?_
    rw [invariant_between.j0, h1, Option.bind_some, if_pos hc]
    exact h
  · rw [if_neg hc, ← List.append_assoc acc]
    refine hs.s2 (prog_j1 o b a hb ha wb wa (acc ++ [dR o a]) (by simp only [List.length_append, List.length_cons, List.length_nil]; omega)) fun k h1 h => ?_
    rw [invariant_between.j0, h1, Option.bind_some, if_neg hc, if_pos (by omega)]
    exact h
theorem prog_between : Ev (fun k => invariant_between.f k o b.f0 b.f1.f0 b.f1.f1 b.f1.f2 b.f1.f3 b.f1.f4 b.f2 b.f3 a.f0 a.f1.f0 a.f1.f1 a.f1.f2 a.f1.f3 a.f1.f4 a.f2 a.f3) (headS o b a ++ propsS o b.f3 a.f3) := by
  unfold headS
  rw [List.append_assoc, List.append_assoc]
  by_cases hc : a.f0 = b.f0
  · rw [if_pos hc]
    refine (prog_j0 o b a hb ha wb wa [] (by simp)).c1 fun k h => ?_
    unfold invariant_between.f
    rw [if_pos hc]
    exact h
  · rw [if_neg hc]
    refine (prog_j0 o b a hb ha wb wa [dC o a] (by simp)).c1 fun k h => ?_
    unfold invariant_between.f
    rw [if_neg hc, if_pos (by simp)]
    exact h
end prog
end Go.Proofs.Ytaojjpdlfnphiaa.Pure
