/-
  The plain law of InvariantDiffs, second part: copies, comparisons, keys that stand twice.
-/
import Derived.Test.YtaojjpdlfnphiaaDPureA
import Derived.Test.YtaojjpdlfnphiaaTInvariantDiffsx4
namespace Go.Proofs.Ytaojjpdlfnphiaa.Pure
open Go.RowKit Go.Proofs.YtaojjpdlfnphiaaW.PrintWords Go.Proofs.Ytaojjpdlfnphiaa.PInvariantDiffs Go.Proofs.Ytaojjpdlfnphiaa.opens Go.Proofs.YtaojjpdlfnphiaaW.FloatEq
set_option linter.unusedVariables false
set_option linter.unusedSimpArgs false

/-! ### copies -/
theorem take_snoc {α : Type} {l : List α} {i : Nat} (h : i < l.length) : l.take i ++ [l[i]] = l.take (i + 1) := by rw [List.take_succ_eq_append_getElem h]
theorem copy_loop (l : List S52) (hl : l.length ≤ 2097152) (hp : ∀ y ∈ l, y.f3.length ≤ 2097152) : ∀ (r i : Nat), l.length - i = r → i ≤ l.length → Ev (fun k => cameoref10_Copy.l0 k l (l.take i) (i : Int)) l
  | 0, i, hr, hi => by
    have he : i = l.length := by omega
    refine Ev.succ (b := fun _ => some l) (Ev.val fun _ => rfl) fun k => ?_
    rw [cameoref10_Copy.l0, if_neg (by omega), he, List.take_length]
  | r + 1, i, hr, hi => by
    have hlt : i < l.length := by omega
    have hq := hp l[i] (List.getElem_mem _)
    have ht : (l.take i).length = i := by rw [List.length_take]; omega
    refine Ev.succ (copy_loop l hl hp r (i + 1) (by omega) (by omega)) fun k => ?_
    rw [cameoref10_Copy.l0, if_pos (by omega), if_pos (by omega), Option.bind_some, rd52 hlt, if_pos (by simp only [List.length_nil]; omega), if_pos (by omega), w1 i (by omega), ← take_snoc hlt]
    rfl
theorem ref_Copy (l : List S52) (hl : l.length ≤ 2097152) (hp : ∀ y ∈ l, y.f3.length ≤ 2097152) : Ev (fun k => cameoref10_Copy.f k l) l :=
  (copy_loop l hl hp _ 0 rfl (by omega)).congr fun k => rfl

/-! ### few -/
def fewEnd (l : List S52) (n : Int) : Bool := if (l.length : Int) ≤ 60 then decide (n ≤ 400) else false
theorem fewEnd_le (l : List S52) (n : Int) (h : fewEnd l n = true) : l.length ≤ 60 := by
  unfold fewEnd at h
  by_cases hc : (l.length : Int) ≤ 60
  · omega
  · rw [if_neg hc] at h; cases h
theorem fewEnd_eq (l : List S52) (n : Int) : (if (l.length : Int) ≤ 60 then some (decide (n ≤ 400)) else some false) = some (fewEnd l n) := by unfold fewEnd; split <;> rfl
theorem few_loop (l : List S52) (hl : l.length ≤ 2097152) (hp : ∀ y ∈ l, y.f3.length ≤ 2097152) (r : Nat) : ∀ (i : Nat) (n : Int), l.length - i = r → i ≤ l.length → 0 ≤ n → n ≤ (i : Int) * 2097152 → ∃ b, Ev (fun k => cameolaw10_few.l0 k l n (i : Int)) b ∧ (b = true → l.length ≤ 60) := by
  induction r with
  | zero =>
    intro i n hr hi h0 hn
    refine ⟨fewEnd l n, Ev.succ (b := fun _ => some (fewEnd l n)) (Ev.val fun _ => rfl) fun k => ?_, fewEnd_le l n⟩
    rw [cameolaw10_few.l0, if_neg (by omega), fewEnd_eq]
  | succ r ih =>
    intro i n hr hi h0 hn
    have hlt : i < l.length := by omega
    have hq := hp l[i] (List.getElem_mem _)
    by_cases h60 : (i : Int) ≤ 60
    · obtain ⟨b, hb, hb2⟩ := ih (i + 1) (n + l[i].f3.length) (by omega) (by omega) (by omega) (by omega)
      refine ⟨b, hb.succ fun k => ?_, hb2⟩
      rw [cameolaw10_few.l0, if_pos (by omega), if_pos h60, if_pos (by omega), rd52 hlt, w1 i (by omega), w64 (by omega) (by omega)]
    · refine ⟨fewEnd l n, Ev.succ (b := fun _ => some (fewEnd l n)) (Ev.val fun _ => rfl) fun k => ?_, fewEnd_le l n⟩
      rw [cameolaw10_few.l0, if_pos (by omega), if_neg h60, fewEnd_eq]
theorem law_few (l : List S52) (hl : l.length ≤ 2097152) (hp : ∀ y ∈ l, y.f3.length ≤ 2097152) : ∃ b, Ev (fun k => cameolaw10_few.f k l) b ∧ (b = true → l.length ≤ 60) := by
  obtain ⟨b, hb, h⟩ := few_loop l hl hp _ 0 0 rfl (by omega) (by omega) (by simp)
  exact ⟨b, hb.congr fun k => rfl, h⟩

/-! ### the same list is the same -/
theorem key_refl (p : S55) : key p p = true := by unfold key invariant_find.keyIs; simp
theorem shape_loop (x : S52) (hx : wf52 x) (hl : x.f3.length ≤ 2097152) : ∀ (r i : Nat), x.f3.length - i = r → i ≤ x.f3.length → Ev (fun k => cameoref10_SameShape.l0 k (i : Int) x.f0 x.f1.f0 x.f1.f1 x.f1.f2 x.f1.f3 x.f1.f4 x.f2 x.f3 x.f0 x.f1.f0 x.f1.f1 x.f1.f2 x.f1.f3 x.f1.f4 x.f2 x.f3) true
  | 0, i, hr, hi => by
    refine Ev.succ (b := fun _ => some true) (Ev.val fun _ => rfl) fun k => ?_
    rw [cameoref10_SameShape.l0, if_neg (by omega)]
  | r + 1, i, hr, hi => by
    have hlt : i < x.f3.length := by omega
    have hw := (hx.2 x.f3[i] (List.getElem_mem _)).2
    refine Ev.succ (shape_loop x hx hl r (i + 1) (by omega) (by omega)) fun k => ?_
    rw [cameoref10_SameShape.l0, if_pos (by omega), if_pos (by omega), if_pos (by omega), rd55 hlt, if_neg (by simp), ref_EqDesc _ _ hw hw, eqD_refl, Option.bind_some, if_pos rfl, w1 i (by omega)]
theorem ref_SameShape (x : S52) (hx : wf52 x) (hl : x.f3.length ≤ 2097152) : Ev (fun k => cameoref10_SameShape.f k x.f0 x.f1.f0 x.f1.f1 x.f1.f2 x.f1.f3 x.f1.f4 x.f2 x.f3 x.f0 x.f1.f0 x.f1.f1 x.f1.f2 x.f1.f3 x.f1.f4 x.f2 x.f3) true := by
  have h := shape_loop x hx hl _ 0 rfl (by omega)
  have h2 : Ev (fun k => cameoref10_SameShape.j0 k false x.f0 x.f1.f0 x.f1.f1 x.f1.f2 x.f1.f3 x.f1.f4 x.f2 x.f3 x.f0 x.f1.f0 x.f1.f1 x.f1.f2 x.f1.f3 x.f1.f4 x.f2 x.f3) true := by
    refine Ev.succ h fun k => ?_
    rw [cameoref10_SameShape.j0, if_neg (by simp)]
    rfl
  refine h2.congr fun k => ?_
  unfold cameoref10_SameShape.f
  rw [if_pos rfl, ref_Eq _ _ hx.1 hx.1, eqV_refl, Option.bind_some, if_pos rfl, if_neg (by simp), show ((x.f3.length : Int) != (x.f3.length : Int)) = false by simp]
theorem same_loop (l : List S52) (hw : ∀ y ∈ l, wf52 y) (hl : l.length ≤ 2097152) (hp : ∀ y ∈ l, y.f3.length ≤ 2097152) : ∀ (r i : Nat), l.length - i = r → i ≤ l.length → Ev (fun k => cameoref10_Same.l0 k l l (i : Int)) true
  | 0, i, hr, hi => by
    refine Ev.succ (b := fun _ => some true) (Ev.val fun _ => rfl) fun k => ?_
    rw [cameoref10_Same.l0, if_neg (by omega)]
  | r + 1, i, hr, hi => by
    have hlt : i < l.length := by omega
    have hm := List.getElem_mem hlt
    refine Ev.succ (Ev.bind (c := fun k t => if t = true then cameoref10_Same.l0 k l l (((i + 1 : Nat) : Nat) : Int) else some false) (ref_SameShape l[i] (hw _ hm) (hp _ hm)) (same_loop l hw hl hp r (i + 1) (by omega) (by omega))) fun k => ?_
    rw [cameoref10_Same.l0, if_pos (by omega), if_pos (by omega), if_pos (by omega), rd52 hlt, w1 i (by omega)]
theorem ref_Same (l : List S52) (hw : ∀ y ∈ l, wf52 y) (hl : l.length ≤ 2097152) (hp : ∀ y ∈ l, y.f3.length ≤ 2097152) : Ev (fun k => cameoref10_Same.f k l l) true :=
  (same_loop l hw hl hp _ 0 rfl (by omega)).congr fun k => by unfold cameoref10_Same.f; rw [if_pos rfl]; rfl
def wf35 (x : S35) : Prop := wf28 x.f4 ∧ wf33 x.f6
theorem deltas_loop (l : List S35) (hw : ∀ y ∈ l, wf35 y) (hl : l.length ≤ 4611686018427387000) : ∀ (r i : Nat), l.length - i = r → i ≤ l.length → Ev (fun k => cameolaw10_sameDeltas.l0 k l l (i : Int)) true
  | 0, i, hr, hi => by
    refine Ev.succ (b := fun _ => some true) (Ev.val fun _ => rfl) fun k => ?_
    rw [cameolaw10_sameDeltas.l0, if_neg (by omega)]
  | r + 1, i, hr, hi => by
    have hlt : i < l.length := by omega
    have hm := hw _ (List.getElem_mem hlt)
    refine Ev.succ (deltas_loop l hw hl r (i + 1) (by omega) (by omega)) fun k => ?_
    rw [cameolaw10_sameDeltas.l0, if_pos (by omega), if_pos (by omega), if_pos (by omega), rd35 hlt, if_pos rfl, if_pos rfl, if_pos rfl, if_neg (by simp), ref_Eq _ _ hm.1 hm.1, eqV_refl, Option.bind_some, if_pos rfl, if_neg (by simp), ref_EqDesc _ _ hm.2 hm.2, eqD_refl, Option.bind_some, if_pos rfl, w1 i (by omega)]
theorem law_sameDeltas (l : List S35) (hw : ∀ y ∈ l, wf35 y) (hl : l.length ≤ 4611686018427387000) : Ev (fun k => cameolaw10_sameDeltas.f k l l) true :=
  (deltas_loop l hw hl _ 0 rfl (by omega)).congr fun k => by unfold cameolaw10_sameDeltas.f; rw [if_pos rfl]; rfl
end Go.Proofs.Ytaojjpdlfnphiaa.Pure
