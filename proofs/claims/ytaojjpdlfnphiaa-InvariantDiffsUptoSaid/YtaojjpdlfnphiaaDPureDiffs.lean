/-
  The plain law of InvariantDiffs, last part: the deltas of two moments, and the law.
-/
import Derived.Test.YtaojjpdlfnphiaaDPureE
import Derived.Test.YtaojjpdlfnphiaaTInvariantDiffsx12
namespace Go.Proofs.Ytaojjpdlfnphiaa.Pure
open Go.RowKit Go.Proofs.YtaojjpdlfnphiaaW.PrintWords Go.Proofs.Ytaojjpdlfnphiaa.PInvariantDiffs Go.Proofs.Ytaojjpdlfnphiaa.opens Go.Proofs.YtaojjpdlfnphiaaW.FloatEq
set_option linter.unusedVariables false
set_option linter.unusedSimpArgs false
set_option linter.unusedSectionVars false

theorem putS_nil (o : Int) : ∀ (l : List S55) (i : Nat), putS o [] 0 i l = l.map (dP o)
  | [], _ => rfl
  | p :: r, i => by rw [putS, if_neg (by omega), putS_nil o r (i + 1)]; rfl
theorem propsS_nil (o : Int) (l : List S55) : propsS o [] l = l.map (dP o) := by
  have h : keptS [] (-1) l = 0 := by
    cases l with
    | nil => rfl
    | cons p r =>
      rw [keptS, if_neg]
      intro h
      rw [show idx [] p = -1 from rfl] at h
      exact absurd h (by decide)
  rw [propsS, h, putS_nil]
  rfl
def entry (b : List S52) (i : Nat) (x : S52) : List S35 :=
  if i < b.length then headS ((i + 1 : Nat) : Int) (rd_T52 b i) x ++ propsS ((i + 1 : Nat) : Int) (rd_T52 b i).f3 x.f3 else [dM ((i + 1 : Nat) : Int) x] ++ x.f3.map (dP ((i + 1 : Nat) : Int))
def diffS (b : List S52) : Nat → List S52 → List S35
  | _, [] => []
  | i, x :: r => entry b i x ++ diffS b (i + 1) r
theorem entry_le (b : List S52) (hb : ∀ y ∈ b, y.f3.length ≤ 2097152) (i : Nat) (x : S52) (hx : x.f3.length ≤ 2097152) : (entry b i x).length ≤ 4194320 := by
  unfold entry
  split
  · rename_i h
    have h1 := headS_le ((i + 1 : Nat) : Int) (rd_T52 b i) x
    have h2 := propsS_le ((i + 1 : Nat) : Int) (rd_T52 b i).f3 x.f3
    have h3 : (rd_T52 b i).f3.length ≤ 2097152 := by rw [rd52 h]; exact hb _ (List.getElem_mem h)
    rw [List.length_append]
    omega
  · simp only [List.length_append, List.length_cons, List.length_nil, List.length_map]
    omega
theorem diffS_le (b : List S52) (hb : ∀ y ∈ b, y.f3.length ≤ 2097152) : ∀ (l : List S52) (i : Nat), (∀ y ∈ l, y.f3.length ≤ 2097152) → (diffS b i l).length ≤ l.length * 4194320
  | [], _, _ => by simp [diffS]
  | x :: r, i, h => by
    have h1 := entry_le b hb i x (h x (by simp))
    have h2 := diffS_le b hb r (i + 1) (fun y hy => h y (by simp [hy]))
    rw [diffS, List.length_append, List.length_cons]
    omega
theorem wfzV : wf28 zV := by unfold wf28 zV; decide
theorem wfzD : wf33 zD := ⟨wfzV, wfzV, wfzV⟩
theorem goneS_wf (o : Int) (a : List S55) (n : Nat) : ∀ l, ∀ y ∈ goneS o a n l, wf35 y
  | [], y, h => by simp [goneS] at h
  | p :: r, y, h => by
    rw [goneS, List.mem_append] at h
    rcases h with h | h
    · split at h
      · obtain rfl := List.mem_singleton.1 h
        exact ⟨wfzV, wfzD⟩
      · cases h
    · exact goneS_wf o a n r y h
theorem putS_wf (o : Int) (b : List S55) (n : Nat) : ∀ l i, (∀ p ∈ l, wf55 p) → ∀ y ∈ putS o b n i l, wf35 y
  | [], _, _, y, h => by simp [putS] at h
  | p :: r, i, hl, y, h => by
    rw [putS, List.mem_append] at h
    rcases h with h | h
    · split at h
      · cases h
      · obtain rfl := List.mem_singleton.1 h
        exact ⟨wfzV, (hl p (by simp)).2⟩
    · exact putS_wf o b n r (i + 1) (fun q hq => hl q (by simp [hq])) y h
theorem entry_wf (b : List S52) (i : Nat) (x : S52) (hx : wf52 x) : ∀ y ∈ entry b i x, wf35 y := by
  intro y h
  unfold entry at h
  split at h
  · rw [List.mem_append] at h
    rcases h with h | h
    · unfold headS at h
      rw [List.mem_append, List.mem_append] at h
      rcases h with h | h | h
      · split at h
        · cases h
        · obtain rfl := List.mem_singleton.1 h; exact ⟨wfzV, wfzD⟩
      · split at h
        · cases h
        · obtain rfl := List.mem_singleton.1 h; exact ⟨hx.1, wfzD⟩
      · split at h
        · obtain rfl := List.mem_singleton.1 h; exact ⟨wfzV, wfzD⟩
        · cases h
    · unfold propsS at h
      rw [List.mem_append] at h
      rcases h with h | h
      · exact goneS_wf _ _ _ _ y h
      · exact putS_wf _ _ _ _ _ hx.2 y h
  · rw [List.mem_append] at h
    rcases h with h | h
    · obtain rfl := List.mem_singleton.1 h; exact ⟨hx.1, wfzD⟩
    · obtain ⟨p, hp, rfl⟩ := List.mem_map.1 h
      exact ⟨wfzV, (hx.2 p hp).2⟩
theorem diffS_wf (b : List S52) : ∀ (l : List S52) (i : Nat), (∀ x ∈ l, wf52 x) → ∀ y ∈ diffS b i l, wf35 y
  | [], _, _, y, h => by simp [diffS] at h
  | x :: r, i, hl, y, h => by
    rw [diffS, List.mem_append] at h
    rcases h with h | h
    · exact entry_wf b i x (hl x (by simp)) y h
    · exact diffS_wf b r (i + 1) (fun q hq => hl q (by simp [hq])) y h

section two
variable (b a : List S52) (hb : b.length ≤ 2097152) (ha : a.length ≤ 2097152) (pb : ∀ y ∈ b, y.f3.length ≤ 2097152) (pa : ∀ y ∈ a, y.f3.length ≤ 2097152) (wb : ∀ y ∈ b, wf52 y) (wa : ∀ y ∈ a, wf52 y)
include hb ha pb pa wb wa
theorem prog_make (i : Nat) (hi : i < a.length) {v : List S35 × Int} (acc0 : List S35) (hv : Ev (fun k => invariant_Diff.l0 k b (acc0 ++ a[i].f3.map (dP ((i + 1 : Nat) : Int))) a (a.length : Int) (((i + 1 : Nat) : Nat) : Int)) v) : ∀ (r j : Nat) (acc : List S35), a[i].f3.length - j = r → j ≤ a[i].f3.length → acc.length + r ≤ 517417236500 → acc = acc0 ++ (a[i].f3.take j).map (dP ((i + 1 : Nat) : Int)) →
    Ev (fun k => invariant_Diff.l1 k b acc (i : Int) a (a.length : Int) (i : Int) a[i].f3 (a[i].f3.length : Int) (j : Int)) v := by
  have hpl := pa _ (List.getElem_mem hi)
  intro r
  induction r with
  | zero =>
    intro j acc hr hj hB hacc
    have he : j = a[i].f3.length := by omega
    refine hv.s1 fun k h => ?_
    rw [invariant_Diff.l1, if_neg (by omega), w1 i (by omega), hacc, he, List.take_length]
    exact h
  | succ r ih =>
    intro j acc hr hj hB hacc
    have hlt : j < a[i].f3.length := by omega
    refine (ih (j + 1) (acc ++ [dP ((i + 1 : Nat) : Int) a[i].f3[j]]) (by omega) (by omega) (by simp only [List.length_append, List.length_cons, List.length_nil]; omega) ?_).s1 fun k h => ?_
    · rw [hacc, ← take_snoc hlt, List.map_append, List.append_assoc]; rfl
    · rw [invariant_Diff.l1, if_pos (by omega), if_pos (by omega), if_pos (by omega), if_pos (by omega), rd55 hlt, w1 i (by omega), w1 j (by omega)]
      exact h
theorem prog_loop : ∀ (r i : Nat) (acc : List S35), a.length - i = r → i ≤ a.length → acc.length + r * 4194320 ≤ 517417236000 → Ev (fun k => invariant_Diff.l0 k b acc a (a.length : Int) (i : Int)) (acc ++ diffS b i (a.drop i), 0) := by
  intro r
  induction r with
  | zero =>
    intro i acc hr hi hB
    have he : i = a.length := by omega
    refine Ev.s0 fun k => ?_
    rw [invariant_Diff.l0, if_neg (by omega), he, List.drop_length, diffS, List.append_nil]
  | succ r ih =>
    intro i acc hr hi hB
    have hlt : i < a.length := by omega
    have hle := entry_le b pb i a[i] (pa _ (List.getElem_mem hlt))
    have hnext := ih (i + 1) (acc ++ entry b i a[i]) (by omega) (by omega) (by rw [List.length_append]; omega)
    rw [drop_cons hlt, diffS, ← List.append_assoc]
    have hpl := pa _ (List.getElem_mem hlt)
    by_cases hib : i < b.length
    · have hent : entry b i a[i] = headS ((i + 1 : Nat) : Int) b[i] a[i] ++ propsS ((i + 1 : Nat) : Int) b[i].f3 a[i].f3 := by unfold entry; rw [if_pos hib, rd52 hib]
      rw [hent] at hle hnext ⊢
      have hbt := prog_between ((i + 1 : Nat) : Int) b[i] a[i] (pb _ (List.getElem_mem hib)) hpl (wb _ (List.getElem_mem hib)) (wa _ (List.getElem_mem hlt))
      refine hbt.s2 hnext fun k h1 h2 => ?_
      rw [invariant_Diff.l0, if_pos (by omega), if_pos (by omega), if_pos (by omega), if_pos (by omega), rd52 hlt, rd52 hib, w1 i (by omega), h1, Option.bind_some, if_pos (by rw [List.length_append] at hle ⊢; omega)]
      exact h2
    · have hent : entry b i a[i] = [dM ((i + 1 : Nat) : Int) a[i]] ++ a[i].f3.map (dP ((i + 1 : Nat) : Int)) := by unfold entry; rw [if_neg hib]
      rw [hent, ← List.append_assoc] at hnext ⊢
      have hm := prog_make b a hb ha pb pa wb wa i hlt (acc ++ [dM ((i + 1 : Nat) : Int) a[i]]) hnext _ 0 (acc ++ [dM ((i + 1 : Nat) : Int) a[i]]) rfl (by omega) (by simp only [List.length_append, List.length_cons, List.length_nil]; omega) (by simp)
      refine hm.s1 fun k h => ?_
      rw [invariant_Diff.l0, if_pos (by omega), if_pos (by omega), if_pos (by omega), if_neg (by omega), if_pos (by omega), rd52 hlt, w1 i (by omega)]
      exact h
def tw (l : List S52) : Bool := l.any fun s => invariant_twice.twiceIn [] s.f3
def diffV : List S35 × Int := if a.length < b.length then ([], 7) else if tw b = true then ([], 5) else if tw a = true then ([], 5) else (diffS b 0 a, 0)
theorem prog_Diff (h60 : a.length ≤ 60) : Ev (fun k => invariant_Diff.f k b a) (diffV b a) := by
  have hl := prog_loop b a hb ha pb pa wb wa _ 0 [] rfl (by omega) (by simp only [List.length_nil]; omega)
  rw [List.drop_zero, List.nil_append] at hl
  unfold diffV
  by_cases h1 : a.length < b.length
  · rw [if_pos h1]
    refine Ev.val fun k => ?_
    unfold invariant_Diff.f
    rw [if_pos (by omega)]
  · rw [if_neg h1]
    by_cases h2 : tw b = true
    · rw [if_pos h2]
      refine Ev.s0 fun k => ?_
      unfold invariant_Diff.f
      rw [if_neg (by omega), inv_twice b hb pb wb, Option.bind_some, show (b.any fun s => invariant_twice.twiceIn [] s.f3) = true from h2, if_pos rfl, invariant_Diff.j0, if_pos rfl]
    · rw [if_neg h2]
      by_cases h3 : tw a = true
      · rw [if_pos h3]
        refine Ev.s0 fun k => ?_
        unfold invariant_Diff.f
        rw [if_neg (by omega), inv_twice b hb pb wb, Option.bind_some, if_neg (show ¬ (b.any fun s => invariant_twice.twiceIn [] s.f3) = true from h2), inv_twice a ha pa wa, Option.bind_some, invariant_Diff.j0, if_pos (show (a.any fun s => invariant_twice.twiceIn [] s.f3) = true from h3)]
      · rw [if_neg h3]
        refine hl.s1 fun k h => ?_
        unfold invariant_Diff.f
        rw [if_neg (by omega), inv_twice b hb pb wb, Option.bind_some, if_neg (show ¬ (b.any fun s => invariant_twice.twiceIn [] s.f3) = true from h2), inv_twice a ha pa wa, Option.bind_some, invariant_Diff.j0, if_neg (show ¬ (a.any fun s => invariant_twice.twiceIn [] s.f3) = true from h3)]
        exact h
theorem ref_j2 (i : Nat) (hi : i < a.length) (hib : i < b.length) (acc : List S35) (hacc : acc.length + 4194320 ≤ 517417236400) {v : List S35 × Int} (hv : Ev (fun k => cameoref10_Diff.l0 k b a (acc ++ ((if eqV a[i].f1 b[i].f1 = true then [] else [dR ((i + 1 : Nat) : Int) a[i]]) ++ ((if (a[i].f2 != b[i].f2) = true then [dE ((i + 1 : Nat) : Int) a[i]] else []) ++ propsS ((i + 1 : Nat) : Int) b[i].f3 a[i].f3))) (((i + 1 : Nat) : Nat) : Int)) v) :
    Ev (fun k => cameoref10_Diff.j2 k b a acc (i : Int) a[i].f0 a[i].f1.f0 a[i].f1.f1 a[i].f1.f2 a[i].f1.f3 a[i].f1.f4 a[i].f2 a[i].f3 b[i].f0 b[i].f1.f0 b[i].f1.f1 b[i].f1.f2 b[i].f1.f3 b[i].f1.f4 b[i].f2 b[i].f3) v := by
  have hmb := List.getElem_mem hib
  have hma := List.getElem_mem hi
  have hp := ref_props ((i + 1 : Nat) : Int) b[i].f3 a[i].f3 (pb _ hmb) (pa _ hma) (wb _ hmb).2 (wa _ hma).2
  have hpl := propsS_le ((i + 1 : Nat) : Int) b[i].f3 a[i].f3
  have hpb := pb _ hmb
  have hpa := pa _ hma
  refine hp.s2 hv fun k h1 h => ?_
  rw [cameoref10_Diff.j2, ref_Eq _ _ (wa _ hma).1 (wb _ hmb).1, Option.bind_some, w1 i (by omega)]
  by_cases c1 : eqV a[i].f1 b[i].f1 = true
  · rw [if_pos c1] at h ⊢
    by_cases c2 : (a[i].f2 != b[i].f2) = true
    · rw [if_pos c2] at h ⊢
      rw [if_pos (by omega), Option.bind_some, h1, Option.bind_some, if_pos (by simp only [List.length_append, List.length_cons, List.length_nil]; omega)]
      rw [List.nil_append, ← List.append_assoc] at h
      exact h
    · rw [if_neg c2] at h ⊢
      rw [h1, Option.bind_some, if_pos (by omega)]
      rw [List.nil_append, List.nil_append] at h
      exact h
  · rw [if_neg c1] at h ⊢
    rw [if_pos (by omega), Option.bind_some]
    by_cases c2 : (a[i].f2 != b[i].f2) = true
    · rw [if_pos c2] at h ⊢
      rw [if_pos (by simp only [List.length_append, List.length_cons, List.length_nil]; omega), Option.bind_some, h1, Option.bind_some, if_pos (by simp only [List.length_append, List.length_cons, List.length_nil]; omega)]
      rw [← List.append_assoc, ← List.append_assoc] at h
      exact h
    · rw [if_neg c2] at h ⊢
      rw [h1, Option.bind_some, if_pos (by simp only [List.length_append, List.length_cons, List.length_nil]; omega)]
      rw [List.nil_append, ← List.append_assoc] at h
      exact h
theorem ref_loop : ∀ (r i : Nat) (acc : List S35), a.length - i = r → i ≤ a.length → acc.length + r * 4194320 ≤ 517417236000 → Ev (fun k => cameoref10_Diff.l0 k b a acc (i : Int)) (acc ++ diffS b i (a.drop i), 0) := by
  intro r
  induction r with
  | zero =>
    intro i acc hr hi hB
    have he : i = a.length := by omega
    refine Ev.s0 fun k => ?_
    rw [cameoref10_Diff.l0, if_neg (by omega), he, List.drop_length, diffS, List.append_nil]
  | succ r ih =>
    intro i acc hr hi hB
    have hlt : i < a.length := by omega
    have hle := entry_le b pb i a[i] (pa _ (List.getElem_mem hlt))
    have hnext := ih (i + 1) (acc ++ entry b i a[i]) (by omega) (by omega) (by rw [List.length_append]; omega)
    rw [drop_cons hlt, diffS, ← List.append_assoc]
    have hpl := pa _ (List.getElem_mem hlt)
    by_cases hib : i < b.length
    · have hent : entry b i a[i] = headS ((i + 1 : Nat) : Int) b[i] a[i] ++ propsS ((i + 1 : Nat) : Int) b[i].f3 a[i].f3 := by unfold entry; rw [if_pos hib, rd52 hib]
      by_cases hc : a[i].f0 = b[i].f0
      · have hent2 : entry b i a[i] = (if eqV a[i].f1 b[i].f1 = true then [] else [dR ((i + 1 : Nat) : Int) a[i]]) ++ ((if (a[i].f2 != b[i].f2) = true then [dE ((i + 1 : Nat) : Int) a[i]] else []) ++ propsS ((i + 1 : Nat) : Int) b[i].f3 a[i].f3) := by rw [hent, headS, if_pos hc, List.nil_append, List.append_assoc]
        rw [hent2] at hnext ⊢
        refine (ref_j2 b a hb ha pb pa wb wa i hlt hib acc (by omega) hnext).s1 fun k h => ?_
        rw [cameoref10_Diff.l0, if_pos (by omega), if_pos (by omega), if_pos (by omega), rd52 hlt, rd52 hib, if_pos hc]
        exact h
      · have hent2 : entry b i a[i] = [dC ((i + 1 : Nat) : Int) a[i]] ++ ((if eqV a[i].f1 b[i].f1 = true then [] else [dR ((i + 1 : Nat) : Int) a[i]]) ++ ((if (a[i].f2 != b[i].f2) = true then [dE ((i + 1 : Nat) : Int) a[i]] else []) ++ propsS ((i + 1 : Nat) : Int) b[i].f3 a[i].f3)) := by rw [hent, headS, if_neg hc, List.append_assoc, List.append_assoc]
        rw [hent2, ← List.append_assoc acc] at hnext ⊢
        refine (ref_j2 b a hb ha pb pa wb wa i hlt hib (acc ++ [dC ((i + 1 : Nat) : Int) a[i]]) (by simp only [List.length_append, List.length_cons, List.length_nil]; omega) hnext).s1 fun k h => ?_
        rw [cameoref10_Diff.l0, if_pos (by omega), if_pos (by omega), if_pos (by omega), rd52 hlt, rd52 hib, if_neg hc, if_pos (by omega), w1 i (by omega)]
        exact h
    · have hent : entry b i a[i] = [dM ((i + 1 : Nat) : Int) a[i]] ++ a[i].f3.map (dP ((i + 1 : Nat) : Int)) := by unfold entry; rw [if_neg hib]
      rw [hent, ← List.append_assoc] at hnext ⊢
      have hp := ref_props ((i + 1 : Nat) : Int) [] a[i].f3 (by simp) hpl (by simp) (wa _ (List.getElem_mem hlt)).2
      rw [propsS_nil] at hp
      refine hp.s2 hnext fun k h1 h => ?_
      rw [cameoref10_Diff.l0, if_pos (by omega), if_pos (by omega), if_neg (by omega), if_pos (by omega), Option.bind_some, rd52 hlt, w1 i (by omega), h1, Option.bind_some, if_pos (by simp only [List.length_append, List.length_cons, List.length_nil, List.length_map]; omega)]
      exact h
theorem ref_Diff (h60 : a.length ≤ 60) : Ev (fun k => cameoref10_Diff.f k b a) (diffV b a) := by
  have hl := ref_loop b a hb ha pb pa wb wa _ 0 [] rfl (by omega) (by simp only [List.length_nil]; omega)
  rw [List.drop_zero, List.nil_append] at hl
  have hj : ∀ t : Bool, Ev (fun k => cameoref10_Diff.j0 k b a t) (if t = true then ([], 5) else (diffS b 0 a, 0)) := by
    intro t
    cases t
    · refine hl.s1 fun k h => ?_
      rw [cameoref10_Diff.j0, if_neg (by simp)]
      exact h
    · refine Ev.s0 fun k => ?_
      rw [cameoref10_Diff.j0, if_pos rfl, if_pos rfl]
  have hb2 := ref_Twice b hb pb
  have ha2 := ref_Twice a ha pa
  unfold diffV
  by_cases h1 : a.length < b.length
  · rw [if_pos h1]
    refine Ev.val fun k => ?_
    unfold cameoref10_Diff.f
    rw [if_pos (by omega)]
  · rw [if_neg h1]
    by_cases h2 : tw b = true
    · rw [if_pos h2]
      refine hb2.c2 (hj true) fun k e1 e2 => ?_
      unfold cameoref10_Diff.f
      rw [if_neg (by omega), e1, Option.bind_some, if_pos (show (b.any fun s => invariant_twice.twiceIn [] s.f3) = true from h2)]
      exact e2
    · rw [if_neg h2]
      have h3 := hj (tw a)
      have h4 : Ev (fun k => (cameoref10_Twice.f k a).bind fun t449 => (cameoref10_Diff.j0 k b a t449)) (if tw a = true then ([], 5) else (diffS b 0 a, 0)) := ha2.c2 h3 fun k e1 e2 => by
        rw [e1, Option.bind_some]; exact e2
      refine hb2.c2 h4 fun k e1 e2 => ?_
      unfold cameoref10_Diff.f
      rw [if_neg (by omega), e1, Option.bind_some, if_neg (show ¬ (b.any fun s => invariant_twice.twiceIn [] s.f3) = true from h2)]
      exact e2
theorem diffV_ok (h60 : a.length ≤ 60) : (∀ y ∈ (diffV b a).1, wf35 y) ∧ (diffV b a).1.length ≤ 2516592000 := by
  unfold diffV
  have h1 := diffS_wf b a 0 wa
  have h2 := diffS_le b pb a 0 pa
  split
  · simp
  · split
    · simp
    · split
      · simp
      · exact ⟨h1, by simp only; omega⟩
end two

theorem law_set (d e : List S35) (hd : ∀ y ∈ d, wf35 y) (hl : d.length ≤ 2516592000) : ∀ (r i : Nat) (x : List S35), x.length - i = r → i ≤ x.length → x.length ≤ 2516592000 → Ev (fun k => cameolaw10_InvariantDiffs.l0 k x d d (i : Int)) true := by
  intro r
  induction r with
  | zero =>
    intro i x hr hi hx
    refine (law_sameDeltas d hd (by omega)).s1 fun k h => ?_
    rw [cameolaw10_InvariantDiffs.l0, if_neg (by omega), h, Option.bind_some]
  | succ r ih =>
    intro i x hr hi hx
    refine (ih (i + 1) (x.set i ⟨-9, 0, 0, false, zV, zK, zD⟩) (by rw [List.length_set]; omega) (by rw [List.length_set]; omega) (by rw [List.length_set]; omega)).s1 fun k h => ?_
    rw [cameolaw10_InvariantDiffs.l0, if_pos (by omega), if_pos (by omega), Int.toNat_natCast, w1 i (by omega)]
    exact h
theorem m_le {l : List S52} (h : mL m52 l ≤ 1048576) : l.length ≤ 2097152 ∧ ∀ y ∈ l, y.f3.length ≤ 2097152 := by
  have len : ∀ {α : Type} (m : α → Nat) (l : List α), l.length ≤ mL m l := by
    intro α m l
    induction l with
    | nil => simp [mL]
    | cons x r ih => simp only [mL, List.map_cons, List.sum_cons, List.length_cons] at ih ⊢; omega
  have part : ∀ (l : List S52) (y : S52), y ∈ l → m52 y ≤ mL m52 l := by
    intro l y hy
    induction l with
    | nil => cases hy
    | cons x r ih =>
      simp only [mL, List.map_cons, List.sum_cons] at ih ⊢
      rcases List.mem_cons.1 hy with rfl | hy
      · omega
      · have := ih hy; omega
  refine ⟨by have := len m52 l; omega, fun y hy => ?_⟩
  have h1 := part l y hy
  have h2 := len m55 y.f3
  have h3 : m52 y = m28 y.f1 + mL m55 y.f3 := rfl
  omega
theorem InvariantDiffs (l0 l1 : List S52) (w0 : ∀ y ∈ l0, wf52 y) (w1 : ∀ y ∈ l1, wf52 y) (b0 : mL m52 l0 ≤ 1048576) (b1 : mL m52 l1 ≤ 1048576) : ∃ k, cameolaw10_InvariantDiffs.f k l0 l1 = some true := by
  obtain ⟨hl0, hp0⟩ := m_le b0
  obtain ⟨hl1, hp1⟩ := m_le b1
  obtain ⟨f0, hf0, hq0⟩ := law_few l0 hl0 hp0
  obtain ⟨f1, hf1, hq1⟩ := law_few l1 hl1 hp1
  have htrue : Ev (fun k => cameolaw10_InvariantDiffs.j0 k l0 l1 true) true := by
    refine Ev.s0 fun k => ?_
    rw [cameolaw10_InvariantDiffs.j0, if_pos rfl]
  refine ev_ex ?_
  cases f0 with
  | false =>
    refine hf0.c2 htrue fun k e1 e2 => ?_
    unfold cameolaw10_InvariantDiffs.f
    rw [e1, Option.bind_some, if_neg (by simp)]
    exact e2
  | true =>
    cases f1 with
    | false =>
      have h3 : Ev (fun k => (cameolaw10_few.f k l1).bind fun t521 => cameolaw10_InvariantDiffs.j0 k l0 l1 (!t521)) true := hf1.c2 htrue fun k e1 e2 => by
        rw [e1, Option.bind_some]; exact e2
      refine hf0.c2 h3 fun k e1 e2 => ?_
      unfold cameolaw10_InvariantDiffs.f
      rw [e1, Option.bind_some, if_pos rfl]
      exact e2
    | true =>
      have h60 := hq1 rfl
      obtain ⟨dw, dl⟩ := diffV_ok l0 l1 hl0 hl1 hp0 hp1 w0 w1 h60
      obtain ⟨k1, e1⟩ := ref_Copy l0 hl0 hp0
      obtain ⟨k2, e2⟩ := ref_Copy l1 hl1 hp1
      obtain ⟨k3, e3⟩ := prog_Diff l0 l1 hl0 hl1 hp0 hp1 w0 w1 h60
      obtain ⟨k4, e4⟩ := ref_Diff l0 l1 hl0 hl1 hp0 hp1 w0 w1 h60
      obtain ⟨k5, e5⟩ := law_sameDeltas _ dw (by omega)
      obtain ⟨k6, e6⟩ := ref_Same l0 w0 hl0 hp0
      obtain ⟨k7, e7⟩ := ref_Same l1 w1 hl1 hp1
      obtain ⟨k8, e8⟩ := law_set (diffV l0 l1).1 [] dw dl _ 0 (diffV l0 l1).1 rfl (by omega) dl
      obtain ⟨k9, e9⟩ := hf0
      obtain ⟨k10, e10⟩ := hf1
      dsimp only at e1 e2 e3 e4 e5 e6 e7 e8 e9 e10
      refine ⟨k1 + k2 + k3 + k4 + k5 + k6 + k7 + k8 + k9 + k10 + 2, fun k hk => ?_⟩
      obtain ⟨j, rfl⟩ : ∃ j, k = j + 1 + 1 := ⟨k - 2, by omega⟩
      unfold cameolaw10_InvariantDiffs.f
      dsimp only
      rw [e9 _ (by omega), Option.bind_some, if_pos rfl, e10 _ (by omega), Option.bind_some, cameolaw10_InvariantDiffs.j0, if_neg (by simp), e1 _ (by omega), Option.bind_some, e2 _ (by omega), Option.bind_some, e3 _ (by omega), Option.bind_some, Option.bind_some, e4 _ (by omega), Option.bind_some, e5 _ (by omega), Option.bind_some, if_pos rfl, Option.bind_some, if_pos rfl, cameolaw10_num.f, Option.bind_some, if_pos rfl, e6 _ (by omega), Option.bind_some, if_pos rfl, e7 _ (by omega), Option.bind_some, cameolaw10_InvariantDiffs.j1, if_neg (by simp)]
      exact e8 _ (by omega)
end Go.Proofs.Ytaojjpdlfnphiaa.Pure
