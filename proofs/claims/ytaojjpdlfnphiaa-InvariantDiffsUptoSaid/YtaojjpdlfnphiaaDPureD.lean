/-
  The plain law of InvariantDiffs, fourth part: the deltas of one object.
-/
import Derived.Test.YtaojjpdlfnphiaaDPureC
namespace Go.Proofs.Ytaojjpdlfnphiaa.Pure
open Go.RowKit Go.Proofs.YtaojjpdlfnphiaaW.PrintWords Go.Proofs.Ytaojjpdlfnphiaa.PInvariantDiffs Go.Proofs.Ytaojjpdlfnphiaa.opens Go.Proofs.YtaojjpdlfnphiaaW.FloatEq
set_option linter.unusedVariables false
set_option linter.unusedSimpArgs false
set_option linter.unusedSectionVars false

def keptS (b : List S55) : Int → List S55 → Nat
  | _, [] => 0
  | at_, p :: r => if idx b p > at_ then keptS b (idx b p) r + 1 else 0
theorem keptS_le (b : List S55) : ∀ (l : List S55) (at_ : Int), keptS b at_ l ≤ l.length
  | [], _ => Nat.le_refl _
  | p :: r, at_ => by
    unfold keptS
    have := keptS_le b r (idx b p)
    split <;> simp only [List.length_cons] <;> omega
theorem keptS_idx (b : List S55) : ∀ (l : List S55) (at_ : Int) (i : Nat) (h : i < l.length), -1 ≤ at_ → i < keptS b at_ l → 0 ≤ idx b l[i]
  | p :: r, at_, i, h, ha, hk => by
    unfold keptS at hk
    split at hk
    · rename_i hgt
      cases i with
      | zero => simp only [List.getElem_cons_zero]; omega
      | succ j =>
        simp only [List.getElem_cons_succ]
        exact keptS_idx b r (idx b p) j (by simpa using h) (by omega) (by omega)
    · omega
theorem drop_cons {α : Type} {l : List α} {i : Nat} (h : i < l.length) : l.drop i = l[i] :: l.drop (i + 1) := List.drop_eq_getElem_cons h

def zD : S33 := ⟨⟨0, false, 0, ⟨#[]⟩, 0⟩, ⟨0, false, 0, ⟨#[]⟩, 0⟩, ⟨0, false, 0, ⟨#[]⟩, 0⟩, 0, 0, 0⟩
def zV : S28 := ⟨0, false, 0, ⟨#[]⟩, 0⟩
def zK : S30 := ⟨⟨#[]⟩, 0⟩
def dG (o : Int) (p : S55) : S35 := ⟨o, 5, 0, false, zV, p.f0, zD⟩
def dP (o : Int) (p : S55) : S35 := ⟨o, 6, 0, false, zV, p.f0, p.f1⟩
def goneS (o : Int) (a : List S55) (n : Nat) : List S55 → List S35
  | [] => []
  | p :: r => (if idx a p < 0 ∨ (n : Int) ≤ idx a p then [dG o p] else []) ++ goneS o a n r
def putS (o : Int) (b : List S55) (n : Nat) : Nat → List S55 → List S35
  | _, [] => []
  | i, p :: r => (if i < n ∧ eqD (rd_T55 b (idx b p)).f1 p.f1 = true then [] else [dP o p]) ++ putS o b n (i + 1) r
theorem goneS_le (o : Int) (a : List S55) (n : Nat) : ∀ l, (goneS o a n l).length ≤ l.length
  | [] => Nat.le_refl _
  | p :: r => by
    unfold goneS
    have := goneS_le o a n r
    split <;> simp only [List.length_append, List.length_cons, List.length_nil] <;> omega
theorem putS_le (o : Int) (b : List S55) (n : Nat) : ∀ l i, (putS o b n i l).length ≤ l.length
  | [], _ => Nat.le_refl _
  | p :: r, i => by
    unfold putS
    have := putS_le o b n r (i + 1)
    split <;> simp only [List.length_append, List.length_cons, List.length_nil] <;> omega
def propsS (o : Int) (b a : List S55) : List S35 := goneS o a (keptS b (-1) a) b ++ putS o b (keptS b (-1) a) 0 a
theorem propsS_le (o : Int) (b a : List S55) : (propsS o b a).length ≤ b.length + a.length := by
  unfold propsS
  have h1 := goneS_le o a (keptS b (-1) a) b
  have h2 := putS_le o b (keptS b (-1) a) a 0
  rw [List.length_append]
  omega
theorem snoc_nil {α : Type} (x : List α) : x ++ ([] ++ []) = x := by simp

section
variable {α β γ δ : Type} {f : Nat → Option α} {u : α} {b : Nat → Option β} {v : β} {c : Nat → Option γ} {x : γ} {g : Nat → Option δ} {y : δ}
theorem Ev.s1 (hb : Ev b v) (h : ∀ k, b k = some v → g (k + 1) = some y) : Ev g y := by
  obtain ⟨k0, h0⟩ := hb
  refine ⟨k0 + 1, fun k hk => ?_⟩
  obtain ⟨j, rfl⟩ : ∃ j, k = j + 1 := ⟨k - 1, by omega⟩
  exact h j (h0 j (by omega))
theorem Ev.s2 (hf : Ev f u) (hb : Ev b v) (h : ∀ k, f k = some u → b k = some v → g (k + 1) = some y) : Ev g y := by
  obtain ⟨k1, h1⟩ := hf
  obtain ⟨k0, h0⟩ := hb
  refine ⟨max k1 k0 + 1, fun k hk => ?_⟩
  obtain ⟨j, rfl⟩ : ∃ j, k = j + 1 := ⟨k - 1, by omega⟩
  exact h j (h1 j (by omega)) (h0 j (by omega))
theorem Ev.s3 (hc : Ev c x) (hf : Ev f u) (hb : Ev b v) (h : ∀ k, c k = some x → f k = some u → b k = some v → g (k + 1) = some y) : Ev g y := by
  obtain ⟨k2, h2⟩ := hc
  obtain ⟨k1, h1⟩ := hf
  obtain ⟨k0, h0⟩ := hb
  refine ⟨max k2 (max k1 k0) + 1, fun k hk => ?_⟩
  obtain ⟨j, rfl⟩ : ∃ j, k = j + 1 := ⟨k - 1, by omega⟩
  exact h j (h2 j (by omega)) (h1 j (by omega)) (h0 j (by omega))
theorem Ev.s0 (h : ∀ k, g (k + 1) = some y) : Ev g y := ⟨1, fun k hk => by
  obtain ⟨j, rfl⟩ : ∃ j, k = j + 1 := ⟨k - 1, by omega⟩
  exact h j⟩
end
section ref
variable (o : Int) (b a : List S55) (hb : b.length ≤ 2097152) (ha : a.length ≤ 2097152) (wb : ∀ y ∈ b, wf55 y) (wa : ∀ y ∈ a, wf55 y)
include hb ha wb wa
theorem ref_put (n : Nat) (hn : n ≤ a.length) (hidx : ∀ i (h : i < a.length), i < n → 0 ≤ idx b a[i]) : ∀ (r i : Nat) (acc : List S35), a.length - i = r → i ≤ a.length → acc.length + r ≤ 517417236500 → Ev (fun k => cameoref10_props.l2 k o b a (n : Int) acc (i : Int)) (acc ++ putS o b n i (a.drop i)) := by
  intro r
  induction r with
  | zero =>
    intro i acc hr hi hB
    have he : i = a.length := by omega
    refine Ev.s0 fun k => ?_
    rw [cameoref10_props.l2, if_neg (by omega), he, List.drop_length, putS, List.append_nil]
  | succ r ih =>
    intro i acc hr hi hB
    have hlt : i < a.length := by omega
    have hwa := (wa _ (List.getElem_mem hlt)).2
    have hpush := ih (i + 1) (acc ++ [dP o a[i]]) (by omega) (by omega) (by simp only [List.length_append, List.length_cons, List.length_nil]; omega)
    rw [List.append_assoc] at hpush
    rw [drop_cons hlt, putS]
    by_cases hin : n ≤ i
    · rw [if_neg (by omega)]
      refine hpush.s1 fun k h2 => ?_
      rw [cameoref10_props.l2, if_pos (by omega), if_pos (by omega), if_pos (by omega), if_pos (by omega), rd55 hlt, w1 i (by omega)]
      exact h2
    · have hge := hidx i hlt (by omega)
      have hil := idx_lt b a[i]
      obtain ⟨t, ht⟩ : ∃ t : Nat, idx b a[i] = (t : Int) := ⟨(idx b a[i]).toNat, by omega⟩
      have htl : t < b.length := by omega
      have hwb := (wb _ (List.getElem_mem htl)).2
      have hf := ref_Find b a[i] (by omega)
      rw [ht] at hf
      rw [ht, rd55 htl]
      by_cases hq : eqD b[t].f1 a[i].f1 = true
      · rw [if_pos ⟨by omega, hq⟩, List.nil_append]
        refine hf.s2 (ih (i + 1) acc (by omega) (by omega) (by omega)) fun k h1 h2 => ?_
        rw [cameoref10_props.l2, if_pos (by omega), if_neg (by omega), if_pos (by omega), rd55 hlt, h1, Option.bind_some, if_pos (by omega), if_pos (by omega), rd55 htl, ref_EqDesc _ _ hwa hwb, Option.bind_some, eqD_comm, if_pos hq, w1 i (by omega)]
        exact h2
      · rw [if_neg (fun h => hq h.2)]
        refine hf.s2 hpush fun k h1 h2 => ?_
        rw [cameoref10_props.l2, if_pos (by omega), if_neg (by omega), if_pos (by omega), rd55 hlt, h1, Option.bind_some, if_pos (by omega), if_pos (by omega), rd55 htl, ref_EqDesc _ _ hwa hwb, Option.bind_some, eqD_comm, if_neg hq, if_pos (by omega), w1 i (by omega)]
        exact h2
theorem ref_gone (n : Nat) (hn : n ≤ a.length) (hidx : ∀ i (h : i < a.length), i < n → 0 ≤ idx b a[i]) : ∀ (r i : Nat) (acc : List S35), b.length - i = r → i ≤ b.length → acc.length + r ≤ 517417236500 - 2097152 → Ev (fun k => cameoref10_props.l1 k o b a (n : Int) acc (i : Int)) (acc ++ goneS o a n (b.drop i) ++ putS o b n 0 a) := by
  intro r
  induction r with
  | zero =>
    intro i acc hr hi hB
    have he : i = b.length := by omega
    have h := ref_put o b a hb ha wb wa n hn hidx _ 0 acc rfl (by omega) (by omega)
    rw [List.drop_zero] at h
    rw [he, List.drop_length, goneS, List.append_nil]
    refine h.s1 fun k h2 => ?_
    rw [cameoref10_props.l1, if_neg (by omega)]
    exact h2
  | succ r ih =>
    intro i acc hr hi hB
    have hlt : i < b.length := by omega
    have hpush := ih (i + 1) (acc ++ [dG o b[i]]) (by omega) (by omega) (by simp only [List.length_append, List.length_cons, List.length_nil]; omega)
    rw [List.append_assoc acc] at hpush
    have hf := ref_Find (a.take n) b[i] (by rw [List.length_take]; omega)
    have hit := idx_take a b[i] n hn
    rw [drop_cons hlt, goneS]
    by_cases hc : idx a b[i] < 0 ∨ (n : Int) ≤ idx a b[i]
    · rw [if_pos hc]
      have hneg := hit.2 hc
      refine hf.s2 hpush fun k h1 h2 => ?_
      rw [cameoref10_props.l1, if_pos (by omega), if_pos (by omega), if_pos (by omega), if_pos (by omega), Int.toNat_natCast, rd55 hlt, h1, Option.bind_some, if_pos hneg, if_pos (by omega), w1 i (by omega)]
      exact h2
    · rw [if_neg hc, List.nil_append]
      have hneg := fun h => hc (hit.1 h)
      refine hf.s2 (ih (i + 1) acc (by omega) (by omega) (by omega)) fun k h1 h2 => ?_
      rw [cameoref10_props.l1, if_pos (by omega), if_pos (by omega), if_pos (by omega), if_pos (by omega), Int.toNat_natCast, rd55 hlt, h1, Option.bind_some, if_neg hneg, w1 i (by omega)]
      exact h2
theorem ref_kept {v : List S35} : ∀ (r i : Nat) (at_ : Int), a.length - i = r → i ≤ a.length → Ev (fun k => cameoref10_props.j1 k o b a ((i + keptS b at_ (a.drop i) : Nat) : Int)) v → Ev (fun k => cameoref10_props.l0 k o b a (i : Int) at_) v := by
  intro r
  induction r with
  | zero =>
    intro i at_ hr hi hv
    have he : i = a.length := by omega
    rw [he, List.drop_length, keptS, Nat.add_zero] at hv
    refine hv.s1 fun k h2 => ?_
    rw [cameoref10_props.l0, if_neg (by omega), he]
    exact h2
  | succ r ih =>
    intro i at_ hr hi hv
    have hlt : i < a.length := by omega
    have hf := ref_Find b a[i] (by omega)
    rw [drop_cons hlt, keptS] at hv
    by_cases hc : idx b a[i] > at_
    · rw [if_pos hc, show i + (keptS b (idx b a[i]) (a.drop (i + 1)) + 1) = (i + 1) + keptS b (idx b a[i]) (a.drop (i + 1)) by omega] at hv
      refine hf.s2 (ih (i + 1) _ (by omega) (by omega) hv) fun k h1 h2 => ?_
      rw [cameoref10_props.l0, if_pos (by omega), if_pos (by omega), rd55 hlt, h1, Option.bind_some, if_pos hc, Option.bind_some, w1 i (by omega)]
      exact h2
    · rw [if_neg hc, Nat.add_zero] at hv
      refine hf.s2 hv fun k h1 h2 => ?_
      rw [cameoref10_props.l0, if_pos (by omega), if_pos (by omega), rd55 hlt, h1, Option.bind_some, if_neg hc]
      exact h2
theorem ref_props : Ev (fun k => cameoref10_props.f k o b a) (propsS o b a) := by
  have hk := keptS_le b a (-1)
  have h1 := ref_gone o b a hb ha wb wa (keptS b (-1) a) hk (fun i h hi => keptS_idx b a (-1) i h (by omega) hi) _ 0 [] rfl (by omega) (by simp only [List.length_nil]; omega)
  rw [List.drop_zero, List.nil_append] at h1
  have h2 : Ev (fun k => cameoref10_props.j1 k o b a ((0 + keptS b (-1) (a.drop 0) : Nat) : Int)) (propsS o b a) := by
    refine h1.s1 fun k h => ?_
    rw [List.drop_zero, Nat.zero_add, cameoref10_props.j1]
    exact h
  exact (ref_kept o b a hb ha wb wa _ 0 (-1) rfl (by omega) h2).congr fun k => rfl
end ref
end Go.Proofs.Ytaojjpdlfnphiaa.Pure
