/- Bytes as code points: what is read leniently and written anew is what was read just where each code point was written as shortly as may be, and no two halves stand apart. Plain lists of numbers. -/
import Derived.Lib.DecodeN
import Derived.Test.YtlliefodchfpfaaDoorPB
import Derived.Test.YtlliefodchfpfaaDoorPE
import Derived.Lib.Bytes
set_option linter.unusedSimpArgs false
set_option linter.unusedVariables false
namespace Go.Proofs.YtlliefodchfpfaaDoor.Utf
def cont (b : Nat) : Prop := 128 ≤ b ∧ b ≤ 191
instance (b : Nat) : Decidable (cont b) := inferInstanceAs (Decidable (_ ∧ _))
/-- One code point and its bytes, read leniently. -/
def ld (n b0 b1 b2 b3 : Nat) : Option (Nat × Nat) :=
  if b0 < 128 then some (b0, 1)
  else if b0 < 192 then none
  else if b0 < 224 then (if 1 < n ∧ cont b1 then some ((b0 - 192) * 64 + (b1 - 128), 2) else none)
  else if b0 < 240 then (if 1 < n ∧ cont b1 then (if 2 < n ∧ cont b2 then some ((b0 - 224) * 4096 + (b1 - 128) * 64 + (b2 - 128), 3) else none) else none)
  else if b0 < 248 then (if 1 < n ∧ cont b1 then (if 2 < n ∧ cont b2 then (if 3 < n ∧ cont b3 then (if (b0 - 240) * 262144 + (b1 - 128) * 4096 + (b2 - 128) * 64 + (b3 - 128) ≤ 1114111 then some ((b0 - 240) * 262144 + (b1 - 128) * 4096 + (b2 - 128) * 64 + (b3 - 128), 4) else none) else none) else none) else none)
  else none
def plen (c : Nat) : Nat := if c < 128 then 1 else if c < 2048 then 2 else if c < 65536 then 3 else 4
def putC (c : Nat) : List Nat :=
  if c < 128 then [c] else if c < 2048 then [192 + c / 64, 128 + c % 64] else if c < 65536 then [224 + c / 4096, 128 + c / 64 % 64, 128 + c % 64]
  else [240 + c / 262144, 128 + c / 4096 % 64, 128 + c / 64 % 64, 128 + c % 64]
theorem putC_len (c : Nat) : (putC c).length = plen c := by
  unfold putC plen
  repeat' split
  all_goals rfl
theorem ld_inv {n b0 b1 b2 b3 c k : Nat} (h : ld n b0 b1 b2 b3 = some (c, k)) :
    (k = 1 ∧ b0 < 128 ∧ c = b0) ∨ (k = 2 ∧ 192 ≤ b0 ∧ b0 < 224 ∧ 1 < n ∧ cont b1 ∧ c = (b0 - 192) * 64 + (b1 - 128)) ∨
    (k = 3 ∧ 224 ≤ b0 ∧ b0 < 240 ∧ 2 < n ∧ cont b1 ∧ cont b2 ∧ c = (b0 - 224) * 4096 + (b1 - 128) * 64 + (b2 - 128)) ∨
    (k = 4 ∧ 240 ≤ b0 ∧ b0 < 248 ∧ 3 < n ∧ cont b1 ∧ cont b2 ∧ cont b3 ∧ c = (b0 - 240) * 262144 + (b1 - 128) * 4096 + (b2 - 128) * 64 + (b3 - 128) ∧ c ≤ 1114111) := by
  have sm : ∀ {x : Nat × Nat}, some x = some (c, k) → x.1 = c ∧ x.2 = k := fun h => by
    have := Option.some.inj h
    exact ⟨congrArg Prod.fst this, congrArg Prod.snd this⟩
  have nn : ∀ {α : Prop}, (none : Option (Nat × Nat)) = some (c, k) → α := fun h => absurd h.symm (Option.some_ne_none _)
  unfold ld at h
  by_cases h0 : b0 < 128
  · rw [if_pos h0] at h
    obtain ⟨e1, e2⟩ := sm h
    exact .inl ⟨e2.symm, h0, e1.symm⟩
  rw [if_neg h0] at h
  by_cases h1 : b0 < 192
  · rw [if_pos h1] at h; exact nn h
  rw [if_neg h1] at h
  by_cases h2 : b0 < 224
  · rw [if_pos h2] at h
    by_cases h3 : 1 < n ∧ cont b1
    · rw [if_pos h3] at h
      obtain ⟨e1, e2⟩ := sm h
      exact .inr (.inl ⟨e2.symm, by omega, h2, h3.1, h3.2, e1.symm⟩)
    · rw [if_neg h3] at h; exact nn h
  rw [if_neg h2] at h
  by_cases h4 : b0 < 240
  · rw [if_pos h4] at h
    by_cases h3 : 1 < n ∧ cont b1
    · rw [if_pos h3] at h
      by_cases h5 : 2 < n ∧ cont b2
      · rw [if_pos h5] at h
        obtain ⟨e1, e2⟩ := sm h
        exact .inr (.inr (.inl ⟨e2.symm, by omega, h4, h5.1, h3.2, h5.2, e1.symm⟩))
      · rw [if_neg h5] at h; exact nn h
    · rw [if_neg h3] at h; exact nn h
  rw [if_neg h4] at h
  by_cases h6 : b0 < 248
  · rw [if_pos h6] at h
    by_cases h3 : 1 < n ∧ cont b1
    · rw [if_pos h3] at h
      by_cases h5 : 2 < n ∧ cont b2
      · rw [if_pos h5] at h
        by_cases h7 : 3 < n ∧ cont b3
        · rw [if_pos h7] at h
          by_cases h8 : (b0 - 240) * 262144 + (b1 - 128) * 4096 + (b2 - 128) * 64 + (b3 - 128) ≤ 1114111
          · rw [if_pos h8] at h
            obtain ⟨e1, e2⟩ := sm h
            exact .inr (.inr (.inr ⟨e2.symm, by omega, h6, h7.1, h3.2, h5.2, h7.2, e1.symm, by rw [← e1]; exact h8⟩))
          · rw [if_neg h8] at h; exact nn h
        · rw [if_neg h7] at h; exact nn h
      · rw [if_neg h5] at h; exact nn h
    · rw [if_neg h3] at h; exact nn h
  · rw [if_neg h6] at h; exact nn h
theorem plen_le {c k : Nat} (h : (k = 1 ∧ c < 128) ∨ (k = 2 ∧ c < 2048) ∨ (k = 3 ∧ c < 65536) ∨ k = 4) : plen c ≤ k := by
  unfold plen
  repeat' split
  all_goals omega
theorem ld_spec {n b0 b1 b2 b3 c k : Nat} (hn : 0 < n) (h : ld n b0 b1 b2 b3 = some (c, k)) : 1 ≤ k ∧ k ≤ n ∧ k ≤ 4 ∧ plen c ≤ k ∧ c ≤ 1114111 := by
  have h := ld_inv h
  unfold cont at h
  refine ⟨by omega, by omega, by omega, plen_le (by omega), by omega⟩
theorem plen_inv {c : Nat} : (plen c = 1 ∧ c < 128) ∨ (plen c = 2 ∧ 128 ≤ c ∧ c < 2048) ∨ (plen c = 3 ∧ 2048 ≤ c ∧ c < 65536) ∨ (plen c = 4 ∧ 65536 ≤ c) := by
  unfold plen
  repeat' split
  all_goals omega
def ldL (l : List Nat) : Option (Nat × Nat) := ld l.length (l.getD 0 0) (l.getD 1 0) (l.getD 2 0) (l.getD 3 0)
theorem ldL_take {l : List Nat} {c k : Nat} (hl : l ≠ []) (hb : ∀ b ∈ l, b < 256) (h : ldL l = some (c, k)) (hk : k = plen c) : l.take k = putC c := by
  have h := ld_inv h
  have hp := plen_inv (c := c)
  rw [← hk] at hp
  rcases h with ⟨rfl, h1, h2⟩ | ⟨rfl, h1, h2, h3, h4, h5⟩ | ⟨rfl, h1, h2, h3, h4, h5, h6⟩ | ⟨rfl, h1, h2, h3, h4, h5, h6, h7, h8⟩
  · rcases l with _ | ⟨b0, r⟩
    · exact absurd rfl hl
    · simp only [List.getD_cons_zero] at h1 h2
      subst h2
      unfold putC
      rw [if_pos h1]; rfl
  · rcases l with _ | ⟨b0, _ | ⟨b1, r⟩⟩
    · exact absurd rfl hl
    · simp at h3
    · simp only [List.getD_cons_zero, List.getD_cons_succ] at h1 h2 h4 h5
      unfold cont at h4
      unfold putC
      rw [if_neg (by omega), if_pos (by omega)]
      simp only [List.take_succ_cons, List.take_zero, List.cons.injEq, and_true]
      omega
  · rcases l with _ | ⟨b0, _ | ⟨b1, _ | ⟨b2, r⟩⟩⟩
    · exact absurd rfl hl
    · simp at h3
    · simp at h3
    · simp only [List.getD_cons_zero, List.getD_cons_succ] at h1 h2 h4 h5 h6
      unfold cont at h4 h5
      unfold putC
      rw [if_neg (by omega), if_neg (by omega), if_pos (by omega)]
      simp only [List.take_succ_cons, List.take_zero, List.cons.injEq, and_true]
      omega
  · rcases l with _ | ⟨b0, _ | ⟨b1, _ | ⟨b2, _ | ⟨b3, r⟩⟩⟩⟩
    · exact absurd rfl hl
    · simp at h3
    · simp at h3
    · simp at h3
    · simp only [List.getD_cons_zero, List.getD_cons_succ] at h1 h2 h4 h5 h6 h7
      unfold cont at h4 h5 h6
      unfold putC
      rw [if_neg (by omega), if_neg (by omega), if_neg (by omega)]
      simp only [List.take_succ_cons, List.take_zero, List.cons.injEq, and_true]
      omega
/-- All code points of some bytes, each with its number of bytes. -/
def dec : Nat → List Nat → Option (List (Nat × Nat))
  | 0, l => if l = [] then some [] else none
  | m + 1, l => if l = [] then some [] else match ldL l with
    | none => none
    | some (c, k) => (dec m (l.drop k)).map ((c, k) :: ·)
def hi (c : Nat) : Bool := decide (55296 ≤ c) && decide (c < 56320)
def lo (c : Nat) : Bool := decide (56320 ≤ c) && decide (c < 57344)
def noadj : Nat → List Nat → Bool
  | _, [] => true
  | a, c :: r => !(hi a && lo c) && noadj c r
def units (c : Nat) : List Nat := if 65536 ≤ c then [55296 + (c - 65536) / 1024, 56320 + (c - 65536) % 1024] else [c]
def rowC : List Nat → List Nat
  | [] => []
  | [a] => [a]
  | a :: b :: r => if hi a && lo b then (65536 + 1024 * (a - 55296) + (b - 56320)) :: rowC r else a :: rowC (b :: r)
def merge : List Nat → List Nat
  | [] => []
  | [a] => [a]
  | a :: b :: r => if hi a && lo b then (65536 + 1024 * (a - 55296) + (b - 56320)) :: merge r else a :: merge (b :: r)
theorem row_high {a : Nat} (ha : hi a = false) (l : List Nat) : rowC (a :: l) = a :: rowC l := by
  cases l with
  | nil => rfl
  | cons b r => simp [rowC, ha]
theorem row_pair {c : Nat} (hc : 65536 ≤ c) (hm : c ≤ 1114111) (l : List Nat) : rowC (units c ++ l) = c :: rowC l := by
  unfold units
  rw [if_pos hc]
  have h1 : hi (55296 + (c - 65536) / 1024) = true := by unfold hi; simp; omega
  have h2 : lo (56320 + (c - 65536) % 1024) = true := by unfold lo; simp; omega
  simp only [List.cons_append, List.nil_append, rowC, h1, h2, Bool.and_self, if_true, List.cons.injEq, and_true]
  omega
theorem row_units : ∀ (n : Nat) (cs : List Nat), cs.length ≤ n → (∀ c ∈ cs, c ≤ 1114111) → rowC (cs.flatMap units) = merge cs
  | 0, [], _, _ => rfl
  | n + 1, [], _, _ => rfl
  | n + 1, [a], _, h => by
    simp only [List.flatMap_cons, List.flatMap_nil]
    by_cases ha : 65536 ≤ a
    · rw [row_pair ha (h a (by simp))]; rfl
    · rw [List.append_nil]; unfold units; rw [if_neg ha]; rfl
  | n + 1, a :: b :: r, hl, h => by
    have ih := row_units n (b :: r) (by simp at hl ⊢; omega) (fun c hc => h c (List.mem_cons_of_mem _ hc))
    by_cases ha : 65536 ≤ a
    · have hh : hi a = false := by unfold hi; simp; omega
      rw [List.flatMap_cons, row_pair ha (h a (by simp)), ih]
      simp [merge, hh]
    · have e : units a = [a] := by unfold units; rw [if_neg ha]
      rw [List.flatMap_cons, e, List.singleton_append]
      cases hh : hi a with
      | false => rw [row_high hh, ih]; simp [merge, hh]
      | true =>
        by_cases hb : 65536 ≤ b
        · have hl2 : lo b = false := by unfold lo; simp; omega
          rw [show merge (a :: b :: r) = a :: merge (b :: r) from by simp [merge, hh, hl2], ← ih]
          have e2 : units b = [55296 + (b - 65536) / 1024, 56320 + (b - 65536) % 1024] := by unfold units; rw [if_pos hb]
          have h3 : lo (55296 + (b - 65536) / 1024) = false := by
            have := h b (by simp)
            unfold lo; simp; omega
          rw [List.flatMap_cons, e2]
          simp [rowC, hh, h3]
        · have e2 : units b = [b] := by unfold units; rw [if_neg hb]
          cases hl2 : lo b with
          | false =>
            rw [show merge (a :: b :: r) = a :: merge (b :: r) from by simp [merge, hh, hl2], ← ih, List.flatMap_cons, e2]
            simp [rowC, hh, hl2]
          | true =>
            rw [show merge (a :: b :: r) = (65536 + 1024 * (a - 55296) + (b - 56320)) :: merge r from by simp [merge, hh, hl2], List.flatMap_cons, e2]
            have ih2 := row_units n r (by simp at hl ⊢; omega) (fun c hc => h c (List.mem_cons_of_mem _ (List.mem_cons_of_mem _ hc)))
            simp [rowC, hh, hl2, ih2]
def psum (l : List Nat) : Nat := (l.map plen).sum
theorem merge_sum : ∀ (n : Nat) (cs : List Nat), cs.length ≤ n → psum (merge cs) ≤ psum cs ∧ (psum (merge cs) = psum cs → merge cs = cs ∧ ∀ a, hi a = false → noadj a cs = true)
  | 0, [], _ => ⟨Nat.le_refl _, fun _ => ⟨rfl, fun _ _ => rfl⟩⟩
  | n + 1, [], _ => ⟨Nat.le_refl _, fun _ => ⟨rfl, fun _ _ => rfl⟩⟩
  | n + 1, [a], _ => ⟨Nat.le_refl _, fun _ => ⟨rfl, fun x hx => by simp [noadj, hx]⟩⟩
  | n + 1, a :: b :: r, hl => by
    obtain ⟨i1, i2⟩ := merge_sum n (b :: r) (by simp at hl ⊢; omega)
    cases hh : hi a && lo b with
    | true =>
      obtain ⟨j1, j2⟩ := merge_sum n r (by simp at hl ⊢; omega)
      rw [Bool.and_eq_true] at hh
      have e : merge (a :: b :: r) = (65536 + 1024 * (a - 55296) + (b - 56320)) :: merge r := by simp [merge, hh]
      have p1 : plen a = 3 := by
        have := hh.1
        unfold hi at this
        simp at this
        unfold plen
        rw [if_neg (by omega), if_neg (by omega), if_pos (by omega)]
      have p2 : plen b = 3 := by
        have := hh.2
        unfold lo at this
        simp at this
        unfold plen
        rw [if_neg (by omega), if_neg (by omega), if_pos (by omega)]
      have p3 : ∀ x, plen (65536 + x) = 4 := fun x => by
        unfold plen
        rw [if_neg (by omega), if_neg (by omega), if_neg (by omega)]
      have s1 : psum (merge (a :: b :: r)) = 4 + psum (merge r) := by
        rw [e]
        simp only [psum, List.map_cons, List.sum_cons]
        rw [Nat.add_assoc, p3]
      have s2 : psum (a :: b :: r) = 3 + (3 + psum r) := by simp [psum, p1, p2]
      rw [s1, s2]
      exact ⟨by omega, fun h => by omega⟩
    | false =>
      have e : merge (a :: b :: r) = a :: merge (b :: r) := by simp [merge, hh]
      have s1 : psum (merge (a :: b :: r)) = plen a + psum (merge (b :: r)) := by rw [e]; simp [psum]
      have s2 : psum (a :: b :: r) = plen a + psum (b :: r) := by simp [psum]
      rw [s1, s2]
      refine ⟨by omega, fun h => ?_⟩
      obtain ⟨k1, k2⟩ := i2 (by omega)
      refine ⟨by rw [e, k1], fun x hx => ?_⟩
      have k3 := k2 0 rfl
      have hz : hi 0 = false := rfl
      simp only [noadj, hx, hh, hz, Bool.false_and, Bool.not_false, Bool.true_and] at k3 ⊢
      exact k3
theorem merge_noadj : ∀ (cs : List Nat) (a : Nat), noadj a cs = true → merge cs = cs
  | [], _, _ => rfl
  | [a], _, _ => rfl
  | a :: b :: r, x, h => by
    simp only [noadj, Bool.and_eq_true, Bool.not_eq_true'] at h
    have e : merge (a :: b :: r) = a :: merge (b :: r) := by simp [merge, h.2.1]
    rw [e, merge_noadj (b :: r) a (by simp only [noadj, Bool.and_eq_true, Bool.not_eq_true']; exact h.2)]
theorem dec_spec : ∀ (m : Nat) (l : List Nat) (cs : List (Nat × Nat)), (∀ b ∈ l, b < 256) → dec m l = some cs →
    (cs.map (·.2)).sum = l.length ∧ psum (cs.map (·.1)) ≤ l.length ∧ (psum (cs.map (·.1)) = l.length → ∀ p ∈ cs, p.2 = plen p.1) ∧ (∀ p ∈ cs, p.1 ≤ 1114111) ∧ ((∀ p ∈ cs, p.2 = plen p.1) → (cs.map (·.1)).flatMap putC = l ∧ psum (cs.map (·.1)) = l.length)
  | 0, l, cs, hb, h => by
    unfold dec at h
    split at h
    · rename_i hl
      subst hl
      simp only [Option.some.injEq] at h
      subst h
      simp [psum]
    · cases h
  | m + 1, l, cs, hb, h => by
    unfold dec at h
    split at h
    · rename_i hl
      subst hl
      simp only [Option.some.injEq] at h
      subst h
      simp [psum]
    · rename_i hl
      split at h
      · cases h
      · rename_i c k hld
        obtain ⟨cs', hd, rfl⟩ := Option.map_eq_some_iff.1 h
        have hn : 0 < l.length := by cases l <;> simp_all
        obtain ⟨s1, s2, s3, s4, s5⟩ := ld_spec hn hld
        obtain ⟨i1, i2, i3, i4, i5⟩ := dec_spec m (l.drop k) cs' (fun b h => hb b (List.mem_of_mem_drop h)) hd
        rw [List.length_drop] at i1 i2 i3 i5
        refine ⟨by simp [i1]; omega, ?_, ?_, ?_, ?_⟩
        · simp only [psum, List.map_cons, List.sum_cons] at i2 ⊢
          omega
        · intro he
          simp only [psum, List.map_cons, List.sum_cons] at i2 i3 he
          intro p hp
          rcases List.mem_cons.1 hp with rfl | hp
          · show k = plen c
            omega
          · exact i3 (by omega) p hp
        · intro p hp
          rcases List.mem_cons.1 hp with rfl | hp
          · exact s5
          · exact i4 p hp
        · intro hall
          have h1 : k = plen c := hall (c, k) (by simp)
          obtain ⟨j1, j2⟩ := i5 fun p hp => hall p (by simp [hp])
          refine ⟨?_, ?_⟩
          · rw [List.map_cons, List.flatMap_cons, j1, ← ldL_take hl hb hld h1, List.take_append_drop]
          · simp only [psum, List.map_cons, List.sum_cons] at j2 ⊢
            omega
theorem flat_len (l : List Nat) : (l.flatMap putC).length = psum l := by
  induction l with
  | nil => rfl
  | cons a r ih => rw [List.flatMap_cons, List.length_append, ih, putC_len]; rfl
/-- Written anew, they are the same bytes just where all is as short as may be, and no halves stand side by side. -/
theorem back_iff {m : Nat} {l : List Nat} {cs : List (Nat × Nat)} (hb : ∀ b ∈ l, b < 256) (h : dec m l = some cs) :
    (rowC ((cs.map (·.1)).flatMap units)).flatMap putC = l ↔ (∀ p ∈ cs, p.2 = plen p.1) ∧ noadj 0 (cs.map (·.1)) = true := by
  obtain ⟨d1, d2, d3, d4, d5⟩ := dec_spec m l cs hb h
  have e := row_units (cs.map (·.1)).length (cs.map (·.1)) (Nat.le_refl _) (fun c hc => by
    obtain ⟨p, hp, rfl⟩ := List.mem_map.1 hc
    exact d4 p hp)
  rw [e]
  obtain ⟨m1, m2⟩ := merge_sum (cs.map (·.1)).length (cs.map (·.1)) (Nat.le_refl _)
  constructor
  · intro he
    have hl := congrArg List.length he
    rw [flat_len] at hl
    obtain ⟨_, hna⟩ := m2 (by omega)
    exact ⟨d3 (by omega), hna 0 rfl⟩
  · rintro ⟨h1, h2⟩
    rw [merge_noadj _ 0 h2]
    exact (d5 h1).1
end Go.Proofs.YtlliefodchfpfaaDoor.Utf

/-! #### part U1 -/
/- units.Valid: every code point written as shortly as may be, and no two halves side by side. -/
set_option linter.unusedSimpArgs false
set_option linter.unusedVariables false
namespace Go.Proofs.YtlliefodchfpfaaDoor.Utf
open Go.RowKit Go.Proofs.YtlliefodchfpfaaDoorW.PrintWords Go.Proofs.YtlliefodchfpfaaDoor.PDescKinds
def nums (s : ByteArray) : List Nat := s.data.toList.map UInt8.toNat
theorem nums_len (s : ByteArray) : (nums s).length = s.size := by
  rw [nums, List.length_map, Array.length_toList]; rfl
theorem nums_lt (s : ByteArray) : ∀ b ∈ nums s, b < 256 := fun b hb => by
  obtain ⟨u, _, rfl⟩ := List.mem_map.1 hb
  exact u.toNat_lt
theorem nums_get (s : ByteArray) (i : Nat) : (s.get! i).toNat = (nums s).getD i 0 := by
  obtain ⟨d⟩ := s
  show (d[i]!).toNat = ((d.toList.map UInt8.toNat).getD i 0)
  rw [getElem!_def]
  cases h : d[i]? with
  | none =>
    have : d.toList[i]? = none := by simpa using h
    simp only [List.getD_eq_getElem?_getD, List.getElem?_map, this, Option.map_none, Option.getD_none]
    rfl
  | some u =>
    have : d.toList[i]? = some u := by simpa using h
    simp only [List.getD_eq_getElem?_getD, List.getElem?_map, this, Option.map_some, Option.getD_some]
theorem nums_bt (s : ByteArray) (i : Nat) : bt s (i : Int) = ((nums s).getD i 0 : Nat) := by
  unfold bt
  rw [Int.toNat_natCast]
  split
  · rename_i h
    have h2 : s.data.toList[i]? = some s[i] := by
      rw [Array.getElem?_toList]
      exact Array.getElem?_eq_getElem h
    simp only [nums, List.getD_eq_getElem?_getD, List.getElem?_map, h2, Option.map_some, Option.getD_some]
  · rename_i h
    have h2 : s.data.toList[i]? = none := by
      rw [Array.getElem?_toList]
      exact Array.getElem?_eq_none (Nat.le_of_not_lt h)
    simp only [nums, List.getD_eq_getElem?_getD, List.getElem?_map, h2, Option.map_none, Option.getD_none]
    rfl
theorem drop_getD (l : List Nat) (i j : Nat) : (l.drop i).getD j 0 = l.getD (i + j) 0 := by
  simp [List.getD_eq_getElem?_getD]
theorem nums_extract (s : ByteArray) (i : Nat) : nums (units_Valid.slc s i) = (nums s).drop i := by
  unfold nums units_Valid.slc
  rw [Lib.extract_data, List.map_take, List.map_drop, List.take_of_length_le]
  rw [List.length_drop, List.length_map, Array.length_toList]
  exact Nat.le_refl _
theorem getD_lt (s : ByteArray) (i : Nat) : (nums s).getD i 0 < 256 := by
  rw [List.getD_eq_getElem?_getD]
  cases h : (nums s)[i]? with
  | none => decide
  | some b => exact nums_lt s b (List.mem_of_getElem? h)
set_option maxRecDepth 100000 in
set_option maxHeartbeats 8000000 in
theorem decodeN_ld (n b0 b1 b2 b3 : Nat) (h0 : b0 < 256) (h1 : b1 < 256) (h2 : b2 < 256) (h3 : b3 < 256) :
    Lib.decodeN n b0 b1 b2 b3 = match ld n b0 b1 b2 b3 with
      | some (c, k) => if k = plen c ∧ ¬ (55296 ≤ c ∧ c < 57344) then (c, k) else (65533, 1)
      | none => (65533, 1) := by
  unfold Lib.decodeN ld cont
  by_cases c0 : b0 < 128
  · rw [if_pos c0, if_pos c0]
    simp only
    have : plen b0 = 1 := by unfold plen; rw [if_pos c0]
    rw [this, if_pos ⟨rfl, by omega⟩]
  rw [if_neg c0, if_neg c0]
  by_cases c1 : b0 < 192
  · rw [if_pos c1, if_neg (by omega), if_neg (by omega), if_neg (by omega)]
  rw [if_neg c1]
  by_cases c2 : b0 < 224
  · rw [if_pos c2]
    by_cases d1 : 1 < n ∧ 128 ≤ b1 ∧ b1 ≤ 191
    · rw [if_pos d1, if_pos (by omega)]
      have e : b0 % 32 * 64 + b1 % 64 = (b0 - 192) * 64 + (b1 - 128) := by omega
      rw [e]
      simp only
      have hp := plen_inv (c := (b0 - 192) * 64 + (b1 - 128))
      by_cases d2 : (b0 - 192) * 64 + (b1 - 128) ≥ 128
      · rw [if_pos d2, if_pos (by omega)]
      · rw [if_neg d2, if_neg (by omega)]
    · rw [if_neg d1, if_neg (by omega), if_neg (by omega), if_neg (by omega)]
  rw [if_neg c2]
  by_cases c3 : b0 < 240
  · rw [if_pos c3, if_neg (by omega)]
    by_cases d1 : 1 < n ∧ 128 ≤ b1 ∧ b1 ≤ 191
    · rw [if_pos d1]
      by_cases d2 : 2 < n ∧ 128 ≤ b2 ∧ b2 ≤ 191
      · rw [if_pos d2, if_pos (by omega)]
        have e : b0 % 16 * 4096 + b1 % 64 * 64 + b2 % 64 = (b0 - 224) * 4096 + (b1 - 128) * 64 + (b2 - 128) := by omega
        rw [e]
        simp only
        have hp := plen_inv (c := (b0 - 224) * 4096 + (b1 - 128) * 64 + (b2 - 128))
        generalize hc : (b0 - 224) * 4096 + (b1 - 128) * 64 + (b2 - 128) = c at hp ⊢
        by_cases d3 : c ≥ 2048 ∧ (c < 55296 ∨ 57344 ≤ c ∧ c ≤ 1114111)
        · rw [if_pos d3, if_pos (by omega)]
        · rw [if_neg d3, if_neg (by omega)]
      · rw [if_neg d2, if_neg (by omega), if_neg (by omega)]
    · rw [if_neg d1, if_neg (by omega), if_neg (by omega)]
  rw [if_neg c3]
  by_cases c4 : b0 < 248
  · rw [if_pos c4, if_neg (by omega), if_neg (by omega)]
    by_cases d1 : 1 < n ∧ 128 ≤ b1 ∧ b1 ≤ 191
    · rw [if_pos d1]
      by_cases d2 : 2 < n ∧ 128 ≤ b2 ∧ b2 ≤ 191
      · rw [if_pos d2]
        by_cases d3 : 3 < n ∧ 128 ≤ b3 ∧ b3 ≤ 191
        · rw [if_pos d3, if_pos (by omega)]
          have e : b0 % 8 * 262144 + b1 % 64 * 4096 + b2 % 64 * 64 + b3 % 64 = (b0 - 240) * 262144 + (b1 - 128) * 4096 + (b2 - 128) * 64 + (b3 - 128) := by omega
          rw [e]
          have hp := plen_inv (c := (b0 - 240) * 262144 + (b1 - 128) * 4096 + (b2 - 128) * 64 + (b3 - 128))
          generalize hc : (b0 - 240) * 262144 + (b1 - 128) * 4096 + (b2 - 128) * 64 + (b3 - 128) = c at hp ⊢
          by_cases d4 : c ≤ 1114111
          · rw [if_pos d4]
            simp only
            by_cases d5 : c ≥ 65536 ∧ (c < 55296 ∨ 57344 ≤ c ∧ c ≤ 1114111)
            · rw [if_pos d5, if_pos (by omega)]
            · rw [if_neg d5, if_neg (by omega)]
          · rw [if_neg d4, if_neg (by omega)]
        · rw [if_neg d3, if_neg (by omega)]
      · rw [if_neg d2, if_neg (by omega)]
    · rw [if_neg d1, if_neg (by omega)]
  · rw [if_neg c4, if_neg (by omega), if_neg (by omega), if_neg (by omega)]
theorem and192 : ∀ b : Fin 256, (Go.bits .and .u8 (b.val : Int) 192 = 128) ↔ (128 ≤ b.val ∧ b.val ≤ 191) := by decide +kernel
theorem or_low : ∀ (a : Fin 32) (b : Fin 64), Go.bits .or .i32 (Go.bits .or .i32 53248 (wrap32 ((wrap32 (Go.bits .and .u8 ((160 + a.val : Nat) : Int) 63)) * 64))) (wrap32 (Go.bits .and .u8 ((128 + b.val : Nat) : Int) 63)) = 53248 + ((32 + a.val : Nat) : Int) * 64 + (b.val : Int) := by decide +kernel
/-- The code point at a place. -/
theorem pt_eq (s : ByteArray) (i : Nat) (hi : i < s.size) : units_Valid.pt (units_Valid.slc s i) = match ldL ((nums s).drop i) with
    | some (c, k) => if k = plen c then ((c : Int), (k : Int)) else (0, 0)
    | none => (0, 0) := by
  have hd : Lib.decodeGo (units_Valid.slc s i) = Lib.decodeN (s.size - i) ((nums s).getD i 0) ((nums s).getD (i + 1) 0) ((nums s).getD (i + 2) 0) ((nums s).getD (i + 3) 0) := by
    unfold units_Valid.slc
    unfold Lib.decodeGo
    have hsz : (s.extract i s.size).size = s.size - i := by simp
    rw [if_neg (by rw [hsz]; omega)]
    rw [Lib.decode_at]
    have hx := nums_extract s i
    unfold units_Valid.slc at hx
    rw [nums_get, nums_get, nums_get, nums_get, hx, hsz, drop_getD, drop_getD, drop_getD, drop_getD]
    rfl
  have hlen : ((nums s).drop i).length = s.size - i := by rw [List.length_drop, nums_len]
  have hs : (units_Valid.slc s i).size = s.size - i := by unfold units_Valid.slc; simp
  have b0 : bt (units_Valid.slc s i) 0 = ((nums s).getD i 0 : Nat) := by
    have := nums_bt (units_Valid.slc s i) 0
    rw [nums_extract, drop_getD] at this
    exact this
  have b1 : bt (units_Valid.slc s i) 1 = ((nums s).getD (i + 1) 0 : Nat) := by
    have := nums_bt (units_Valid.slc s i) 1
    rw [nums_extract, drop_getD] at this
    exact this
  have b2 : bt (units_Valid.slc s i) 2 = ((nums s).getD (i + 2) 0 : Nat) := by
    have := nums_bt (units_Valid.slc s i) 2
    rw [nums_extract, drop_getD] at this
    exact this
  unfold units_Valid.pt units_point.f utf8_DecodeRuneInString.f
  rw [hd]
  have l0 := getD_lt s i
  have l1 := getD_lt s (i + 1)
  have l2 := getD_lt s (i + 2)
  have l3 := getD_lt s (i + 3)
  rw [decodeN_ld _ _ _ _ _ l0 l1 l2 l3]
  unfold ldL
  rw [hlen, drop_getD, drop_getD, drop_getD, drop_getD, Nat.add_zero]
  simp only [Option.bind_some, units_point.j0, hs, b0, b1, b2]
  generalize (nums s).getD i 0 = x0 at *
  generalize (nums s).getD (i + 1) 0 = x1 at *
  generalize (nums s).getD (i + 2) 0 = x2 at *
  generalize (nums s).getD (i + 3) 0 = x3 at *
  have hn : 0 < s.size - i := by omega
  generalize s.size - i = n at *
  have a192 := and192 ⟨x2, l2⟩
  simp only at a192
  -- what is left to be looked at where Go's decoder says RuneError
  have tail : (if (n : Int) ≥ 3 then if 0 < (n : Int) then if (x0 : Int) = 237 then if 1 < (n : Int) then if (x1 : Int) ≥ 160 then if (x1 : Int) ≤ 191 then if 2 < (n : Int) then if Go.bits .and .u8 (x2 : Int) 192 = 128 then some (Go.bits .or .i32 (Go.bits .or .i32 53248 (wrap32 ((wrap32 (Go.bits .and .u8 (x1 : Int) 63)) * 64))) (wrap32 (Go.bits .and .u8 (x2 : Int) 63)), (3 : Int)) else some (0, 0) else none else some (0, 0) else some (0, 0) else none else some (0, 0) else none else some (0, 0)) =
      if (n ≥ 3 ∧ x0 = 237 ∧ 160 ≤ x1 ∧ x1 ≤ 191) ∧ 128 ≤ x2 ∧ x2 ≤ 191 then some ((53248 + ((x1 : Int) - 128) * 64 + ((x2 : Int) - 128)), 3) else some (0, 0) := by
    by_cases g : (n ≥ 3 ∧ x0 = 237 ∧ 160 ≤ x1 ∧ x1 ≤ 191)
    · rw [if_pos (by omega), if_pos (by omega), if_pos (by omega), if_pos (by omega), if_pos (by omega), if_pos (by omega), if_pos (by omega)]
      by_cases g2 : 128 ≤ x2 ∧ x2 ≤ 191
      · rw [if_pos (a192.2 g2), if_pos ⟨g, g2⟩]
        have := or_low ⟨x1 - 160, by omega⟩ ⟨x2 - 128, by omega⟩
        simp only [show 160 + (x1 - 160) = x1 by omega, show 128 + (x2 - 128) = x2 by omega] at this
        rw [this]
        congr 2
        omega
      · rw [if_neg (fun h => g2 (a192.1 h)), if_neg (fun h => g2 h.2)]
    · refine Eq.trans ?_ (if_neg (fun h => g h.1)).symm
      by_cases g1 : (n : Int) ≥ 3
      · rw [if_pos g1, if_pos (by omega)]
        by_cases g2 : (x0 : Int) = 237
        · rw [if_pos g2, if_pos (by omega)]
          by_cases g3 : (x1 : Int) ≥ 160
          · rw [if_pos g3, if_neg (by omega)]
          · rw [if_neg g3]
        · rw [if_neg g2]
      · rw [if_neg g1]
  have key : ∀ (r : Nat × Nat) (v : Int × Int), (r.1 = 65533 → r.2 ≠ 3 → (if (n ≥ 3 ∧ x0 = 237 ∧ 160 ≤ x1 ∧ x1 ≤ 191) ∧ 128 ≤ x2 ∧ x2 ≤ 191 then some ((53248 + ((x1 : Int) - 128) * 64 + ((x2 : Int) - 128)), (3 : Int)) else some (0, 0)) = some v) → (¬ (r.1 = 65533 ∧ r.2 ≠ 3) → ((r.1 : Int), (r.2 : Int)) = v) →
      ((if (r.1 : Int) = 65533 then (if ((r.2 : Int) == 3) = true then some ((r.1 : Int), (r.2 : Int)) else if (n : Int) ≥ 3 then if 0 < (n : Int) then if (x0 : Int) = 237 then if 1 < (n : Int) then if (x1 : Int) ≥ 160 then if (x1 : Int) ≤ 191 then if 2 < (n : Int) then if Go.bits .and .u8 (x2 : Int) 192 = 128 then some (Go.bits .or .i32 (Go.bits .or .i32 53248 (wrap32 ((wrap32 (Go.bits .and .u8 (x1 : Int) 63)) * 64))) (wrap32 (Go.bits .and .u8 (x2 : Int) 63)), (3 : Int)) else some (0, 0) else none else some (0, 0) else some (0, 0) else none else some (0, 0) else none else some (0, 0)) else (if true = true then some ((r.1 : Int), (r.2 : Int)) else if (n : Int) ≥ 3 then if 0 < (n : Int) then if (x0 : Int) = 237 then if 1 < (n : Int) then if (x1 : Int) ≥ 160 then if (x1 : Int) ≤ 191 then if 2 < (n : Int) then if Go.bits .and .u8 (x2 : Int) 192 = 128 then some (Go.bits .or .i32 (Go.bits .or .i32 53248 (wrap32 ((wrap32 (Go.bits .and .u8 (x1 : Int) 63)) * 64))) (wrap32 (Go.bits .and .u8 (x2 : Int) 63)), (3 : Int)) else some (0, 0) else none else some (0, 0) else some (0, 0) else none else some (0, 0) else none else some (0, 0))).getD (0, 0)) = v := by
    intro r v h1 h2
    rw [tail]
    by_cases e : r.1 = 65533
    · rw [if_pos (by omega)]
      by_cases e3 : r.2 = 3
      · have : ((r.2 : Int) == 3) = true := by simp [e3]
        rw [if_pos this]
        exact h2 (fun hh => hh.2 e3)
      · have : ¬ ((r.2 : Int) == 3) = true := by simp; omega
        rw [if_neg this, h1 e e3]
        rfl
    · rw [if_neg (by omega), if_pos rfl]
      exact h2 (fun hh => e hh.1)
  refine key _ _ ?_ ?_
  · cases hl : ld n x0 x1 x2 x3 with
    | none =>
      intro _ _
      simp only
      have : ¬ ((n ≥ 3 ∧ x0 = 237 ∧ 160 ≤ x1 ∧ x1 ≤ 191) ∧ 128 ≤ x2 ∧ x2 ≤ 191) := by
        intro hh
        unfold ld cont at hl
        rw [if_neg (by omega), if_neg (by omega), if_neg (by omega), if_pos (by omega), if_pos (by omega), if_pos (by omega)] at hl
        cases hl
      rw [if_neg this]
    | some p =>
      obtain ⟨c, k⟩ := p
      simp only
      have hinv := ld_inv hl
      unfold cont at hinv
      have hp := plen_inv (c := c)
      by_cases g : k = plen c ∧ ¬ (55296 ≤ c ∧ c < 57344)
      · rw [if_pos g]
        intro e1 e2
        exfalso
        simp only at e1 e2
        omega
      · rw [if_neg g]
        intro _ _
        by_cases g2 : k = plen c
        · rw [if_pos g2]
          have : (n ≥ 3 ∧ x0 = 237 ∧ 160 ≤ x1 ∧ x1 ≤ 191) ∧ 128 ≤ x2 ∧ x2 ≤ 191 := by omega
          rw [if_pos this]
          congr 2
          · omega
          · omega
        · rw [if_neg g2]
          have : ¬ ((n ≥ 3 ∧ x0 = 237 ∧ 160 ≤ x1 ∧ x1 ≤ 191) ∧ 128 ≤ x2 ∧ x2 ≤ 191) := by omega
          rw [if_neg this]
  · cases hl : ld n x0 x1 x2 x3 with
    | none => intro h; exact absurd ⟨rfl, by decide⟩ h
    | some p =>
      obtain ⟨c, k⟩ := p
      simp only
      by_cases g : k = plen c ∧ ¬ (55296 ≤ c ∧ c < 57344)
      · rw [if_pos g, if_pos g.1]
        intro _; rfl
      · rw [if_neg g]
        intro h
        exact absurd ⟨rfl, by decide⟩ h
theorem hi_eq (c : Nat) : units_Valid.hi (c : Int) = hi c := by
  unfold units_Valid.hi hi
  rw [Bool.eq_iff_iff]; simp; omega
theorem lo_eq (c : Nat) : units_Valid.lo (c : Int) = lo c := by
  unfold units_Valid.lo lo
  rw [Bool.eq_iff_iff]; simp; omega
theorem val_iff (s : ByteArray) : ∀ (m : Nat) (last i : Nat), s.size < m + i → (units_Valid.val m s (last : Int) i = true ↔ ∃ cs, dec m ((nums s).drop i) = some cs ∧ (∀ p ∈ cs, p.2 = plen p.1) ∧ noadj last (cs.map (·.1)) = true)
  | 0, last, i, h => by
    have he : (nums s).drop i = [] := List.drop_eq_nil_of_le (by rw [nums_len]; omega)
    rw [he]
    simp [units_Valid.val, dec, noadj]
  | m + 1, last, i, h => by
    unfold units_Valid.val dec
    by_cases hi' : i < s.size
    · rw [if_pos hi', pt_eq s i hi']
      have hne : ¬ (nums s).drop i = [] := by
        intro he
        have := congrArg List.length he
        rw [List.length_drop, nums_len] at this
        simp at this
        omega
      rw [if_neg hne]
      have hn : 0 < ((nums s).drop i).length := by rw [List.length_drop, nums_len]; omega
      cases hl : ldL ((nums s).drop i) with
      | none => simp
      | some p =>
        obtain ⟨c, k⟩ := p
        simp only
        obtain ⟨s1, s2, s3, s4, s5⟩ := ld_spec hn hl
        by_cases hk : k = plen c
        · simp only [if_pos hk]
          rw [if_neg (by omega), hi_eq, lo_eq]
          have ih := val_iff s m c (i + k) (by omega)
          rw [Int.toNat_natCast, List.drop_drop]
          cases hh : hi last && lo c with
          | true =>
            rw [Bool.and_eq_true] at hh
            rw [if_pos hh]
            simp only [Bool.false_eq_true, false_iff]
            rintro ⟨cs, h1, h2, h3⟩
            obtain ⟨cs', _, rfl⟩ := Option.map_eq_some_iff.1 h1
            simp [noadj, hh] at h3
          | false =>
            rw [if_neg (by rw [← Bool.and_eq_true, hh]; simp), ih]
            constructor
            · rintro ⟨cs, h1, h2, h3⟩
              refine ⟨(c, k) :: cs, by rw [h1]; rfl, ?_, ?_⟩
              · intro p hp
                rcases List.mem_cons.1 hp with rfl | hp
                · exact hk
                · exact h2 p hp
              · simp [noadj, hh, h3]
            · rintro ⟨cs, h1, h2, h3⟩
              obtain ⟨cs', h4, rfl⟩ := Option.map_eq_some_iff.1 h1
              refine ⟨cs', h4, fun p hp => h2 p (List.mem_cons_of_mem _ hp), ?_⟩
              simp only [List.map_cons, noadj, hh, Bool.not_false, Bool.true_and] at h3
              exact h3
        · simp only [if_neg hk]
          rw [if_pos trivial]
          simp only [Bool.false_eq_true, false_iff]
          rintro ⟨cs, h1, h2, h3⟩
          obtain ⟨cs', _, rfl⟩ := Option.map_eq_some_iff.1 h1
          exact hk (h2 (c, k) List.mem_cons_self)
    · rw [if_neg hi']
      have he : (nums s).drop i = [] := List.drop_eq_nil_of_le (by rw [nums_len]; omega)
      rw [if_pos he]
      simp [noadj]
end Go.Proofs.YtlliefodchfpfaaDoor.Utf

/-! #### part U2 -/
/- The reference's Valid is the program's. -/
set_option linter.unusedSimpArgs false
set_option linter.unusedVariables false
namespace Go.Proofs.YtlliefodchfpfaaDoor.Utf
open Go.RowKit Go.Proofs.YtlliefodchfpfaaDoorW.PrintWords Go.Proofs.YtlliefodchfpfaaDoor.PDescKinds
theorem w64 {x : Int} (h : -9223372036854775808 ≤ x ∧ x ≤ 9223372036854775807) : wrap64 x = x := by unfold wrap64; omega
theorem w16 {x : Int} (h : 0 ≤ x ∧ x < 65536) : IntKind.u16.wrap x = x := by rw [IntKind.wrap_u16]; omega
/-- So many bytes that go on, as one number. -/
def tl (s : ByteArray) (a : Nat) : Nat → Nat → Nat → Option Nat
  | 0, _, c => some c
  | r + 1, i, c => if a + i < s.size ∧ cont ((nums s).getD (a + i) 0) then tl s a r (i + 1) (64 * c + ((nums s).getD (a + i) 0 - 128)) else none
def toI : Option Nat → Int
  | some c => c
  | none => -1
theorem tail_ev (s : ByteArray) (a : Nat) (hs : s.size ≤ 1048576) (ha : a ≤ 1048580) : ∀ (r i c : Nat), i + r ≤ 3 → c < 64 ^ i →
    Ev (fun k => cameoref01_tail.l0 k s (a : Int) ((i + r : Nat) : Int) (c : Int) (i : Int)) (toI (tl s a r i c))
  | 0, i, c, h, hc => by
    refine Ev.step (f := fun _ => some (c : Int)) (fun k => ?_) (Ev.now _)
    simp only [cameoref01_tail.l0]
    rw [if_neg (by omega)]
  | r + 1, i, c, h, hc => by
    have hw : wrap64 ((a : Int) + (i : Int)) = ((a + i : Nat) : Int) := by rw [w64 (by omega)]; omega
    have h64 : 64 ^ i ≤ 262144 := by
      have : i ≤ 3 := by omega
      rcases Nat.lt_or_ge i 1 with h1 | h1
      · have : i = 0 := by omega
        subst this; decide
      rcases Nat.lt_or_ge i 2 with h2 | h2
      · have : i = 1 := by omega
        subst this; decide
      rcases Nat.lt_or_ge i 3 with h3 | h3
      · have : i = 2 := by omega
        subst this; decide
      · have : i = 3 := by omega
        subst this; decide
    have hb := getD_lt s (a + i)
    have step : ∀ k, cameoref01_tail.l0 (k + 1) s (a : Int) ((i + (r + 1) : Nat) : Int) (c : Int) (i : Int) =
        if a + i < s.size ∧ cont ((nums s).getD (a + i) 0) then cameoref01_tail.l0 k s (a : Int) ((i + (r + 1) : Nat) : Int) ((64 * c + ((nums s).getD (a + i) 0 - 128) : Nat) : Int) ((i + 1 : Nat) : Int) else some (-1) := by
      intro k
      simp only [cameoref01_tail.l0, hw, nums_bt]
      rw [if_pos (by omega)]
      unfold cont
      by_cases g : a + i < s.size
      · rw [if_neg (by omega), if_pos (by omega), if_pos (by omega)]
        by_cases g1 : (nums s).getD (a + i) 0 < 128
        · rw [if_pos (by omega), if_neg (by omega)]
        · rw [if_neg (by omega)]
          by_cases g2 : (nums s).getD (a + i) 0 ≤ 191
          · rw [if_neg (by omega), if_pos (by omega)]
            have e1 : wrap64 (wrap64 (wrap64 (64 * (c : Int)) + wrap64 (((nums s).getD (a + i) 0 : Nat) : Int)) - 128) = ((64 * c + ((nums s).getD (a + i) 0 - 128) : Nat) : Int) := by
              rw [w64 (x := 64 * (c : Int)) (by omega), w64 (x := (((nums s).getD (a + i) 0 : Nat) : Int)) (by omega), w64 (x := 64 * (c : Int) + _) (by omega), w64 (by omega)]
              omega
            have e2 : wrap64 ((i : Int) + 1) = ((i + 1 : Nat) : Int) := by rw [w64 (by omega)]; omega
            rw [e1, e2]
          · rw [if_pos (by omega), if_neg (by omega)]
      · rw [if_pos (by omega), if_neg (by omega)]
    refine Ev.step step ?_
    by_cases g : a + i < s.size ∧ cont ((nums s).getD (a + i) 0)
    · have et : tl s a (r + 1) i c = tl s a r (i + 1) (64 * c + ((nums s).getD (a + i) 0 - 128)) := by simp only [tl]; rw [if_pos g]
      rw [et]
      refine Ev.congr (fun k => if_pos g) ?_
      have hg := g.2
      unfold cont at hg
      have ih := tail_ev s a hs ha r (i + 1) (64 * c + ((nums s).getD (a + i) 0 - 128)) (by omega) (by rw [Nat.pow_succ]; omega)
      rw [show i + (r + 1) = (i + 1) + r by omega]
      exact ih
    · have et : tl s a (r + 1) i c = none := by simp only [tl]; rw [if_neg g]
      rw [et]
      exact Ev.congr (fun k => if_neg g) (Ev.now _)
def U (c : Nat) : List Int := (units c).map fun n : Nat => (n : Int)
theorem l1_ev (s : ByteArray) (acc : List Int) (at_ n t : Nat) (hs : s.size ≤ 1048576) (ha : at_ ≤ 1048576) (hn : n ≤ 3) (ht : t < 262144) (hacc : acc.length ≤ 4194304) (R : List Int × Bool) : ∀ (r i base : Nat), i + r = n → base * 64 ^ r < 4194304 →
    (t + base * 64 ^ r ≤ 1114111 → Ev (fun k => cameoref01_read.l0 k s (acc ++ U (t + base * 64 ^ r)) ((at_ + (1 + n) : Nat) : Int)) R) → (¬ t + base * 64 ^ r ≤ 1114111 → R = ([], false)) →
    Ev (fun k => cameoref01_read.l1 k s acc (at_ : Int) (n : Int) (base : Int) (t : Int) (i : Int)) R
  | 0, i, base, hi, hb, h1, h2 => by
    simp only [Nat.pow_zero, Nat.mul_one] at hb h1 h2
    have e1 : wrap64 ((t : Int) + (base : Int)) = ((t + base : Nat) : Int) := by rw [w64 (by omega)]; omega
    have e2 : wrap64 ((at_ : Int) + wrap64 (1 + (n : Int))) = ((at_ + (1 + n) : Nat) : Int) := by rw [w64 (x := 1 + (n : Int)) (by omega), w64 (by omega)]; omega
    by_cases g : t + base ≤ 1114111
    · refine Ev.step (fun k => ?_) (h1 g)
      simp only [cameoref01_read.l1]
      rw [if_neg (by omega), e1, if_neg (by omega), e2]
      by_cases g2 : 65536 ≤ t + base
      · rw [if_pos (by omega)]
        simp only [Option.bind_some]
        rw [if_pos (by simp; omega)]
        have e3 : wrap64 (((t + base : Nat) : Int) - 65536) = ((t + base - 65536 : Nat) : Int) := by rw [w64 (by omega)]; omega
        rw [e3]
        have e4 : IntKind.u16.wrap (wrap64 (55296 + wrap64 (Int.tdiv ((t + base - 65536 : Nat) : Int) 1024))) = ((55296 + (t + base - 65536) / 1024 : Nat) : Int) := by
          have : Int.tdiv ((t + base - 65536 : Nat) : Int) 1024 = (((t + base - 65536) / 1024 : Nat) : Int) := by
            rw [Int.tdiv_eq_ediv_of_nonneg (by omega)]; omega
          rw [this, w64 (x := (((t + base - 65536) / 1024 : Nat) : Int)) (by omega), w64 (by omega), w16 (by omega)]
          omega
        have e5 : IntKind.u16.wrap (wrap64 (56320 + Int.tmod ((t + base - 65536 : Nat) : Int) 1024)) = ((56320 + (t + base - 65536) % 1024 : Nat) : Int) := by
          have : Int.tmod ((t + base - 65536 : Nat) : Int) 1024 = (((t + base - 65536) % 1024 : Nat) : Int) := by
            rw [Int.tmod_eq_emod_of_nonneg (by omega)]; omega
          rw [this, w64 (by omega), w16 (by omega)]
          omega
        rw [e4, e5]
        unfold U units
        rw [if_pos g2]
        rfl
      · rw [if_neg (by omega), if_pos (by omega), w16 (by omega)]
        unfold U units
        rw [if_neg g2]
        rfl
    · rw [h2 g]
      refine Ev.step (f := fun _ => some ([], false)) (fun k => ?_) (Ev.now _)
      simp only [cameoref01_read.l1]
      rw [if_neg (by omega), e1, if_pos (by omega)]
  | r + 1, i, base, hi, hb, h1, h2 => by
    have hb' : base * 64 * 64 ^ r = base * 64 ^ (r + 1) := by rw [Nat.pow_succ, Nat.mul_assoc, Nat.mul_comm 64]
    have hle : base * 64 ≤ base * 64 * 64 ^ r := Nat.le_mul_of_pos_right _ (Nat.pow_pos (by decide))
    have e1 : wrap64 ((base : Int) * 64) = ((base * 64 : Nat) : Int) := by rw [w64 (by omega)]; omega
    have e2 : wrap64 ((i : Int) + 1) = ((i + 1 : Nat) : Int) := by rw [w64 (by omega)]; omega
    refine Ev.step (fun k => ?_) (l1_ev s acc at_ n t hs ha hn ht hacc R r (i + 1) (base * 64) (by omega) (by omega) (by rw [hb']; exact h1) (by rw [hb']; exact h2))
    simp only [cameoref01_read.l1]
    rw [if_pos (by omega), e1, e2]
theorem tl_lt (s : ByteArray) (a : Nat) : ∀ (r i c v : Nat), c < 64 ^ i → tl s a r i c = some v → v < 64 ^ (i + r)
  | 0, i, c, v, hc, h => by
    simp only [tl, Option.some.injEq] at h
    subst h; exact hc
  | r + 1, i, c, v, hc, h => by
    simp only [tl] at h
    split at h
    · rename_i g
      have := g.2
      unfold cont at this
      have := tl_lt s a r (i + 1) _ v (by rw [Nat.pow_succ]; omega) h
      rwa [show i + (r + 1) = i + 1 + r by omega]
    · cases h
theorem j3_ev (s : ByteArray) (acc : List Int) (at_ n base : Nat) (hs : s.size ≤ 1048576) (ha : at_ ≤ 1048576) (hn : n ≤ 3) (hacc : acc.length ≤ 4194304) (hb : base * 64 ^ n < 4194304) (R : List Int × Bool)
    (h0 : tl s (at_ + 1) n 0 0 = none → R = ([], false))
    (h1 : ∀ t, tl s (at_ + 1) n 0 0 = some t → t + base * 64 ^ n ≤ 1114111 → Ev (fun k => cameoref01_read.l0 k s (acc ++ U (t + base * 64 ^ n)) ((at_ + (1 + n) : Nat) : Int)) R)
    (h2 : ∀ t, tl s (at_ + 1) n 0 0 = some t → ¬ t + base * 64 ^ n ≤ 1114111 → R = ([], false)) :
    Ev (fun k => cameoref01_read.j3 k s acc (at_ : Int) (n : Int) (base : Int)) R := by
  have e1 : wrap64 ((at_ : Int) + 1) = ((at_ + 1 : Nat) : Int) := by rw [w64 (by omega)]; omega
  have ht := tail_ev s (at_ + 1) hs (by omega) n 0 0 (by omega) (by decide)
  rw [Nat.zero_add] at ht
  refine Ev.step (f := fun k => (cameoref01_tail.f k s ((at_ + 1 : Nat) : Int) (n : Int)).bind fun t264 => (if t264 < 0 then (some (([] : List Int), false)) else (cameoref01_read.l1 k s acc (at_ : Int) (n : Int) (base : Int) t264 0))) (fun k => ?_) ?_
  · simp only [cameoref01_read.j3]
    rw [e1]
  · refine Ev.bind (a := toI (tl s (at_ + 1) n 0 0)) ht ?_
    cases hv : tl s (at_ + 1) n 0 0 with
    | none =>
      rw [h0 hv]
      refine Ev.congr (fun k => if_pos ?_) (Ev.now _)
      show (-1 : Int) < 0
      decide
    | some t =>
      have hlt := tl_lt s (at_ + 1) n 0 0 t (by decide) hv
      have h64 : 64 ^ (0 + n) ≤ 262144 := by
        rw [Nat.zero_add]
        exact Nat.pow_le_pow_right (n := 64) (by decide) hn
      refine Ev.congr (f := fun k => cameoref01_read.l1 k s acc (at_ : Int) (n : Int) (base : Int) (t : Int) ((0 : Nat) : Int)) (fun k => if_neg ?_) ?_
      · show ¬ (t : Int) < 0
        omega
      · exact l1_ev s acc at_ n t hs ha hn (by omega) hacc R n 0 base (by omega) hb (h1 t hv) (h2 t hv)
set_option maxRecDepth 100000 in
/-- The lead byte tells how many more there are. -/
theorem ldL_tl (s : ByteArray) (i : Nat) (hi : i < s.size) : ldL ((nums s).drop i) =
    if (nums s).getD i 0 < 128 then some ((nums s).getD i 0, 1) else if (nums s).getD i 0 < 192 then none else
    if (nums s).getD i 0 < 224 then (match tl s (i + 1) 1 0 0 with | none => none | some t => some (t + ((nums s).getD i 0 - 192) * 64 ^ 1, 2)) else
    if (nums s).getD i 0 < 240 then (match tl s (i + 1) 2 0 0 with | none => none | some t => some (t + ((nums s).getD i 0 - 224) * 64 ^ 2, 3)) else
    if (nums s).getD i 0 < 248 then (match tl s (i + 1) 3 0 0 with | none => none | some t => if t + ((nums s).getD i 0 - 240) * 64 ^ 3 ≤ 1114111 then some (t + ((nums s).getD i 0 - 240) * 64 ^ 3, 4) else none) else none := by
  have hlen : ((nums s).drop i).length = s.size - i := by rw [List.length_drop, nums_len]
  unfold ldL
  rw [hlen, drop_getD, drop_getD, drop_getD, drop_getD, Nat.add_zero]
  simp only [tl, Nat.add_zero]
  rw [show i + 1 + 1 = i + 2 from rfl, show i + 2 + 1 = i + 3 from rfl, show i + 1 + 2 = i + 3 from rfl] at *
  generalize (nums s).getD i 0 = b0
  generalize (nums s).getD (i + 1) 0 = b1
  generalize (nums s).getD (i + 2) 0 = b2
  generalize (nums s).getD (i + 3) 0 = b3
  have c1 : (1 < s.size - i) = (i + 1 < s.size) := propext ⟨fun h => by omega, fun h => by omega⟩
  have c2 : (2 < s.size - i) = (i + 2 < s.size) := propext ⟨fun h => by omega, fun h => by omega⟩
  have c3 : (3 < s.size - i) = (i + 3 < s.size) := propext ⟨fun h => by omega, fun h => by omega⟩
  unfold ld
  simp only [c1, c2, c3]
  by_cases g0 : b0 < 128
  · rw [if_pos g0, if_pos g0]
  rw [if_neg g0, if_neg g0]
  by_cases g1 : b0 < 192
  · rw [if_pos g1, if_pos g1]
  rw [if_neg g1, if_neg g1]
  by_cases d1 : i + 1 < s.size ∧ cont b1
  · by_cases d2 : i + 2 < s.size ∧ cont b2
    · by_cases d3 : i + 3 < s.size ∧ cont b3
      · simp only [if_pos d1, if_pos d2, if_pos d3, Nat.mul_zero, Nat.zero_add]
        have z1 : (b0 - 192) * 64 + (b1 - 128) = b1 - 128 + (b0 - 192) * 64 ^ 1 := by omega
        have z2 : (b0 - 224) * 4096 + (b1 - 128) * 64 + (b2 - 128) = 64 * (b1 - 128) + (b2 - 128) + (b0 - 224) * 64 ^ 2 := by omega
        have z3 : (b0 - 240) * 262144 + (b1 - 128) * 4096 + (b2 - 128) * 64 + (b3 - 128) = 64 * (64 * (b1 - 128) + (b2 - 128)) + (b3 - 128) + (b0 - 240) * 64 ^ 3 := by
          rw [show (64 : Nat) ^ 3 = 262144 from by decide]
          omega
        rw [z1, z2, z3]
      · simp only [if_pos d1, if_pos d2, if_neg d3, Nat.mul_zero, Nat.zero_add]
        have z1 : (b0 - 192) * 64 + (b1 - 128) = b1 - 128 + (b0 - 192) * 64 ^ 1 := by omega
        have z2 : (b0 - 224) * 4096 + (b1 - 128) * 64 + (b2 - 128) = 64 * (b1 - 128) + (b2 - 128) + (b0 - 224) * 64 ^ 2 := by omega
        rw [z1, z2]
    · simp only [if_pos d1, if_neg d2, Nat.mul_zero, Nat.zero_add]
      have z1 : (b0 - 192) * 64 + (b1 - 128) = b1 - 128 + (b0 - 192) * 64 ^ 1 := by omega
      rw [z1]
  · simp only [if_neg d1]
def outOf (acc : List Int) : Option (List (Nat × Nat)) → List Int × Bool
  | none => ([], false)
  | some cs => (acc ++ (cs.map (·.1)).flatMap U, true)
theorem U_len (c : Nat) : (U c).length ≤ 2 := by
  unfold U units
  split <;> simp
theorem read_ev (s : ByteArray) (hs : s.size ≤ 1048576) : ∀ (m i : Nat) (acc : List Int), s.size ≤ m + i → i ≤ s.size → acc.length ≤ 2 * i →
    Ev (fun k => cameoref01_read.l0 k s acc (i : Int)) (outOf acc (dec m ((nums s).drop i)))
  | m, i, acc, hm, hi, hacc => by
    by_cases hlt : i < s.size
    · have hne : ¬ (nums s).drop i = [] := by
        intro he
        have := congrArg List.length he
        rw [List.length_drop, nums_len] at this
        simp at this
        omega
      cases m with
      | zero => exact absurd hlt (by omega)
      | succ m =>
        have hd : dec (m + 1) ((nums s).drop i) = match ldL ((nums s).drop i) with
          | none => none
          | some (c, k) => (dec m ((nums s).drop (i + k))).map ((c, k) :: ·) := by
          show (if (nums s).drop i = [] then some [] else _) = _
          rw [if_neg hne]
          first | (simp only [List.drop_drop]; done) | (simp only [List.drop_drop]; cases ldL ((nums s).drop i) <;> rfl)
        have hb := getD_lt s i
        have hl := ldL_tl s i hlt
        have ebt : wrap64 (bt s (i : Int)) = (((nums s).getD i 0 : Nat) : Int) := by rw [nums_bt, w64 (by omega)]
        -- what comes behind one code point
        have next : ∀ (c k : Nat), ldL ((nums s).drop i) = some (c, k) → ∀ n, k = n + 1 → Ev (fun k => cameoref01_read.l0 k s (acc ++ U c) ((i + (1 + n) : Nat) : Int)) (outOf acc (dec (m + 1) ((nums s).drop i))) := by
          intro c k hck n hk
          have hn : 0 < ((nums s).drop i).length := by rw [List.length_drop, nums_len]; omega
          obtain ⟨s1, s2, _, _, _⟩ := ld_spec hn hck
          rw [List.length_drop, nums_len] at s2
          have hU := U_len c
          have ih := read_ev s hs m (i + (1 + n)) (acc ++ U c) (by omega) (by omega) (by rw [List.length_append]; omega)
          rw [hd, hck]
          simp only
          have e : dec m ((nums s).drop (i + k)) = dec m ((nums s).drop (i + (1 + n))) := by rw [hk, Nat.add_comm n 1]
          rw [e]
          cases hdm : dec m ((nums s).drop (i + (1 + n))) with
          | none => rw [hdm] at ih; exact ih
          | some cs =>
            rw [hdm] at ih
            have : outOf (acc ++ U c) (some cs) = outOf acc (Option.map ((c, k) :: ·) (some cs)) := by
              simp only [outOf, Option.map_some, List.map_cons, List.flatMap_cons, List.append_assoc]
            rw [← this]
            exact ih
        have stop : ldL ((nums s).drop i) = none → outOf acc (dec (m + 1) ((nums s).drop i)) = ([], false) := by
          intro h0
          rw [hd, h0]; rfl
        have lead : ∀ (n base : Nat), n ≤ 3 → base * 64 ^ n < 4194304 → (ldL ((nums s).drop i) = match tl s (i + 1) n 0 0 with | none => none | some t => if t + base * 64 ^ n ≤ 1114111 then some (t + base * 64 ^ n, n + 1) else none) →
            Ev (fun k => cameoref01_read.j3 k s acc (i : Int) (n : Int) (base : Int)) (outOf acc (dec (m + 1) ((nums s).drop i))) := by
          intro n base hn hbb he
          refine j3_ev s acc i n base hs (by omega) hn (by omega) hbb _ (fun h0 => stop (by rw [he, h0])) (fun t ht hle => ?_) (fun t ht hle => stop (by rw [he, ht]; exact if_neg hle))
          exact next _ _ (by rw [he, ht]; exact if_pos hle) n rfl
        generalize hR : outOf acc (dec (m + 1) ((nums s).drop i)) = R at *
        generalize (nums s).getD i 0 = b0 at *
        by_cases g0 : b0 < 128
        · rw [if_pos g0] at hl
          have h3 := lead 0 b0 (by omega) (by omega) (by simp only [tl, hl, Nat.pow_zero, Nat.mul_one, Nat.zero_add]; rw [if_pos (by omega)])
          refine Ev.step (fun k => ?_) h3
          simp only [cameoref01_read.l0]
          rw [if_pos (by omega), if_pos (by omega), ebt, if_pos (by omega)]
          rfl
        rw [if_neg g0] at hl
        by_cases g1 : b0 < 192
        · rw [if_pos g1] at hl
          rw [stop hl]
          refine Ev.step (f := fun k => cameoref01_read.j1 k s acc (i : Int) (b0 : Int) false) (fun k => ?_) (Ev.step (f := fun k => cameoref01_read.j2 k s acc (i : Int) (b0 : Int) false) (fun k => ?_) (Ev.step (f := fun _ => some ([], false)) (fun k => ?_) (Ev.now _)))
          · simp only [cameoref01_read.l0]
            rw [if_pos (by omega), if_pos (by omega), ebt, if_neg (by omega), if_neg (by omega)]
          · simp only [cameoref01_read.j1]
            rw [if_neg (by simp), if_neg (by omega)]
          · simp only [cameoref01_read.j2]
            rw [if_neg (by simp), if_neg (by omega)]
        rw [if_neg g1] at hl
        have st1 : ∀ k, cameoref01_read.l0 (k + 1) s acc (i : Int) = cameoref01_read.j1 k s acc (i : Int) (b0 : Int) (decide ((b0 : Int) < 224)) := by
          intro k
          simp only [cameoref01_read.l0]
          rw [if_pos (by omega), if_pos (by omega), ebt, if_neg (by omega), if_pos (by omega)]
        by_cases g2 : b0 < 224
        · rw [if_pos g2] at hl
          have h3 := lead 1 (b0 - 192) (by omega) (by omega) (by
            rw [hl]
            cases htl : tl s (i + 1) 1 0 0 with
            | none => rfl
            | some t =>
              have := tl_lt s (i + 1) 1 0 0 t (by decide) htl
              simp only
              rw [if_pos (by omega)])
          refine Ev.step st1 (Ev.step (fun k => ?_) h3)
          simp only [cameoref01_read.j1]
          rw [if_pos (by simp; omega), w64 (by omega)]
          congr 1
          omega
        rw [if_neg g2] at hl
        have st2 : ∀ k, cameoref01_read.j1 (k + 1) s acc (i : Int) (b0 : Int) (decide ((b0 : Int) < 224)) = cameoref01_read.j2 k s acc (i : Int) (b0 : Int) (decide ((b0 : Int) < 240)) := by
          intro k
          simp only [cameoref01_read.j1]
          rw [if_neg (by simp; omega), if_pos (by omega)]
        by_cases g3 : b0 < 240
        · rw [if_pos g3] at hl
          have h3 := lead 2 (b0 - 224) (by omega) (by omega) (by
            rw [hl]
            cases htl : tl s (i + 1) 2 0 0 with
            | none => rfl
            | some t =>
              have := tl_lt s (i + 1) 2 0 0 t (by decide) htl
              simp only
              rw [if_pos (by omega)])
          refine Ev.step st1 (Ev.step st2 (Ev.step (fun k => ?_) h3))
          simp only [cameoref01_read.j2]
          rw [if_pos (by simp; omega), w64 (by omega)]
          congr 1
          omega
        rw [if_neg g3] at hl
        by_cases g4 : b0 < 248
        · rw [if_pos g4] at hl
          have h3 := lead 3 (b0 - 240) (by omega) (by omega) hl
          refine Ev.step st1 (Ev.step st2 (Ev.step (fun k => ?_) h3))
          simp only [cameoref01_read.j2]
          rw [if_neg (by simp; omega), if_pos (by omega), if_pos (by omega), w64 (by omega)]
          congr 1
          omega
        · rw [if_neg g4] at hl
          rw [stop hl]
          refine Ev.step st1 (Ev.step st2 (Ev.step (f := fun _ => some ([], false)) (fun k => ?_) (Ev.now _)))
          simp only [cameoref01_read.j2]
          rw [if_neg (by simp; omega), if_pos (by omega), if_neg (by omega)]
    · have he : (nums s).drop i = [] := List.drop_eq_nil_of_le (by rw [nums_len]; omega)
      have hd : dec m ((nums s).drop i) = some [] := by
        rw [he]
        cases m <;> simp [dec]
      rw [hd]
      refine Ev.step (f := fun _ => some (acc, true)) (fun k => ?_) ?_
      · simp only [cameoref01_read.l0]
        rw [if_neg (by omega)]
      · have : outOf acc (some []) = (acc, true) := by simp [outOf]
        rw [this]
        exact Ev.now _
end Go.Proofs.YtlliefodchfpfaaDoor.Utf

/-! #### part U3 -/
/- The reference's Valid is the program's: what is read is written anew. -/
set_option linter.unusedSimpArgs false
set_option linter.unusedVariables false
namespace Go.Proofs.YtlliefodchfpfaaDoor.Utf
open Go.RowKit Go.Proofs.YtlliefodchfpfaaDoorW.PrintWords Go.Proofs.YtlliefodchfpfaaDoor.PDescKinds
def ints (l : List Nat) : List Int := l.map fun n : Nat => (n : Int)
theorem ints_len (l : List Nat) : (ints l).length = l.length := List.length_map _
theorem high_eq (a : Nat) : cameoref01_high.f (a : Int) = some (hi a) := by
  unfold cameoref01_high.f hi
  by_cases h : (a : Int) ≥ 55296
  · rw [if_pos h]
    congr 1
    rw [Bool.eq_iff_iff]; simp; omega
  · rw [if_neg h]
    have : ¬ 55296 ≤ a := by omega
    simp [this]
theorem low_eq (a : Nat) : cameoref01_low.f (a : Int) = some (lo a) := by
  unfold cameoref01_low.f lo
  by_cases h : (a : Int) ≥ 56320
  · rw [if_pos h]
    congr 1
    rw [Bool.eq_iff_iff]; simp; omega
  · rw [if_neg h]
    have : ¬ 56320 ≤ a := by omega
    simp [this]
theorem rd_ints (us : List Nat) (j : Nat) : rd (ints us) (j : Int) = ((us.getD j 0 : Nat) : Int) := by
  unfold rd ints
  rw [Int.toNat_natCast]
  simp only [List.getD_eq_getElem?_getD, List.getElem?_map]
  cases us[j]? <;> rfl
theorem drop_cons (us : List Nat) (j : Nat) (h : j < us.length) : us.drop j = us.getD j 0 :: us.drop (j + 1) := by
  rw [List.drop_eq_getElem_cons h, List.getD_eq_getElem?_getD, List.getElem?_eq_getElem h]
  rfl
theorem getD_lt' {us : List Nat} {B : Nat} (hu : ∀ u ∈ us, u < B) (hB : 0 < B) (j : Nat) : us.getD j 0 < B := by
  rw [List.getD_eq_getElem?_getD]
  cases h : us[j]? with
  | none => exact hB
  | some b => exact hu b (List.mem_of_getElem? h)
theorem row_two {a b : Nat} (l : List Nat) (h : (hi a && lo b) = false) : rowC (a :: b :: l) = a :: rowC (b :: l) := by
  simp only [rowC, h]; rfl
theorem row_one {a b : Nat} (l : List Nat) (h : (hi a && lo b) = true) : rowC (a :: b :: l) = (65536 + 1024 * (a - 55296) + (b - 56320)) :: rowC l := by
  simp only [rowC, h]; rfl
theorem hi_ge {a : Nat} (h : hi a = true) : 55296 ≤ a ∧ a < 56320 := by
  unfold hi at h
  rw [Bool.and_eq_true, decide_eq_true_eq, decide_eq_true_eq] at h
  exact h
theorem lo_ge {a : Nat} (h : lo a = true) : 56320 ≤ a ∧ a < 57344 := by
  unfold lo at h
  rw [Bool.and_eq_true, decide_eq_true_eq, decide_eq_true_eq] at h
  exact h
theorem pair_w (a b : Nat) (ha : 55296 ≤ a ∧ a < 56320) (hb : 56320 ≤ b ∧ b < 57344) :
    wrap64 (wrap64 (wrap64 (65536 + wrap64 (1024 * wrap64 (wrap64 (a : Int) - 55296))) + wrap64 (b : Int)) - 56320) = ((65536 + 1024 * (a - 55296) + (b - 56320) : Nat) : Int) := by
  have z1 : wrap64 (a : Int) = (a : Int) := w64 (by omega)
  have z2 : wrap64 (b : Int) = (b : Int) := w64 (by omega)
  rw [z1, z2]
  have z3 : wrap64 ((a : Int) - 55296) = (a : Int) - 55296 := w64 (by omega)
  rw [z3]
  have z4 : wrap64 (1024 * ((a : Int) - 55296)) = 1024 * ((a : Int) - 55296) := w64 (by omega)
  rw [z4]
  have z5 : wrap64 (65536 + 1024 * ((a : Int) - 55296)) = 65536 + 1024 * ((a : Int) - 55296) := w64 (by omega)
  rw [z5]
  have z6 : wrap64 (65536 + 1024 * ((a : Int) - 55296) + (b : Int)) = 65536 + 1024 * ((a : Int) - 55296) + (b : Int) := w64 (by omega)
  rw [z6]
  have z7 : wrap64 (65536 + 1024 * ((a : Int) - 55296) + (b : Int) - 56320) = 65536 + 1024 * ((a : Int) - 55296) + (b : Int) - 56320 := w64 (by omega)
  rw [z7]
  omega
theorem row_ev (us : List Nat) (hu : ∀ u ∈ us, u < 65536) (hlen : us.length ≤ 4194304) : ∀ (n j : Nat) (out : List S124), us.length ≤ n + j → j ≤ us.length → out.length ≤ j →
    ∃ pts : List S124, Ev (fun k => cameoref01_Row.l0 k (ints us) out (j : Int)) (out ++ pts) ∧ pts.map (·.f1) = ints (rowC (us.drop j)) ∧ pts.length ≤ us.length - j
  | n, j, out, hn, hj, ho => by
    by_cases hlt : j < us.length
    · cases n with
      | zero => exact absurd hlt (by omega)
      | succ n =>
        have ha := getD_lt' hu (by decide) j
        have e1 : wrap64 ((j : Int) + 1) = ((j + 1 : Nat) : Int) := by rw [w64 (by omega)]; omega
        have e2 : wrap64 (((j + 1 : Nat) : Int) + 1) = ((j + 2 : Nat) : Int) := by rw [w64 (by omega)]; omega
        have e3 : wrap64 (rd (ints us) (j : Int)) = ((us.getD j 0 : Nat) : Int) := by rw [rd_ints, w64 (by omega)]
        -- one unit alone
        have alone : (∀ k, cameoref01_Row.l0 (k + 1) (ints us) out (j : Int) = cameoref01_Row.l0 k (ints us) (out ++ [(⟨(j : Int), ((us.getD j 0 : Nat) : Int)⟩ : S124)]) ((j + 1 : Nat) : Int)) → rowC (us.drop j) = us.getD j 0 :: rowC (us.drop (j + 1)) →
            ∃ pts : List S124, Ev (fun k => cameoref01_Row.l0 k (ints us) out (j : Int)) (out ++ pts) ∧ pts.map (·.f1) = ints (rowC (us.drop j)) ∧ pts.length ≤ us.length - j := by
          intro hs hr
          obtain ⟨pts, p1, p2, p3⟩ := row_ev us hu hlen n (j + 1) (out ++ [(⟨(j : Int), ((us.getD j 0 : Nat) : Int)⟩ : S124)]) (by omega) (by omega) (by rw [List.length_append]; simp; omega)
          refine ⟨(⟨(j : Int), ((us.getD j 0 : Nat) : Int)⟩ : S124) :: pts, ?_, ?_, by simp; omega⟩
          · rw [List.append_assoc] at p1
            exact Ev.step hs p1
          · rw [List.map_cons, p2, hr]; rfl
        cases hh : hi (us.getD j 0) with
        | false =>
          refine alone (fun k => ?_) ?_
          · simp only [cameoref01_Row.l0, ints_len]
            rw [if_pos (by omega), if_pos (by omega), rd_ints, high_eq, hh]
            simp only [Option.bind_some, Bool.false_eq_true, if_false]
            rw [if_pos (by omega), e1, w64 (by omega)]
          · rw [drop_cons us j hlt, row_high hh]
        | true =>
          by_cases hl2 : j + 1 < us.length
          · have hb := getD_lt' hu (by decide) (j + 1)
            cases hlo : lo (us.getD (j + 1) 0) with
            | false =>
              refine alone (fun k => ?_) ?_
              · simp only [cameoref01_Row.l0, ints_len]
                rw [if_pos (by omega), if_pos (by omega), rd_ints, high_eq, hh]
                simp only [Option.bind_some, if_true, e1]
                rw [if_pos (by omega), if_pos (by omega), rd_ints, low_eq, hlo]
                simp only [Option.bind_some, Bool.false_eq_true, if_false]
                rw [if_pos (by omega), w64 (by omega)]
              · rw [drop_cons us j hlt, drop_cons us (j + 1) hl2]
                exact row_two _ (by rw [hh, hlo]; rfl)
            | true =>
              obtain ⟨pts, p1, p2, p3⟩ := row_ev us hu hlen n (j + 2) (out ++ [(⟨(j : Int), ((65536 + 1024 * (us.getD j 0 - 55296) + (us.getD (j + 1) 0 - 56320) : Nat) : Int)⟩ : S124)]) (by omega) (by omega) (by rw [List.length_append]; simp; omega)
              refine ⟨(⟨(j : Int), ((65536 + 1024 * (us.getD j 0 - 55296) + (us.getD (j + 1) 0 - 56320) : Nat) : Int)⟩ : S124) :: pts, ?_, ?_, by simp; omega⟩
              · rw [List.append_assoc] at p1
                refine Ev.step (fun k => ?_) p1
                simp only [cameoref01_Row.l0, ints_len]
                rw [if_pos (by omega), if_pos (by omega), rd_ints, high_eq, hh]
                simp only [Option.bind_some, if_true, e1]
                rw [if_pos (by omega), if_pos (by omega), rd_ints, low_eq, hlo]
                simp only [Option.bind_some, if_true]
                rw [if_pos (by omega), e2]
                rw [pair_w _ _ (hi_ge hh) (lo_ge hlo)]
              · rw [List.map_cons, p2, drop_cons us j hlt, drop_cons us (j + 1) hl2, row_one _ (by rw [hh, hlo]; rfl)]
                rfl
          · refine alone (fun k => ?_) ?_
            · simp only [cameoref01_Row.l0, ints_len]
              rw [if_pos (by omega), if_pos (by omega), rd_ints, high_eq, hh]
              simp only [Option.bind_some, if_true, e1]
              rw [if_neg (by omega), if_pos (by omega), w64 (by omega)]
            · have he : us.drop (j + 1) = [] := List.drop_eq_nil_of_le (by omega)
              rw [drop_cons us j hlt, he]
              rfl
    · have he : us.drop j = [] := List.drop_eq_nil_of_le (by omega)
      refine ⟨[], Ev.step (f := fun _ => some out) (fun k => ?_) (by rw [List.append_nil]; exact Ev.now _), by rw [he]; rfl, by simp⟩
      simp only [cameoref01_Row.l0, ints_len]
      rw [if_neg (by omega)]
theorem pe_d64 (c : Nat) (hc : c ≤ 1114111) : Int.tdiv (c : Int) 64 = ((c / 64 : Nat) : Int) := by rw [Int.tdiv_eq_ediv_of_nonneg (by omega)]; omega
theorem pe_d4096 (c : Nat) (hc : c ≤ 1114111) : Int.tdiv (c : Int) 4096 = ((c / 4096 : Nat) : Int) := by rw [Int.tdiv_eq_ediv_of_nonneg (by omega)]; omega
theorem pe_d262144 (c : Nat) (hc : c ≤ 1114111) : Int.tdiv (c : Int) 262144 = ((c / 262144 : Nat) : Int) := by rw [Int.tdiv_eq_ediv_of_nonneg (by omega)]; omega
theorem pe_m64 (c : Nat) (hc : c ≤ 1114111) : Int.tmod (c : Int) 64 = ((c % 64 : Nat) : Int) := by rw [Int.tmod_eq_emod_of_nonneg (by omega)]; omega
theorem pe_w1 (c : Nat) (hc : c ≤ 1114111) : wrap64 (((c / 64 : Nat) : Int)) = ((c / 64 : Nat) : Int) := w64 (by omega)
theorem pe_w2 (c : Nat) (hc : c ≤ 1114111) : wrap64 (((c / 4096 : Nat) : Int)) = ((c / 4096 : Nat) : Int) := w64 (by omega)
theorem pe_m64a (c : Nat) (hc : c ≤ 1114111) : Int.tmod (((c / 64 : Nat) : Int)) 64 = ((c / 64 % 64 : Nat) : Int) := by rw [Int.tmod_eq_emod_of_nonneg (by omega)]; omega
theorem pe_m64b (c : Nat) (hc : c ≤ 1114111) : Int.tmod (((c / 4096 : Nat) : Int)) 64 = ((c / 4096 % 64 : Nat) : Int) := by rw [Int.tmod_eq_emod_of_nonneg (by omega)]; omega
theorem pe_v1 (c : Nat) (hc : c ≤ 1114111) : wrap64 (128 + ((c % 64 : Nat) : Int)) % 256 = ((128 + c % 64 : Nat) : Int) := by rw [w64 (by omega)]; omega
theorem pe_v2 (c : Nat) (hc : c ≤ 1114111) : wrap64 (128 + ((c / 64 % 64 : Nat) : Int)) % 256 = ((128 + c / 64 % 64 : Nat) : Int) := by rw [w64 (by omega)]; omega
theorem pe_v3 (c : Nat) (hc : c ≤ 1114111) : wrap64 (128 + ((c / 4096 % 64 : Nat) : Int)) % 256 = ((128 + c / 4096 % 64 : Nat) : Int) := by rw [w64 (by omega)]; omega
theorem pe_a2 (c : Nat) (hc : c < 2048) : wrap64 (192 + ((c / 64 : Nat) : Int)) % 256 = ((192 + c / 64 : Nat) : Int) := by rw [w64 (by omega)]; omega
theorem pe_a3 (c : Nat) (hc : c < 65536) : wrap64 (224 + ((c / 4096 : Nat) : Int)) % 256 = ((224 + c / 4096 : Nat) : Int) := by rw [w64 (by omega)]; omega
theorem pe_a0 (c : Nat) (hc : c ≤ 1114111) : wrap64 ((c / 262144 : Nat) : Int) = ((c / 262144 : Nat) : Int) := w64 (by omega)
theorem pe_a4 (c : Nat) (hc : c ≤ 1114111) : wrap64 (240 + ((c / 262144 : Nat) : Int)) % 256 = ((240 + c / 262144 : Nat) : Int) := by rw [w64 (by omega)]; omega
theorem put_eq (l : List Int) (c : Nat) (hl : l.length ≤ 8388608) (hc : c ≤ 1114111) : cameoref01_put.f l (c : Int) = some (l ++ ints (putC c)) := by
  unfold cameoref01_put.f putC
  rw [pe_d64 c hc, pe_d4096 c hc, pe_d262144 c hc, pe_m64 c hc, pe_w1 c hc, pe_w2 c hc, pe_m64a c hc, pe_m64b c hc, pe_v1 c hc, pe_v2 c hc, pe_v3 c hc, pe_a0 c hc, pe_a4 c hc]
  by_cases h1 : c < 128
  · rw [if_pos (show (c : Int) < 128 by omega), if_pos (show l.length < 140737488355328 by omega), if_pos h1, show (c : Int) % 256 = (c : Int) by omega]
    rfl
  rw [if_neg (show ¬ (c : Int) < 128 by omega), if_neg h1]
  simp only [Option.bind_some, List.length_cons, List.length_nil]
  by_cases h2 : c < 2048
  · rw [if_pos (show (c : Int) < 2048 by omega), if_pos h2, if_pos (show l.length + (0 + 1 + 1) < 140737488355328 by omega), pe_a2 c h2]
    rfl
  rw [if_neg (show ¬ (c : Int) < 2048 by omega), if_neg h2]
  by_cases h3 : c < 65536
  · rw [if_pos (show (c : Int) < 65536 by omega), if_pos h3, if_pos (show l.length + (0 + 1 + 1 + 1) < 140737488355328 by omega), pe_a3 c h3]
    rfl
  rw [if_neg (show ¬ (c : Int) < 65536 by omega), if_neg h3, if_pos (show l.length + (0 + 1 + 1 + 1 + 1) < 140737488355328 by omega)]
  rfl
theorem of_ev (pts : List S124) (cs : List Nat) (hc : ∀ c ∈ cs, c ≤ 1114111) (he : pts.map (·.f1) = ints cs) (hl : cs.length ≤ 1048576) : ∀ (n j : Nat) (bs : List Int), cs.length ≤ n + j → j ≤ cs.length → bs.length ≤ 4 * j →
    Ev (fun k => cameoref01_Of.l0 k bs pts (j : Int)) (strOfNums (bs ++ ints ((cs.drop j).flatMap putC)))
  | n, j, bs, hn, hj, hb => by
    have hpl : pts.length = cs.length := by
      have := congrArg List.length he
      rwa [List.length_map, ints_len] at this
    by_cases hlt : j < cs.length
    · cases n with
      | zero => exact absurd hlt (by omega)
      | succ n =>
        have hcj : cs.getD j 0 ≤ 1114111 := by
          have := getD_lt' (B := 1114112) (fun u hu => by have := hc u hu; omega) (by decide) j
          omega
        have e1 : wrap64 ((j : Int) + 1) = ((j + 1 : Nat) : Int) := by rw [w64 (by omega)]; omega
        have hf : (rd_T124 pts (j : Int)).f1 = ((cs.getD j 0 : Nat) : Int) := by
          unfold rd_T124
          rw [Int.toNat_natCast]
          have h1 : pts[j]? = some pts[j] := List.getElem?_eq_getElem (by omega)
          have h2 : (pts.map (·.f1))[j]? = some pts[j].f1 := by rw [List.getElem?_map, h1]; rfl
          rw [he] at h2
          unfold ints at h2
          rw [List.getElem?_map, List.getElem?_eq_getElem hlt] at h2
          simp only [Option.map_some, Option.some.injEq] at h2
          rw [List.getD_eq_getElem?_getD, h1, Option.getD_some, ← h2, List.getD_eq_getElem?_getD, List.getElem?_eq_getElem hlt, Option.getD_some]
        have ih := of_ev pts cs hc he hl n (j + 1) (bs ++ ints (putC (cs.getD j 0))) (by omega) (by omega) (by
          rw [List.length_append, ints_len, putC_len]
          have := plen_inv (c := cs.getD j 0)
          omega)
        have e2 : bs ++ ints ((cs.drop j).flatMap putC) = bs ++ ints (putC (cs.getD j 0)) ++ ints ((cs.drop (j + 1)).flatMap putC) := by
          rw [drop_cons cs j hlt, List.flatMap_cons, List.append_assoc]
          simp [ints]
        rw [e2]
        refine Ev.step (fun k => ?_) ih
        simp only [cameoref01_Of.l0]
        rw [if_pos (by omega), if_pos (by omega), hf, put_eq _ _ (by omega) hcj, e1]
        rfl
    · have hd : cs.drop j = [] := List.drop_eq_nil_of_le (by omega)
      rw [hd]
      refine Ev.step (f := fun _ => some (strOfNums bs)) (fun k => ?_) (by simpa [ints] using Ev.now (strOfNums bs))
      simp only [cameoref01_Of.l0]
      rw [if_neg (by omega)]
theorem toList_iff (s : ByteArray) (l : List Nat) (hl : ∀ b ∈ l, b < 256) : ((strOfNums (ints l)).toList == s.toList) = true ↔ l = nums s := by
  rw [beq_iff_eq]
  have h1 : (strOfNums (ints l)).toList = (strOfNums (ints l)).data.toList := by simp [ByteArray.toList_eq]
  have h2 : s.toList = s.data.toList := by simp [ByteArray.toList_eq]
  rw [h1, h2, strOfNums_data]
  unfold ints nums
  rw [List.map_map]
  have h3 : (l.map ((fun n : Int => UInt8.ofNat n.toNat) ∘ fun n : Nat => (n : Int))).map UInt8.toNat = l := by
    rw [List.map_map]
    refine (List.map_congr_left fun b hb => ?_).trans (List.map_id l)
    have := hl b hb
    simp [Nat.mod_eq_of_lt this]
  constructor
  · intro h
    have := congrArg (List.map UInt8.toNat) h
    rw [h3] at this
    exact this
  · intro h
    have : l.map UInt8.ofNat = s.data.toList := by
      rw [h, List.map_map]
      refine (List.map_congr_left fun b hb => ?_).trans (List.map_id _)
      simp
    rw [← this]
    refine List.map_congr_left fun b hb => ?_
    simp
theorem putC_lt {c : Nat} (hc : c ≤ 1114111) : ∀ b ∈ putC c, b < 256 := by
  intro b hb
  unfold putC at hb
  split at hb
  · simp at hb; omega
  · split at hb
    · simp at hb; omega
    · split at hb
      · simp at hb; omega
      · simp at hb; omega
theorem units_lt {c : Nat} (hc : c ≤ 1114111) : ∀ u ∈ units c, u < 65536 := by
  intro u hu
  unfold units at hu
  split at hu
  · simp at hu; omega
  · simp at hu; omega
set_option maxRecDepth 100000 in
theorem rowC_le : ∀ (n : Nat) (us : List Nat), us.length ≤ n → (∀ u ∈ us, u < 65536) → (∀ c ∈ rowC us, c ≤ 1114111) ∧ (rowC us).length ≤ us.length
  | 0, [], _, _ => by simp [rowC]
  | n + 1, [], _, _ => by simp [rowC]
  | n + 1, [a], _, h => by
    refine ⟨fun c hc => ?_, Nat.le_refl _⟩
    have := h a (by simp)
    simp only [rowC, List.mem_singleton] at hc
    omega
  | n + 1, a :: b :: r, hl, h => by
    have ha := h a (by simp)
    have hb := h b (by simp)
    obtain ⟨i1, i2⟩ := rowC_le n (b :: r) (by simp at hl ⊢; omega) (fun u hu => h u (List.mem_cons_of_mem _ hu))
    obtain ⟨j1, j2⟩ := rowC_le n r (by simp at hl ⊢; omega) (fun u hu => h u (List.mem_cons_of_mem _ (List.mem_cons_of_mem _ hu)))
    cases hh : hi a && lo b with
    | true =>
      have e : rowC (a :: b :: r) = (65536 + 1024 * (a - 55296) + (b - 56320)) :: rowC r := by simp [rowC, hh]
      rw [Bool.and_eq_true] at hh
      have g1 := hh.1
      have g2 := hh.2
      unfold hi at g1
      unfold lo at g2
      simp at g1 g2
      rw [e]
      refine ⟨fun c hc => ?_, by simp; omega⟩
      rcases List.mem_cons.1 hc with hc | hc
      · omega
      · exact j1 c hc
    | false =>
      have e : rowC (a :: b :: r) = a :: rowC (b :: r) := by simp [rowC, hh]
      rw [e]
      refine ⟨fun c hc => ?_, by simp at i2 ⊢; omega⟩
      rcases List.mem_cons.1 hc with rfl | hc
      · omega
      · exact i1 c hc
theorem flatU (cs : List Nat) : cs.flatMap U = ints (cs.flatMap units) := by
  induction cs with
  | nil => rfl
  | cons a r ih =>
    rw [List.flatMap_cons, List.flatMap_cons, ih]
    simp [ints, U]
set_option maxRecDepth 100000 in
/-- Both say the same of every string of not more than 2^20 bytes. -/
theorem valid_eq (s : ByteArray) (hs : s.size ≤ 1048576) : ∃ k, cameoref01_Valid.f k s = some (units_Valid.val (s.size + 1) s 0 0) := by
  have hv := val_iff s (s.size + 1) 0 0 (by omega)
  rw [List.drop_zero] at hv
  have hr := read_ev s hs (s.size + 1) 0 [] (by omega) (by omega) (by simp)
  rw [List.drop_zero] at hr
  refine Ev.rounds ?_
  unfold cameoref01_Valid.f
  refine Ev.bind (f := fun k (bt323 : List Int × Bool) => (if bt323.2 = true then ((cameoref01_Of.f k bt323.1).bind fun t327 => (some (t327.toList == s.toList))) else (some false))) (g := fun k => cameoref01_read.f k s) (a := outOf [] (dec (s.size + 1) (nums s))) hr ?_
  cases hd : dec (s.size + 1) (nums s) with
  | none =>
    have : units_Valid.val (s.size + 1) s 0 0 = false := by
      rw [Bool.eq_false_iff]
      intro h
      obtain ⟨cs, h1, _⟩ := hv.1 h
      rw [hd] at h1
      cases h1
    rw [this]
    exact Ev.congr (fun k => if_neg (by simp [outOf])) (Ev.now _)
  | some cs =>
    obtain ⟨d1, d2, d3, d4, d5⟩ := dec_spec _ _ cs (nums_lt s) hd
    rw [nums_len] at d1
    have hcl : (cs.map (·.1)).length ≤ s.size := by
      rw [List.length_map, ← d1]
      have : ∀ (l : List (Nat × Nat)), (∀ p ∈ l, 1 ≤ p.2) → l.length ≤ (l.map (·.2)).sum := by
        intro l
        induction l with
        | nil => intro _; simp
        | cons a r ih =>
          intro h
          have h1 := h a (by simp)
          have h2 := ih fun p hp => h p (List.mem_cons_of_mem _ hp)
          simp only [List.length_cons, List.map_cons, List.sum_cons]
          omega
      refine this cs ?_
      have : ∀ (m : Nat) (l : List Nat) (cs : List (Nat × Nat)), dec m l = some cs → ∀ p ∈ cs, 1 ≤ p.2 := by
        intro m
        induction m with
        | zero =>
          intro l cs h p hp
          unfold dec at h
          split at h
          · cases h; cases hp
          · cases h
        | succ m ih =>
          intro l cs h p hp
          unfold dec at h
          split at h
          · cases h; cases hp
          · rename_i hl
            split at h
            · cases h
            · rename_i c k hld
              obtain ⟨cs', hd', rfl⟩ := Option.map_eq_some_iff.1 h
              rcases List.mem_cons.1 hp with rfl | hp
              · exact (ld_spec (by cases l <;> simp_all) hld).1
              · exact ih _ _ hd' p hp
      exact this _ _ cs hd
    have hle : ∀ c ∈ cs.map (·.1), c ≤ 1114111 := fun c hc => by
      obtain ⟨p, hp, rfl⟩ := List.mem_map.1 hc
      exact d4 p hp
    have hul : ∀ u ∈ (cs.map (·.1)).flatMap units, u < 65536 := fun u hu => by
      obtain ⟨c, hc, hcu⟩ := List.mem_flatMap.1 hu
      exact units_lt (hle c hc) u hcu
    have hulen : ((cs.map (·.1)).flatMap units).length ≤ 2 * (cs.map (·.1)).length := by
      have : ∀ l : List Nat, (l.flatMap units).length ≤ 2 * l.length := by
        intro l
        induction l with
        | nil => simp
        | cons a r ih =>
          rw [List.flatMap_cons, List.length_append, List.length_cons]
          have : (units a).length ≤ 2 := by unfold units; split <;> simp
          omega
      exact this _
    obtain ⟨r1, r2⟩ := rowC_le _ ((cs.map (·.1)).flatMap units) (Nat.le_refl _) hul
    have r3 : (rowC ((cs.map (·.1)).flatMap units)).length ≤ 1048576 := by
      rw [row_units (cs.map (·.1)).length (cs.map (·.1)) (Nat.le_refl _) hle]
      have : ∀ (n : Nat) (l : List Nat), l.length ≤ n → (merge l).length ≤ l.length := by
        intro n
        induction n with
        | zero => intro l hl; cases l with
          | nil => simp [merge]
          | cons a r => simp at hl
        | succ n ih =>
          intro l hl
          rcases l with _ | ⟨a, _ | ⟨b, r⟩⟩
          · simp [merge]
          · simp [merge]
          · have h1 := ih (b :: r) (by simp at hl ⊢; omega)
            have h2 := ih r (by simp at hl ⊢; omega)
            simp only [merge]
            split
            · simp; omega
            · simp at h1 ⊢; omega
      have := this _ (cs.map (·.1)) (Nat.le_refl _)
      omega
    have hout : outOf [] (some cs) = (ints ((cs.map (·.1)).flatMap units), true) := by
      simp only [outOf, List.nil_append]
      rw [flatU]
    rw [hout]
    refine Ev.congr (f := fun k => (cameoref01_Of.f k (ints ((cs.map (·.1)).flatMap units))).bind fun t327 => (some (t327.toList == s.toList))) (fun k => if_pos rfl) ?_
    obtain ⟨pts, p1, p2, p3⟩ := row_ev ((cs.map (·.1)).flatMap units) hul (by omega) _ 0 [] (Nat.le_refl _) (Nat.zero_le _) (by simp)
    rw [List.drop_zero] at p2
    rw [List.nil_append] at p1
    have ho := of_ev pts _ r1 p2 r3 _ 0 [] (Nat.le_refl _) (Nat.zero_le _) (by simp)
    rw [List.drop_zero, List.nil_append] at ho
    have hof : Ev (fun k => cameoref01_Of.f k (ints ((cs.map (·.1)).flatMap units))) (strOfNums (ints ((rowC ((cs.map (·.1)).flatMap units)).flatMap putC))) := by
      unfold cameoref01_Of.f cameoref01_Row.f
      exact Ev.bind (f := fun k t316 => cameoref01_Of.l0 k ([] : List Int) t316 0) p1 ho
    refine Ev.bind (f := fun _ (t327 : ByteArray) => some (t327.toList == s.toList)) hof ?_
    have hb : ∀ b ∈ (rowC ((cs.map (·.1)).flatMap units)).flatMap putC, b < 256 := fun b hb => by
      obtain ⟨c, hc, hcb⟩ := List.mem_flatMap.1 hb
      exact putC_lt (r1 c hc) b hcb
    have hfin : ((strOfNums (ints ((rowC ((cs.map (·.1)).flatMap units)).flatMap putC))).toList == s.toList) = units_Valid.val (s.size + 1) s 0 0 := by
      rw [Bool.eq_iff_iff, toList_iff s _ hb, back_iff (nums_lt s) hd, ]
      rw [show units_Valid.val (s.size + 1) s 0 0 = units_Valid.val (s.size + 1) s ((0 : Nat) : Int) 0 from rfl, hv]
      constructor
      · rintro ⟨h1, h2⟩
        exact ⟨cs, hd, h1, h2⟩
      · rintro ⟨cs', h0, h1, h2⟩
        rw [hd] at h0
        obtain rfl := Option.some.inj h0
        exact ⟨h1, h2⟩
    rw [hfin]
    exact Ev.now _
end Go.Proofs.YtlliefodchfpfaaDoor.Utf

