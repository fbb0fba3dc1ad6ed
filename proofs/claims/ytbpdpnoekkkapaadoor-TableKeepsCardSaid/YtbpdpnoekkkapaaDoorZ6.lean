/- Parts of the proof, joined (6). -/
import Derived.Lib.DecodeN
import Derived.Lib.Bytes
import Derived.Test.YtbpdpnoekkkapaaDoorZ5
set_option linter.unusedSectionVars false
set_option linter.unusedSimpArgs false
set_option linter.unusedVariables false
section
namespace Go.Proofs.YtbpdpnoekkkapaaDoor.Utf
def cont (b : Nat) : Prop := 128 ≤ b ∧ b ≤ 191
instance (b : Nat) : Decidable (cont b) := inferInstanceAs (Decidable (_ ∧ _))
def ld (n b0 b1 b2 b3 : Nat) : Option (Nat × Nat) :=
  if b0 < 128 then some (b0, 1)
  else if b0 < 192 then none
  else if b0 < 224 then (if 1 < n ∧ cont b1 then some ((b0 - 192) * 64 + (b1 - 128), 2) else none)
  else if b0 < 240 then (if 1 < n ∧ cont b1 then (if 2 < n ∧ cont b2 then some ((b0 - 224) * 4096 + (b1 - 128) * 64 + (b2 - 128), 3) else none) else none)
  else if b0 < 248 then (if 1 < n ∧ cont b1 then (if 2 < n ∧ cont b2 then (if 3 < n ∧ cont b3 then (if (b0 - 240) * 262144 + (b1 - 128) * 4096 + (b2 - 128) * 64 + (b3 - 128) ≤ 1114111 then some ((b0 - 240) * 262144 + (b1 - 128) * 4096 + (b2 - 128) * 64 + (b3 - 128), 4) else none) else none) else none) else none)
  else none
def plen (c : Nat) : Nat := if c < 128 then 1 else if c < 2048 then 2 else if c < 65536 then 3 else 4
def putC (c : Nat) : List Nat :=
  if c < 128 then [c] else if c < 2048 then [192 + c / 64, 128 + c % 64] else if c < 65536 then [224 + c / 4096, 128 + c / 64 % 64, 128 + c % 64]
  else [240 + c / 262144, 128 + c / 4096 % 64, 128 + c / 64 % 64, 128 + c % 64]
theorem putC_len (c : Nat) : (putC c).length = plen c := by
  unfold putC plen
  repeat' split
  all_goals rfl
theorem ld_inv {n b0 b1 b2 b3 c k : Nat} (h : ld n b0 b1 b2 b3 = some (c, k)) :
    (k = 1 ∧ b0 < 128 ∧ c = b0) ∨ (k = 2 ∧ 192 ≤ b0 ∧ b0 < 224 ∧ 1 < n ∧ cont b1 ∧ c = (b0 - 192) * 64 + (b1 - 128)) ∨
    (k = 3 ∧ 224 ≤ b0 ∧ b0 < 240 ∧ 2 < n ∧ cont b1 ∧ cont b2 ∧ c = (b0 - 224) * 4096 + (b1 - 128) * 64 + (b2 - 128)) ∨
    (k = 4 ∧ 240 ≤ b0 ∧ b0 < 248 ∧ 3 < n ∧ cont b1 ∧ cont b2 ∧ cont b3 ∧ c = (b0 - 240) * 262144 + (b1 - 128) * 4096 + (b2 - 128) * 64 + (b3 - 128) ∧ c ≤ 1114111) := by
  have sm : ∀ {x : Nat × Nat}, some x = some (c, k) → x.1 = c ∧ x.2 = k := fun h => by
    have := Option.some.inj h
    exact ⟨congrArg Prod.fst this, congrArg Prod.snd this⟩
  have nn : ∀ {α : Prop}, (none : Option (Nat × Nat)) = some (c, k) → α := fun h => absurd h.symm (Option.some_ne_none _)
  unfold ld at h
  by_cases h0 : b0 < 128
  · rw [if_pos h0] at h
    obtain ⟨e1, e2⟩ := sm h
    exact .inl ⟨e2.symm, h0, e1.symm⟩
  rw [if_neg h0] at h
  by_cases h1 : b0 < 192
  · rw [if_pos h1] at h; exact nn h
  rw [if_neg h1] at h
  by_cases h2 : b0 < 224
  · rw [if_pos h2] at h
    by_cases h3 : 1 < n ∧ cont b1
    · rw [if_pos h3] at h
      obtain ⟨e1, e2⟩ := sm h
      exact .inr (.inl ⟨e2.symm, by omega, h2, h3.1, h3.2, e1.symm⟩)
    · rw [if_neg h3] at h; exact nn h
  rw [if_neg h2] at h
  by_cases h4 : b0 < 240
  · rw [if_pos h4] at h
    by_cases h3 : 1 < n ∧ cont b1
    · rw [if_pos h3] at h
      by_cases h5 : 2 < n ∧ cont b2
      · rw [if_pos h5] at h
        obtain ⟨e1, e2⟩ := sm h
        exact .inr (.inr (.inl ⟨e2.symm, by omega, h4, h5.1, h3.2, h5.2, e1.symm⟩))
      · rw [if_neg h5] at h; exact nn h
    · rw [if_neg h3] at h; exact nn h
  rw [if_neg h4] at h
  by_cases h6 : b0 < 248
  · rw [if_pos h6] at h
    by_cases h3 : 1 < n ∧ cont b1
    · rw [if_pos h3] at h
      by_cases h5 : 2 < n ∧ cont b2
      · rw [if_pos h5] at h
        by_cases h7 : 3 < n ∧ cont b3
        · rw [if_pos h7] at h
          by_cases h8 : (b0 - 240) * 262144 + (b1 - 128) * 4096 + (b2 - 128) * 64 + (b3 - 128) ≤ 1114111
          · rw [if_pos h8] at h
            obtain ⟨e1, e2⟩ := sm h
            exact .inr (.inr (.inr ⟨e2.symm, by omega, h6, h7.1, h3.2, h5.2, h7.2, e1.symm, by rw [← e1]; exact h8⟩))
          · rw [if_neg h8] at h; exact nn h
        · rw [if_neg h7] at h; exact nn h
      · rw [if_neg h5] at h; exact nn h
    · rw [if_neg h3] at h; exact nn h
  · rw [if_neg h6] at h; exact nn h
theorem plen_le {c k : Nat} (h : (k = 1 ∧ c < 128) ∨ (k = 2 ∧ c < 2048) ∨ (k = 3 ∧ c < 65536) ∨ k = 4) : plen c ≤ k := by
  unfold plen
  repeat' split
  all_goals omega
theorem ld_spec {n b0 b1 b2 b3 c k : Nat} (hn : 0 < n) (h : ld n b0 b1 b2 b3 = some (c, k)) : 1 ≤ k ∧ k ≤ n ∧ k ≤ 4 ∧ plen c ≤ k ∧ c ≤ 1114111 := by
  have h := ld_inv h
  unfold cont at h
  refine ⟨by omega, by omega, by omega, plen_le (by omega), by omega⟩
theorem plen_inv {c : Nat} : (plen c = 1 ∧ c < 128) ∨ (plen c = 2 ∧ 128 ≤ c ∧ c < 2048) ∨ (plen c = 3 ∧ 2048 ≤ c ∧ c < 65536) ∨ (plen c = 4 ∧ 65536 ≤ c) := by
  unfold plen
  repeat' split
  all_goals omega
def ldL (l : List Nat) : Option (Nat × Nat) := ld l.length (l.getD 0 0) (l.getD 1 0) (l.getD 2 0) (l.getD 3 0)
theorem ldL_take {l : List Nat} {c k : Nat} (hl : l ≠ []) (hb : ∀ b ∈ l, b < 256) (h : ldL l = some (c, k)) (hk : k = plen c) : l.take k = putC c := by
  have h := ld_inv h
  have hp := plen_inv (c := c)
  rw [← hk] at hp
  rcases h with ⟨rfl, h1, h2⟩ | ⟨rfl, h1, h2, h3, h4, h5⟩ | ⟨rfl, h1, h2, h3, h4, h5, h6⟩ | ⟨rfl, h1, h2, h3, h4, h5, h6, h7, h8⟩
  · rcases l with _ | ⟨b0, r⟩
    · exact absurd rfl hl
    · simp only [List.getD_cons_zero] at h1 h2
      subst h2
      unfold putC
      rw [if_pos h1]; rfl
  · rcases l with _ | ⟨b0, _ | ⟨b1, r⟩⟩
    · exact absurd rfl hl
    · simp at h3
    · simp only [List.getD_cons_zero, List.getD_cons_succ] at h1 h2 h4 h5
      unfold cont at h4
      unfold putC
      rw [if_neg (by omega), if_pos (by omega)]
      simp only [List.take_succ_cons, List.take_zero, List.cons.injEq, and_true]
      omega
  · rcases l with _ | ⟨b0, _ | ⟨b1, _ | ⟨b2, r⟩⟩⟩
    · exact absurd rfl hl
    · simp at h3
    · simp at h3
    · simp only [List.getD_cons_zero, List.getD_cons_succ] at h1 h2 h4 h5 h6
      unfold cont at h4 h5
      unfold putC
      rw [if_neg (by omega), if_neg (by omega), if_pos (by omega)]
      simp only [List.take_succ_cons, List.take_zero, List.cons.injEq, and_true]
      omega
  · rcases l with _ | ⟨b0, _ | ⟨b1, _ | ⟨b2, _ | ⟨b3, r⟩⟩⟩⟩
    · exact absurd rfl hl
    · simp at h3
    · simp at h3
    · simp at h3
    · simp only [List.getD_cons_zero, List.getD_cons_succ] at h1 h2 h4 h5 h6 h7
      unfold cont at h4 h5 h6
      unfold putC
      rw [if_neg (by omega), if_neg (by omega), if_neg (by omega)]
      simp only [List.take_succ_cons, List.take_zero, List.cons.injEq, and_true]
      omega
def dec : Nat → List Nat → Option (List (Nat × Nat))
  | 0, l => if l = [] then some [] else none
  | m + 1, l => if l = [] then some [] else match ldL l with
    | none => none
    | some (c, k) => (dec m (l.drop k)).map ((c, k) :: ·)
def hi (c : Nat) : Bool := decide (55296 ≤ c) && decide (c < 56320)
def lo (c : Nat) : Bool := decide (56320 ≤ c) && decide (c < 57344)
def noadj : Nat → List Nat → Bool
  | _, [] => true
  | a, c :: r => !(hi a && lo c) && noadj c r
def units (c : Nat) : List Nat := if 65536 ≤ c then [55296 + (c - 65536) / 1024, 56320 + (c - 65536) % 1024] else [c]
def rowC : List Nat → List Nat
  | [] => []
  | [a] => [a]
  | a :: b :: r => if hi a && lo b then (65536 + 1024 * (a - 55296) + (b - 56320)) :: rowC r else a :: rowC (b :: r)
def merge : List Nat → List Nat
  | [] => []
  | [a] => [a]
  | a :: b :: r => if hi a && lo b then (65536 + 1024 * (a - 55296) + (b - 56320)) :: merge r else a :: merge (b :: r)
theorem row_high {a : Nat} (ha : hi a = false) (l : List Nat) : rowC (a :: l) = a :: rowC l := by
  cases l with
  | nil => rfl
  | cons b r => simp [rowC, ha]
theorem row_pair {c : Nat} (hc : 65536 ≤ c) (hm : c ≤ 1114111) (l : List Nat) : rowC (units c ++ l) = c :: rowC l := by
  unfold units
  rw [if_pos hc]
  have h1 : hi (55296 + (c - 65536) / 1024) = true := by unfold hi; simp; omega
  have h2 : lo (56320 + (c - 65536) % 1024) = true := by unfold lo; simp; omega
  simp only [List.cons_append, List.nil_append, rowC, h1, h2, Bool.and_self, if_true, List.cons.injEq, and_true]
  omega
theorem row_units : ∀ (n : Nat) (cs : List Nat), cs.length ≤ n → (∀ c ∈ cs, c ≤ 1114111) → rowC (cs.flatMap units) = merge cs
  | 0, [], _, _ => rfl
  | n + 1, [], _, _ => rfl
  | n + 1, [a], _, h => by
    simp only [List.flatMap_cons, List.flatMap_nil]
    by_cases ha : 65536 ≤ a
    · rw [row_pair ha (h a (by simp))]; rfl
    · rw [List.append_nil]; unfold units; rw [if_neg ha]; rfl
  | n + 1, a :: b :: r, hl, h => by
    have ih := row_units n (b :: r) (by simp at hl ⊢; omega) (fun c hc => h c (List.mem_cons_of_mem _ hc))
    by_cases ha : 65536 ≤ a
    · have hh : hi a = false := by unfold hi; simp; omega
      rw [List.flatMap_cons, row_pair ha (h a (by simp)), ih]
      simp [merge, hh]
    · have e : units a = [a] := by unfold units; rw [if_neg ha]
      rw [List.flatMap_cons, e, List.singleton_append]
      cases hh : hi a with
      | false => rw [row_high hh, ih]; simp [merge, hh]
      | true =>
        by_cases hb : 65536 ≤ b
        · have hl2 : lo b = false := by unfold lo; simp; omega
          rw [show merge (a :: b :: r) = a :: merge (b :: r) from by simp [merge, hh, hl2], ← ih]
          have e2 : units b = [55296 + (b - 65536) / 1024, 56320 + (b - 65536) % 1024] := by unfold units; rw [if_pos hb]
          have h3 : lo (55296 + (b - 65536) / 1024) = false := by
            have := h b (by simp)
            unfold lo; simp; omega
          rw [List.flatMap_cons, e2]
          simp [rowC, hh, h3]
        · have e2 : units b = [b] := by unfold units; rw [if_neg hb]
          cases hl2 : lo b with
          | false =>
            rw [show merge (a :: b :: r) = a :: merge (b :: r) from by simp [merge, hh, hl2], ← ih, List.flatMap_cons, e2]
            simp [rowC, hh, hl2]
          | true =>
            rw [show merge (a :: b :: r) = (65536 + 1024 * (a - 55296) + (b - 56320)) :: merge r from by simp [merge, hh, hl2], List.flatMap_cons, e2]
            have ih2 := row_units n r (by simp at hl ⊢; omega) (fun c hc => h c (List.mem_cons_of_mem _ (List.mem_cons_of_mem _ hc)))
            simp [rowC, hh, hl2, ih2]
def psum (l : List Nat) : Nat := (l.map plen).sum
theorem merge_sum : ∀ (n : Nat) (cs : List Nat), cs.length ≤ n → psum (merge cs) ≤ psum cs ∧ (psum (merge cs) = psum cs → merge cs = cs ∧ ∀ a, hi a = false → noadj a cs = true)
  | 0, [], _ => ⟨Nat.le_refl _, fun _ => ⟨rfl, fun _ _ => rfl⟩⟩
  | n + 1, [], _ => ⟨Nat.le_refl _, fun _ => ⟨rfl, fun _ _ => rfl⟩⟩
  | n + 1, [a], _ => ⟨Nat.le_refl _, fun _ => ⟨rfl, fun x hx => by simp [noadj, hx]⟩⟩
  | n + 1, a :: b :: r, hl => by
    obtain ⟨i1, i2⟩ := merge_sum n (b :: r) (by simp at hl ⊢; omega)
    cases hh : hi a && lo b with
    | true =>
      obtain ⟨j1, j2⟩ := merge_sum n r (by simp at hl ⊢; omega)
      rw [Bool.and_eq_true] at hh
      have e : merge (a :: b :: r) = (65536 + 1024 * (a - 55296) + (b - 56320)) :: merge r := by simp [merge, hh]
      have p1 : plen a = 3 := by
        have := hh.1
        unfold hi at this
        simp at this
        unfold plen
        rw [if_neg (by omega), if_neg (by omega), if_pos (by omega)]
      have p2 : plen b = 3 := by
        have := hh.2
        unfold lo at this
        simp at this
        unfold plen
        rw [if_neg (by omega), if_neg (by omega), if_pos (by omega)]
      have p3 : ∀ x, plen (65536 + x) = 4 := fun x => by
        unfold plen
        rw [if_neg (by omega), if_neg (by omega), if_neg (by omega)]
      have s1 : psum (merge (a :: b :: r)) = 4 + psum (merge r) := by
        rw [e]
        simp only [psum, List.map_cons, List.sum_cons]
        rw [Nat.add_assoc, p3]
      have s2 : psum (a :: b :: r) = 3 + (3 + psum r) := by simp [psum, p1, p2]
      rw [s1, s2]
      exact ⟨by omega, fun h => by omega⟩
    | false =>
      have e : merge (a :: b :: r) = a :: merge (b :: r) := by simp [merge, hh]
      have s1 : psum (merge (a :: b :: r)) = plen a + psum (merge (b :: r)) := by rw [e]; simp [psum]
      have s2 : psum (a :: b :: r) = plen a + psum (b :: r) := by simp [psum]
      rw [s1, s2]
      refine ⟨by omega, fun h => ?_⟩
      obtain ⟨k1, k2⟩ := i2 (by omega)
      refine ⟨by rw [e, k1], fun x hx => ?_⟩
      have k3 := k2 0 rfl
      have hz : hi 0 = false := rfl
      simp only [noadj, hx, hh, hz, Bool.false_and, Bool.not_false, Bool.true_and] at k3 ⊢
      exact k3
theorem merge_noadj : ∀ (cs : List Nat) (a : Nat), noadj a cs = true → merge cs = cs
  | [], _, _ => rfl
  | [a], _, _ => rfl
  | a :: b :: r, x, h => by
    simp only [noadj, Bool.and_eq_true, Bool.not_eq_true'] at h
    have e : merge (a :: b :: r) = a :: merge (b :: r) := by simp [merge, h.2.1]
    rw [e, merge_noadj (b :: r) a (by simp only [noadj, Bool.and_eq_true, Bool.not_eq_true']; exact h.2)]
theorem dec_spec : ∀ (m : Nat) (l : List Nat) (cs : List (Nat × Nat)), (∀ b ∈ l, b < 256) → dec m l = some cs →
    (cs.map (·.2)).sum = l.length ∧ psum (cs.map (·.1)) ≤ l.length ∧ (psum (cs.map (·.1)) = l.length → ∀ p ∈ cs, p.2 = plen p.1) ∧ (∀ p ∈ cs, p.1 ≤ 1114111) ∧ ((∀ p ∈ cs, p.2 = plen p.1) → (cs.map (·.1)).flatMap putC = l ∧ psum (cs.map (·.1)) = l.length)
  | 0, l, cs, hb, h => by
    unfold dec at h
    split at h
    · rename_i hl
      subst hl
      simp only [Option.some.injEq] at h
      subst h
      simp [psum]
    · cases h
  | m + 1, l, cs, hb, h => by
    unfold dec at h
    split at h
    · rename_i hl
      subst hl
      simp only [Option.some.injEq] at h
      subst h
      simp [psum]
    · rename_i hl
      split at h
      · cases h
      · rename_i c k hld
        obtain ⟨cs', hd, rfl⟩ := Option.map_eq_some_iff.1 h
        have hn : 0 < l.length := by cases l <;> simp_all
        obtain ⟨s1, s2, s3, s4, s5⟩ := ld_spec hn hld
        obtain ⟨i1, i2, i3, i4, i5⟩ := dec_spec m (l.drop k) cs' (fun b h => hb b (List.mem_of_mem_drop h)) hd
        rw [List.length_drop] at i1 i2 i3 i5
        refine ⟨by simp [i1]; omega, ?_, ?_, ?_, ?_⟩
        · simp only [psum, List.map_cons, List.sum_cons] at i2 ⊢
          omega
        · intro he
          simp only [psum, List.map_cons, List.sum_cons] at i2 i3 he
          intro p hp
          rcases List.mem_cons.1 hp with rfl | hp
          · show k = plen c
            omega
          · exact i3 (by omega) p hp
        · intro p hp
          rcases List.mem_cons.1 hp with rfl | hp
          · exact s5
          · exact i4 p hp
        · intro hall
          have h1 : k = plen c := hall (c, k) (by simp)
          obtain ⟨j1, j2⟩ := i5 fun p hp => hall p (by simp [hp])
          refine ⟨?_, ?_⟩
          · rw [List.map_cons, List.flatMap_cons, j1, ← ldL_take hl hb hld h1, List.take_append_drop]
          · simp only [psum, List.map_cons, List.sum_cons] at j2 ⊢
            omega
theorem flat_len (l : List Nat) : (l.flatMap putC).length = psum l := by
  induction l with
  | nil => rfl
  | cons a r ih => rw [List.flatMap_cons, List.length_append, ih, putC_len]; rfl
theorem back_iff {m : Nat} {l : List Nat} {cs : List (Nat × Nat)} (hb : ∀ b ∈ l, b < 256) (h : dec m l = some cs) :
    (rowC ((cs.map (·.1)).flatMap units)).flatMap putC = l ↔ (∀ p ∈ cs, p.2 = plen p.1) ∧ noadj 0 (cs.map (·.1)) = true := by
  obtain ⟨d1, d2, d3, d4, d5⟩ := dec_spec m l cs hb h
  have e := row_units (cs.map (·.1)).length (cs.map (·.1)) (Nat.le_refl _) (fun c hc => by
    obtain ⟨p, hp, rfl⟩ := List.mem_map.1 hc
    exact d4 p hp)
  rw [e]
  obtain ⟨m1, m2⟩ := merge_sum (cs.map (·.1)).length (cs.map (·.1)) (Nat.le_refl _)
  constructor
  · intro he
    have hl := congrArg List.length he
    rw [flat_len] at hl
    obtain ⟨_, hna⟩ := m2 (by omega)
    exact ⟨d3 (by omega), hna 0 rfl⟩
  · rintro ⟨h1, h2⟩
    rw [merge_noadj _ 0 h2]
    exact (d5 h1).1
end Go.Proofs.YtbpdpnoekkkapaaDoor.Utf
namespace Go.Proofs.YtbpdpnoekkkapaaDoor.Utf
open Go.RowKit Go.Proofs.YtbpdpnoekkkapaaDoorW.PrintWords Go.Proofs.YtbpdpnoekkkapaaDoor.PDescKinds
def nums (s : ByteArray) : List Nat := s.data.toList.map UInt8.toNat
theorem nums_len (s : ByteArray) : (nums s).length = s.size := by
  rw [nums, List.length_map, Array.length_toList]; rfl
theorem nums_lt (s : ByteArray) : ∀ b ∈ nums s, b < 256 := fun b hb => by
  obtain ⟨u, _, rfl⟩ := List.mem_map.1 hb
  exact u.toNat_lt
theorem nums_get (s : ByteArray) (i : Nat) : (s.get! i).toNat = (nums s).getD i 0 := by
  obtain ⟨d⟩ := s
  show (d[i]!).toNat = ((d.toList.map UInt8.toNat).getD i 0)
  rw [getElem!_def]
  cases h : d[i]? with
  | none =>
    have : d.toList[i]? = none := by simpa using h
    simp only [List.getD_eq_getElem?_getD, List.getElem?_map, this, Option.map_none, Option.getD_none]
    rfl
  | some u =>
    have : d.toList[i]? = some u := by simpa using h
    simp only [List.getD_eq_getElem?_getD, List.getElem?_map, this, Option.map_some, Option.getD_some]
theorem nums_bt (s : ByteArray) (i : Nat) : bt s (i : Int) = ((nums s).getD i 0 : Nat) := by
  unfold bt
  rw [Int.toNat_natCast]
  split
  · rename_i h
    have h2 : s.data.toList[i]? = some s[i] := by
      rw [Array.getElem?_toList]
      exact Array.getElem?_eq_getElem h
    simp only [nums, List.getD_eq_getElem?_getD, List.getElem?_map, h2, Option.map_some, Option.getD_some]
  · rename_i h
    have h2 : s.data.toList[i]? = none := by
      rw [Array.getElem?_toList]
      exact Array.getElem?_eq_none (Nat.le_of_not_lt h)
    simp only [nums, List.getD_eq_getElem?_getD, List.getElem?_map, h2, Option.map_none, Option.getD_none]
    rfl
theorem drop_getD (l : List Nat) (i j : Nat) : (l.drop i).getD j 0 = l.getD (i + j) 0 := by
  simp [List.getD_eq_getElem?_getD]
theorem nums_extract (s : ByteArray) (i : Nat) : nums (units_Valid.slc s i) = (nums s).drop i := by
  unfold nums units_Valid.slc
  rw [Lib.extract_data, List.map_take, List.map_drop, List.take_of_length_le]
  rw [List.length_drop, List.length_map, Array.length_toList]
  exact Nat.le_refl _
theorem getD_lt (s : ByteArray) (i : Nat) : (nums s).getD i 0 < 256 := by
  rw [List.getD_eq_getElem?_getD]
  cases h : (nums s)[i]? with
  | none => decide
  | some b => exact nums_lt s b (List.mem_of_getElem? h)
set_option maxRecDepth 100000 in
set_option maxHeartbeats 8000000 in
theorem decodeN_ld (n b0 b1 b2 b3 : Nat) (h0 : b0 < 256) (h1 : b1 < 256) (h2 : b2 < 256) (h3 : b3 < 256) :
    Lib.decodeN n b0 b1 b2 b3 = match ld n b0 b1 b2 b3 with
      | some (c, k) => if k = plen c ∧ ¬ (55296 ≤ c ∧ c < 57344) then (c, k) else (65533, 1)
      | none => (65533, 1) := by
  unfold Lib.decodeN ld cont
  by_cases c0 : b0 < 128
  · rw [if_pos c0, if_pos c0]
    simp only
    have : plen b0 = 1 := by unfold plen; rw [if_pos c0]
    rw [this, if_pos ⟨rfl, by omega⟩]
  rw [if_neg c0, if_neg c0]
  by_cases c1 : b0 < 192
  · rw [if_pos c1, if_neg (by omega), if_neg (by omega), if_neg (by omega)]
  rw [if_neg c1]
  by_cases c2 : b0 < 224
  · rw [if_pos c2]
    by_cases d1 : 1 < n ∧ 128 ≤ b1 ∧ b1 ≤ 191
    · rw [if_pos d1, if_pos (by omega)]
      have e : b0 % 32 * 64 + b1 % 64 = (b0 - 192) * 64 + (b1 - 128) := by omega
      rw [e]
      simp only
      have hp := plen_inv (c := (b0 - 192) * 64 + (b1 - 128))
      by_cases d2 : (b0 - 192) * 64 + (b1 - 128) ≥ 128
      · rw [if_pos d2, if_pos (by omega)]
      · rw [if_neg d2, if_neg (by omega)]
    · rw [if_neg d1, if_neg (by omega), if_neg (by omega), if_neg (by omega)]
  rw [if_neg c2]
  by_cases c3 : b0 < 240
  · rw [if_pos c3, if_neg (by omega)]
    by_cases d1 : 1 < n ∧ 128 ≤ b1 ∧ b1 ≤ 191
    · rw [if_pos d1]
      by_cases d2 : 2 < n ∧ 128 ≤ b2 ∧ b2 ≤ 191
      · rw [if_pos d2, if_pos (by omega)]
        have e : b0 % 16 * 4096 + b1 % 64 * 64 + b2 % 64 = (b0 - 224) * 4096 + (b1 - 128) * 64 + (b2 - 128) := by omega
        rw [e]
        simp only
        have hp := plen_inv (c := (b0 - 224) * 4096 + (b1 - 128) * 64 + (b2 - 128))
        generalize hc : (b0 - 224) * 4096 + (b1 - 128) * 64 + (b2 - 128) = c at hp ⊢
        by_cases d3 : c ≥ 2048 ∧ (c < 55296 ∨ 57344 ≤ c ∧ c ≤ 1114111)
        · rw [if_pos d3, if_pos (by omega)]
        · rw [if_neg d3, if_neg (by omega)]
      · rw [if_neg d2, if_neg (by omega), if_neg (by omega)]
    · rw [if_neg d1, if_neg (by omega), if_neg (by omega)]
  rw [if_neg c3]
  by_cases c4 : b0 < 248
  · rw [if_pos c4, if_neg (by omega), if_neg (by omega)]
    by_cases d1 : 1 < n ∧ 128 ≤ b1 ∧ b1 ≤ 191
    · rw [if_pos d1]
      by_cases d2 : 2 < n ∧ 128 ≤ b2 ∧ b2 ≤ 191
      · rw [if_pos d2]
        by_cases d3 : 3 < n ∧ 128 ≤ b3 ∧ b3 ≤ 191
        · rw [if_pos d3, if_pos (by omega)]
          have e : b0 % 8 * 262144 + b1 % 64 * 4096 + b2 % 64 * 64 + b3 % 64 = (b0 - 240) * 262144 + (b1 - 128) * 4096 + (b2 - 128) * 64 + (b3 - 128) := by omega
          rw [e]
          have hp := plen_inv (c := (b0 - 240) * 262144 + (b1 - 128) * 4096 + (b2 - 128) * 64 + (b3 - 128))
          generalize hc : (b0 - 240) * 262144 + (b1 - 128) * 4096 + (b2 - 128) * 64 + (b3 - 128) = c at hp ⊢
          by_cases d4 : c ≤ 1114111
          · rw [if_pos d4]
            simp only
            by_cases d5 : c ≥ 65536 ∧ (c < 55296 ∨ 57344 ≤ c ∧ c ≤ 1114111)
            · rw [if_pos d5, if_pos (by omega)]
            · rw [if_neg d5, if_neg (by omega)]
          · rw [if_neg d4, if_neg (by omega)]
        · rw [if_neg d3, if_neg (by omega)]
      · rw [if_neg d2, if_neg (by omega)]
    · rw [if_neg d1, if_neg (by omega)]
  · rw [if_neg c4, if_neg (by omega), if_neg (by omega), if_neg (by omega)]
theorem and192 : ∀ b : Fin 256, (Go.bits .and .u8 (b.val : Int) 192 = 128) ↔ (128 ≤ b.val ∧ b.val ≤ 191) := by decide +kernel
theorem or_low : ∀ (a : Fin 32) (b : Fin 64), Go.bits .or .i32 (Go.bits .or .i32 53248 (wrap32 ((wrap32 (Go.bits .and .u8 ((160 + a.val : Nat) : Int) 63)) * 64))) (wrap32 (Go.bits .and .u8 ((128 + b.val : Nat) : Int) 63)) = 53248 + ((32 + a.val : Nat) : Int) * 64 + (b.val : Int) := by decide +kernel
theorem pt_eq (s : ByteArray) (i : Nat) (hi : i < s.size) : units_Valid.pt (units_Valid.slc s i) = match ldL ((nums s).drop i) with
    | some (c, k) => if k = plen c then ((c : Int), (k : Int)) else (0, 0)
    | none => (0, 0) := by
  have hd : Lib.decodeGo (units_Valid.slc s i) = Lib.decodeN (s.size - i) ((nums s).getD i 0) ((nums s).getD (i + 1) 0) ((nums s).getD (i + 2) 0) ((nums s).getD (i + 3) 0) := by
    unfold units_Valid.slc
    unfold Lib.decodeGo
    have hsz : (s.extract i s.size).size = s.size - i := by simp
    rw [if_neg (by rw [hsz]; omega)]
    rw [Lib.decode_at]
    have hx := nums_extract s i
    unfold units_Valid.slc at hx
    rw [nums_get, nums_get, nums_get, nums_get, hx, hsz, drop_getD, drop_getD, drop_getD, drop_getD]
    rfl
  have hlen : ((nums s).drop i).length = s.size - i := by rw [List.length_drop, nums_len]
  have hs : (units_Valid.slc s i).size = s.size - i := by unfold units_Valid.slc; simp
  have b0 : bt (units_Valid.slc s i) 0 = ((nums s).getD i 0 : Nat) := by
    have := nums_bt (units_Valid.slc s i) 0
    rw [nums_extract, drop_getD] at this
    exact this
  have b1 : bt (units_Valid.slc s i) 1 = ((nums s).getD (i + 1) 0 : Nat) := by
    have := nums_bt (units_Valid.slc s i) 1
    rw [nums_extract, drop_getD] at this
    exact this
  have b2 : bt (units_Valid.slc s i) 2 = ((nums s).getD (i + 2) 0 : Nat) := by
    have := nums_bt (units_Valid.slc s i) 2
    rw [nums_extract, drop_getD] at this
    exact this
  unfold units_Valid.pt units_point.f utf8_DecodeRuneInString.f
  rw [hd]
  have l0 := getD_lt s i
  have l1 := getD_lt s (i + 1)
  have l2 := getD_lt s (i + 2)
  have l3 := getD_lt s (i + 3)
  rw [decodeN_ld _ _ _ _ _ l0 l1 l2 l3]
  unfold ldL
  rw [hlen, drop_getD, drop_getD, drop_getD, drop_getD, Nat.add_zero]
  simp only [Option.bind_some, units_point.j0, hs, b0, b1, b2]
  generalize (nums s).getD i 0 = x0 at *
  generalize (nums s).getD (i + 1) 0 = x1 at *
  generalize (nums s).getD (i + 2) 0 = x2 at *
  generalize (nums s).getD (i + 3) 0 = x3 at *
  have hn : 0 < s.size - i := by omega
  generalize s.size - i = n at *
  have a192 := and192 ⟨x2, l2⟩
  simp only at a192
  have tail : (if (n : Int) ≥ 3 then if 0 < (n : Int) then if (x0 : Int) = 237 then if 1 < (n : Int) then if (x1 : Int) ≥ 160 then if (x1 : Int) ≤ 191 then if 2 < (n : Int) then if Go.bits .and .u8 (x2 : Int) 192 = 128 then some (Go.bits .or .i32 (Go.bits .or .i32 53248 (wrap32 ((wrap32 (Go.bits .and .u8 (x1 : Int) 63)) * 64))) (wrap32 (Go.bits .and .u8 (x2 : Int) 63)), (3 : Int)) else some (0, 0) else none else some (0, 0) else some (0, 0) else none else some (0, 0) else none else some (0, 0)) =
      if (n ≥ 3 ∧ x0 = 237 ∧ 160 ≤ x1 ∧ x1 ≤ 191) ∧ 128 ≤ x2 ∧ x2 ≤ 191 then some ((53248 + ((x1 : Int) - 128) * 64 + ((x2 : Int) - 128)), 3) else some (0, 0) := by
    by_cases g : (n ≥ 3 ∧ x0 = 237 ∧ 160 ≤ x1 ∧ x1 ≤ 191)
    · rw [if_pos (by omega), if_pos (by omega), if_pos (by omega), if_pos (by omega), if_pos (by omega), if_pos (by omega), if_pos (by omega)]
      by_cases g2 : 128 ≤ x2 ∧ x2 ≤ 191
      · rw [if_pos (a192.2 g2), if_pos ⟨g, g2⟩]
        have := or_low ⟨x1 - 160, by omega⟩ ⟨x2 - 128, by omega⟩
        simp only [show 160 + (x1 - 160) = x1 by omega, show 128 + (x2 - 128) = x2 by omega] at this
        rw [this]
        congr 2
        omega
      · rw [if_neg (fun h => g2 (a192.1 h)), if_neg (fun h => g2 h.2)]
    · refine Eq.trans ?_ (if_neg (fun h => g h.1)).symm
      by_cases g1 : (n : Int) ≥ 3
      · rw [if_pos g1, if_pos (by omega)]
        by_cases g2 : (x0 : Int) = 237
        · rw [if_pos g2, if_pos (by omega)]
          by_cases g3 : (x1 : Int) ≥ 160
          · rw [if_pos g3, if_neg (by omega)]
          · rw [if_neg g3]
        · rw [if_neg g2]
      · rw [if_neg g1]
  have key : ∀ (r : Nat × Nat) (v : Int × Int), (r.1 = 65533 → r.2 ≠ 3 → (if (n ≥ 3 ∧ x0 = 237 ∧ 160 ≤ x1 ∧ x1 ≤ 191) ∧ 128 ≤ x2 ∧ x2 ≤ 191 then some ((53248 + ((x1 : Int) - 128) * 64 + ((x2 : Int) - 128)), (3 : Int)) else some (0, 0)) = some v) → (¬ (r.1 = 65533 ∧ r.2 ≠ 3) → ((r.1 : Int), (r.2 : Int)) = v) →
      ((if (r.1 : Int) = 65533 then (if ((r.2 : Int) == 3) = true then some ((r.1 : Int), (r.2 : Int)) else if (n : Int) ≥ 3 then if 0 < (n : Int) then if (x0 : Int) = 237 then if 1 < (n : Int) then if (x1 : Int) ≥ 160 then if (x1 : Int) ≤ 191 then if 2 < (n : Int) then if Go.bits .and .u8 (x2 : Int) 192 = 128 then some (Go.bits .or .i32 (Go.bits .or .i32 53248 (wrap32 ((wrap32 (Go.bits .and .u8 (x1 : Int) 63)) * 64))) (wrap32 (Go.bits .and .u8 (x2 : Int) 63)), (3 : Int)) else some (0, 0) else none else some (0, 0) else some (0, 0) else none else some (0, 0) else none else some (0, 0)) else (if true = true then some ((r.1 : Int), (r.2 : Int)) else if (n : Int) ≥ 3 then if 0 < (n : Int) then if (x0 : Int) = 237 then if 1 < (n : Int) then if (x1 : Int) ≥ 160 then if (x1 : Int) ≤ 191 then if 2 < (n : Int) then if Go.bits .and .u8 (x2 : Int) 192 = 128 then some (Go.bits .or .i32 (Go.bits .or .i32 53248 (wrap32 ((wrap32 (Go.bits .and .u8 (x1 : Int) 63)) * 64))) (wrap32 (Go.bits .and .u8 (x2 : Int) 63)), (3 : Int)) else some (0, 0) else none else some (0, 0) else some (0, 0) else none else some (0, 0) else none else some (0, 0))).getD (0, 0)) = v := by
    intro r v h1 h2
    rw [tail]
    by_cases e : r.1 = 65533
    · rw [if_pos (by omega)]
      by_cases e3 : r.2 = 3
      · have : ((r.2 : Int) == 3) = true := by simp [e3]
        rw [if_pos this]
        exact h2 (fun hh => hh.2 e3)
      · have : ¬ ((r.2 : Int) == 3) = true := by simp; omega
        rw [if_neg this, h1 e e3]
        rfl
    · rw [if_neg (by omega), if_pos rfl]
      exact h2 (fun hh => e hh.1)
  refine key _ _ ?_ ?_
  · cases hl : ld n x0 x1 x2 x3 with
    | none =>
      intro _ _
      simp only
      have : ¬ ((n ≥ 3 ∧ x0 = 237 ∧ 160 ≤ x1 ∧ x1 ≤ 191) ∧ 128 ≤ x2 ∧ x2 ≤ 191) := by
        intro hh
        unfold ld cont at hl
        rw [if_neg (by omega), if_neg (by omega), if_neg (by omega), if_pos (by omega), if_pos (by omega), if_pos (by omega)] at hl
        cases hl
      rw [if_neg this]
    | some p =>
      obtain ⟨c, k⟩ := p
      simp only
      have hinv := ld_inv hl
      unfold cont at hinv
      have hp := plen_inv (c := c)
      by_cases g : k = plen c ∧ ¬ (55296 ≤ c ∧ c < 57344)
      · rw [if_pos g]
        intro e1 e2
        exfalso
        simp only at e1 e2
        omega
      · rw [if_neg g]
        intro _ _
        by_cases g2 : k = plen c
        · rw [if_pos g2]
          have : (n ≥ 3 ∧ x0 = 237 ∧ 160 ≤ x1 ∧ x1 ≤ 191) ∧ 128 ≤ x2 ∧ x2 ≤ 191 := by omega
          rw [if_pos this]
          congr 2
          · omega
          · omega
        · rw [if_neg g2]
          have : ¬ ((n ≥ 3 ∧ x0 = 237 ∧ 160 ≤ x1 ∧ x1 ≤ 191) ∧ 128 ≤ x2 ∧ x2 ≤ 191) := by omega
          rw [if_neg this]
  · cases hl : ld n x0 x1 x2 x3 with
    | none => intro h; exact absurd ⟨rfl, by decide⟩ h
    | some p =>
      obtain ⟨c, k⟩ := p
      simp only
      by_cases g : k = plen c ∧ ¬ (55296 ≤ c ∧ c < 57344)
      · rw [if_pos g, if_pos g.1]
        intro _; rfl
      · rw [if_neg g]
        intro h
        exact absurd ⟨rfl, by decide⟩ h
theorem hi_eq (c : Nat) : units_Valid.hi (c : Int) = hi c := by
  unfold units_Valid.hi hi
  rw [Bool.eq_iff_iff]; simp; omega
theorem lo_eq (c : Nat) : units_Valid.lo (c : Int) = lo c := by
  unfold units_Valid.lo lo
  rw [Bool.eq_iff_iff]; simp; omega
theorem val_iff (s : ByteArray) : ∀ (m : Nat) (last i : Nat), s.size < m + i → (units_Valid.val m s (last : Int) i = true ↔ ∃ cs, dec m ((nums s).drop i) = some cs ∧ (∀ p ∈ cs, p.2 = plen p.1) ∧ noadj last (cs.map (·.1)) = true)
  | 0, last, i, h => by
    have he : (nums s).drop i = [] := List.drop_eq_nil_of_le (by rw [nums_len]; omega)
    rw [he]
    simp [units_Valid.val, dec, noadj]
  | m + 1, last, i, h => by
    unfold units_Valid.val dec
    by_cases hi' : i < s.size
    · rw [if_pos hi', pt_eq s i hi']
      have hne : ¬ (nums s).drop i = [] := by
        intro he
        have := congrArg List.length he
        rw [List.length_drop, nums_len] at this
        simp at this
        omega
      rw [if_neg hne]
      have hn : 0 < ((nums s).drop i).length := by rw [List.length_drop, nums_len]; omega
      cases hl : ldL ((nums s).drop i) with
      | none => simp
      | some p =>
        obtain ⟨c, k⟩ := p
        simp only
        obtain ⟨s1, s2, s3, s4, s5⟩ := ld_spec hn hl
        by_cases hk : k = plen c
        · simp only [if_pos hk]
          rw [if_neg (by omega), hi_eq, lo_eq]
          have ih := val_iff s m c (i + k) (by omega)
          rw [Int.toNat_natCast, List.drop_drop]
          cases hh : hi last && lo c with
          | true =>
            rw [Bool.and_eq_true] at hh
            rw [if_pos hh]
            simp only [Bool.false_eq_true, false_iff]
            rintro ⟨cs, h1, h2, h3⟩
            obtain ⟨cs', _, rfl⟩ := Option.map_eq_some_iff.1 h1
            simp [noadj, hh] at h3
          | false =>
            rw [if_neg (by rw [← Bool.and_eq_true, hh]; simp), ih]
            constructor
            · rintro ⟨cs, h1, h2, h3⟩
              refine ⟨(c, k) :: cs, by rw [h1]; rfl, ?_, ?_⟩
              · intro p hp
                rcases List.mem_cons.1 hp with rfl | hp
                · exact hk
                · exact h2 p hp
              · simp [noadj, hh, h3]
            · rintro ⟨cs, h1, h2, h3⟩
              obtain ⟨cs', h4, rfl⟩ := Option.map_eq_some_iff.1 h1
              refine ⟨cs', h4, fun p hp => h2 p (List.mem_cons_of_mem _ hp), ?_⟩
              simp only [List.map_cons, noadj, hh, Bool.not_false, Bool.true_and] at h3
              exact h3
        · simp only [if_neg hk]
          rw [if_pos trivial]
          simp only [Bool.false_eq_true, false_iff]
          rintro ⟨cs, h1, h2, h3⟩
          obtain ⟨cs', _, rfl⟩ := Option.map_eq_some_iff.1 h1
          exact hk (h2 (c, k) List.mem_cons_self)
    · rw [if_neg hi']
      have he : (nums s).drop i = [] := List.drop_eq_nil_of_le (by rw [nums_len]; omega)
      rw [if_pos he]
      simp [noadj]
end Go.Proofs.YtbpdpnoekkkapaaDoor.Utf
namespace Go.Proofs.YtbpdpnoekkkapaaDoor.Utf
open Go.RowKit Go.Proofs.YtbpdpnoekkkapaaDoorW.PrintWords Go.Proofs.YtbpdpnoekkkapaaDoor.PDescKinds
theorem w64 {x : Int} (h : -9223372036854775808 ≤ x ∧ x ≤ 9223372036854775807) : wrap64 x = x := by unfold wrap64; omega
theorem w16 {x : Int} (h : 0 ≤ x ∧ x < 65536) : IntKind.u16.wrap x = x := by rw [IntKind.wrap_u16]; omega
def tl (s : ByteArray) (a : Nat) : Nat → Nat → Nat → Option Nat
  | 0, _, c => some c
  | r + 1, i, c => if a + i < s.size ∧ cont ((nums s).getD (a + i) 0) then tl s a r (i + 1) (64 * c + ((nums s).getD (a + i) 0 - 128)) else none
def toI : Option Nat → Int
  | some c => c
  | none => -1
theorem tail_ev (s : ByteArray) (a : Nat) (hs : s.size ≤ 1048576) (ha : a ≤ 1048580) : ∀ (r i c : Nat), i + r ≤ 3 → c < 64 ^ i →
    Ev (fun k => cameoref01_tail.l0 k s (a : Int) ((i + r : Nat) : Int) (c : Int) (i : Int)) (toI (tl s a r i c))
  | 0, i, c, h, hc => by
    refine Ev.step (f := fun _ => some (c : Int)) (fun k => ?_) (Ev.now _)
    simp only [cameoref01_tail.l0]
    rw [if_neg (by omega)]
  | r + 1, i, c, h, hc => by
    have hw : wrap64 ((a : Int) + (i : Int)) = ((a + i : Nat) : Int) := by rw [w64 (by omega)]; omega
    have h64 : 64 ^ i ≤ 262144 := by
      have : i ≤ 3 := by omega
      rcases Nat.lt_or_ge i 1 with h1 | h1
      · have : i = 0 := by omega
        subst this; decide
      rcases Nat.lt_or_ge i 2 with h2 | h2
      · have : i = 1 := by omega
        subst this; decide
      rcases Nat.lt_or_ge i 3 with h3 | h3
      · have : i = 2 := by omega
        subst this; decide
      · have : i = 3 := by omega
        subst this; decide
    have hb := getD_lt s (a + i)
    have step : ∀ k, cameoref01_tail.l0 (k + 1) s (a : Int) ((i + (r + 1) : Nat) : Int) (c : Int) (i : Int) =
        if a + i < s.size ∧ cont ((nums s).getD (a + i) 0) then cameoref01_tail.l0 k s (a : Int) ((i + (r + 1) : Nat) : Int) ((64 * c + ((nums s).getD (a + i) 0 - 128) : Nat) : Int) ((i + 1 : Nat) : Int) else some (-1) := by
      intro k
      simp only [cameoref01_tail.l0, hw, nums_bt]
      rw [if_pos (by omega)]
      unfold cont
      by_cases g : a + i < s.size
      · rw [if_neg (by omega), if_pos (by omega), if_pos (by omega)]
        by_cases g1 : (nums s).getD (a + i) 0 < 128
        · rw [if_pos (by omega), if_neg (by omega)]
        · rw [if_neg (by omega)]
          by_cases g2 : (nums s).getD (a + i) 0 ≤ 191
          · rw [if_neg (by omega), if_pos (by omega)]
            have e1 : wrap64 (wrap64 (wrap64 (64 * (c : Int)) + wrap64 (((nums s).getD (a + i) 0 : Nat) : Int)) - 128) = ((64 * c + ((nums s).getD (a + i) 0 - 128) : Nat) : Int) := by
              rw [w64 (x := 64 * (c : Int)) (by omega), w64 (x := (((nums s).getD (a + i) 0 : Nat) : Int)) (by omega), w64 (x := 64 * (c : Int) + _) (by omega), w64 (by omega)]
              omega
            have e2 : wrap64 ((i : Int) + 1) = ((i + 1 : Nat) : Int) := by rw [w64 (by omega)]; omega
            rw [e1, e2]
          · rw [if_pos (by omega), if_neg (by omega)]
      · rw [if_pos (by omega), if_neg (by omega)]
    refine Ev.step step ?_
    by_cases g : a + i < s.size ∧ cont ((nums s).getD (a + i) 0)
    · have et : tl s a (r + 1) i c = tl s a r (i + 1) (64 * c + ((nums s).getD (a + i) 0 - 128)) := by simp only [tl]; rw [if_pos g]
      rw [et]
      refine Ev.congr (fun k => if_pos g) ?_
      have hg := g.2
      unfold cont at hg
      have ih := tail_ev s a hs ha r (i + 1) (64 * c + ((nums s).getD (a + i) 0 - 128)) (by omega) (by rw [Nat.pow_succ]; omega)
      rw [show i + (r + 1) = (i + 1) + r by omega]
      exact ih
    · have et : tl s a (r + 1) i c = none := by simp only [tl]; rw [if_neg g]
      rw [et]
      exact Ev.congr (fun k => if_neg g) (Ev.now _)
def U (c : Nat) : List Int := (units c).map fun n : Nat => (n : Int)
theorem l1_ev (s : ByteArray) (acc : List Int) (at_ n t : Nat) (hs : s.size ≤ 1048576) (ha : at_ ≤ 1048576) (hn : n ≤ 3) (ht : t < 262144) (hacc : acc.length ≤ 4194304) (R : List Int × Bool) : ∀ (r i base : Nat), i + r = n → base * 64 ^ r < 4194304 →
    (t + base * 64 ^ r ≤ 1114111 → Ev (fun k => cameoref01_read.l0 k s (acc ++ U (t + base * 64 ^ r)) ((at_ + (1 + n) : Nat) : Int)) R) → (¬ t + base * 64 ^ r ≤ 1114111 → R = ([], false)) →
    Ev (fun k => cameoref01_read.l1 k s acc (at_ : Int) (n : Int) (base : Int) (t : Int) (i : Int)) R
  | 0, i, base, hi, hb, h1, h2 => by
    simp only [Nat.pow_zero, Nat.mul_one] at hb h1 h2
    have e1 : wrap64 ((t : Int) + (base : Int)) = ((t + base : Nat) : Int) := by rw [w64 (by omega)]; omega
    have e2 : wrap64 ((at_ : Int) + wrap64 (1 + (n : Int))) = ((at_ + (1 + n) : Nat) : Int) := by rw [w64 (x := 1 + (n : Int)) (by omega), w64 (by omega)]; omega
    by_cases g : t + base ≤ 1114111
    · refine Ev.step (fun k => ?_) (h1 g)
      simp only [cameoref01_read.l1]
      rw [if_neg (by omega), e1, if_neg (by omega), e2]
      by_cases g2 : 65536 ≤ t + base
      · rw [if_pos (by omega)]
        simp only [Option.bind_some]
        rw [if_pos (by simp; omega)]
        have e3 : wrap64 (((t + base : Nat) : Int) - 65536) = ((t + base - 65536 : Nat) : Int) := by rw [w64 (by omega)]; omega
        rw [e3]
        have e4 : IntKind.u16.wrap (wrap64 (55296 + wrap64 (Int.tdiv ((t + base - 65536 : Nat) : Int) 1024))) = ((55296 + (t + base - 65536) / 1024 : Nat) : Int) := by
          have : Int.tdiv ((t + base - 65536 : Nat) : Int) 1024 = (((t + base - 65536) / 1024 : Nat) : Int) := by
            rw [Int.tdiv_eq_ediv_of_nonneg (by omega)]; omega
          rw [this, w64 (x := (((t + base - 65536) / 1024 : Nat) : Int)) (by omega), w64 (by omega), w16 (by omega)]
          omega
        have e5 : IntKind.u16.wrap (wrap64 (56320 + Int.tmod ((t + base - 65536 : Nat) : Int) 1024)) = ((56320 + (t + base - 65536) % 1024 : Nat) : Int) := by
          have : Int.tmod ((t + base - 65536 : Nat) : Int) 1024 = (((t + base - 65536) % 1024 : Nat) : Int) := by
            rw [Int.tmod_eq_emod_of_nonneg (by omega)]; omega
          rw [this, w64 (by omega), w16 (by omega)]
          omega
        rw [e4, e5]
        unfold U units
        rw [if_pos g2]
        rfl
      · rw [if_neg (by omega), if_pos (by omega), w16 (by omega)]
        unfold U units
        rw [if_neg g2]
        rfl
    · rw [h2 g]
      refine Ev.step (f := fun _ => some ([], false)) (fun k => ?_) (Ev.now _)
      simp only [cameoref01_read.l1]
      rw [if_neg (by omega), e1, if_pos (by omega)]
  | r + 1, i, base, hi, hb, h1, h2 => by
    have hb' : base * 64 * 64 ^ r = base * 64 ^ (r + 1) := by rw [Nat.pow_succ, Nat.mul_assoc, Nat.mul_comm 64]
    have hle : base * 64 ≤ base * 64 * 64 ^ r := Nat.le_mul_of_pos_right _ (Nat.pow_pos (by decide))
    have e1 : wrap64 ((base : Int) * 64) = ((base * 64 : Nat) : Int) := by rw [w64 (by omega)]; omega
    have e2 : wrap64 ((i : Int) + 1) = ((i + 1 : Nat) : Int) := by rw [w64 (by omega)]; omega
    refine Ev.step (fun k => ?_) (l1_ev s acc at_ n t hs ha hn ht hacc R r (i + 1) (base * 64) (by omega) (by omega) (by rw [hb']; exact h1) (by rw [hb']; exact h2))
    simp only [cameoref01_read.l1]
    rw [if_pos (by omega), e1, e2]
theorem tl_lt (s : ByteArray) (a : Nat) : ∀ (r i c v : Nat), c < 64 ^ i → tl s a r i c = some v → v < 64 ^ (i + r)
  | 0, i, c, v, hc, h => by
    simp only [tl, Option.some.injEq] at h
    subst h; exact hc
  | r + 1, i, c, v, hc, h => by
    simp only [tl] at h
    split at h
    · rename_i g
      have := g.2
      unfold cont at this
      have := tl_lt s a r (i + 1) _ v (by rw [Nat.pow_succ]; omega) h
      rwa [show i + (r + 1) = i + 1 + r by omega]
    · cases h
theorem j3_ev (s : ByteArray) (acc : List Int) (at_ n base : Nat) (hs : s.size ≤ 1048576) (ha : at_ ≤ 1048576) (hn : n ≤ 3) (hacc : acc.length ≤ 4194304) (hb : base * 64 ^ n < 4194304) (R : List Int × Bool)
    (h0 : tl s (at_ + 1) n 0 0 = none → R = ([], false))
    (h1 : ∀ t, tl s (at_ + 1) n 0 0 = some t → t + base * 64 ^ n ≤ 1114111 → Ev (fun k => cameoref01_read.l0 k s (acc ++ U (t + base * 64 ^ n)) ((at_ + (1 + n) : Nat) : Int)) R)
    (h2 : ∀ t, tl s (at_ + 1) n 0 0 = some t → ¬ t + base * 64 ^ n ≤ 1114111 → R = ([], false)) :
    Ev (fun k => cameoref01_read.j3 k s acc (at_ : Int) (n : Int) (base : Int)) R := by
  have e1 : wrap64 ((at_ : Int) + 1) = ((at_ + 1 : Nat) : Int) := by rw [w64 (by omega)]; omega
  have ht := tail_ev s (at_ + 1) hs (by omega) n 0 0 (by omega) (by decide)
  rw [Nat.zero_add] at ht
  refine Ev.step (f := fun k => (cameoref01_tail.f k s ((at_ + 1 : Nat) : Int) (n : Int)).bind fun t264 => (if t264 < 0 then (some (([] : List Int), false)) else (cameoref01_read.l1 k s acc (at_ : Int) (n : Int) (base : Int) t264 0))) (fun k => ?_) ?_
  · simp only [cameoref01_read.j3]
    rw [e1]
  · refine Ev.bind (a := toI (tl s (at_ + 1) n 0 0)) ht ?_
    cases hv : tl s (at_ + 1) n 0 0 with
    | none =>
      rw [h0 hv]
      refine Ev.congr (fun k => if_pos ?_) (Ev.now _)
      show (-1 : Int) < 0
      decide
    | some t =>
      have hlt := tl_lt s (at_ + 1) n 0 0 t (by decide) hv
      have h64 : 64 ^ (0 + n) ≤ 262144 := by
        rw [Nat.zero_add]
        exact Nat.pow_le_pow_right (n := 64) (by decide) hn
      refine Ev.congr (f := fun k => cameoref01_read.l1 k s acc (at_ : Int) (n : Int) (base : Int) (t : Int) ((0 : Nat) : Int)) (fun k => if_neg ?_) ?_
      · show ¬ (t : Int) < 0
        omega
      · exact l1_ev s acc at_ n t hs ha hn (by omega) hacc R n 0 base (by omega) hb (h1 t hv) (h2 t hv)
set_option maxRecDepth 100000 in
theorem ldL_tl (s : ByteArray) (i : Nat) (hi : i < s.size) : ldL ((nums s).drop i) =
    if (nums s).getD i 0 < 128 then some ((nums s).getD i 0, 1) else if (nums s).getD i 0 < 192 then none else
    if (nums s).getD i 0 < 224 then (match tl s (i + 1) 1 0 0 with | none => none | some t => some (t + ((nums s).getD i 0 - 192) * 64 ^ 1, 2)) else
    if (nums s).getD i 0 < 240 then (match tl s (i + 1) 2 0 0 with | none => none | some t => some (t + ((nums s).getD i 0 - 224) * 64 ^ 2, 3)) else
    if (nums s).getD i 0 < 248 then (match tl s (i + 1) 3 0 0 with | none => none | some t => if t + ((nums s).getD i 0 - 240) * 64 ^ 3 ≤ 1114111 then some (t + ((nums s).getD i 0 - 240) * 64 ^ 3, 4) else none) else none := by
  have hlen : ((nums s).drop i).length = s.size - i := by rw [List.length_drop, nums_len]
  unfold ldL
  rw [hlen, drop_getD, drop_getD, drop_getD, drop_getD, Nat.add_zero]
  simp only [tl, Nat.add_zero]
  rw [show i + 1 + 1 = i + 2 from rfl, show i + 2 + 1 = i + 3 from rfl, show i + 1 + 2 = i + 3 from rfl] at *
  generalize (nums s).getD i 0 = b0
  generalize (nums s).getD (i + 1) 0 = b1
  generalize (nums s).getD (i + 2) 0 = b2
  generalize (nums s).getD (i + 3) 0 = b3
  have c1 : (1 < s.size - i) = (i + 1 < s.size) := propext ⟨fun h => by omega, fun h => by omega⟩
  have c2 : (2 < s.size - i) = (i + 2 < s.size) := propext ⟨fun h => by omega, fun h => by omega⟩
  have c3 : (3 < s.size - i) = (i + 3 < s.size) := propext ⟨fun h => by omega, fun h => by omega⟩
  unfold ld
  simp only [c1, c2, c3]
  by_cases g0 : b0 < 128
  · rw [if_pos g0, if_pos g0]
  rw [if_neg g0, if_neg g0]
  by_cases g1 : b0 < 192
  · rw [if_pos g1, if_pos g1]
  rw [if_neg g1, if_neg g1]
  by_cases d1 : i + 1 < s.size ∧ cont b1
  · by_cases d2 : i + 2 < s.size ∧ cont b2
    · by_cases d3 : i + 3 < s.size ∧ cont b3
      · simp only [if_pos d1, if_pos d2, if_pos d3, Nat.mul_zero, Nat.zero_add]
        have z1 : (b0 - 192) * 64 + (b1 - 128) = b1 - 128 + (b0 - 192) * 64 ^ 1 := by omega
        have z2 : (b0 - 224) * 4096 + (b1 - 128) * 64 + (b2 - 128) = 64 * (b1 - 128) + (b2 - 128) + (b0 - 224) * 64 ^ 2 := by omega
        have z3 : (b0 - 240) * 262144 + (b1 - 128) * 4096 + (b2 - 128) * 64 + (b3 - 128) = 64 * (64 * (b1 - 128) + (b2 - 128)) + (b3 - 128) + (b0 - 240) * 64 ^ 3 := by
          rw [show (64 : Nat) ^ 3 = 262144 from by decide]
          omega
        rw [z1, z2, z3]
      · simp only [if_pos d1, if_pos d2, if_neg d3, Nat.mul_zero, Nat.zero_add]
        have z1 : (b0 - 192) * 64 + (b1 - 128) = b1 - 128 + (b0 - 192) * 64 ^ 1 := by omega
        have z2 : (b0 - 224) * 4096 + (b1 - 128) * 64 + (b2 - 128) = 64 * (b1 - 128) + (b2 - 128) + (b0 - 224) * 64 ^ 2 := by omega
        rw [z1, z2]
    · simp only [if_pos d1, if_neg d2, Nat.mul_zero, Nat.zero_add]
      have z1 : (b0 - 192) * 64 + (b1 - 128) = b1 - 128 + (b0 - 192) * 64 ^ 1 := by omega
      rw [z1]
  · simp only [if_neg d1]
def outOf (acc : List Int) : Option (List (Nat × Nat)) → List Int × Bool
  | none => ([], false)
  | some cs => (acc ++ (cs.map (·.1)).flatMap U, true)
theorem U_len (c : Nat) : (U c).length ≤ 2 := by
  unfold U units
  split <;> simp
theorem read_ev (s : ByteArray) (hs : s.size ≤ 1048576) : ∀ (m i : Nat) (acc : List Int), s.size ≤ m + i → i ≤ s.size → acc.length ≤ 2 * i →
    Ev (fun k => cameoref01_read.l0 k s acc (i : Int)) (outOf acc (dec m ((nums s).drop i)))
  | m, i, acc, hm, hi, hacc => by
    by_cases hlt : i < s.size
    · have hne : ¬ (nums s).drop i = [] := by
        intro he
        have := congrArg List.length he
        rw [List.length_drop, nums_len] at this
        simp at this
        omega
      cases m with
      | zero => exact absurd hlt (by omega)
      | succ m =>
        have hd : dec (m + 1) ((nums s).drop i) = match ldL ((nums s).drop i) with
          | none => none
          | some (c, k) => (dec m ((nums s).drop (i + k))).map ((c, k) :: ·) := by
          show (if (nums s).drop i = [] then some [] else _) = _
          rw [if_neg hne]
          first | (simp only [List.drop_drop]; done) | (simp only [List.drop_drop]; cases ldL ((nums s).drop i) <;> rfl)
        have hb := getD_lt s i
        have hl := ldL_tl s i hlt
        have ebt : wrap64 (bt s (i : Int)) = (((nums s).getD i 0 : Nat) : Int) := by rw [nums_bt, w64 (by omega)]
        have next : ∀ (c k : Nat), ldL ((nums s).drop i) = some (c, k) → ∀ n, k = n + 1 → Ev (fun k => cameoref01_read.l0 k s (acc ++ U c) ((i + (1 + n) : Nat) : Int)) (outOf acc (dec (m + 1) ((nums s).drop i))) := by
          intro c k hck n hk
          have hn : 0 < ((nums s).drop i).length := by rw [List.length_drop, nums_len]; omega
          obtain ⟨s1, s2, _, _, _⟩ := ld_spec hn hck
          rw [List.length_drop, nums_len] at s2
          have hU := U_len c
          have ih := read_ev s hs m (i + (1 + n)) (acc ++ U c) (by omega) (by omega) (by rw [List.length_append]; omega)
          rw [hd, hck]
          simp only
          have e : dec m ((nums s).drop (i + k)) = dec m ((nums s).drop (i + (1 + n))) := by rw [hk, Nat.add_comm n 1]
          rw [e]
          cases hdm : dec m ((nums s).drop (i + (1 + n))) with
          | none => rw [hdm] at ih; exact ih
          | some cs =>
            rw [hdm] at ih
            have : outOf (acc ++ U c) (some cs) = outOf acc (Option.map ((c, k) :: ·) (some cs)) := by
              simp only [outOf, Option.map_some, List.map_cons, List.flatMap_cons, List.append_assoc]
            rw [← this]
            exact ih
        have stop : ldL ((nums s).drop i) = none → outOf acc (dec (m + 1) ((nums s).drop i)) = ([], false) := by
          intro h0
          rw [hd, h0]; rfl
        have lead : ∀ (n base : Nat), n ≤ 3 → base * 64 ^ n < 4194304 → (ldL ((nums s).drop i) = match tl s (i + 1) n 0 0 with | none => none | some t => if t + base * 64 ^ n ≤ 1114111 then some (t + base * 64 ^ n, n + 1) else none) →
            Ev (fun k => cameoref01_read.j3 k s acc (i : Int) (n : Int) (base : Int)) (outOf acc (dec (m + 1) ((nums s).drop i))) := by
          intro n base hn hbb he
          refine j3_ev s acc i n base hs (by omega) hn (by omega) hbb _ (fun h0 => stop (by rw [he, h0])) (fun t ht hle => ?_) (fun t ht hle => stop (by rw [he, ht]; exact if_neg hle))
          exact next _ _ (by rw [he, ht]; exact if_pos hle) n rfl
        generalize hR : outOf acc (dec (m + 1) ((nums s).drop i)) = R at *
        generalize (nums s).getD i 0 = b0 at *
        by_cases g0 : b0 < 128
        · rw [if_pos g0] at hl
          have h3 := lead 0 b0 (by omega) (by omega) (by simp only [tl, hl, Nat.pow_zero, Nat.mul_one, Nat.zero_add]; rw [if_pos (by omega)])
          refine Ev.step (fun k => ?_) h3
          simp only [cameoref01_read.l0]
          rw [if_pos (by omega), if_pos (by omega), ebt, if_pos (by omega)]
          rfl
        rw [if_neg g0] at hl
        by_cases g1 : b0 < 192
        · rw [if_pos g1] at hl
          rw [stop hl]
          refine Ev.step (f := fun k => cameoref01_read.j1 k s acc (i : Int) (b0 : Int) false) (fun k => ?_) (Ev.step (f := fun k => cameoref01_read.j2 k s acc (i : Int) (b0 : Int) false) (fun k => ?_) (Ev.step (f := fun _ => some ([], false)) (fun k => ?_) (Ev.now _)))
          · simp only [cameoref01_read.l0]
            rw [if_pos (by omega), if_pos (by omega), ebt, if_neg (by omega), if_neg (by omega)]
          · simp only [cameoref01_read.j1]
            rw [if_neg (by simp), if_neg (by omega)]
          · simp only [cameoref01_read.j2]
            rw [if_neg (by simp), if_neg (by omega)]
        rw [if_neg g1] at hl
        have st1 : ∀ k, cameoref01_read.l0 (k + 1) s acc (i : Int) = cameoref01_read.j1 k s acc (i : Int) (b0 : Int) (decide ((b0 : Int) < 224)) := by
          intro k
          simp only [cameoref01_read.l0]
          rw [if_pos (by omega), if_pos (by omega), ebt, if_neg (by omega), if_pos (by omega)]
        by_cases g2 : b0 < 224
        · rw [if_pos g2] at hl
          have h3 := lead 1 (b0 - 192) (by omega) (by omega) (by
            rw [hl]
            cases htl : tl s (i + 1) 1 0 0 with
            | none => rfl
            | some t =>
              have := tl_lt s (i + 1) 1 0 0 t (by decide) htl
              simp only
              rw [if_pos (by omega)])
          refine Ev.step st1 (Ev.step (fun k => ?_) h3)
          simp only [cameoref01_read.j1]
          rw [if_pos (by simp; omega), w64 (by omega)]
          congr 1
          omega
        rw [if_neg g2] at hl
        have st2 : ∀ k, cameoref01_read.j1 (k + 1) s acc (i : Int) (b0 : Int) (decide ((b0 : Int) < 224)) = cameoref01_read.j2 k s acc (i : Int) (b0 : Int) (decide ((b0 : Int) < 240)) := by
          intro k
          simp only [cameoref01_read.j1]
          rw [if_neg (by simp; omega), if_pos (by omega)]
        by_cases g3 : b0 < 240
        · rw [if_pos g3] at hl
          have h3 := lead 2 (b0 - 224) (by omega) (by omega) (by
            rw [hl]
            cases htl : tl s (i + 1) 2 0 0 with
            | none => rfl
            | some t =>
              have := tl_lt s (i + 1) 2 0 0 t (by decide) htl
              simp only
              rw [if_pos (by omega)])
          refine Ev.step st1 (Ev.step st2 (Ev.step (fun k => ?_) h3))
          simp only [cameoref01_read.j2]
          rw [if_pos (by simp; omega), w64 (by omega)]
          congr 1
          omega
        rw [if_neg g3] at hl
        by_cases g4 : b0 < 248
        · rw [if_pos g4] at hl
          have h3 := lead 3 (b0 - 240) (by omega) (by omega) hl
          refine Ev.step st1 (Ev.step st2 (Ev.step (fun k => ?_) h3))
          simp only [cameoref01_read.j2]
          rw [if_neg (by simp; omega), if_pos (by omega), if_pos (by omega), w64 (by omega)]
          congr 1
          omega
        · rw [if_neg g4] at hl
          rw [stop hl]
          refine Ev.step st1 (Ev.step st2 (Ev.step (f := fun _ => some ([], false)) (fun k => ?_) (Ev.now _)))
          simp only [cameoref01_read.j2]
          rw [if_neg (by simp; omega), if_pos (by omega), if_neg (by omega)]
    · have he : (nums s).drop i = [] := List.drop_eq_nil_of_le (by rw [nums_len]; omega)
      have hd : dec m ((nums s).drop i) = some [] := by
        rw [he]
        cases m <;> simp [dec]
      rw [hd]
      refine Ev.step (f := fun _ => some (acc, true)) (fun k => ?_) ?_
      · simp only [cameoref01_read.l0]
        rw [if_neg (by omega)]
      · have : outOf acc (some []) = (acc, true) := by simp [outOf]
        rw [this]
        exact Ev.now _
end Go.Proofs.YtbpdpnoekkkapaaDoor.Utf
namespace Go.Proofs.YtbpdpnoekkkapaaDoor.Utf
open Go.RowKit Go.Proofs.YtbpdpnoekkkapaaDoorW.PrintWords Go.Proofs.YtbpdpnoekkkapaaDoor.PDescKinds
def ints (l : List Nat) : List Int := l.map fun n : Nat => (n : Int)
theorem ints_len (l : List Nat) : (ints l).length = l.length := List.length_map _
theorem high_eq (a : Nat) : cameoref01_high.f (a : Int) = some (hi a) := by
  unfold cameoref01_high.f hi
  by_cases h : (a : Int) ≥ 55296
  · rw [if_pos h]
    congr 1
    rw [Bool.eq_iff_iff]; simp; omega
  · rw [if_neg h]
    have : ¬ 55296 ≤ a := by omega
    simp [this]
theorem low_eq (a : Nat) : cameoref01_low.f (a : Int) = some (lo a) := by
  unfold cameoref01_low.f lo
  by_cases h : (a : Int) ≥ 56320
  · rw [if_pos h]
    congr 1
    rw [Bool.eq_iff_iff]; simp; omega
  · rw [if_neg h]
    have : ¬ 56320 ≤ a := by omega
    simp [this]
theorem rd_ints (us : List Nat) (j : Nat) : rd (ints us) (j : Int) = ((us.getD j 0 : Nat) : Int) := by
  unfold rd ints
  rw [Int.toNat_natCast]
  simp only [List.getD_eq_getElem?_getD, List.getElem?_map]
  cases us[j]? <;> rfl
theorem drop_cons (us : List Nat) (j : Nat) (h : j < us.length) : us.drop j = us.getD j 0 :: us.drop (j + 1) := by
  rw [List.drop_eq_getElem_cons h, List.getD_eq_getElem?_getD, List.getElem?_eq_getElem h]
  rfl
theorem getD_lt' {us : List Nat} {B : Nat} (hu : ∀ u ∈ us, u < B) (hB : 0 < B) (j : Nat) : us.getD j 0 < B := by
  rw [List.getD_eq_getElem?_getD]
  cases h : us[j]? with
  | none => exact hB
  | some b => exact hu b (List.mem_of_getElem? h)
theorem row_two {a b : Nat} (l : List Nat) (h : (hi a && lo b) = false) : rowC (a :: b :: l) = a :: rowC (b :: l) := by
  simp only [rowC, h]; rfl
theorem row_one {a b : Nat} (l : List Nat) (h : (hi a && lo b) = true) : rowC (a :: b :: l) = (65536 + 1024 * (a - 55296) + (b - 56320)) :: rowC l := by
  simp only [rowC, h]; rfl
theorem hi_ge {a : Nat} (h : hi a = true) : 55296 ≤ a ∧ a < 56320 := by
  unfold hi at h
  rw [Bool.and_eq_true, decide_eq_true_eq, decide_eq_true_eq] at h
  exact h
theorem lo_ge {a : Nat} (h : lo a = true) : 56320 ≤ a ∧ a < 57344 := by
  unfold lo at h
  rw [Bool.and_eq_true, decide_eq_true_eq, decide_eq_true_eq] at h
  exact h
theorem pair_w (a b : Nat) (ha : 55296 ≤ a ∧ a < 56320) (hb : 56320 ≤ b ∧ b < 57344) :
    wrap64 (wrap64 (wrap64 (65536 + wrap64 (1024 * wrap64 (wrap64 (a : Int) - 55296))) + wrap64 (b : Int)) - 56320) = ((65536 + 1024 * (a - 55296) + (b - 56320) : Nat) : Int) := by
  have z1 : wrap64 (a : Int) = (a : Int) := w64 (by omega)
  have z2 : wrap64 (b : Int) = (b : Int) := w64 (by omega)
  rw [z1, z2]
  have z3 : wrap64 ((a : Int) - 55296) = (a : Int) - 55296 := w64 (by omega)
  rw [z3]
  have z4 : wrap64 (1024 * ((a : Int) - 55296)) = 1024 * ((a : Int) - 55296) := w64 (by omega)
  rw [z4]
  have z5 : wrap64 (65536 + 1024 * ((a : Int) - 55296)) = 65536 + 1024 * ((a : Int) - 55296) := w64 (by omega)
  rw [z5]
  have z6 : wrap64 (65536 + 1024 * ((a : Int) - 55296) + (b : Int)) = 65536 + 1024 * ((a : Int) - 55296) + (b : Int) := w64 (by omega)
  rw [z6]
  have z7 : wrap64 (65536 + 1024 * ((a : Int) - 55296) + (b : Int) - 56320) = 65536 + 1024 * ((a : Int) - 55296) + (b : Int) - 56320 := w64 (by omega)
  rw [z7]
  omega
theorem row_ev (us : List Nat) (hu : ∀ u ∈ us, u < 65536) (hlen : us.length ≤ 4194304) : ∀ (n j : Nat) (out : List S144), us.length ≤ n + j → j ≤ us.length → out.length ≤ j →
    ∃ pts : List S144, Ev (fun k => cameoref01_Row.l0 k (ints us) out (j : Int)) (out ++ pts) ∧ pts.map (·.f1) = ints (rowC (us.drop j)) ∧ pts.length ≤ us.length - j
  | n, j, out, hn, hj, ho => by
    by_cases hlt : j < us.length
    · cases n with
      | zero => exact absurd hlt (by omega)
      | succ n =>
        have ha := getD_lt' hu (by decide) j
        have e1 : wrap64 ((j : Int) + 1) = ((j + 1 : Nat) : Int) := by rw [w64 (by omega)]; omega
        have e2 : wrap64 (((j + 1 : Nat) : Int) + 1) = ((j + 2 : Nat) : Int) := by rw [w64 (by omega)]; omega
        have e3 : wrap64 (rd (ints us) (j : Int)) = ((us.getD j 0 : Nat) : Int) := by rw [rd_ints, w64 (by omega)]
        have alone : (∀ k, cameoref01_Row.l0 (k + 1) (ints us) out (j : Int) = cameoref01_Row.l0 k (ints us) (out ++ [(⟨(j : Int), ((us.getD j 0 : Nat) : Int)⟩ : S144)]) ((j + 1 : Nat) : Int)) → rowC (us.drop j) = us.getD j 0 :: rowC (us.drop (j + 1)) →
            ∃ pts : List S144, Ev (fun k => cameoref01_Row.l0 k (ints us) out (j : Int)) (out ++ pts) ∧ pts.map (·.f1) = ints (rowC (us.drop j)) ∧ pts.length ≤ us.length - j := by
          intro hs hr
          obtain ⟨pts, p1, p2, p3⟩ := row_ev us hu hlen n (j + 1) (out ++ [(⟨(j : Int), ((us.getD j 0 : Nat) : Int)⟩ : S144)]) (by omega) (by omega) (by rw [List.length_append]; simp; omega)
          refine ⟨(⟨(j : Int), ((us.getD j 0 : Nat) : Int)⟩ : S144) :: pts, ?_, ?_, by simp; omega⟩
          · rw [List.append_assoc] at p1
            exact Ev.step hs p1
          · rw [List.map_cons, p2, hr]; rfl
        cases hh : hi (us.getD j 0) with
        | false =>
          refine alone (fun k => ?_) ?_
          · simp only [cameoref01_Row.l0, ints_len]
            rw [if_pos (by omega), if_pos (by omega), rd_ints, high_eq, hh]
            simp only [Option.bind_some, Bool.false_eq_true, if_false]
            rw [if_pos (by omega), e1, w64 (by omega)]
          · rw [drop_cons us j hlt, row_high hh]
        | true =>
          by_cases hl2 : j + 1 < us.length
          · have hb := getD_lt' hu (by decide) (j + 1)
            cases hlo : lo (us.getD (j + 1) 0) with
            | false =>
              refine alone (fun k => ?_) ?_
              · simp only [cameoref01_Row.l0, ints_len]
                rw [if_pos (by omega), if_pos (by omega), rd_ints, high_eq, hh]
                simp only [Option.bind_some, if_true, e1]
                rw [if_pos (by omega), if_pos (by omega), rd_ints, low_eq, hlo]
                simp only [Option.bind_some, Bool.false_eq_true, if_false]
                rw [if_pos (by omega), w64 (by omega)]
              · rw [drop_cons us j hlt, drop_cons us (j + 1) hl2]
                exact row_two _ (by rw [hh, hlo]; rfl)
            | true =>
              obtain ⟨pts, p1, p2, p3⟩ := row_ev us hu hlen n (j + 2) (out ++ [(⟨(j : Int), ((65536 + 1024 * (us.getD j 0 - 55296) + (us.getD (j + 1) 0 - 56320) : Nat) : Int)⟩ : S144)]) (by omega) (by omega) (by rw [List.length_append]; simp; omega)
              refine ⟨(⟨(j : Int), ((65536 + 1024 * (us.getD j 0 - 55296) + (us.getD (j + 1) 0 - 56320) : Nat) : Int)⟩ : S144) :: pts, ?_, ?_, by simp; omega⟩
              · rw [List.append_assoc] at p1
                refine Ev.step (fun k => ?_) p1
                simp only [cameoref01_Row.l0, ints_len]
                rw [if_pos (by omega), if_pos (by omega), rd_ints, high_eq, hh]
                simp only [Option.bind_some, if_true, e1]
                rw [if_pos (by omega), if_pos (by omega), rd_ints, low_eq, hlo]
                simp only [Option.bind_some, if_true]
                rw [if_pos (by omega), e2]
                rw [pair_w _ _ (hi_ge hh) (lo_ge hlo)]
              · rw [List.map_cons, p2, drop_cons us j hlt, drop_cons us (j + 1) hl2, row_one _ (by rw [hh, hlo]; rfl)]
                rfl
          · refine alone (fun k => ?_) ?_
            · simp only [cameoref01_Row.l0, ints_len]
              rw [if_pos (by omega), if_pos (by omega), rd_ints, high_eq, hh]
              simp only [Option.bind_some, if_true, e1]
              rw [if_neg (by omega), if_pos (by omega), w64 (by omega)]
            · have he : us.drop (j + 1) = [] := List.drop_eq_nil_of_le (by omega)
              rw [drop_cons us j hlt, he]
              rfl
    · have he : us.drop j = [] := List.drop_eq_nil_of_le (by omega)
      refine ⟨[], Ev.step (f := fun _ => some out) (fun k => ?_) (by rw [List.append_nil]; exact Ev.now _), by rw [he]; rfl, by simp⟩
      simp only [cameoref01_Row.l0, ints_len]
      rw [if_neg (by omega)]
theorem pe_d64 (c : Nat) (hc : c ≤ 1114111) : Int.tdiv (c : Int) 64 = ((c / 64 : Nat) : Int) := by rw [Int.tdiv_eq_ediv_of_nonneg (by omega)]; omega
theorem pe_d4096 (c : Nat) (hc : c ≤ 1114111) : Int.tdiv (c : Int) 4096 = ((c / 4096 : Nat) : Int) := by rw [Int.tdiv_eq_ediv_of_nonneg (by omega)]; omega
theorem pe_d262144 (c : Nat) (hc : c ≤ 1114111) : Int.tdiv (c : Int) 262144 = ((c / 262144 : Nat) : Int) := by rw [Int.tdiv_eq_ediv_of_nonneg (by omega)]; omega
theorem pe_m64 (c : Nat) (hc : c ≤ 1114111) : Int.tmod (c : Int) 64 = ((c % 64 : Nat) : Int) := by rw [Int.tmod_eq_emod_of_nonneg (by omega)]; omega
theorem pe_w1 (c : Nat) (hc : c ≤ 1114111) : wrap64 (((c / 64 : Nat) : Int)) = ((c / 64 : Nat) : Int) := w64 (by omega)
theorem pe_w2 (c : Nat) (hc : c ≤ 1114111) : wrap64 (((c / 4096 : Nat) : Int)) = ((c / 4096 : Nat) : Int) := w64 (by omega)
theorem pe_m64a (c : Nat) (hc : c ≤ 1114111) : Int.tmod (((c / 64 : Nat) : Int)) 64 = ((c / 64 % 64 : Nat) : Int) := by rw [Int.tmod_eq_emod_of_nonneg (by omega)]; omega
theorem pe_m64b (c : Nat) (hc : c ≤ 1114111) : Int.tmod (((c / 4096 : Nat) : Int)) 64 = ((c / 4096 % 64 : Nat) : Int) := by rw [Int.tmod_eq_emod_of_nonneg (by omega)]; omega
theorem pe_v1 (c : Nat) (hc : c ≤ 1114111) : wrap64 (128 + ((c % 64 : Nat) : Int)) % 256 = ((128 + c % 64 : Nat) : Int) := by rw [w64 (by omega)]; omega
theorem pe_v2 (c : Nat) (hc : c ≤ 1114111) : wrap64 (128 + ((c / 64 % 64 : Nat) : Int)) % 256 = ((128 + c / 64 % 64 : Nat) : Int) := by rw [w64 (by omega)]; omega
theorem pe_v3 (c : Nat) (hc : c ≤ 1114111) : wrap64 (128 + ((c / 4096 % 64 : Nat) : Int)) % 256 = ((128 + c / 4096 % 64 : Nat) : Int) := by rw [w64 (by omega)]; omega
theorem pe_a2 (c : Nat) (hc : c < 2048) : wrap64 (192 + ((c / 64 : Nat) : Int)) % 256 = ((192 + c / 64 : Nat) : Int) := by rw [w64 (by omega)]; omega
theorem pe_a3 (c : Nat) (hc : c < 65536) : wrap64 (224 + ((c / 4096 : Nat) : Int)) % 256 = ((224 + c / 4096 : Nat) : Int) := by rw [w64 (by omega)]; omega
theorem pe_a0 (c : Nat) (hc : c ≤ 1114111) : wrap64 ((c / 262144 : Nat) : Int) = ((c / 262144 : Nat) : Int) := w64 (by omega)
theorem pe_a4 (c : Nat) (hc : c ≤ 1114111) : wrap64 (240 + ((c / 262144 : Nat) : Int)) % 256 = ((240 + c / 262144 : Nat) : Int) := by rw [w64 (by omega)]; omega
theorem put_eq (l : List Int) (c : Nat) (hl : l.length ≤ 8388608) (hc : c ≤ 1114111) : cameoref01_put.f l (c : Int) = some (l ++ ints (putC c)) := by
  unfold cameoref01_put.f putC
  rw [pe_d64 c hc, pe_d4096 c hc, pe_d262144 c hc, pe_m64 c hc, pe_w1 c hc, pe_w2 c hc, pe_m64a c hc, pe_m64b c hc, pe_v1 c hc, pe_v2 c hc, pe_v3 c hc, pe_a0 c hc, pe_a4 c hc]
  by_cases h1 : c < 128
  · rw [if_pos (show (c : Int) < 128 by omega), if_pos (show l.length < 140737488355328 by omega), if_pos h1, show (c : Int) % 256 = (c : Int) by omega]
    rfl
  rw [if_neg (show ¬ (c : Int) < 128 by omega), if_neg h1]
  simp only [Option.bind_some, List.length_cons, List.length_nil]
  by_cases h2 : c < 2048
  · rw [if_pos (show (c : Int) < 2048 by omega), if_pos h2, if_pos (show l.length + (0 + 1 + 1) < 140737488355328 by omega), pe_a2 c h2]
    rfl
  rw [if_neg (show ¬ (c : Int) < 2048 by omega), if_neg h2]
  by_cases h3 : c < 65536
  · rw [if_pos (show (c : Int) < 65536 by omega), if_pos h3, if_pos (show l.length + (0 + 1 + 1 + 1) < 140737488355328 by omega), pe_a3 c h3]
    rfl
  rw [if_neg (show ¬ (c : Int) < 65536 by omega), if_neg h3, if_pos (show l.length + (0 + 1 + 1 + 1 + 1) < 140737488355328 by omega)]
  rfl
theorem of_ev (pts : List S144) (cs : List Nat) (hc : ∀ c ∈ cs, c ≤ 1114111) (he : pts.map (·.f1) = ints cs) (hl : cs.length ≤ 1048576) : ∀ (n j : Nat) (bs : List Int), cs.length ≤ n + j → j ≤ cs.length → bs.length ≤ 4 * j →
    Ev (fun k => cameoref01_Of.l0 k bs pts (j : Int)) (strOfNums (bs ++ ints ((cs.drop j).flatMap putC)))
  | n, j, bs, hn, hj, hb => by
    have hpl : pts.length = cs.length := by
      have := congrArg List.length he
      rwa [List.length_map, ints_len] at this
    by_cases hlt : j < cs.length
    · cases n with
      | zero => exact absurd hlt (by omega)
      | succ n =>
        have hcj : cs.getD j 0 ≤ 1114111 := by
          have := getD_lt' (B := 1114112) (fun u hu => by have := hc u hu; omega) (by decide) j
          omega
        have e1 : wrap64 ((j : Int) + 1) = ((j + 1 : Nat) : Int) := by rw [w64 (by omega)]; omega
        have hf : (rd_T144 pts (j : Int)).f1 = ((cs.getD j 0 : Nat) : Int) := by
          unfold rd_T144
          rw [Int.toNat_natCast]
          have h1 : pts[j]? = some pts[j] := List.getElem?_eq_getElem (by omega)
          have h2 : (pts.map (·.f1))[j]? = some pts[j].f1 := by rw [List.getElem?_map, h1]; rfl
          rw [he] at h2
          unfold ints at h2
          rw [List.getElem?_map, List.getElem?_eq_getElem hlt] at h2
          simp only [Option.map_some, Option.some.injEq] at h2
          rw [List.getD_eq_getElem?_getD, h1, Option.getD_some, ← h2, List.getD_eq_getElem?_getD, List.getElem?_eq_getElem hlt, Option.getD_some]
        have ih := of_ev pts cs hc he hl n (j + 1) (bs ++ ints (putC (cs.getD j 0))) (by omega) (by omega) (by
          rw [List.length_append, ints_len, putC_len]
          have := plen_inv (c := cs.getD j 0)
          omega)
        have e2 : bs ++ ints ((cs.drop j).flatMap putC) = bs ++ ints (putC (cs.getD j 0)) ++ ints ((cs.drop (j + 1)).flatMap putC) := by
          rw [drop_cons cs j hlt, List.flatMap_cons, List.append_assoc]
          simp [ints]
        rw [e2]
        refine Ev.step (fun k => ?_) ih
        simp only [cameoref01_Of.l0]
        rw [if_pos (by omega), if_pos (by omega), hf, put_eq _ _ (by omega) hcj, e1]
        rfl
    · have hd : cs.drop j = [] := List.drop_eq_nil_of_le (by omega)
      rw [hd]
      refine Ev.step (f := fun _ => some (strOfNums bs)) (fun k => ?_) (by simpa [ints] using Ev.now (strOfNums bs))
      simp only [cameoref01_Of.l0]
      rw [if_neg (by omega)]
theorem toList_iff (s : ByteArray) (l : List Nat) (hl : ∀ b ∈ l, b < 256) : ((strOfNums (ints l)).toList == s.toList) = true ↔ l = nums s := by
  rw [beq_iff_eq]
  have h1 : (strOfNums (ints l)).toList = (strOfNums (ints l)).data.toList := by simp [ByteArray.toList_eq]
  have h2 : s.toList = s.data.toList := by simp [ByteArray.toList_eq]
  rw [h1, h2, strOfNums_data]
  unfold ints nums
  rw [List.map_map]
  have h3 : (l.map ((fun n : Int => UInt8.ofNat n.toNat) ∘ fun n : Nat => (n : Int))).map UInt8.toNat = l := by
    rw [List.map_map]
    refine (List.map_congr_left fun b hb => ?_).trans (List.map_id l)
    have := hl b hb
    simp [Nat.mod_eq_of_lt this]
  constructor
  · intro h
    have := congrArg (List.map UInt8.toNat) h
    rw [h3] at this
    exact this
  · intro h
    have : l.map UInt8.ofNat = s.data.toList := by
      rw [h, List.map_map]
      refine (List.map_congr_left fun b hb => ?_).trans (List.map_id _)
      simp
    rw [← this]
    refine List.map_congr_left fun b hb => ?_
    simp
theorem putC_lt {c : Nat} (hc : c ≤ 1114111) : ∀ b ∈ putC c, b < 256 := by
  intro b hb
  unfold putC at hb
  split at hb
  · simp at hb; omega
  · split at hb
    · simp at hb; omega
    · split at hb
      · simp at hb; omega
      · simp at hb; omega
theorem units_lt {c : Nat} (hc : c ≤ 1114111) : ∀ u ∈ units c, u < 65536 := by
  intro u hu
  unfold units at hu
  split at hu
  · simp at hu; omega
  · simp at hu; omega
set_option maxRecDepth 100000 in
theorem rowC_le : ∀ (n : Nat) (us : List Nat), us.length ≤ n → (∀ u ∈ us, u < 65536) → (∀ c ∈ rowC us, c ≤ 1114111) ∧ (rowC us).length ≤ us.length
  | 0, [], _, _ => by simp [rowC]
  | n + 1, [], _, _ => by simp [rowC]
  | n + 1, [a], _, h => by
    refine ⟨fun c hc => ?_, Nat.le_refl _⟩
    have := h a (by simp)
    simp only [rowC, List.mem_singleton] at hc
    omega
  | n + 1, a :: b :: r, hl, h => by
    have ha := h a (by simp)
    have hb := h b (by simp)
    obtain ⟨i1, i2⟩ := rowC_le n (b :: r) (by simp at hl ⊢; omega) (fun u hu => h u (List.mem_cons_of_mem _ hu))
    obtain ⟨j1, j2⟩ := rowC_le n r (by simp at hl ⊢; omega) (fun u hu => h u (List.mem_cons_of_mem _ (List.mem_cons_of_mem _ hu)))
    cases hh : hi a && lo b with
    | true =>
      have e : rowC (a :: b :: r) = (65536 + 1024 * (a - 55296) + (b - 56320)) :: rowC r := by simp [rowC, hh]
      rw [Bool.and_eq_true] at hh
      have g1 := hh.1
      have g2 := hh.2
      unfold hi at g1
      unfold lo at g2
      simp at g1 g2
      rw [e]
      refine ⟨fun c hc => ?_, by simp; omega⟩
      rcases List.mem_cons.1 hc with hc | hc
      · omega
      · exact j1 c hc
    | false =>
      have e : rowC (a :: b :: r) = a :: rowC (b :: r) := by simp [rowC, hh]
      rw [e]
      refine ⟨fun c hc => ?_, by simp at i2 ⊢; omega⟩
      rcases List.mem_cons.1 hc with rfl | hc
      · omega
      · exact i1 c hc
theorem flatU (cs : List Nat) : cs.flatMap U = ints (cs.flatMap units) := by
  induction cs with
  | nil => rfl
  | cons a r ih =>
    rw [List.flatMap_cons, List.flatMap_cons, ih]
    simp [ints, U]
set_option maxRecDepth 100000 in
theorem valid_eq (s : ByteArray) (hs : s.size ≤ 1048576) : ∃ k, cameoref01_Valid.f k s = some (units_Valid.val (s.size + 1) s 0 0) := by
  have hv := val_iff s (s.size + 1) 0 0 (by omega)
  rw [List.drop_zero] at hv
  have hr := read_ev s hs (s.size + 1) 0 [] (by omega) (by omega) (by simp)
  rw [List.drop_zero] at hr
  refine Ev.rounds ?_
  unfold cameoref01_Valid.f
  refine Ev.bind (f := fun k (bt323 : List Int × Bool) => (if bt323.2 = true then ((cameoref01_Of.f k bt323.1).bind fun t327 => (some (t327.toList == s.toList))) else (some false))) (g := fun k => cameoref01_read.f k s) (a := outOf [] (dec (s.size + 1) (nums s))) hr ?_
  cases hd : dec (s.size + 1) (nums s) with
  | none =>
    have : units_Valid.val (s.size + 1) s 0 0 = false := by
      rw [Bool.eq_false_iff]
      intro h
      obtain ⟨cs, h1, _⟩ := hv.1 h
      rw [hd] at h1
      cases h1
    rw [this]
    exact Ev.congr (fun k => if_neg (by simp [outOf])) (Ev.now _)
  | some cs =>
    obtain ⟨d1, d2, d3, d4, d5⟩ := dec_spec _ _ cs (nums_lt s) hd
    rw [nums_len] at d1
    have hcl : (cs.map (·.1)).length ≤ s.size := by
      rw [List.length_map, ← d1]
      have : ∀ (l : List (Nat × Nat)), (∀ p ∈ l, 1 ≤ p.2) → l.length ≤ (l.map (·.2)).sum := by
        intro l
        induction l with
        | nil => intro _; simp
        | cons a r ih =>
          intro h
          have h1 := h a (by simp)
          have h2 := ih fun p hp => h p (List.mem_cons_of_mem _ hp)
          simp only [List.length_cons, List.map_cons, List.sum_cons]
          omega
      refine this cs ?_
      have : ∀ (m : Nat) (l : List Nat) (cs : List (Nat × Nat)), dec m l = some cs → ∀ p ∈ cs, 1 ≤ p.2 := by
        intro m
        induction m with
        | zero =>
          intro l cs h p hp
          unfold dec at h
          split at h
          · cases h; cases hp
          · cases h
        | succ m ih =>
          intro l cs h p hp
          unfold dec at h
          split at h
          · cases h; cases hp
          · rename_i hl
            split at h
            · cases h
            · rename_i c k hld
              obtain ⟨cs', hd', rfl⟩ := Option.map_eq_some_iff.1 h
              rcases List.mem_cons.1 hp with rfl | hp
              · exact (ld_spec (by cases l <;> simp_all) hld).1
              · exact ih _ _ hd' p hp
      exact this _ _ cs hd
    have hle : ∀ c ∈ cs.map (·.1), c ≤ 1114111 := fun c hc => by
      obtain ⟨p, hp, rfl⟩ := List.mem_map.1 hc
      exact d4 p hp
    have hul : ∀ u ∈ (cs.map (·.1)).flatMap units, u < 65536 := fun u hu => by
      obtain ⟨c, hc, hcu⟩ := List.mem_flatMap.1 hu
      exact units_lt (hle c hc) u hcu
    have hulen : ((cs.map (·.1)).flatMap units).length ≤ 2 * (cs.map (·.1)).length := by
      have : ∀ l : List Nat, (l.flatMap units).length ≤ 2 * l.length := by
        intro l
        induction l with
        | nil => simp
        | cons a r ih =>
          rw [List.flatMap_cons, List.length_append, List.length_cons]
          have : (units a).length ≤ 2 := by unfold units; split <;> simp
          omega
      exact this _
    obtain ⟨r1, r2⟩ := rowC_le _ ((cs.map (·.1)).flatMap units) (Nat.le_refl _) hul
    have r3 : (rowC ((cs.map (·.1)).flatMap units)).length ≤ 1048576 := by
      rw [row_units (cs.map (·.1)).length (cs.map (·.1)) (Nat.le_refl _) hle]
      have : ∀ (n : Nat) (l : List Nat), l.length ≤ n → (merge l).length ≤ l.length := by
        intro n
        induction n with
        | zero => intro l hl; cases l with
          | nil => simp [merge]
          | cons a r => simp at hl
        | succ n ih =>
          intro l hl
          rcases l with _ | ⟨a, _ | ⟨b, r⟩⟩
          · simp [merge]
          · simp [merge]
          · have h1 := ih (b :: r) (by simp at hl ⊢; omega)
            have h2 := ih r (by simp at hl ⊢; omega)
            simp only [merge]
            split
            · simp; omega
            · simp at h1 ⊢; omega
      have := this _ (cs.map (·.1)) (Nat.le_refl _)
      omega
    have hout : outOf [] (some cs) = (ints ((cs.map (·.1)).flatMap units), true) := by
      simp only [outOf, List.nil_append]
      rw [flatU]
    rw [hout]
    refine Ev.congr (f := fun k => (cameoref01_Of.f k (ints ((cs.map (·.1)).flatMap units))).bind fun t327 => (some (t327.toList == s.toList))) (fun k => if_pos rfl) ?_
    obtain ⟨pts, p1, p2, p3⟩ := row_ev ((cs.map (·.1)).flatMap units) hul (by omega) _ 0 [] (Nat.le_refl _) (Nat.zero_le _) (by simp)
    rw [List.drop_zero] at p2
    rw [List.nil_append] at p1
    have ho := of_ev pts _ r1 p2 r3 _ 0 [] (Nat.le_refl _) (Nat.zero_le _) (by simp)
    rw [List.drop_zero, List.nil_append] at ho
    have hof : Ev (fun k => cameoref01_Of.f k (ints ((cs.map (·.1)).flatMap units))) (strOfNums (ints ((rowC ((cs.map (·.1)).flatMap units)).flatMap putC))) := by
      unfold cameoref01_Of.f cameoref01_Row.f
      exact Ev.bind (f := fun k t316 => cameoref01_Of.l0 k ([] : List Int) t316 0) p1 ho
    refine Ev.bind (f := fun _ (t327 : ByteArray) => some (t327.toList == s.toList)) hof ?_
    have hb : ∀ b ∈ (rowC ((cs.map (·.1)).flatMap units)).flatMap putC, b < 256 := fun b hb => by
      obtain ⟨c, hc, hcb⟩ := List.mem_flatMap.1 hb
      exact putC_lt (r1 c hc) b hcb
    have hfin : ((strOfNums (ints ((rowC ((cs.map (·.1)).flatMap units)).flatMap putC))).toList == s.toList) = units_Valid.val (s.size + 1) s 0 0 := by
      rw [Bool.eq_iff_iff, toList_iff s _ hb, back_iff (nums_lt s) hd, ]
      rw [show units_Valid.val (s.size + 1) s 0 0 = units_Valid.val (s.size + 1) s ((0 : Nat) : Int) 0 from rfl, hv]
      constructor
      · rintro ⟨h1, h2⟩
        exact ⟨cs, hd, h1, h2⟩
      · rintro ⟨cs', h0, h1, h2⟩
        rw [hd] at h0
        obtain rfl := Option.some.inj h0
        exact ⟨h1, h2⟩
    rw [hfin]
    exact Ev.now _
end Go.Proofs.YtbpdpnoekkkapaaDoor.Utf
end
section
namespace Go.Proofs.YtbpdpnoekkkapaaDoor.PDescKinds
open Go.RowKit Go.Ev Go.Proofs.YtbpdpnoekkkapaaDoorV.PrintLast
set_option maxRecDepth 100000
namespace S
def vl (s : ByteArray) : Bool := units_Valid.val (s.size + 1) s 0 0
end S
def TVal (s : ByteArray) : DT Value := .node (decide ((s.size : Int) ≤ 1048576)) (.leaf (.bool (S.vl s))) .bad
theorem ent_valid : E (73, onS TVal) := fun args t v h hv w hI => by
  obtain ⟨s, rfl, rfl⟩ := onS_eq h
  unfold TVal at hv
  rw [DT.val_node, DT.val_leaf, DT.val_bad] at hv
  cases hs : decide ((s.size : Int) ≤ 1048576)
  · rw [hs] at hv
    cases hv
  · rw [hs] at hv
    obtain rfl := Option.some.inj hv
    have hs' : s.size ≤ 1048576 := by
      rw [decide_eq_true_eq] at hs
      omega
    obtain ⟨k, hk⟩ := Utf.valid_eq s hs'
    exact cameoref01_Valid.calls k s _ w hk
def TGood (k : K) : DT Value := .leaf (.bool (decide (S.chk k = 0)))
theorem chk_eq (k : K) : decide (S.chk k = 0) = (bif k.n != 0 then (bif decide (k.n ≥ 1) then (bif decide (k.n ≤ 65536) then k.s.toList == (⟨#[]⟩ : ByteArray).toList else false) else false) else (bif decide ((k.s.size : Int) ≤ 1048576) then S.vl k.s else false)) ∧ (S.chk k = 0 ∨ S.chk k = 5) := by
  have h := chk_some k
  have hv : (k.s.size : Int) ≤ 1048576 → units_Valid.f k.s = some (S.vl k.s) := fun hs => by
    unfold units_Valid.f S.vl
    rw [if_pos (by omega)]
  have he : (⟨#[]⟩ : ByteArray).toList = [] := by rw [Lib.toList_data]
  unfold key_Check.f at h
  rw [he]
  by_cases h0 : k.n = 0
  · have e0 : (k.n != 0) = false := by simp [h0]
    rw [if_pos h0] at h
    rw [e0, cond_false]
    have n1 : ¬ k.n ≥ 1 := by omega
    by_cases hs : (k.s.size : Int) ≤ 1048576
    · rw [if_pos hs, hv hs, Option.bind_some] at h
      rw [decide_eq_true hs, cond_true]
      cases hq : S.vl k.s with
      | true =>
        rw [hq, if_pos rfl] at h
        have h := Option.some.inj h
        exact ⟨by rw [← h]; rfl, .inl h.symm⟩
      | false =>
        rw [hq, if_neg (by decide), if_neg n1] at h
        have h := Option.some.inj h
        exact ⟨by rw [← h]; rfl, .inr h.symm⟩
    · rw [if_neg hs, if_neg n1] at h
      have h := Option.some.inj h
      rw [decide_eq_false hs, cond_false]
      exact ⟨by rw [← h]; rfl, .inr h.symm⟩
  · have e0 : (k.n != 0) = true := by simp [h0]
    rw [if_neg h0] at h
    rw [e0, cond_true]
    by_cases h1 : k.n ≥ 1
    · rw [if_pos h1] at h
      rw [decide_eq_true h1, cond_true]
      by_cases h2 : k.n ≤ 65536
      · rw [if_pos h2] at h
        rw [decide_eq_true h2, cond_true]
        by_cases h3 : k.s.toList = ([] : List UInt8)
        · rw [if_pos h3] at h
          have h := Option.some.inj h
          exact ⟨by rw [← h, h3]; rfl, .inl h.symm⟩
        · rw [if_neg h3] at h
          have h := Option.some.inj h
          exact ⟨by rw [← h, beq_eq_false_iff_ne.2 h3]; rfl, .inr h.symm⟩
      · rw [if_neg h2] at h
        have h := Option.some.inj h
        rw [decide_eq_false h2, cond_false]
        exact ⟨by rw [← h]; rfl, .inr h.symm⟩
    · rw [if_neg h1] at h
      have h := Option.some.inj h
      rw [decide_eq_false h1, cond_false]
      exact ⟨by rw [← h]; rfl, .inr h.symm⟩
theorem ev64 (k : K) : evFn Tryd.prog ext (tab [(73, onS TVal)]) 60 64 [k.agg] = some (.bool (decide (S.chk k = 0))) := by
  rw [(chk_eq k).1]
  have h : evFn Tryd.prog ext (tab [(73, onS TVal)]) 60 64 [k.agg] = bif k.n != 0 then (bif decide (k.n ≥ 1) then (bif decide (k.n ≤ 65536) then some (.bool (k.s.toList == (⟨#[]⟩ : ByteArray).toList)) else some (.bool false)) else some (.bool false)) else (bif decide ((k.s.size : Int) ≤ 1048576) then (bif decide ((k.s.size : Int) ≤ 1048576) then some (.bool (S.vl k.s)) else none) else some (.bool false)) := by kernel_rfl
  rw [h]
  cases k.n != 0 <;> cases decide (k.n ≥ 1) <;> cases decide (k.n ≤ 65536) <;> cases decide ((k.s.size : Int) ≤ 1048576) <;> rfl
theorem ent_good : E (64, onK TGood) := byEv (entries_cons ent_valid entries_nil) 60 fun args t h => by
  obtain ⟨a, rfl, rfl⟩ := onK_eq h
  exact ev64 a
abbrev AR_ : Tab := [(64, onK TGood)]
theorem entsAR : ∀ p ∈ AR_, E p := entries_cons ent_good entries_nil
end Go.Proofs.YtbpdpnoekkkapaaDoor.PDescKinds
end
section
namespace Go.Proofs.YtbpdpnoekkkapaaDoor.PDescKinds
open Go.RowKit Go.Ev Go.Proofs.YtbpdpnoekkkapaaDoorV.PrintLast
set_option maxRecDepth 100000
structure Rf where
  rb : Nat
  A : Option Addr
  c : Nat
def rlist (p : K × D) (j : Nat) : List Value := [.string p.1.s, .int .i64 p.1.n, .int .i64 p.2.v.k, .bool p.2.v.b, .float .f64 p.2.v.n, .string p.2.v.s, .int .i64 p.2.v.id,
  .int .i64 p.2.g.k, .bool p.2.g.b, .float .f64 p.2.g.n, .string p.2.g.s, .int .i64 p.2.g.id, .int .i64 p.2.t.k, .bool p.2.t.b, .float .f64 p.2.t.n, .string p.2.t.s, .int .i64 p.2.t.id, .int .i64 p.2.w, .int .i64 p.2.e, .int .i64 p.2.c, .int .i64 (j : Int)]
theorem rlist_len (p : K × D) (j : Nat) : (rlist p j).length = 21 := rfl
theorem rlist_one (p : K × D) (j : Nat) : ∀ u ∈ rlist p j, u.oneCell' = true := by
  intro u hu
  simp only [rlist, List.mem_cons, List.not_mem_nil, or_false] at hu
  rcases hu with rfl | rfl | rfl | rfl | rfl | rfl | rfl | rfl | rfl | rfl | rfl | rfl | rfl | rfl | rfl | rfl | rfl | rfl | rfl | rfl | rfl <;> rfl
structure OwnR (B : Nat) (w : World) (r : Rf) (n : Nat) (f : Nat → K × D) : Prop where
  box : w.ownsRow B 103 2 (sl1 r.rb) 1 ((List.range 1).flatMap fun _ => [.slice r.A n r.c, .int .i64 (n : Int)])
  row : w.ownsRow B 117 21 (.slice r.A n r.c) n ((List.range n).flatMap fun j => rlist (f j) j)
def rowRf (r : Rf) (n : Nat) (f : Nat → K × D) (x : Nat → XR) : Nat → XR
  | 0 => ⟨some ⟨r.rb, 0, none⟩, 2, 1, 1, fun _ => [.xs [1], .val (.int .i64 (n : Int))]⟩
  | 1 => ⟨r.A, 21, n, r.c, fun j => (rlist (f j) j).map SV.val⟩
  | n + 2 => x n
@[instance_reducible] def rowsF (r : Rf) (n : Nat) (f : Nat → K × D) (x : Nat → XR) : XEnv := rowsN (rowRf r n f x)
section
variable {B n : Nat} {w w' : World} {r : Rf} {f : Nat → K × D} {k : K} {d : D} {kb db : Nat} {a : Act} {Q : Exit → Act → World → Prop}
def Rf.vals (r : Rf) (n : Nat) : List Value := [.slice r.A n r.c, .int .i64 (n : Int)]
def Rf.blk (r : Rf) (n k : Nat) : Prop := k = r.rb ∨ (Value.slice r.A n r.c).ownBlock = some k
theorem OwnR.blk (h : OwnR B w r n f) {k : Nat} (hk : r.blk n k) : B ≤ k ∧ k < w.heap.size := by
  rcases hk with rfl | hk
  · have := own_cell (l := r.vals n) rfl h.box
    exact ⟨this.1, this.2.1⟩
  · exact h.row.lt k hk
theorem OwnR.away {S : Nat → Prop} (h : OwnR B w r n f) (hf : Fr S w w') (hS : ∀ k, r.blk n k → ¬ S k) : OwnR B w' r n f :=
  ⟨hf.row h.box fun g hg => hS g (.inl (by cases hg; rfl)), hf.row h.row fun g hg => hS g (.inr hg)⟩
theorem OwnR.bel (h : OwnR B w r n f) (hb : Below w.heap.size w w') : OwnR B w' r n f := ⟨own_bel h.box hb, own_bel h.row hb⟩
theorem drew_ownR (h : OwnR B w r n f) : OwnR B { w with drawn := w.drawn + 1 } r n f := ⟨h.box, h.row⟩
theorem den_r0 (x : Nat → XR) (m : Nat → Nat) : @SV.den (rowsF r n f x) m (.xp [0] 0 0) = pt r.rb := by
  rw [@den_xp (rowsF r n f x)]
  show Value.pointer (some ((⟨r.rb, 0, none⟩ : Addr).add (0 * 2 + 0))) = _
  rw [Nat.zero_mul, add_none]
theorem ok_r0 (x : Nat → XR) (mem : Mem) : @SV.ok (rowsF r n f x) mem (.xp [0] 0 0) := (@ok_xp (rowsF r n f x) _ _ _ _).2 Nat.zero_lt_one
theorem OwnR.xok (h : OwnR B w r n f) {x : Nat → XR} (hx : ∀ e : XEnv, ∀ n, @XRow e w (x n)) : @XOk (rowsF r n f x) w := fun q => match q with
  | [] => fun j hj => absurd hj (Nat.not_lt_zero _)
  | _ :: _ :: _ => fun j hj => absurd hj (Nat.not_lt_zero _)
  | [0] => by
    obtain ⟨_, h1, h2⟩ := own_cell (l := r.vals n) rfl h.box
    exact xrow_den (l := [.xs [1], .val (.int .i64 (n : Int))]) (vs := r.vals n) rfl (fun s hs mem => by
      simp only [List.mem_cons, List.not_mem_nil, or_false] at hs
      rcases hs with rfl | rfl <;> first | exact @ok_val (rowsF r n f x) _ _ | exact @ok_xs (rowsF r n f x) _ _) (fun m => by
      simp only [List.map_cons, List.map_nil, @den_val (rowsF r n f x), @den_xs (rowsF r n f x)]
      rfl) h1 h2 (Nat.le_refl _)
  | [1] => xrow_own (fun j => rlist_len _ _) h.row
  | [q + 2] => hx (rowsF r n f x) q
theorem OwnR.xok0 (h : OwnR B w r n f) : @XOk (rowsF r n f fun _ => noXR) w := h.xok fun e _ => noX_row e w
theorem ctxF (r : Rf) (n : Nat) (f : Nat → K × D) : @Ctx (rowsF r n f fun _ => noXR) Tryd.prog ext (tab AR_) (fun w => Tabs w ∧ @XOk (rowsF r n f fun _ => noXR) w) := by
  letI := rowsF r n f fun _ => noXR
  exact ⟨mixed, ext_sound, fun w w' h hb => ⟨tabs_stable _ _ h.1 hb, XOk.below h.2 hb⟩, fun w h => h.2, tab_sound fun p hp => (fun args t v h1 h2 w hw => entsAR p hp args t v h1 h2 w hw.1)⟩
theorem ctxF0 (r : Rf) (n : Nat) (f : Nat → K × D) : @Ctx (rowsF r n f fun _ => noXR) Tryd.prog ext (tab []) (fun w => @XOk (rowsF r n f fun _ => noXR) w) := by
  letI := rowsF r n f fun _ => noXR
  exact ⟨mixed, ext_sound, fun w w' h hb => XOk.below h hb, fun w h => h, tab_sound fun p hp => by cases hp⟩
noncomputable def rg : List Code := bodyOf Tryd.f50
namespace S
def find (n : Nat) (f : Nat → K × D) (k : K) : Option Nat := seek (fun i => bif keq (f i).1 k then some i else none) n 0
def rget (n : Nat) (f : Nat → K × D) (k : K) : D := match find n f k with
  | some i => (f i).2
  | none => d0
end S
theorem rg_v (r : Rf) (f : Nat → K × D) (k : K) : ∀ n, n ≤ 2 → letI := rowsF r n f fun _ => noXR
    evK Tryd.prog ext (tab []) 100 21 (seqL rg) (⟨argS [.xp [0] 0 0, .val k.agg], fun _ => none, 0⟩) (grab Tryd.prog Tryd.f50 [] [] 9) = some (Res.ret (.val (.tuple #[(S.rget n f k).agg, .bool (S.find n f k).isSome])))
  | 0, _ => by kernel_rfl
  | 1, _ => by
    letI := rowsF r 1 f fun _ => noXR
    have h : evK Tryd.prog ext (tab []) 100 21 (seqL rg) (⟨argS [.xp [0] 0 0, .val k.agg], fun _ => none, 0⟩) (grab Tryd.prog Tryd.f50 [] [] 9) = bif keq (f 0).1 k then some (Res.ret (.val (.tuple #[(f 0).2.agg, .bool true]))) else some (Res.ret (.val (.tuple #[d0.agg, .bool false]))) := by kernel_rfl
    rw [h]
    unfold S.rget S.find seek seek
    cases keq (f 0).1 k <;> rfl
  | 2, _ => by
    letI := rowsF r 2 f fun _ => noXR
    have h : evK Tryd.prog ext (tab []) 100 21 (seqL rg) (⟨argS [.xp [0] 0 0, .val k.agg], fun _ => none, 0⟩) (grab Tryd.prog Tryd.f50 [] [] 9) = bif keq (f 0).1 k then some (Res.ret (.val (.tuple #[(f 0).2.agg, .bool true]))) else bif keq (f 1).1 k then some (Res.ret (.val (.tuple #[(f 1).2.agg, .bool true]))) else some (Res.ret (.val (.tuple #[d0.agg, .bool false]))) := by kernel_rfl
    rw [h]
    unfold S.rget S.find seek seek seek
    cases keq (f 0).1 k <;> cases keq (f 1).1 k <;> rfl
  | n + 3, h => absurd h (by omega)
theorem RGet.calls (hO : OwnR B w r n f) (hn : n ≤ 2) (k : K) : Calls Tryd.prog 50 #[pt r.rb, k.agg] w fun e w' => e = .returned (.tuple #[(S.rget n f k).agg, .bool (S.find n f k).isSome]) ∧ Below w.heap.size w w' := by
  refine enterE (rowsF r n f fun _ => noXR) (args := [.xp [0] 0 0, .val k.agg]) (vs := [pt r.rb, k.agg]) (N := 21) Tryd.func50 (by kernel_rfl) (by kernel_rfl) (show 2 ≤ 21 by decide) (fun y hy => ?_) ?_ fun a0 hr0 => ?_
  · simp only [List.mem_cons, List.not_mem_nil, or_false] at hy
    rcases hy with rfl | rfl
    · exact ok_r0 _ _
    · exact @ok_val (rowsF r n f fun _ => noXR) _ _
  · simp only [List.map_cons, List.map_nil, @den_val (rowsF r n f fun _ => noXR), den_r0]
  refine pieceE _ (ctxF0 r n f) (rg_v r f k n hn) hO.xok0 hr0 (fun v hv m' a' w' hd hres hb' => ?_) (fun ex d hd => by cases hd)
  cases hv
  rw [@den_val (rowsF r n f fun _ => noXR)] at hres
  exact ⟨hd, _, hres, rfl, hb'⟩
end
end Go.Proofs.YtbpdpnoekkkapaaDoor.PDescKinds
end
section
namespace Go.Proofs.YtbpdpnoekkkapaaDoor.PDescKinds
open Go.RowKit Go.Ev Go.Proofs.YtbpdpnoekkkapaaDoorV.PrintLast
set_option maxRecDepth 100000
noncomputable def rp : List Code := bodyOf Tryd.f47
noncomputable def rp5 : Array Oper := opsOf ((flat (thenOf (rp.getD 5 .skip))).getD 0 .skip)
noncomputable def rp7 : Array Oper := opsOf (rp.getD 6 .skip)
noncomputable def rp8 : Array Oper := opsOf (rp.getD 7 .skip)
def rb_X (rb : Nat) (l : List Value) (kb : Nat) (k : K) (db : Nat) (d : D) : List XR := [bxR rb l, bxR kb k.list, bxR db d.list]
theorem rp_eq : rp = [rp.getD 0 .skip, rp.getD 1 .skip, rp.getD 2 .skip, rp.getD 3 .skip, rp.getD 4 .skip] ++ [.cond (.tmp 15) (thenOf (rp.getD 5 .skip)) .skip, .region 7 rp7 true, .region 8 rp8 false, rp.getD 8 .skip, .ret] := by kernel_rfl
theorem rp5_eq : flat (thenOf (rp.getD 5 .skip)) = [.region 5 rp5 true, .region 6 (opsOf ((flat (thenOf (rp.getD 5 .skip))).getD 1 .skip)) false, .ret] := by kernel_rfl
theorem rp5_v (rb : Nat) (A : Option Addr) (c : Nat) (kb : Nat) (k : K) (db : Nat) (d : D) : letI := rowsN (nth (rb_X rb [.slice A 1 c, .int .i64 1] kb k db d))
    (takesL Tryd.prog rp5 [8] 47 [0, 1, 2, 3, 4, 5] (pickT [(0, .xp [0] 0 0), (4, .xp [1] 0 0), (5, .xp [2] 0 0), (7, .val (.int .i64 0))]) (Array.replicate 9 false)).map (fun p => ([19, 20, 21].map p.1, p.2)) = some ([.val (.slice A 1 c), .val (.int .i64 0), .val d.agg], #[true, true, true, true, true, true, false, false, false]) := by kernel_rfl
theorem rp5_6 (g : Nat) (c : Nat) : letI := row0
    evP Tryd.prog (Ev.look (pickT ([(19, Value.slice (some ⟨g, 0, none⟩) 1 c), (20, Value.int .i64 0)].map fun p => (p.1, .val p.2)))) (rp5.toList.getD 6 default) = some (.val (.pointer (some ((⟨g, 0, none⟩ : Addr).add 0)))) := by kernel_rfl
theorem rp5_7 (g : Addr) : letI := row0
    evP Tryd.prog (Ev.look (pickT ([(22, Value.pointer (some g))].map fun p => (p.1, .val p.2)))) (rp5.toList.getD 7 default) = some (.val (.pointer (some (g.add 2)))) := by kernel_rfl
theorem rp7_v (rb : Nat) (A : Option Addr) (n c : Nat) (kb : Nat) (k : K) (db : Nat) (d : D) : letI := rowsN (nth (rb_X rb [.slice A n c, .int .i64 (n : Int)] kb k db d))
    (takesL Tryd.prog rp7 [16] 47 [0, 1, 2, 3, 4, 5, 6, 7, 8, 9, 10, 11] (pickT [(0, .xp [0] 0 0), (4, .xp [1] 0 0), (5, .xp [2] 0 0)]) (Array.replicate 17 false)).map (fun p => ([0, 24, 28, 35].map p.1, p.2)) = some ([.xp [0] 0 0, .xp [0] 0 0, .val (.slice A n c), .val (.agg (rlist (k, d) n).toArray)], #[true, true, true, true, true, true, true, true, true, true, true, true, false, false, false, false, false]) := by kernel_rfl
theorem rp7_12 (p : K × D) (n : Nat) : letI := row0
    evOp Tryd.prog ext (fun _ _ _ _ => none) (Ev.look (pickT ([(35, Value.agg (rlist p n).toArray)].map fun p => (p.1, SV.val p.2)))) (fun _ => none) 0 (rp7.toList.getD 12 default) = some (.slc 0 0 1 1, .new ⟨117, (rlist p n).map SV.val⟩) := by kernel_rfl
theorem rp7_14 (g : Nat) : letI := row0
    evP Tryd.prog (Ev.look (pickT ([(24, pt g)].map fun p => (p.1, .val p.2)))) (rp7.toList.getD 14 default) = some (.val (pt g)) := by kernel_rfl
theorem rp7_15 (g : Nat) : letI := row0
    evP Tryd.prog (Ev.look (pickT ([(38, pt g)].map fun p => (p.1, .val p.2)))) (rp7.toList.getD 15 default) = some (.val (.pointer (some ((⟨g, 0, none⟩ : Addr).add 0)))) := by kernel_rfl
theorem rp8_v (rb : Nat) (s : Value) (n : Nat) : letI := rowsN (nth [bxR rb [s, .int .i64 (n : Int)]])
    (reads Tryd.prog 47 (rp8.toList.take 7) (pickT [(0, .xp [0] 0 0)])).map (fun t => [44, 46].map t) = some [.val (.int .i64 (IntKind.i64.wrap ((n : Int) + 1))), .xp [0] 0 1] := by kernel_rfl
theorem rp8_eq : rp8.toList = rp8.toList.take 7 ++ [rp8.toList.getD 7 default] := by kernel_rfl
theorem rp5_size : rp5.size = 9 := by kernel_rfl
theorem rp7_size : rp7.size = 17 := by kernel_rfl
theorem info117 : ∃ (i : TypeInfo) (z : Value), Tryd.prog.info? 117 = some i ∧ i.zero = some z ∧ i.size = 21 ∧ i.bytes = 200 ∧ z.cells.size = 21 := info_of (by kernel_rfl)
theorem und101 : Tryd.prog.underlying 101 = some (.slice 117) := by kernel_rfl
theorem rp6_v : letI := row0
    evK Tryd.prog ext (tab []) 60 47 (seqL [.region 6 (opsOf ((flat (thenOf (rp.getD 5 .skip))).getD 1 .skip)) false, .ret]) ((⟨[], []⟩ : Cut).st 0) (grab Tryd.prog Tryd.f47 [] [] 0) = some (Res.ret (.val (.int .i64 0))) := by kernel_rfl
theorem rp9_v : letI := row0
    evK Tryd.prog ext (tab []) 60 47 (seqL [rp.getD 8 .skip, .ret]) ((⟨[], []⟩ : Cut).st 0) (grab Tryd.prog Tryd.f47 [] [] 0) = some (Res.ret (.val (.int .i64 0))) := by kernel_rfl
abbrev RpCut (k : K) (d : D) (i : Int) (b : Bool) : Res := .cut Ex.normal ⟨[(0, .xp [0] 0 0), (4, .ptr 0 0), (5, .ptr 1 0), (7, .val (.int .i64 i)), (15, .val (.bool b))], [(0, ⟨34, k.list.map SV.val⟩), (1, ⟨40, d.list.map SV.val⟩)]⟩
theorem rp0_0 (r : Rf) (f : Nat → K × D) (k : K) (d : D) : letI := rowsF r 0 f fun _ => noXR
    evK Tryd.prog ext (tab AR_) 100 47 (seqL [rp.getD 0 .skip, rp.getD 1 .skip, rp.getD 2 .skip, rp.getD 3 .skip, rp.getD 4 .skip]) (⟨argS [.xp [0] 0 0, .val k.agg, .val d.agg], fun _ => none, 0⟩) (grab Tryd.prog Tryd.f47 [0, 4, 5, 7, 15] [0, 1] 9) =
    bif !decide (S.chk k = 0) then some (.ret (.val (.int .i64 5))) else some (RpCut k d (-1) false) := by kernel_rfl
theorem rp0_1 (r : Rf) (f : Nat → K × D) (k : K) (d : D) : letI := rowsF r 1 f fun _ => noXR
    evK Tryd.prog ext (tab AR_) 100 47 (seqL [rp.getD 0 .skip, rp.getD 1 .skip, rp.getD 2 .skip, rp.getD 3 .skip, rp.getD 4 .skip]) (⟨argS [.xp [0] 0 0, .val k.agg, .val d.agg], fun _ => none, 0⟩) (grab Tryd.prog Tryd.f47 [0, 4, 5, 7, 15] [0, 1] 9) =
    bif !decide (S.chk k = 0) then some (.ret (.val (.int .i64 5))) else bif keq (f 0).1 k then some (RpCut k d 0 true) else some (RpCut k d (-1) false) := by kernel_rfl
section
variable {B n : Nat} {w w' : World} {r : Rf} {f : Nat → K × D} {k : K} {d : D} {kb db : Nat} {a : Act} {Q : Exit → Act → World → Prop}
theorem hsN {rb : Nat} {l : List Value} {ts : List (Nat × Value)} (h0 : (0, pt rb) ∈ ts) (h4 : (4, pt kb) ∈ ts) (h5 : (5, pt db) ∈ ts) : letI := rowsN (nth (rb_X rb l kb k db d)); ∀ p ∈ [(0, SV.xp [0] 0 0), (4, .xp [1] 0 0), (5, .xp [2] 0 0)], (p.1, p.2.den fun _ => 0) ∈ ts ∧ p.2.ok fun _ => none := by
  intro p hp
  simp only [List.mem_cons, List.not_mem_nil, or_false] at hp
  rcases hp with rfl | rfl | rfl
  · exact ⟨by rw [den_n _ rb 0 l rfl]; exact h0, ok_n _ rb 0 l rfl _⟩
  · exact ⟨by rw [den_n _ kb 1 k.list rfl]; exact h4, ok_n _ kb 1 k.list rfl _⟩
  · exact ⟨by rw [den_n _ db 2 d.list rfl]; exact h5, ok_n _ db 2 d.list rfl _⟩
theorem xokB {rb : Nat} {l : List Value} {z : Nat} (hz : l.length = z) (h : w.ownsRow B 103 z (sl1 rb) 1 ((List.range 1).flatMap fun _ => l)) (hkb : w.heap[kb]? = some (.cells k.list.toArray 34 (0, 0))) (hdb : w.heap[db]? = some (.cells d.list.toArray 40 (0, 0))) : @XOk (rowsN (nth (rb_X rb l kb k db d))) w := xokN fun x hx e => by
  simp only [rb_X, List.mem_cons, List.not_mem_nil, or_false] at hx
  rcases hx with rfl | rfl | rfl
  · exact box_row hz h
  · exact box_heap (t := 34) hkb
  · exact box_heap (t := 40) hdb
theorem rp5_reg (hO : OwnR B w r 1 f) (hkb : w.heap[kb]? = some (.cells k.list.toArray 34 (0, 0))) (hdb : w.heap[db]? = some (.cells d.list.toArray 40 (0, 0)))
    (hk : Kp 47 [(0, pt r.rb), (4, pt kb), (5, pt db), (7, .int .i64 0)] a)
    (hQ : ∀ a' w', Kp 47 [] a' → OwnR B w' r 1 (fput f 0 ((f 0).1, d)) → w.grownBy w' (Value.slice r.A 1 r.c).ownBlock → Q .normal a' w') : (Code.region 5 rp5 true).wp Tryd.prog Q a w := by
  refine region_last (fun w' => @XOk (rowsN (nth (rb_X r.rb [.slice r.A 1 r.c, .int .i64 1] kb k db d))) w') [8] ?_
  rw [rp5_size]
  have hO1 := drew_ownR hO
  have hX : @XOk (rowsN (nth (rb_X r.rb [.slice r.A 1 r.c, .int .i64 1] kb k db d))) { w with drawn := w.drawn + 1 } := xokB rfl hO1.box hkb hdb
  show wpAnyLast Tryd.prog .any rp5 _ _ _ ([0, 1, 2, 3, 4, 5].length + 3) (Array.replicate 9 false) a _
  refine take_kp (e := rowsN (nth (rb_X r.rb [.slice r.A 1 r.c, .int .i64 1] kb k db d))) (us := [.slice r.A 1 r.c, .int .i64 0, d.agg]) (fun w h => h) (by kernel_rfl) (rp5_v r.rb r.A r.c kb k db d) hk (fun q hq => ?_) ?_ (by kernel_rfl) hX fun a1 K1 => ?_
  · rcases List.mem_cons.1 hq with rfl | hq
    · exact hsN (by simp) (by simp) (by simp) _ (by simp)
    rcases List.mem_cons.1 hq with rfl | hq
    · exact hsN (by simp) (by simp) (by simp) _ (by simp)
    rcases List.mem_cons.1 hq with rfl | hq
    · exact hsN (by simp) (by simp) (by simp) _ (by simp)
    · obtain rfl := List.mem_singleton.1 hq
      exact ⟨by rw [@den_val (rowsN (nth (rb_X r.rb [.slice r.A 1 r.c, .int .i64 1] kb k db d)))]; simp, @ok_val (rowsN (nth (rb_X r.rb [.slice r.A 1 r.c, .int .i64 1] kb k db d))) _ _⟩
  · simp only [List.map_cons, List.map_nil, @den_val (rowsN (nth (rb_X r.rb [.slice r.A 1 r.c, .int .i64 1] kb k db d)))]
  have K1 : Kp 47 [(19, .slice r.A 1 r.c), (20, .int .i64 0), (21, d.agg)] a1 := K1
  rcases row_slice hO.row with ⟨_, e, _⟩ | ⟨g, hA, hg1, hg2⟩
  · omega
  have hrow := hO1.row
  rw [hA] at K1 hrow
  refine wpAnyLast_one (i := 6) (l' := #[true, true, true, true, true, true, true, false, false]) (by kernel_rfl) (ops_get rp5_size 6 (by decide)) (by kernel_rfl) (by kernel_rfl) ?_
  refine op_val (us := [(19, .slice (some ⟨g, 0, none⟩) 1 r.c), (20, .int .i64 0)]) (d := 22) K1 (by simp) (rp5_6 g r.c) (by kernel_rfl) ⟨fun _ h => h, ?_⟩
  rw [add_none]
  have K2 := K1.put (d := 22) (v := .pointer (some ⟨g, 0 + 0, none⟩)) rfl
  generalize a1.put (some 22) (.pointer (some ⟨g, 0 + 0, none⟩)) = a2 at K2 ⊢
  refine wpAnyLast_one (i := 7) (l' := #[true, true, true, true, true, true, true, true, false]) (by kernel_rfl) (ops_get rp5_size 7 (by decide)) (by kernel_rfl) (by kernel_rfl) ?_
  refine op_val (us := [(22, .pointer (some ⟨g, 0 + 0, none⟩))]) (d := 23) K2 (by simp) (rp5_7 ⟨g, 0 + 0, none⟩) (by kernel_rfl) ⟨fun _ h => h, ?_⟩
  rw [add_none]
  have K3 := K2.put (d := 23) (v := .pointer (some ⟨g, 0 + 0 + 2, none⟩)) rfl
  generalize a2.put (some 23) (.pointer (some ⟨g, 0 + 0 + 2, none⟩)) = a3 at K3 ⊢
  obtain ⟨w', h3, h4, h5⟩ := own_splice hrow (fun j => rlist_len (f j) j) (t := 0) (by omega) (o := 2) (P := Tryd.prog) (ty := 40) (x := d.agg) (by kernel_rfl) (by show 2 + 18 ≤ 21; decide) (fun u hu => by
    have hu : u ∈ d.list := hu
    simp only [D.list, List.mem_cons, List.not_mem_nil, or_false] at hu
    rcases hu with rfl | rfl | rfl | rfl | rfl | rfl | rfl | rfl | rfl | rfl | rfl | rfl | rfl | rfl | rfl | rfl | rfl | rfl <;> rfl)
  refine store_any (t := 40) (x := .tmp 23) (y := .tmp 21) (i := 8) (l' := Array.replicate 9 true) (by kernel_rfl) (ops_get rp5_size 8 (by decide)) (by kernel_rfl) (by kernel_rfl) (by simp) (by kernel_rfl) (by kernel_rfl) (K3.get (d := 23) (by simp)) (K3.get (d := 21) (by simp)) h3 ?_
  refine wpAnyLast_done (by kernel_rfl) ?_ 0
  refine hQ a3 w' (K3.sub (by simp)) ⟨grown_row hO1.box h5 fun g' hg' e' => ?_, ?_⟩ (drew_grown (by rw [hA]; exact h5))
  · cases hg'
    exact own_ne hO1.box hrow (by decide) rfl e'
  · rw [hA]
    exact h4
set_option maxHeartbeats 1000000 in
theorem rp7_reg (hO : OwnR B w r n f) (hkb : w.heap[kb]? = some (.cells k.list.toArray 34 (0, 0))) (hdb : w.heap[db]? = some (.cells d.list.toArray 40 (0, 0))) (hB : B ≤ w.heap.size) (hn : n ≤ 1000)
    (hk : Kp 47 (P3 r.rb kb db) a)
    (hQ : ∀ a' w' A c, Kp 47 [(0, pt r.rb)] a' → w'.ownsRow B 103 2 (sl1 r.rb) 1 ((List.range 1).flatMap fun _ => [.slice A (n + 1) c, .int .i64 (n : Int)]) → w'.ownsRow B 117 21 (.slice A (n + 1) c) (n + 1) ((List.range (n + 1)).flatMap fun j => rlist (fput f n (k, d) j) j) → Fr (r.blk n) w w' → ((Value.slice A (n + 1) c).ownBlock = (Value.slice r.A n r.c).ownBlock ∨ ∃ g, (Value.slice A (n + 1) c).ownBlock = some g ∧ w.heap.size ≤ g) → Q .normal a' w') : (Code.region 7 rp7 true).wp Tryd.prog Q a w := by
  refine region_last (fun w' => @XOk (rowsN (nth (rb_X r.rb (r.vals n) kb k db d))) w') [16] ?_
  rw [rp7_size]
  have hO1 := drew_ownR hO
  have hX : @XOk (rowsN (nth (rb_X r.rb (r.vals n) kb k db d))) { w with drawn := w.drawn + 1 } := xokB rfl hO1.box hkb hdb
  have hf : Fr (r.blk n) w { w with drawn := w.drawn + 1 } := Fr.of (drew_bel w)
  have hsz : ({ w with drawn := w.drawn + 1 } : World).heap.size = w.heap.size := rfl
  have hkb1 : ({ w with drawn := w.drawn + 1 } : World).heap[kb]? = some (.cells k.list.toArray 34 (0, 0)) := hkb
  have hdb1 : ({ w with drawn := w.drawn + 1 } : World).heap[db]? = some (.cells d.list.toArray 40 (0, 0)) := hdb
  generalize ({ w with drawn := w.drawn + 1 } : World) = w1 at hO1 hX hf hsz hkb1 hdb1 ⊢
  show wpAnyLast Tryd.prog .any rp7 _ _ _ ([0, 1, 2, 3, 4, 5, 6, 7, 8, 9, 10, 11].length + 5) (Array.replicate 17 false) a _
  refine take_kp (e := rowsN (nth (rb_X r.rb (r.vals n) kb k db d))) (us := [pt r.rb, pt r.rb, .slice r.A n r.c, .agg (rlist (k, d) n).toArray]) (fun w h => h) (by kernel_rfl) (rp7_v r.rb r.A n r.c kb k db d) hk (hsN (by simp) (by simp) (by simp)) ?_ (by kernel_rfl) hX fun a1 K1 => ?_
  · simp only [List.map_cons, List.map_nil, @den_val (rowsN (nth (rb_X r.rb (r.vals n) kb k db d)))]
    rw [den_n _ r.rb 0 (r.vals n) rfl]
  have K1 : Kp 47 [(0, pt r.rb), (24, pt r.rb), (28, .slice r.A n r.c), (35, .agg (rlist (k, d) n).toArray)] a1 := K1
  refine wpAnyLast_one (i := 12) (l' := #[true, true, true, true, true, true, true, true, true, true, true, true, true, false, false, false, false]) (by kernel_rfl) (ops_get rp7_size 12 (by decide)) (by kernel_rfl) (by kernel_rfl) ?_
  refine build1 (RP.ar_none (us := [(35, .agg (rlist (k, d) n).toArray)]) K1 (by simp) w1) (rp7_12 _ _) fun g w2 b2 hg2 hw2 => ?_
  have hO2 := hO1.bel b2
  have hX2 : @XOk (rowsN (nth (rb_X r.rb (r.vals n) kb k db d))) w2 := @XOk.below (rowsN (nth (rb_X r.rb (r.vals n) kb k db d))) _ _ hX b2
  refine ⟨fun _ _ => hX2, ?_⟩
  rw [show (rp7.toList.getD 12 default).dst = some 36 by kernel_rfl]
  have K2 := K1.put (d := 36) (v := .slice (some ⟨g, 0, none⟩) 1 1) rfl
  generalize a1.put (some 36) (.slice (some ⟨g, 0, none⟩) 1 1) = a2 at K2 ⊢
  refine wpAnyLast_one (i := 13) (l' := #[true, true, true, true, true, true, true, true, true, true, true, true, true, true, false, false, false]) (by kernel_rfl) (ops_get rp7_size 13 (by decide)) (by kernel_rfl) (by kernel_rfl) ?_
  obtain ⟨i84, z84, q1, q2, q3, q4, q5⟩ := info117
  have hM : maxLen = 9223372036854775807 := by decide +kernel
  refine wp_append_fresh (.tmp 28) (.tmp 36) 101 (by kernel_rfl) B 117 i84 z84 21 200 und101 q1 q2 q3 q4 q5 (by decide) (.slice r.A n r.c) n _ (K2.get (by simp)) hO2.row ⟨g, 0, none⟩ 1 1 (rlist (k, d) n) (K2.get (by simp)) rfl (fun j u hu => ?_) (rlist_one _ _) (by omega) (by omega) (Nat.le_trans hB (by have := b2.size; omega)) fun u w3 hown hgr hfr => ?_
  · rw [add_none, cell_of_row w2 g _ _ 117 (0, 0) hw2]
    simpa using hu
  have hu := (own_slice hown).1
  generalize slA u = A at hu
  generalize slC u = c at hu
  subst hu
  have hown' : w3.ownsRow B 117 21 (.slice A (n + 1) c) (n + 1) ((List.range (n + 1)).flatMap fun j => rlist (fput f n (k, d) j) j) := by
    rw [← rowPut] at hown
    rw [flat_congr (n + 1) (g := fput (fun j => rlist (f j) j) n (rlist (k, d) n)) fun j _ => by
      simp only [fput]
      split
      · rename_i h; subst h; rfl
      · rfl]
    exact hown
  have hb3 : w3.ownsRow B 103 2 (sl1 r.rb) 1 ((List.range 1).flatMap fun _ => r.vals n) := grown_row hO2.box hgr fun g hg' e => own_ne hO2.row hO2.box (by decide) e hg'
  obtain ⟨w4, hst, hb4, hg4⟩ := box_put (ty := 101) (x := .slice A (n + 1) c) (o := 0) (P := Tryd.prog) (l := r.vals n) rfl hb3 (by kernel_rfl) (show 0 + 1 ≤ 2 by decide) (fun y hy => by
    have hy : y ∈ [Value.slice A (n + 1) c] := hy
    simp only [List.mem_singleton] at hy
    subst hy; rfl)
  have hk2 : w2.heap[kb]? = some (.cells k.list.toArray 34 (0, 0)) := (b2.block kb (lt' hkb1)).trans hkb1
  have hd2 : w2.heap[db]? = some (.cells d.list.toArray 40 (0, 0)) := (b2.block db (lt' hdb1)).trans hdb1
  have hX3 : @XOk (rowsN (nth (rb_X r.rb (r.vals n) kb k db d))) w3 := xokB rfl hb3 (grown_cells hk2 hgr (own_nt hO2.row hk2 (by decide))) (grown_cells hd2 hgr (own_nt hO2.row hd2 (by decide)))
  refine ⟨fun _ _ => hX3, ?_⟩
  rw [show (rp7.toList.getD 13 default).dst = some 37 by kernel_rfl]
  have K3 := K2.put (d := 37) (v := .slice A (n + 1) c) rfl
  generalize a2.put (some 37) (.slice A (n + 1) c) = a3 at K3 ⊢
  refine wpAnyLast_one (i := 14) (l' := #[true, true, true, true, true, true, true, true, true, true, true, true, true, true, true, false, false]) (by kernel_rfl) (ops_get rp7_size 14 (by decide)) (by kernel_rfl) (by kernel_rfl) ?_
  refine op_val (us := [(24, pt r.rb)]) (d := 38) K3 (by simp) (rp7_14 r.rb) (by kernel_rfl) ⟨fun _ h => h, ?_⟩
  have K4 := K3.put (d := 38) (v := pt r.rb) rfl
  generalize a3.put (some 38) (pt r.rb) = a4 at K4 ⊢
  refine wpAnyLast_one (i := 15) (l' := #[true, true, true, true, true, true, true, true, true, true, true, true, true, true, true, true, false]) (by kernel_rfl) (ops_get rp7_size 15 (by decide)) (by kernel_rfl) (by kernel_rfl) ?_
  refine op_val (us := [(38, pt r.rb)]) (d := 39) K4 (by simp) (rp7_15 r.rb) (by kernel_rfl) ⟨fun _ h => h, ?_⟩
  rw [show ((⟨r.rb, 0, none⟩ : Addr).add 0) = ⟨r.rb, 0, none⟩ by rw [add_none]]
  have K5 := K4.put (d := 39) (v := pt r.rb) rfl
  generalize a4.put (some 39) (pt r.rb) = a5 at K5 ⊢
  refine store_any (t := 101) (x := .tmp 39) (y := .tmp 37) (i := 16) (l' := Array.replicate 17 true) (by kernel_rfl) (ops_get rp7_size 16 (by decide)) (by kernel_rfl) (by kernel_rfl) (by simp) (by kernel_rfl) (by kernel_rfl) (K5.get (d := 39) (by simp)) (K5.get (d := 37) (by simp)) hst ?_
  refine wpAnyLast_done (by kernel_rfl) ?_ 0
  have b2' := b2.size
  refine hQ a5 w4 A c (K5.sub (by simp)) hb4 (grown_row hown' hg4 fun g' hg' e => by cases e; exact own_ne hb3 hown' (by decide) rfl hg') (((hf.trans (Fr.of b2 (S := fun _ => False)) (by simp)).trans (Fr.grown hgr (S := fun k => (Value.slice r.A n r.c).ownBlock = some k) (fun k hk => hk)) fun k hk => .inl (.inr hk)).trans (Fr.grown hg4 (S := fun k => k = r.rb) fun k hk => by cases hk; rfl) fun k hk => .inl (.inl hk)) ?_
  rcases hfr with h | ⟨g', h1, h2⟩
  · exact .inl h
  · exact .inr ⟨g', h1, by omega⟩
end
end Go.Proofs.YtbpdpnoekkkapaaDoor.PDescKinds
end
section
namespace Go.Proofs.YtbpdpnoekkkapaaDoor.PDescKinds
open Go.RowKit Go.Ev Go.Proofs.YtbpdpnoekkkapaaDoorV.PrintLast
set_option maxRecDepth 100000
namespace S
inductive RPut (k : K) (d : D) (n : Nat) (f : Nat → K × D) : Int → Nat → (Nat → K × D) → Prop
  | bad : chk k ≠ 0 → RPut k d n f 5 n f
  | old : chk k = 0 → n = 1 → keq (f 0).1 k = true → RPut k d n f 0 n (fput f 0 ((f 0).1, d))
  | new : chk k = 0 → (n = 1 → keq (f 0).1 k = false) → RPut k d n f 0 (n + 1) (fput f n (k, d))
end S
section
variable {B n : Nat} {w w' : World} {r : Rf} {f : Nat → K × D} {k : K} {d : D} {kb db : Nat} {a : Act} {Q : Exit → Act → World → Prop}
theorem rp8_reg {rb m c : Nat} {A : Option Addr} {xs : List Value} (hb : w.ownsRow B 103 2 (sl1 rb) 1 ((List.range 1).flatMap fun _ => [.slice A (n + 1) c, .int .i64 (n : Int)])) (hr : w.ownsRow B 117 21 (.slice A (n + 1) c) (n + 1) xs) (hn : n ≤ 1000)
    (hk : Kp 47 [(0, pt rb)] a)
    (hQ : ∀ a' w', Kp 47 [] a' → w'.ownsRow B 103 2 (sl1 rb) 1 ((List.range 1).flatMap fun _ => [.slice A (n + 1) c, .int .i64 ((n + 1 : Nat) : Int)]) → w'.ownsRow B 117 21 (.slice A (n + 1) c) (n + 1) xs → w.grownBy w' (some rb) → Q .normal a' w') : (Code.region 8 rp8 false).wp Tryd.prog Q a w := by
  refine wp_region_list ?_
  rw [rp8_eq]
  refine read_kp (e := rowsN (nth [bxR rb [.slice A (n + 1) c, .int .i64 (n : Int)]])) (us := [.int .i64 ((n + 1 : Nat) : Int), .pointer (some ⟨rb, 1, none⟩)]) (xokN fun y hy e => by
    obtain rfl := List.mem_singleton.1 hy
    exact box_row (z := 2) rfl hb) (rp8_v rb (.slice A (n + 1) c) n) hk (fun p hp => ?_) ?_ (by kernel_rfl) fun a1 K1 => ?_
  · obtain rfl := List.mem_singleton.1 hp
    exact ⟨by rw [den_n _ rb 0 _ rfl]; simp, ok_n _ rb 0 _ rfl _⟩
  · simp only [List.map_cons, List.map_nil, @den_val (rowsN (nth [bxR rb [.slice A (n + 1) c, .int .i64 (n : Int)]])), @den_xp (rowsN (nth [bxR rb [.slice A (n + 1) c, .int .i64 (n : Int)]]))]
    rw [wrb (show n < n + 1 by omega) (by omega)]
    show [_, Value.pointer (some ((⟨rb, 0, none⟩ : Addr).add (0 * 2 + 1)))] = _
    rw [add_none]
  obtain ⟨w2, h1, h2, h3⟩ := box_put (ty := 3) (x := .int .i64 ((n + 1 : Nat) : Int)) (o := 1) (P := Tryd.prog) (l := [.slice A (n + 1) c, .int .i64 (n : Int)]) (z := 2) rfl hb (by kernel_rfl) (show 1 + 1 ≤ 2 by decide) (fun y hy => by
    have hy : y ∈ [Value.int .i64 ((n + 1 : Nat) : Int)] := hy
    simp only [List.mem_singleton] at hy
    subst hy; rfl)
  refine wpList_store (t := 3) (x := .tmp 46) (y := .tmp 44) (by kernel_rfl) (by kernel_rfl) (by kernel_rfl) (K1.get (d := 46) (by simp)) (K1.get (d := 44) (by simp)) h1 ?_
  exact hQ a1 w2 (K1.sub (by simp)) h2 (grown_row hr h3 fun g' hg' e => by cases e; exact own_ne hb hr (by decide) rfl hg') h3
abbrev RPutR (B : Nat) (w : World) (r : Rf) (n : Nat) (f : Nat → K × D) (k : K) (d : D) (e : Ending) (w' : World) : Prop :=
  ∃ x r' n' f', S.RPut k d n f x n' f' ∧ e = .returned (.int .i64 x) ∧ r'.rb = r.rb ∧ OwnR B w' r' n' f' ∧ Fr (r.blk n) w w' ∧ ∀ b, r'.blk n' b → r.blk n b ∨ w.heap.size ≤ b
set_option maxHeartbeats 1000000 in
theorem RPut.calls (hT : Tabs w) (hO : OwnR B w r n f) (hB : B ≤ w.heap.size) (hn : n ≤ 1) : Calls Tryd.prog 47 #[pt r.rb, k.agg, d.agg] w (RPutR B w r n f k d) := by
  refine enterE (rowsF r n f fun _ => noXR) (args := [.xp [0] 0 0, .val k.agg, .val d.agg]) (vs := [pt r.rb, k.agg, d.agg]) (N := 47) Tryd.func47 (by kernel_rfl) (by kernel_rfl) (show 3 ≤ 47 by decide) (fun y hy => ?_) ?_ fun a0 hr0 => ?_
  · simp only [List.mem_cons, List.not_mem_nil, or_false] at hy
    rcases hy with rfl | rfl | rfl
    · exact ok_r0 _ _
    · exact @ok_val (rowsF r n f fun _ => noXR) _ _
    · exact @ok_val (rowsF r n f fun _ => noXR) _ _
  · simp only [List.map_cons, List.map_nil, @den_val (rowsF r n f fun _ => noXR), den_r0]
  show wpL Tryd.prog rp _ _ _
  rw [rp_eq, wpL_app]
  have hI : Tabs w ∧ @XOk (rowsF r n f fun _ => noXR) w := ⟨hT, hO.xok0⟩
  by_cases hq : S.chk k = 0
  case neg =>
    have ev : letI := rowsF r n f fun _ => noXR; evK Tryd.prog ext (tab AR_) 100 47 (seqL [rp.getD 0 .skip, rp.getD 1 .skip, rp.getD 2 .skip, rp.getD 3 .skip, rp.getD 4 .skip]) (⟨argS [.xp [0] 0 0, .val k.agg, .val d.agg], fun _ => none, 0⟩) (grab Tryd.prog Tryd.f47 [0, 4, 5, 7, 15] [0, 1] 9) = some (.ret (.val (.int .i64 5))) := by
      match n, hn with
      | 0, _ => rw [rp0_0, decide_eq_false hq]; rfl
      | 1, _ => rw [rp0_1, decide_eq_false hq]; rfl
    refine pieceE _ (ctxF r n f) ev hI hr0 (fun v hv m' a' w' hd hres hb => ?_) (fun ex d hd => by cases hd)
    cases hv
    rw [@den_val (rowsF r n f fun _ => noXR)] at hres
    exact ⟨hd, _, hres, 5, r, n, f, .bad hq, rfl, rfl, hO.bel hb, Fr.of hb, fun b hb => .inl hb⟩
  case pos =>
  have old : ∀ b : Bool, b = (Nat.beq n 1 && keq (f 0).1 k) → letI := rowsF r n f fun _ => noXR; evK Tryd.prog ext (tab AR_) 100 47 (seqL [rp.getD 0 .skip, rp.getD 1 .skip, rp.getD 2 .skip, rp.getD 3 .skip, rp.getD 4 .skip]) (⟨argS [.xp [0] 0 0, .val k.agg, .val d.agg], fun _ => none, 0⟩) (grab Tryd.prog Tryd.f47 [0, 4, 5, 7, 15] [0, 1] 9) = some (RpCut k d (bif b then 0 else -1) b) := fun b hb => by
    match n, hn with
    | 0, _ =>
      have hb : b = false := hb
      subst hb
      rw [rp0_0, decide_eq_true hq]; rfl
    | 1, _ =>
      have hb : b = keq (f 0).1 k := hb
      rw [rp0_1, decide_eq_true hq, ← hb]
      cases b <;> rfl
  generalize hbq : (Nat.beq n 1 && keq (f 0).1 k) = b at old
  refine pieceE _ (ctxF r n f) (old b rfl) hI hr0 (fun v hv => by cases hv) (fun ex c hc m a1 w1 hr => ?_)
  cases hc
  have hb1 := SR.bel hr
  have ⟨hg4, hw4⟩ := SR.own (b := 0) (l := k.list) (ty := 34) hr rfl
  have ⟨hg5, hw5⟩ := SR.own (b := 1) (l := d.list) (ty := 40) hr rfl
  have K1 : Kp 47 [(0, pt r.rb), (4, pt (m 0)), (5, pt (m 1)), (7, .int .i64 (bif b then 0 else -1)), (15, .bool b)] a1 := SR.kp hr fun p hp => by
    simp only [List.mem_cons, List.not_mem_nil, or_false] at hp
    rcases hp with rfl | rfl | rfl | rfl | rfl
    · exact ⟨rfl, den_r0 _ _⟩
    · exact ⟨rfl, @den_ptr (rowsF r n f fun _ => noXR) _ _ _⟩
    · exact ⟨rfl, @den_ptr (rowsF r n f fun _ => noXR) _ _ _⟩
    · exact ⟨rfl, @den_val (rowsF r n f fun _ => noXR) _ _⟩
    · exact ⟨rfl, @den_val (rowsF r n f fun _ => noXR) _ _⟩
  generalize m 0 = kb at hg4 hw4 K1
  generalize m 1 = db at hg5 hw5 K1
  have hO1 := hO.bel hb1
  have s1 := hb1.size
  cases b with
  | true =>
    rw [Bool.and_eq_true] at hbq
    obtain ⟨hn1, hkq⟩ := hbq
    have hn1 : n = 1 := Nat.eq_of_beq_eq_true hn1
    subst hn1
    refine wp_cond_true (K1.get (d := 15) (by simp)) ?_
    refine wpL_flat _ ?_
    rw [rp5_eq]
    refine rp5_reg hO1 hw4 hw5 (K1.sub (by simp)) fun a4 w4 K4 hO4 hg4 => ?_
    show wpL Tryd.prog [_, _] _ a4 w4
    refine pieceZ rp6_v (K4.sr w4) (fun v hv m' a' w' hd hres hb' => ?_) (fun ex d hd => by cases hd)
    cases hv
    rw [@den_val row0] at hres
    exact ⟨hd, _, hres, 0, r, 1, _, .old hq rfl hkq, rfl, rfl, hO4.bel hb', ((Fr.of hb1).trans (Fr.grown hg4 (S := r.blk 1) fun k hk => .inr hk) fun k hk => .inl hk).trans (Fr.of hb' (S := r.blk 1)) (fun k hk => .inl hk), fun b hb => .inl hb⟩
  | false =>
    have hkq : n = 1 → keq (f 0).1 k = false := fun h => by
      subst h
      exact hbq
    refine wp_cond_false (K1.get (d := 15) (by simp)) (wp_skip ?_)
    show wpL Tryd.prog [.region 7 rp7 true, .region 8 rp8 false, rp.getD 8 .skip, .ret] _ a1 w1
    refine rp7_reg hO1 hw4 hw5 (by omega) (by omega) (K1.sub (by simp)) fun a4 w4 A c K4 hb4 hr4 hf4 hA => ?_
    refine rp8_reg (m := 0) hb4 hr4 (by omega) K4 fun a5 w5 K5 hb5 hr5 hg5 => ?_
    show wpL Tryd.prog [_, _] _ a5 w5
    refine pieceZ rp9_v (K5.sr w5) (fun v hv m' a' w' hd hres hb' => ?_) (fun ex d hd => by cases hd)
    cases hv
    rw [@den_val row0] at hres
    refine ⟨hd, _, hres, 0, ⟨r.rb, A, c⟩, n + 1, _, .new hq hkq, rfl, rfl, ⟨own_bel hb5 hb', own_bel hr5 hb'⟩, (((Fr.of hb1).trans (S' := r.blk n) hf4 fun k hk => .inl hk).trans (Fr.grown hg5 (S := r.blk n) fun k hk => .inl (by cases hk; rfl)) fun k hk => .inl hk).trans (Fr.of hb' (S := r.blk n)) (fun k hk => .inl hk), fun b hb => ?_⟩
    rcases hb with hb | hb
    · exact .inl (.inl hb)
    · rcases hA with h | ⟨g, h1, h2⟩
      · exact .inl (.inr (h ▸ hb))
      · have : some g = some b := h1.symm.trans hb
        cases this
        exact .inr (by omega)
end
end Go.Proofs.YtbpdpnoekkkapaaDoor.PDescKinds
end
section
namespace Go.Proofs.YtbpdpnoekkkapaaDoor.PDescKinds
open Go.RowKit Go.Ev Go.Proofs.YtbpdpnoekkkapaaDoorV.PrintLast
set_option maxRecDepth 100000
noncomputable def rq : List Code := bodyOf Tryd.f51
noncomputable def rqR : List Code := flat (roundOf rq)
noncomputable def rq5 : Array Oper := opsOf (inB (rqR.getD 2 .skip))
theorem rq_eq : rq = [rq.getD 0 .skip, rq.getD 1 .skip, rq.getD 2 .skip] ++ [.block 0 (.loop (roundOf rq)), rq.getD 4 .skip, .ret] := by kernel_rfl
theorem rqR_eq : rqR = [rqR.getD 0 .skip, rqR.getD 1 .skip] ++ [.block 1 (.region 5 rq5 true), rqR.getD 3 .skip] := by kernel_rfl
theorem rq5_size : rq5.size = 21 := by kernel_rfl
theorem rq0 (rb : Nat) : letI := row0
    evK Tryd.prog ext (tab []) 60 35 (seqL [rq.getD 0 .skip, rq.getD 1 .skip, rq.getD 2 .skip]) (⟨argS ([pt rb].map SV.val), fun _ => none, 0⟩) (grab Tryd.prog Tryd.f51 [0, 3, 4] [] 0) = some (Res.cut Ex.normal ⟨[(0, .val (pt rb)), (3, .val (.slice none 0 0)), (4, .val (.int .i64 0))], []⟩) := by kernel_rfl
theorem rq3 (r : Rf) (n : Nat) (f : Nat → K × D) (a : Value) (i : Nat) : letI := rowsF r n f fun _ => noXR
    evK Tryd.prog ext (tab []) 60 35 (seqL [rqR.getD 0 .skip, rqR.getD 1 .skip]) ((⟨[(0, .xp [0] 0 0), (3, .val a), (4, .val (.int .i64 (i : Int)))], []⟩ : Cut).st 0) (grab Tryd.prog Tryd.f51 [0, 3, 4] [] 0) =
    bif decide ((i : Int) < (n : Int)) then some (Res.cut Ex.normal ⟨[(0, .xp [0] 0 0), (3, .val a), (4, .val (.int .i64 (i : Int)))], []⟩) else some (Res.cut (Ex.exit 0) ⟨[(0, .xp [0] 0 0), (3, .val a), (4, .val (.int .i64 (i : Int)))], []⟩) := by kernel_rfl
abbrev l18 : Array Bool := #[true, true, true, true, true, true, true, true, true, true, true, true, true, true, true, true, true, true, false, false, false]
theorem rq5_v (r : Rf) (f : Nat → K × D) (a : Value) : ∀ n i, i < n → n ≤ 2 → letI := rowsF r n f fun _ => noXR
    (takesL Tryd.prog rq5 [] 35 [0, 1, 2, 3, 4, 5, 6, 7, 8, 9, 10, 11, 12, 13, 14, 15, 16, 17] (pickT [(0, .xp [0] 0 0), (3, .val a), (4, .val (.int .i64 (i : Int)))]) (Array.replicate 21 false)).map (fun p => ([0, 4, 14, 31].map p.1, p.2)) =
    some ([.xp [0] 0 0, .val (.int .i64 (i : Int)), .val a, .val (.agg (plist (f i)).toArray)], l18)
  | 1, 0, _, _ => by kernel_rfl
  | 2, 0, _, _ => by kernel_rfl
  | 2, 1, _, _ => by kernel_rfl
  | 0, _, h, _ => absurd h (Nat.not_lt_zero _)
  | 1, j + 1, h, _ => absurd h (by omega)
  | 2, j + 2, h, _ => absurd h (by omega)
  | n + 3, _, _, h => absurd h (by omega)
theorem rq5_18 (p : K × D) : letI := row0
    evOp Tryd.prog ext (fun _ _ _ _ => none) (Ev.look (pickT ([(31, Value.agg (plist p).toArray)].map fun p => (p.1, SV.val p.2)))) (fun _ => none) 0 (rq5.toList.getD 18 default) = some (.slc 0 0 1 1, .new ⟨54, (plist p).map SV.val⟩) := by kernel_rfl
theorem rq5_20 (A : Option Addr) (n c : Nat) : letI := row0
    evP Tryd.prog (Ev.look (pickT ([(33, Value.slice A n c)].map fun p => (p.1, .val p.2)))) (rq5.toList.getD 20 default) = some (.val (.slice A n c)) := by kernel_rfl
theorem rq4 (a b : Value) (i : Nat) : letI := row0
    evK Tryd.prog ext (tab []) 60 35 (seqL [rqR.getD 3 .skip]) ((⟨[(0, .val a), (3, .val b), (4, .val (.int .i64 (i : Int)))], []⟩ : Cut).st 0) (grab Tryd.prog Tryd.f51 [0, 3, 4] [] 0) = some (Res.cut Ex.normal ⟨[(0, .val a), (3, .val b), (4, .val (.int .i64 (IntKind.i64.wrap ((i : Int) + 1))))], []⟩) := by kernel_rfl
theorem rq6 (a : Value) : letI := row0
    evK Tryd.prog ext (tab []) 60 35 (seqL [rq.getD 4 .skip, .ret]) ((⟨[(3, .val a)], []⟩ : Cut).st 0) (grab Tryd.prog Tryd.f51 [] [] 0) = some (Res.ret (.val a)) := by kernel_rfl
theorem kp3 {e : XEnv} {N : Nat} {m : Nat → Nat} {a' : Act} {w w' : World} {next : Nat} {x : SV} {b c v : Value} {bs : List (Nat × Blk)} (hv : @SV.den e m x = v) (hx : x.known = true) (hr : @SR e w N m ((⟨[(0, x), (3, .val b), (4, .val c)], bs⟩ : Cut).st next) a' w') : Kp N [(0, v), (3, b), (4, c)] a' := SR.kp hr fun p hp => by
  simp only [List.mem_cons, List.not_mem_nil, or_false] at hp
  rcases hp with rfl | rfl | rfl
  · exact ⟨hx, hv⟩
  · exact ⟨rfl, @den_val e _ _⟩
  · exact ⟨rfl, @den_val e _ _⟩
section
variable {B n : Nat} {w w' : World} {r : Rf} {f : Nat → K × D} {a : Act}
theorem hsR {ts : List (Nat × Value)} {b c : Value} (h0 : (0, pt r.rb) ∈ ts) (h3 : (3, b) ∈ ts) (h4 : (4, c) ∈ ts) : letI := rowsF r n f fun _ => noXR; ∀ p ∈ [(0, SV.xp [0] 0 0), (3, .val b), (4, .val c)], (p.1, p.2.den fun _ => 0) ∈ ts ∧ p.2.ok fun _ => none := by
  intro p hp
  simp only [List.mem_cons, List.not_mem_nil, or_false] at hp
  rcases hp with rfl | rfl | rfl
  · exact ⟨by rw [den_r0]; exact h0, ok_r0 _ _⟩
  · exact ⟨by rw [@den_val (rowsF r n f fun _ => noXR)]; exact h3, @ok_val (rowsF r n f fun _ => noXR) _ _⟩
  · exact ⟨by rw [@den_val (rowsF r n f fun _ => noXR)]; exact h4, @ok_val (rowsF r n f fun _ => noXR) _ _⟩
set_option maxHeartbeats 1000000 in
theorem RProps.loop {b : Nat} {w0 : World} {Q : Exit → Act → World → Prop} (hn : n ≤ 2) (hw0 : w0.heap.size ≤ b)
    (hQ : ∀ a w A' c', Kp 35 [(3, .slice A' n c')] a → w.ownsRow b 54 20 (.slice A' n c') n ((List.range n).flatMap fun i => plist (f i)) → Below w0.heap.size w0 w → Q (.exit 0) a w) :
    ∀ (s i : Nat) (a : Act) (w : World) (A' : Option Addr) (c' : Nat), i + s = n → Kp 35 [(0, pt r.rb), (3, .slice A' i c'), (4, .int .i64 (i : Int))] a → OwnR B w r n f →
      w.ownsRow b 54 20 (.slice A' i c') i ((List.range i).flatMap fun i => plist (f i)) → b ≤ w.heap.size → Below w0.heap.size w0 w → Code.rounds Tryd.prog (roundOf rq) Q (s + 1) a w := by
  intro s
  induction s with
  | zero =>
    intro i a w A' c' hi hk hO hK hb hbel
    obtain rfl : i = n := by omega
    rw [rounds_succ]
    refine wpL_flat _ ?_
    show wpL Tryd.prog rqR _ _ _
    rw [rqR_eq, wpL_app]
    have ev := rq3 r i f (.slice A' i c') i
    rw [decide_eq_false (by omega : ¬ (i : Int) < (i : Int))] at ev
    refine pieceE _ (ctxF0 r i f) ev hO.xok0 (epochE _ hk (hsR (by simp) (by simp) (by simp))) (fun v hv => by cases hv) (fun ex d hd m1 a1 w1 hr => ?_)
    cases hd
    have hb1 := SR.bel hr
    exact hQ a1 w1 A' c' ((kp3 (den_r0 _ _) rfl hr).sub (by simp)) (own_bel hK hb1) (hbel.trans (hb1.mono hbel.size))
  | succ s ih =>
    intro i a w A' c' hi hk hO hK hb hbel
    rw [rounds_succ]
    refine wpL_flat _ ?_
    show wpL Tryd.prog rqR _ _ _
    rw [rqR_eq, wpL_app]
    have ev := rq3 r n f (.slice A' i c') i
    rw [decide_eq_true (by omega : (i : Int) < (n : Int))] at ev
    refine pieceE _ (ctxF0 r n f) ev hO.xok0 (epochE _ hk (hsR (by simp) (by simp) (by simp))) (fun v hv => by cases hv) (fun ex d hd m1 a1 w1 hr1 => ?_)
    cases hd
    have hb1 := SR.bel hr1
    have K1 := kp3 (den_r0 _ _) rfl hr1
    have hO1 := hO.bel hb1
    have hK1 := own_bel hK hb1
    have s1 := hb1.size
    refine wp_block ?_
    refine region_last (fun w' => @XOk (rowsF r n f fun _ => noXR) w') [] ?_
    rw [rq5_size]
    have hO2 := drew_ownR hO1
    have hb2 : Below w.heap.size w { w1 with drawn := w1.drawn + 1 } := hb1.trans ((drew_bel w1).mono s1)
    have hK2 : ({ w1 with drawn := w1.drawn + 1 } : World).ownsRow b 54 20 (.slice A' i c') i ((List.range i).flatMap fun i => plist (f i)) := hK1
    have s2 : w.heap.size ≤ ({ w1 with drawn := w1.drawn + 1 } : World).heap.size := s1
    generalize ({ w1 with drawn := w1.drawn + 1 } : World) = w2 at hO2 hb2 hK2 s2 ⊢
    show wpAnyLast Tryd.prog .any rq5 _ _ _ ([0, 1, 2, 3, 4, 5, 6, 7, 8, 9, 10, 11, 12, 13, 14, 15, 16, 17].length + 3) (Array.replicate 21 false) a1 _
    refine take_kp (e := rowsF r n f fun _ => noXR) (us := [pt r.rb, .int .i64 (i : Int), .slice A' i c', .agg (plist (f i)).toArray]) (fun w h => h) (by kernel_rfl) (rq5_v r f (.slice A' i c') n i (by omega) hn) K1 (hsR (by simp) (by simp) (by simp)) ?_ (by kernel_rfl) hO2.xok0 fun a3 K3 => ?_
    · simp only [List.map_cons, List.map_nil, @den_val (rowsF r n f fun _ => noXR), den_r0]
    have K3 : Kp 35 [(0, pt r.rb), (4, .int .i64 (i : Int)), (14, .slice A' i c'), (31, .agg (plist (f i)).toArray)] a3 := K3
    refine wpAnyLast_one (i := 18) (l' := #[true, true, true, true, true, true, true, true, true, true, true, true, true, true, true, true, true, true, true, false, false]) (by kernel_rfl) (ops_get rq5_size 18 (by decide)) (by kernel_rfl) (by kernel_rfl) ?_
    refine build1 (RP.ar_none (us := [(31, .agg (plist (f i)).toArray)]) K3 (by simp) w2) (rq5_18 _) fun g w4 b4 hg4 hw4 => ?_
    have hO4 := hO2.bel b4
    refine ⟨fun _ _ => hO4.xok0, ?_⟩
    rw [show (rq5.toList.getD 18 default).dst = some 32 by kernel_rfl]
    have K4 := K3.put (d := 32) (v := .slice (some ⟨g, 0, none⟩) 1 1) rfl
    generalize a3.put (some 32) (.slice (some ⟨g, 0, none⟩) 1 1) = a4 at K4 ⊢
    have s4 := b4.size
    have hK4 := own_bel hK2 b4
    refine wpAnyLast_one (i := 19) (l' := #[true, true, true, true, true, true, true, true, true, true, true, true, true, true, true, true, true, true, true, true, false]) (by kernel_rfl) (ops_get rq5_size 19 (by decide)) (by kernel_rfl) (by kernel_rfl) ?_
    obtain ⟨i54, z54, q1, q2, q3, q4, q5⟩ := info54
    have hM : maxLen = 9223372036854775807 := by decide +kernel
    refine wp_append_fresh (.tmp 14) (.tmp 32) 25 (by kernel_rfl) b 54 i54 z54 20 192 und25 q1 q2 q3 q4 q5 (by decide) (.slice A' i c') i _ (K4.get (by simp)) hK4 ⟨g, 0, none⟩ 1 1 (plist (f i)) (K4.get (by simp)) rfl (fun j u hu => ?_) (plist_one _) (by omega) (by omega) (by omega) fun u w5 hown hgr hfr => ?_
    · rw [add_none, cell_of_row w4 g _ _ 54 (0, 0) hw4]
      simpa using hu
    have hO5 : OwnR B w5 r n f := ⟨grown_row hO4.box hgr fun g' hg' e => own_ne hK4 hO4.box (by decide) e hg', grown_row hO4.row hgr fun g' hg' e => own_ne hK4 hO4.row (by decide) e hg'⟩
    refine ⟨fun _ _ => hO5.xok0, ?_⟩
    rw [show (rq5.toList.getD 19 default).dst = some 33 by kernel_rfl]
    have hu := (own_slice hown).1
    generalize slA u = A5 at hu
    generalize slC u = c5 at hu
    subst hu
    have K5 := K4.put (d := 33) (v := .slice A5 (i + 1) c5) rfl
    generalize a4.put (some 33) (.slice A5 (i + 1) c5) = a5 at K5 ⊢
    refine wpAnyLast_one (i := 20) (l' := Array.replicate 21 true) (by kernel_rfl) (ops_get rq5_size 20 (by decide)) (by kernel_rfl) (by kernel_rfl) ?_
    refine op_val (us := [(33, .slice A5 (i + 1) c5)]) (d := 3) K5 (by simp) (rq5_20 A5 (i + 1) c5) (by kernel_rfl) ⟨fun _ h => h, ?_⟩
    have K6 := K5.put (d := 3) (v := .slice A5 (i + 1) c5) rfl
    generalize a5.put (some 3) (.slice A5 (i + 1) c5) = a6 at K6 ⊢
    refine wpAnyLast_done (by kernel_rfl) ?_ 0
    show wpL Tryd.prog [rqR.getD 3 .skip] _ a6 w5
    refine pieceZ (rq4 (pt r.rb) (.slice A5 (i + 1) c5) i) ((K6.sub (us := [(0, pt r.rb), (3, .slice A5 (i + 1) c5), (4, .int .i64 (i : Int))]) (by simp)).sr w5) (fun v hv => by cases hv) (fun ex d hd m7 a7 w7 hr7 => ?_)
    cases hd
    have K7 := kp3 (@den_val row0 _ _) rfl hr7
    rw [wrb (show i < n by omega) (by omega)] at K7
    have hb7 := SR.bel hr7
    have s5 := hgr.size
    have hb5 : Below w0.heap.size w4 w5 := ⟨hgr.os, hgr.tape, hgr.output, hgr.size, fun k hk => hgr.block k (by have := hbel.size; omega) (fun e => by have := (hK4.lt k e.symm).1; omega)⟩
    have hb04 : Below w0.heap.size w0 w4 := hbel.trans ((hb2.trans (b4.mono s2)).mono hbel.size)
    refine ih (i + 1) a7 w7 A5 c5 (by omega) K7 (hO5.bel hb7) ?_ (by have := hb7.size; omega) (hb04.trans (hb5.trans (hb7.mono (by have := hb04.size; omega))))
    rw [List.range_succ, List.flatMap_append]
    refine own_bel ?_ hb7
    simpa using hown
theorem RProps.calls (hn : n ≤ 2) (hO : OwnR B w r n f) : Calls Tryd.prog 51 #[pt r.rb] w fun e w' => ∃ A c, e = .returned (.slice A n c) ∧ Below w.heap.size w w' ∧ PropsR w.heap.size w' n f A c := by
  refine enter_vals (vs := [pt r.rb]) (N := 35) Tryd.func51 (by kernel_rfl) (by kernel_rfl) (show 1 ≤ 35 by decide) fun a0 h0 => ?_
  show wpL Tryd.prog rq _ _ _
  rw [rq_eq, wpL_app]
  refine pieceZ (rq0 r.rb) h0 (fun v hv => by cases hv) (fun ex d hd m a1 w1 hr => ?_)
  cases hd
  have hb1 := SR.bel hr
  have K1 := kp3 (@den_val row0 _ _) rfl hr
  refine wp_block (wp_loop_rounds (n + 1) ?_)
  refine RProps.loop (B := B) (r := r) (f := f) (b := w1.heap.size) (w0 := w) hn hb1.size (fun a6 w6 A' c' K6 hK6 hb6 => ?_) n 0 a1 w1 none 0 (by omega) K1 (hO.bel hb1) ⟨rfl, .inl ⟨rfl, rfl⟩⟩ (Nat.le_refl _) hb1
  show wpL Tryd.prog [rq.getD 4 .skip, .ret] _ a6 w6
  refine pieceZ (rq6 (.slice A' n c')) (K6.sr w6) (fun v hv m' a' w' hd hres hb' => ?_) (fun ex d hd => by cases hd)
  cases hv
  rw [@den_val row0] at hres
  exact ⟨hd, _, hres, A', c', rfl, hb6.trans (hb'.mono hb6.size), ⟨own_base (own_bel hK6 hb') hb1.size⟩⟩
end
end Go.Proofs.YtbpdpnoekkkapaaDoor.PDescKinds
end
section
namespace Go.Proofs.YtbpdpnoekkkapaaDoor.PDescKinds
open Go.RowKit Go.Ev Go.Proofs.YtbpdpnoekkkapaaDoorV.PrintLast
set_option maxRecDepth 100000
noncomputable def rk_ : List Code := bodyOf Tryd.f54
noncomputable def rkR : List Code := flat (roundOf rk_)
noncomputable def rk5 : Array Oper := opsOf (inB (rkR.getD 2 .skip))
noncomputable def rk6 : Array Oper := opsOf (rk_.getD 4 .skip)
theorem rk_eq : rk_ = [rk_.getD 0 .skip, rk_.getD 1 .skip, rk_.getD 2 .skip] ++ [.block 0 (.loop (roundOf rk_)), .region 6 rk6 false, .ret] := by kernel_rfl
theorem rkR_eq : rkR = [rkR.getD 0 .skip, rkR.getD 1 .skip] ++ [.block 1 (.region 5 rk5 false), rkR.getD 3 .skip] := by kernel_rfl
theorem rk5_eq : rk5.toList = rk5.toList.take 9 ++ [rk5.toList.getD 9 default, rk5.toList.getD 10 default, rk5.toList.getD 11 default] := by kernel_rfl
theorem rk6_eq : rk6.toList = [rk6.toList.getD 0 default, rk6.toList.getD 1 default, rk6.toList.getD 2 default] := by kernel_rfl
theorem rk0 (rb : Nat) : letI := row0
    evK Tryd.prog ext (tab []) 60 27 (seqL [rk_.getD 0 .skip, rk_.getD 1 .skip, rk_.getD 2 .skip]) (⟨argS ([pt rb].map SV.val), fun _ => none, 0⟩) (grab Tryd.prog Tryd.f54 [0, 3, 4] [] 0) = some (Res.cut Ex.normal ⟨[(0, .val (pt rb)), (3, .val (.slice none 0 0)), (4, .val (.int .i64 0))], []⟩) := by kernel_rfl
theorem rk3 (r : Rf) (n : Nat) (f : Nat → K × D) (a : Value) (i : Nat) : letI := rowsF r n f fun _ => noXR
    evK Tryd.prog ext (tab []) 60 27 (seqL [rkR.getD 0 .skip, rkR.getD 1 .skip]) ((⟨[(0, .xp [0] 0 0), (3, .val a), (4, .val (.int .i64 (i : Int)))], []⟩ : Cut).st 0) (grab Tryd.prog Tryd.f54 [0, 3, 4] [] 0) =
    bif decide ((i : Int) < (n : Int)) then some (Res.cut Ex.normal ⟨[(0, .xp [0] 0 0), (3, .val a), (4, .val (.int .i64 (i : Int)))], []⟩) else some (Res.cut (Ex.exit 0) ⟨[(0, .xp [0] 0 0), (3, .val a), (4, .val (.int .i64 (i : Int)))], []⟩) := by kernel_rfl
theorem rk5_v (r : Rf) (f : Nat → K × D) (a : Value) : ∀ n i, i < n → n ≤ 2 → letI := rowsF r n f fun _ => noXR
    (reads Tryd.prog 27 (rk5.toList.take 9) (pickT [(0, .xp [0] 0 0), (3, .val a), (4, .val (.int .i64 (i : Int)))])).map (fun p => ([0, 4, 14, 22].map p)) =
    some [.xp [0] 0 0, .val (.int .i64 (i : Int)), .val a, .val (f i).1.agg]
  | 1, 0, _, _ => by kernel_rfl
  | 2, 0, _, _ => by kernel_rfl
  | 2, 1, _, _ => by kernel_rfl
  | 0, _, h, _ => absurd h (Nat.not_lt_zero _)
  | 1, j + 1, h, _ => absurd h (by omega)
  | 2, j + 2, h, _ => absurd h (by omega)
  | n + 3, _, _, h => absurd h (by omega)
theorem rk5_9 (k : K) : letI := row0
    evOp Tryd.prog ext (fun _ _ _ _ => none) (Ev.look (pickT ([(22, k.agg)].map fun p => (p.1, SV.val p.2)))) (fun _ => none) 0 (rk5.toList.getD 9 default) = some (.slc 0 0 1 1, .new ⟨34, k.list.map SV.val⟩) := by kernel_rfl
theorem rk5_11 (v : Value) : letI := row0
    evP Tryd.prog (Ev.look (pickT [(24, .val v)])) (rk5.toList.getD 11 default) = some (.val v) := by kernel_rfl
theorem rk4 (a b : Value) (i : Nat) : letI := row0
    evK Tryd.prog ext (tab []) 60 27 (seqL [rkR.getD 3 .skip]) ((⟨[(0, .val a), (3, .val b), (4, .val (.int .i64 (i : Int)))], []⟩ : Cut).st 0) (grab Tryd.prog Tryd.f54 [0, 3, 4] [] 0) = some (Res.cut Ex.normal ⟨[(0, .val a), (3, .val b), (4, .val (.int .i64 (IntKind.i64.wrap ((i : Int) + 1))))], []⟩) := by kernel_rfl
theorem rk6_0 (v : Value) : letI := row0
    evP Tryd.prog (Ev.look (pickT [(3, .val v)])) (rk6.toList.getD 0 default) = some (.val v) := by kernel_rfl
theorem rk6_2 (v : Value) : letI := row0
    evP Tryd.prog (Ev.look (pickT [(26, .val v)])) (rk6.toList.getD 2 default) = some (.val v) := by kernel_rfl
theorem rk7 (a : Value) : letI := row0
    evK Tryd.prog ext (tab []) 60 27 (seqL [.ret]) ((⟨[(2, .val a)], []⟩ : Cut).st 0) (grab Tryd.prog Tryd.f54 [] [] 0) = some (Res.ret (.val a)) := by kernel_rfl
section
variable {B n : Nat} {w w' : World} {r : Rf} {f : Nat → K × D} {a : Act}
set_option maxHeartbeats 1000000 in
theorem RKeys.loop {b : Nat} {w0 : World} {Q : Exit → Act → World → Prop} (hn : n ≤ 2) (hw0 : w0.heap.size ≤ b)
    (hQ : ∀ a w A' c', Kp 27 [(3, .slice A' n c')] a → w.ownsRow b 34 2 (.slice A' n c') n ((List.range n).flatMap fun i => (f i).1.list) → Below w0.heap.size w0 w → Q (.exit 0) a w) :
    ∀ (s i : Nat) (a : Act) (w : World) (A' : Option Addr) (c' : Nat), i + s = n → Kp 27 [(0, pt r.rb), (3, .slice A' i c'), (4, .int .i64 (i : Int))] a → OwnR B w r n f →
      w.ownsRow b 34 2 (.slice A' i c') i ((List.range i).flatMap fun i => (f i).1.list) → b ≤ w.heap.size → Below w0.heap.size w0 w → Code.rounds Tryd.prog (roundOf rk_) Q (s + 1) a w := by
  intro s
  induction s with
  | zero =>
    intro i a w A' c' hi hk hO hK hb hbel
    obtain rfl : i = n := by omega
    rw [rounds_succ]
    refine wpL_flat _ ?_
    show wpL Tryd.prog rkR _ _ _
    rw [rkR_eq, wpL_app]
    have ev := rk3 r i f (.slice A' i c') i
    rw [decide_eq_false (by omega : ¬ (i : Int) < (i : Int))] at ev
    refine pieceE _ (ctxF0 r i f) ev hO.xok0 (epochE _ hk (hsR (by simp) (by simp) (by simp))) (fun v hv => by cases hv) (fun ex d hd m1 a1 w1 hr => ?_)
    cases hd
    have hb1 := SR.bel hr
    exact hQ a1 w1 A' c' ((kp3 (den_r0 _ _) rfl hr).sub (by simp)) (own_bel hK hb1) (hbel.trans (hb1.mono hbel.size))
  | succ s ih =>
    intro i a w A' c' hi hk hO hK hb hbel
    rw [rounds_succ]
    refine wpL_flat _ ?_
    show wpL Tryd.prog rkR _ _ _
    rw [rkR_eq, wpL_app]
    have ev := rk3 r n f (.slice A' i c') i
    rw [decide_eq_true (by omega : (i : Int) < (n : Int))] at ev
    refine pieceE _ (ctxF0 r n f) ev hO.xok0 (epochE _ hk (hsR (by simp) (by simp) (by simp))) (fun v hv => by cases hv) (fun ex d hd m1 a1 w1 hr1 => ?_)
    cases hd
    have hb1 := SR.bel hr1
    have K1 := kp3 (den_r0 _ _) rfl hr1
    have hO1 := hO.bel hb1
    have hK1 := own_bel hK hb1
    have s1 := hb1.size
    refine wp_block ?_
    refine wp_region_list ?_
    rw [rk5_eq]
    refine read_kp (e := rowsF r n f fun _ => noXR) (us := [pt r.rb, .int .i64 (i : Int), .slice A' i c', (f i).1.agg]) hO1.xok0 (rk5_v r f (.slice A' i c') n i (by omega) hn) K1 (hsR (by simp) (by simp) (by simp)) ?_ (by kernel_rfl) fun a3 K3 => ?_
    · simp only [List.map_cons, List.map_nil, @den_val (rowsF r n f fun _ => noXR), den_r0]
    have K3 : Kp 27 [(0, pt r.rb), (4, .int .i64 (i : Int)), (14, .slice A' i c'), (22, (f i).1.agg)] a3 := K3
    refine wpList_plain (by kernel_rfl) fun KK hK' => ?_
    refine build1 (RP.ar_none (us := [(22, (f i).1.agg)]) K3 (by simp) w1) (rk5_9 _) fun g w4 b4 hg4 hw4 => hK' _ _ ?_
    clear KK hK'
    have hO4 := hO1.bel b4
    rw [show (rk5.toList.getD 9 default).dst = some 23 by kernel_rfl]
    have K4 := K3.put (d := 23) (v := .slice (some ⟨g, 0, none⟩) 1 1) rfl
    generalize a3.put (some 23) (.slice (some ⟨g, 0, none⟩) 1 1) = a4 at K4 ⊢
    have s4 := b4.size
    have hK4 := own_bel hK1 b4
    obtain ⟨i54, z54, q1, q2, q3, q4, q5⟩ := infoK
    have hM : maxLen = 9223372036854775807 := by decide +kernel
    refine wpList_plain (by kernel_rfl) fun KK hK' => ?_
    refine wp_append_fresh (.tmp 14) (.tmp 23) 49 (by kernel_rfl) b 34 i54 z54 2 24 und49 q1 q2 q3 q4 q5 (by decide) (.slice A' i c') i _ (K4.get (by simp)) hK4 ⟨g, 0, none⟩ 1 1 (f i).1.list (K4.get (by simp)) rfl (fun j u hu => ?_) (K.one _) (by omega) (by omega) (by omega) fun u w5 hown hgr hfr => hK' _ _ ?_
    · rw [add_none, cell_of_row w4 g _ _ 34 (0, 0) hw4]
      simpa using hu
    clear KK hK'
    have hO5 : OwnR B w5 r n f := ⟨grown_row hO4.box hgr fun g' hg' e => own_ne hK4 hO4.box (by decide) e hg', grown_row hO4.row hgr fun g' hg' e => own_ne hK4 hO4.row (by decide) e hg'⟩
    rw [show (rk5.toList.getD 10 default).dst = some 24 by kernel_rfl]
    have hu := (own_slice hown).1
    generalize slA u = A5 at hu
    generalize slC u = c5 at hu
    subst hu
    have K5 := K4.put (d := 24) (v := .slice A5 (i + 1) c5) rfl
    generalize a4.put (some 24) (.slice A5 (i + 1) c5) = a5 at K5 ⊢
    refine one_evL (e := row0) (by kernel_rfl) (xok_0 _) K5 (fun q hq => ?_) (rk5_11 (.slice A5 (i + 1) c5)) (d := 3) (by kernel_rfl) (by kernel_rfl) fun a6 K6 => ?_
    · obtain rfl := List.mem_singleton.1 hq
      exact ⟨by rw [@den_val row0]; simp, @ok_val row0 _ _⟩
    rw [@den_val row0] at K6
    show wpL Tryd.prog [rkR.getD 3 .skip] _ a6 w5
    refine pieceZ (rk4 (pt r.rb) (.slice A5 (i + 1) c5) i) ((K6.sub (us := [(0, pt r.rb), (3, .slice A5 (i + 1) c5), (4, .int .i64 (i : Int))]) (by simp)).sr w5) (fun v hv => by cases hv) (fun ex d hd m7 a7 w7 hr7 => ?_)
    cases hd
    have K7 := kp3 (@den_val row0 _ _) rfl hr7
    rw [wrb (show i < n by omega) (by omega)] at K7
    have hb7 := SR.bel hr7
    have s5 := hgr.size
    have hb5 : Below w0.heap.size w4 w5 := ⟨hgr.os, hgr.tape, hgr.output, hgr.size, fun k hk => hgr.block k (by have := hbel.size; omega) (fun e => by have := (hK4.lt k e.symm).1; omega)⟩
    have hb04 : Below w0.heap.size w0 w4 := hbel.trans ((hb1.trans (b4.mono s1)).mono hbel.size)
    refine ih (i + 1) a7 w7 A5 c5 (by omega) K7 (hO5.bel hb7) ?_ (by have := hb7.size; omega) (hb04.trans (hb5.trans (hb7.mono (by have := hb04.size; omega))))
    rw [List.range_succ, List.flatMap_append]
    refine own_bel ?_ hb7
    simpa using hown
theorem RKeys.calls (hn : n ≤ 2) (hO : OwnR B w r n f) (hk : ∀ i, i < n → S.chk (f i).1 = 0) : Calls Tryd.prog 54 #[pt r.rb] w fun e w' => ∃ A c, e = .returned (.slice A n c) ∧ Below w.heap.size w w' ∧ w'.ownsRow w.heap.size 34 2 (.slice A n c) n ((List.range n).flatMap fun i => (S.ordF n (fun j => (f j).1) i).list) := by
  refine enter_vals (vs := [pt r.rb]) (N := 27) Tryd.func54 (by kernel_rfl) (by kernel_rfl) (show 1 ≤ 27 by decide) fun a0 h0 => ?_
  show wpL Tryd.prog rk_ _ _ _
  rw [rk_eq, wpL_app]
  refine pieceZ (rk0 r.rb) h0 (fun v hv => by cases hv) (fun ex d hd m a1 w1 hr => ?_)
  cases hd
  have hb1 := SR.bel hr
  have K1 := kp3 (@den_val row0 _ _) rfl hr
  refine wp_block (wp_loop_rounds (n + 1) ?_)
  refine RKeys.loop (B := B) (r := r) (f := f) (b := w1.heap.size) (w0 := w) hn hb1.size (fun a6 w6 A' c' K6 hK6 hb6 => ?_) n 0 a1 w1 none 0 (by omega) K1 (hO.bel hb1) ⟨rfl, .inl ⟨rfl, rfl⟩⟩ (Nat.le_refl _) hb1
  show wpL Tryd.prog [.region 6 rk6 false, .ret] _ a6 w6
  refine wp_region_list ?_
  rw [rk6_eq]
  refine one_evL (e := row0) (by kernel_rfl) (xok_0 _) K6 (fun q hq => ?_) (rk6_0 (.slice A' n c')) (d := 25) (by kernel_rfl) (by kernel_rfl) fun a7 K7 => ?_
  · obtain rfl := List.mem_singleton.1 hq
    exact ⟨by rw [@den_val row0]; simp, @ok_val row0 _ _⟩
  rw [@den_val row0] at K7
  refine wpList_plain (by kernel_rfl) fun KK hK => ?_
  refine call_op (f := 67) (ats := #[49]) (xs := #[.tmp 25]) (vs := #[.slice A' n c']) (by kernel_rfl) (by kernel_rfl) (by
    have : a7.eval (.tmp 25) = .slice A' n c' := K7.get (by simp)
    simp [this]) (RefOrder.calls (f := fun j => (f j).1) hK6 hn hk) (fun e w' he => by obtain ⟨A', c', rfl, _⟩ := he; exact ⟨_, rfl⟩) fun v w8 he => hK _ _ ?_
  obtain ⟨A9, c9, hv, hb8, hown8⟩ := he
  cases hv
  clear hK KK
  rw [show (rk6.toList.getD 1 default).dst = some 26 by kernel_rfl]
  have K8 := K7.put (d := 26) (v := .slice A9 n c9) rfl
  generalize a7.put (some 26) (.slice A9 n c9) = a8 at K8 ⊢
  refine one_evL (e := row0) (by kernel_rfl) (xok_0 _) K8 (fun q hq => ?_) (rk6_2 (.slice A9 n c9)) (d := 2) (by kernel_rfl) (by kernel_rfl) fun a9 K9 => ?_
  · obtain rfl := List.mem_singleton.1 hq
    exact ⟨by rw [@den_val row0]; simp, @ok_val row0 _ _⟩
  rw [@den_val row0] at K9
  show wpL Tryd.prog [.ret] _ a9 w8
  refine pieceZ (rk7 (.slice A9 n c9)) ((K9.sub (us := [(2, .slice A9 n c9)]) (by simp)).sr w8) (fun v hv m' a' w' hd hres hb' => ?_) (fun ex d hd => by cases hd)
  cases hv
  rw [@den_val row0] at hres
  have s6 := hb6.size
  exact ⟨hd, _, hres, A9, c9, rfl, hb6.trans ((hb8.trans (hb'.mono hb8.size)).mono s6), own_base (own_bel hown8 hb') s6⟩
end
end Go.Proofs.YtbpdpnoekkkapaaDoor.PDescKinds
end
section
namespace Go.Proofs.YtbpdpnoekkkapaaDoor.PDescKinds
open Go.RowKit Go.Ev Go.Proofs.YtbpdpnoekkkapaaDoorV.PrintLast
set_option maxRecDepth 100000
def obsS (ts bs : List Nat) : St → Option (List SV × List (Option Blk)) := fun st => some (ts.map st.tmps, bs.map st.mem)
theorem opsO (e : XEnv) {G : GFn} {I : World → Prop} (C : @Ctx e Tryd.prog ext G I) {os : Array Oper} {N k : Nat} {l rest : List Oper} {st : St} {ts bs : List Nat} {vs : List SV} {ks : List (Option Blk)} {m : Nat → Nat} {a : Act} {w0 w : World} {Q : Exit → Act → World → Prop}
    (h : @evOpsK e _ Tryd.prog ext (callWithK Tryd.prog G (@evK e _ Tryd.prog ext G k)) os N l st (obsS ts bs) = some (vs, ks)) (hI : I w0) (hr : @SR e w0 N m st a w)
    (hk : ∀ m' st' a' w', @SR e w0 N m' st' a' w' → ts.map st'.tmps = vs → bs.map st'.mem = ks → wpList Tryd.prog os Q rest a' w') : wpList Tryd.prog os Q (l ++ rest) a w := by
  letI := e
  rw [evOpsK_eq (callWithK_eq (fun N c st κ => evK_eq k N c st κ))] at h
  obtain ⟨st', h1, h2⟩ := Option.bind_eq_some_iff.1 h
  simp only [obsS, Option.some.injEq, Prod.mk.injEq] at h2
  exact opsR_sound C.hX hI C.hs C.hXO (call_sound C.hs C.hG (ev_sound C.mix C.hX C.hs C.hXO C.hG k).1) l st st' m a w h1 hr fun m' a' w' hr' => hk m' st' a' w' hr' h2.1 h2.2
def bsFrom (i : Nat) : List (Nat × List Value) → List (Nat × Blk)
  | [] => []
  | p :: r => (i, ⟨p.1, p.2.map SV.val⟩) :: bsFrom (i + 1) r
theorem pickM_from : ∀ (bl : List (Nat × List Value)) (i b : Nat), pickM (bsFrom i bl) b = if b < i then none else (bl[b - i]?).map fun p => ⟨p.1, p.2.map SV.val⟩
  | [], i, b => by simp [bsFrom, pickM]
  | p :: r, i, b => by
    show (bif Nat.beq b i then some ⟨p.1, p.2.map SV.val⟩ else pickM (bsFrom (i + 1) r) b) = _
    by_cases h : b = i
    · subst h
      rw [Nat.beq_refl]
      simp
    · rw [show Nat.beq b i = false by cases hb : Nat.beq b i with | false => rfl | true => exact absurd (Nat.eq_of_beq_eq_true hb) h, cond_false, pickM_from r (i + 1) b]
      by_cases h1 : b < i
      · rw [if_pos h1, if_pos (by omega)]
      · rw [if_neg h1, if_neg (by omega), show b - i = (b - (i + 1)) + 1 by omega, List.getElem?_cons_succ]
structure Own6 (w0 w : World) (g : Nat → Nat) (bl : List (Nat × List Value)) : Prop where
  below : Below w0.heap.size w0 w
  at_ : ∀ b p, bl[b]? = some p → w0.heap.size ≤ g b ∧ w.heap[g b]? = some (.cells p.2.toArray p.1 (0, 0))
  inj : ∀ b b', b < bl.length → b' < bl.length → g b = g b' → b = b'
theorem Own6.sr (e : XEnv) {N : Nat} {a : Act} {w0 w : World} {g : Nat → Nat} {bl : List (Nat × List Value)} {ss : List (Nat × SV)} {ts : List (Nat × Value)} (h : Own6 w0 w g bl) (hk : Kp N ts a) (hs : ∀ p ∈ ss, (p.1, @SV.den e g p.2) ∈ ts) (hok : ∀ p ∈ ss, @SV.ok e (pickM (bsFrom 0 bl)) p.2) :
    @SR e w0 N g ((Cut.mk ss (bsFrom 0 bl)).st bl.length) a w := by
  letI := e
  have hp : ∀ b k, pickM (bsFrom 0 bl) b = some k → ∃ p, bl[b]? = some p ∧ k = ⟨p.1, p.2.map SV.val⟩ := fun b k hb => by
    rw [pickM_from] at hb
    simp only [Nat.not_lt_zero, if_false, Nat.sub_zero] at hb
    obtain ⟨p, h1, h2⟩ := Option.map_eq_some_iff.1 hb
    exact ⟨p, h1, h2.symm⟩
  refine epochB h.below hk.size hk.defers ss _ _ (fun p hp => hk.vals (p.1, p.2.den g) (hs p hp)) hok (fun b k hb => ?_) (fun b b' k k' hb hb' he => ?_) fun b hb => ?_
  · obtain ⟨p, h1, rfl⟩ := hp b k hb
    obtain ⟨h2, h3⟩ := h.at_ b p h1
    refine ⟨h2, ?_, fun c hc => ?_⟩
    · rw [List.map_map, show (SV.den g ∘ SV.val) = _root_.id from funext fun v => den_val _ v, List.map_id]
      exact h3
    · obtain ⟨v, _, rfl⟩ := List.mem_map.1 hc
      exact ok_val _ _
  · obtain ⟨p, h1, _⟩ := hp b k hb
    obtain ⟨p', h1', _⟩ := hp b' k' hb'
    exact h.inj b b' (List.getElem?_eq_some_iff.1 h1).1 (List.getElem?_eq_some_iff.1 h1').1 he
  · rw [pickM_from]
    simp only [Nat.not_lt_zero, if_false, Nat.sub_zero]
    rw [List.getElem?_eq_none hb]
    rfl
theorem Own6.of {e : XEnv} {N : Nat} {a : Act} {w0 w : World} {m : Nat → Nat} {st : St} {ids : List Nat} {bl : List (Nat × List Value)} (hr : @SR e w0 N m st a w) (hm : ids.map st.mem = bl.map fun p => some ⟨p.1, p.2.map SV.val⟩) (hn : ∀ b, b < ids.length → ∀ b', b' < ids.length → ids.getD b 0 = ids.getD b' 0 → b = b') : Own6 w0 w (fun b => m (ids.getD b 0)) bl := by
  letI := e
  have hl : ids.length = bl.length := by simpa using congrArg List.length hm
  have hg : ∀ b p, bl[b]? = some p → st.mem (ids.getD b 0) = some ⟨p.1, p.2.map SV.val⟩ := fun b p hb => by
    have hlt := (List.getElem?_eq_some_iff.1 hb).1
    have h1 : (ids.map st.mem)[b]? = (bl.map fun p => some (⟨p.1, p.2.map SV.val⟩ : Blk))[b]? := by rw [hm]
    rw [List.getElem?_map, List.getElem?_map, hb, List.getElem?_eq_getElem (by omega)] at h1
    rw [List.getD_eq_getElem?_getD, List.getElem?_eq_getElem (by omega)]
    simpa using h1
  refine ⟨hr.mr.below, fun b p hb => ?_, fun b b' hb hb' he => ?_⟩
  · obtain ⟨b1, b2, _⟩ := hr.mr.blk _ _ (hg b p hb)
    refine ⟨b1, ?_⟩
    rw [b2, List.map_map, show (SV.den m ∘ SV.val) = _root_.id from funext fun v => den_val _ v, List.map_id]
  · have h1 := hg b _ (List.getElem?_eq_getElem hb)
    have h2 := hg b' _ (List.getElem?_eq_getElem hb')
    have h3 := hr.mr.inj _ _ _ _ h1 h2 he
    exact hn b (by omega) b' (by omega) h3
end Go.Proofs.YtbpdpnoekkkapaaDoor.PDescKinds
end
section
namespace Go.Proofs.YtbpdpnoekkkapaaDoor.PDescKinds
open Go.RowKit Go.Ev Go.Proofs.YtbpdpnoekkkapaaDoorV.PrintLast
set_option maxRecDepth 100000
def TSame (a b : D) : DT Value := .leaf (.bool (S.eqD a b))
noncomputable def te : List Code := bodyOf Tryd.f30
noncomputable def te9 : Array Oper := opsOf (te.getD 9 .skip)
noncomputable def te19 : Array Oper := opsOf (te.getD 15 .skip)
abbrev AS : Tab := [(22, onDD TSame)]
def cP (n : Nat) (f : Nat → K × D) : List Value := (List.range n).flatMap fun i => plist (f i)
def cK (n : Nat) (f : Nat → K) : List Value := (List.range n).flatMap fun i => (f i).list
def six (n : Nat) (f : Nat → K × D) (k : Nat → K) (r1 r2 r3 r4 r5 r6 : List Value) : List (Nat × List Value) := [(54, cP n f ++ r1), (54, cP n f ++ r2), (34, cK n k ++ r3), (34, cK n k ++ r4), (54, cP n f ++ r5), (34, cK n k ++ r6)]
def four (n : Nat) (f : Nat → K × D) (k : Nat → K) (r2 r4 r5 r6 : List Value) : List (Nat × List Value) := [(54, cP n f ++ r2), (34, cK n k ++ r4), (54, cP n f ++ r5), (34, cK n k ++ r6)]
def mems (bl : List (Nat × List Value)) : List (Option Blk) := bl.map fun p => some ⟨p.1, p.2.map SV.val⟩
abbrev ss6 (v5 : Value) (n c1 c2 c3 c4 c5 c6 : Nat) : List (Nat × SV) := [(5, .val v5), (7, .slc 0 0 n c1), (8, .slc 1 0 n c2), (9, .slc 2 0 n c3), (10, .slc 3 0 n c4), (11, .slc 4 0 n c5), (12, .slc 5 0 n c6)]
section
variable (f : Nat → K × D) (k : Nat → K) (c1 c2 c3 c4 c5 c6 c7 : Nat) (r1 r2 r3 r4 r5 r6 r7 : List Value) (v5 : Value)
theorem tells_a : ∀ n, 1 ≤ n → n ≤ 2 → letI := row0; evOpsK Tryd.prog ext (callWithK Tryd.prog (tab AS) (evK Tryd.prog ext (tab AS) 100)) te9 103 (te9.toList.drop 2) ((⟨(40, .val (.int .i64 (n : Nat))) :: ss6 v5 n c1 c2 c3 c4 c5 c6, bsFrom 0 (six n f k r1 r2 r3 r4 r5 r6)⟩ : Cut).st 6) (obsS [5, 7, 8, 9, 10, 11, 12, 67] [0, 1, 2, 3, 4, 5]) = some ([.val v5, .slc 0 0 n c1, .slc 1 0 n c2, .slc 2 0 n c3, .slc 3 0 n c4, .slc 4 0 n c5, .slc 5 0 n c6, .val (.bool false)], mems (six n f k r1 r2 r3 r4 r5 r6))
  | 0, h, _ => absurd h (by omega)
  | 1, _, _ => by
    letI := row0
    have h : evOpsK Tryd.prog ext (callWithK Tryd.prog (tab AS) (evK Tryd.prog ext (tab AS) 100)) te9 103 (te9.toList.drop 2) ((⟨(40, .val (.int .i64 (1 : Nat))) :: ss6 v5 1 c1 c2 c3 c4 c5 c6, bsFrom 0 (six 1 f k r1 r2 r3 r4 r5 r6)⟩ : Cut).st 6) (obsS [5, 7, 8, 9, 10, 11, 12, 67] [0, 1, 2, 3, 4, 5]) = bif !keq (f 0).1 (f 0).1 then some ([.val v5, .slc 0 0 1 c1, .slc 1 0 1 c2, .slc 2 0 1 c3, .slc 3 0 1 c4, .slc 4 0 1 c5, .slc 5 0 1 c6, .val (.bool true)], mems (six 1 f k r1 r2 r3 r4 r5 r6)) else (bif !S.eqD (f 0).2 (f 0).2 then some ([.val v5, .slc 0 0 1 c1, .slc 1 0 1 c2, .slc 2 0 1 c3, .slc 3 0 1 c4, .slc 4 0 1 c5, .slc 5 0 1 c6, .val (.bool true)], mems (six 1 f k r1 r2 r3 r4 r5 r6)) else (bif !keq (f 0).1 (f 0).1 then some ([.val v5, .slc 0 0 1 c1, .slc 1 0 1 c2, .slc 2 0 1 c3, .slc 3 0 1 c4, .slc 4 0 1 c5, .slc 5 0 1 c6, .val (.bool true)], mems (six 1 f k r1 r2 r3 r4 r5 r6)) else (bif !S.eqD (f 0).2 (f 0).2 then some ([.val v5, .slc 0 0 1 c1, .slc 1 0 1 c2, .slc 2 0 1 c3, .slc 3 0 1 c4, .slc 4 0 1 c5, .slc 5 0 1 c6, .val (.bool true)], mems (six 1 f k r1 r2 r3 r4 r5 r6)) else (bif !keq (k 0) (k 0) then some ([.val v5, .slc 0 0 1 c1, .slc 1 0 1 c2, .slc 2 0 1 c3, .slc 3 0 1 c4, .slc 4 0 1 c5, .slc 5 0 1 c6, .val (.bool true)], mems (six 1 f k r1 r2 r3 r4 r5 r6)) else (bif !keq (k 0) (k 0) then some ([.val v5, .slc 0 0 1 c1, .slc 1 0 1 c2, .slc 2 0 1 c3, .slc 3 0 1 c4, .slc 4 0 1 c5, .slc 5 0 1 c6, .val (.bool true)], mems (six 1 f k r1 r2 r3 r4 r5 r6)) else (some ([.val v5, .slc 0 0 1 c1, .slc 1 0 1 c2, .slc 2 0 1 c3, .slc 3 0 1 c4, .slc 4 0 1 c5, .slc 5 0 1 c6, .val (.bool false)], mems (six 1 f k r1 r2 r3 r4 r5 r6)))))))) := by kernel_rfl
    rw [h]
    simp only [keq_refl, S.eqD_refl, Bool.not_true, cond_false]
  | 2, _, _ => by
    letI := row0
    have h : evOpsK Tryd.prog ext (callWithK Tryd.prog (tab AS) (evK Tryd.prog ext (tab AS) 100)) te9 103 (te9.toList.drop 2) ((⟨(40, .val (.int .i64 (2 : Nat))) :: ss6 v5 2 c1 c2 c3 c4 c5 c6, bsFrom 0 (six 2 f k r1 r2 r3 r4 r5 r6)⟩ : Cut).st 6) (obsS [5, 7, 8, 9, 10, 11, 12, 67] [0, 1, 2, 3, 4, 5]) = bif !keq (f 0).1 (f 0).1 then some ([.val v5, .slc 0 0 2 c1, .slc 1 0 2 c2, .slc 2 0 2 c3, .slc 3 0 2 c4, .slc 4 0 2 c5, .slc 5 0 2 c6, .val (.bool true)], mems (six 2 f k r1 r2 r3 r4 r5 r6)) else (bif !S.eqD (f 0).2 (f 0).2 then some ([.val v5, .slc 0 0 2 c1, .slc 1 0 2 c2, .slc 2 0 2 c3, .slc 3 0 2 c4, .slc 4 0 2 c5, .slc 5 0 2 c6, .val (.bool true)], mems (six 2 f k r1 r2 r3 r4 r5 r6)) else (bif !keq (f 1).1 (f 1).1 then some ([.val v5, .slc 0 0 2 c1, .slc 1 0 2 c2, .slc 2 0 2 c3, .slc 3 0 2 c4, .slc 4 0 2 c5, .slc 5 0 2 c6, .val (.bool true)], mems (six 2 f k r1 r2 r3 r4 r5 r6)) else (bif !S.eqD (f 1).2 (f 1).2 then some ([.val v5, .slc 0 0 2 c1, .slc 1 0 2 c2, .slc 2 0 2 c3, .slc 3 0 2 c4, .slc 4 0 2 c5, .slc 5 0 2 c6, .val (.bool true)], mems (six 2 f k r1 r2 r3 r4 r5 r6)) else (bif !keq (f 0).1 (f 0).1 then some ([.val v5, .slc 0 0 2 c1, .slc 1 0 2 c2, .slc 2 0 2 c3, .slc 3 0 2 c4, .slc 4 0 2 c5, .slc 5 0 2 c6, .val (.bool true)], mems (six 2 f k r1 r2 r3 r4 r5 r6)) else (bif !S.eqD (f 0).2 (f 0).2 then some ([.val v5, .slc 0 0 2 c1, .slc 1 0 2 c2, .slc 2 0 2 c3, .slc 3 0 2 c4, .slc 4 0 2 c5, .slc 5 0 2 c6, .val (.bool true)], mems (six 2 f k r1 r2 r3 r4 r5 r6)) else (bif !keq (f 1).1 (f 1).1 then some ([.val v5, .slc 0 0 2 c1, .slc 1 0 2 c2, .slc 2 0 2 c3, .slc 3 0 2 c4, .slc 4 0 2 c5, .slc 5 0 2 c6, .val (.bool true)], mems (six 2 f k r1 r2 r3 r4 r5 r6)) else (bif !S.eqD (f 1).2 (f 1).2 then some ([.val v5, .slc 0 0 2 c1, .slc 1 0 2 c2, .slc 2 0 2 c3, .slc 3 0 2 c4, .slc 4 0 2 c5, .slc 5 0 2 c6, .val (.bool true)], mems (six 2 f k r1 r2 r3 r4 r5 r6)) else (bif !keq (k 0) (k 0) then some ([.val v5, .slc 0 0 2 c1, .slc 1 0 2 c2, .slc 2 0 2 c3, .slc 3 0 2 c4, .slc 4 0 2 c5, .slc 5 0 2 c6, .val (.bool true)], mems (six 2 f k r1 r2 r3 r4 r5 r6)) else (bif !keq (k 1) (k 1) then some ([.val v5, .slc 0 0 2 c1, .slc 1 0 2 c2, .slc 2 0 2 c3, .slc 3 0 2 c4, .slc 4 0 2 c5, .slc 5 0 2 c6, .val (.bool true)], mems (six 2 f k r1 r2 r3 r4 r5 r6)) else (bif !keq (k 0) (k 0) then some ([.val v5, .slc 0 0 2 c1, .slc 1 0 2 c2, .slc 2 0 2 c3, .slc 3 0 2 c4, .slc 4 0 2 c5, .slc 5 0 2 c6, .val (.bool true)], mems (six 2 f k r1 r2 r3 r4 r5 r6)) else (bif !keq (k 1) (k 1) then some ([.val v5, .slc 0 0 2 c1, .slc 1 0 2 c2, .slc 2 0 2 c3, .slc 3 0 2 c4, .slc 4 0 2 c5, .slc 5 0 2 c6, .val (.bool true)], mems (six 2 f k r1 r2 r3 r4 r5 r6)) else (some ([.val v5, .slc 0 0 2 c1, .slc 1 0 2 c2, .slc 2 0 2 c3, .slc 3 0 2 c4, .slc 4 0 2 c5, .slc 5 0 2 c6, .val (.bool false)], mems (six 2 f k r1 r2 r3 r4 r5 r6)))))))))))))) := by kernel_rfl
    rw [h]
    simp only [keq_refl, S.eqD_refl, Bool.not_true, cond_false]
  | n + 3, _, h => absurd h (by omega)
theorem tells_b : ∀ n, 1 ≤ n → n ≤ 2 → letI := row0; evK Tryd.prog ext (tab AS) 100 103 (seqL [te.getD 11 .skip, te.getD 12 .skip, te.getD 13 .skip, te.getD 14 .skip]) ((⟨ss6 v5 n c1 c2 c3 c4 c5 c6, bsFrom 0 (six n f k r1 r2 r3 r4 r5 r6)⟩ : Cut).st 6) (obs [5, 8, 10, 11, 12] [1, 3, 4, 5]) = some ([.val v5, .slc 1 0 n c2, .slc 3 0 n c4, .slc 4 0 n c5, .slc 5 0 n c6], mems (four n f k r2 r4 r5 r6))
  | 0, h, _ => absurd h (by omega)
  | 1, _, _ => by kernel_rfl
  | 2, _, _ => by kernel_rfl
  | n + 3, _, h => absurd h (by omega)
theorem tells_c : ∀ n, 1 ≤ n → n ≤ 2 → letI := row0; evOpsK Tryd.prog ext (callWithK Tryd.prog (tab AS) (evK Tryd.prog ext (tab AS) 100)) te19 103 (te19.toList.take 9) ((⟨[(5, .val v5), (8, .slc 0 0 n c2), (10, .slc 1 0 n c4), (11, .slc 2 0 n c5), (12, .slc 3 0 n c6)], bsFrom 0 (four n f k r2 r4 r5 r6)⟩ : Cut).st 4) (obsS [5, 11, 97] [2]) = some ([.val v5, .slc 2 0 n c5, .val (.bool true)], mems [(54, cP n f ++ r5)])
  | 0, h, _ => absurd h (by omega)
  | 1, _, _ => by
    letI := row0
    have h : evOpsK Tryd.prog ext (callWithK Tryd.prog (tab AS) (evK Tryd.prog ext (tab AS) 100)) te19 103 (te19.toList.take 9) ((⟨[(5, .val v5), (8, .slc 0 0 1 c2), (10, .slc 1 0 1 c4), (11, .slc 2 0 1 c5), (12, .slc 3 0 1 c6)], bsFrom 0 (four 1 f k r2 r4 r5 r6)⟩ : Cut).st 4) (obsS [5, 11, 97] [2]) = bif !keq (f 0).1 (f 0).1 then some ([.val v5, .slc 2 0 1 c5, .val (.bool false)], mems [(54, cP 1 f ++ r5)]) else (bif !S.eqD (f 0).2 (f 0).2 then some ([.val v5, .slc 2 0 1 c5, .val (.bool false)], mems [(54, cP 1 f ++ r5)]) else (bif !keq (k 0) (k 0) then some ([.val v5, .slc 2 0 1 c5, .val (.bool false)], mems [(54, cP 1 f ++ r5)]) else (some ([.val v5, .slc 2 0 1 c5, .val (.bool true)], mems [(54, cP 1 f ++ r5)])))) := by kernel_rfl
    rw [h]
    simp only [keq_refl, S.eqD_refl, Bool.not_true, cond_false]
  | 2, _, _ => by
    letI := row0
    have h : evOpsK Tryd.prog ext (callWithK Tryd.prog (tab AS) (evK Tryd.prog ext (tab AS) 100)) te19 103 (te19.toList.take 9) ((⟨[(5, .val v5), (8, .slc 0 0 2 c2), (10, .slc 1 0 2 c4), (11, .slc 2 0 2 c5), (12, .slc 3 0 2 c6)], bsFrom 0 (four 2 f k r2 r4 r5 r6)⟩ : Cut).st 4) (obsS [5, 11, 97] [2]) = bif !keq (f 0).1 (f 0).1 then some ([.val v5, .slc 2 0 2 c5, .val (.bool false)], mems [(54, cP 2 f ++ r5)]) else (bif !S.eqD (f 0).2 (f 0).2 then some ([.val v5, .slc 2 0 2 c5, .val (.bool false)], mems [(54, cP 2 f ++ r5)]) else (bif !keq (f 1).1 (f 1).1 then some ([.val v5, .slc 2 0 2 c5, .val (.bool false)], mems [(54, cP 2 f ++ r5)]) else (bif !S.eqD (f 1).2 (f 1).2 then some ([.val v5, .slc 2 0 2 c5, .val (.bool false)], mems [(54, cP 2 f ++ r5)]) else (bif !keq (k 0) (k 0) then some ([.val v5, .slc 2 0 2 c5, .val (.bool false)], mems [(54, cP 2 f ++ r5)]) else (bif !keq (k 1) (k 1) then some ([.val v5, .slc 2 0 2 c5, .val (.bool false)], mems [(54, cP 2 f ++ r5)]) else (some ([.val v5, .slc 2 0 2 c5, .val (.bool true)], mems [(54, cP 2 f ++ r5)]))))))) := by kernel_rfl
    rw [h]
    simp only [keq_refl, S.eqD_refl, Bool.not_true, cond_false]
  | n + 3, _, h => absurd h (by omega)
theorem tells_d : ∀ n, 1 ≤ n → n ≤ 2 → letI := row0; evOpsK Tryd.prog ext (callWithK Tryd.prog (tab AS) (evK Tryd.prog ext (tab AS) 100)) te19 103 (te19.toList.drop 11) ((⟨[(11, .slc 0 0 n c5), (97, .val (.bool true)), (99, .slc 1 0 n c7)], bsFrom 0 [(54, cP n f ++ r5), (54, cP n f ++ r7)]⟩ : Cut).st 2) (obsS [4] []) = some ([.val (.bool true)], [])
  | 0, h, _ => absurd h (by omega)
  | 1, _, _ => by
    letI := row0
    have h : evOpsK Tryd.prog ext (callWithK Tryd.prog (tab AS) (evK Tryd.prog ext (tab AS) 100)) te19 103 (te19.toList.drop 11) ((⟨[(11, .slc 0 0 1 c5), (97, .val (.bool true)), (99, .slc 1 0 1 c7)], bsFrom 0 [(54, cP 1 f ++ r5), (54, cP 1 f ++ r7)]⟩ : Cut).st 2) (obsS [4] []) = bif !keq (f 0).1 (f 0).1 then some ([.val (.bool false)], []) else (bif !S.eqD (f 0).2 (f 0).2 then some ([.val (.bool false)], []) else (some ([.val (.bool true)], []))) := by kernel_rfl
    rw [h]
    simp only [keq_refl, S.eqD_refl, Bool.not_true, cond_false]
  | 2, _, _ => by
    letI := row0
    have h : evOpsK Tryd.prog ext (callWithK Tryd.prog (tab AS) (evK Tryd.prog ext (tab AS) 100)) te19 103 (te19.toList.drop 11) ((⟨[(11, .slc 0 0 2 c5), (97, .val (.bool true)), (99, .slc 1 0 2 c7)], bsFrom 0 [(54, cP 2 f ++ r5), (54, cP 2 f ++ r7)]⟩ : Cut).st 2) (obsS [4] []) = bif !keq (f 0).1 (f 0).1 then some ([.val (.bool false)], []) else (bif !S.eqD (f 0).2 (f 0).2 then some ([.val (.bool false)], []) else (bif !keq (f 1).1 (f 1).1 then some ([.val (.bool false)], []) else (bif !S.eqD (f 1).2 (f 1).2 then some ([.val (.bool false)], []) else (some ([.val (.bool true)], []))))) := by kernel_rfl
    rw [h]
    simp only [keq_refl, S.eqD_refl, Bool.not_true, cond_false]
  | n + 3, _, h => absurd h (by omega)
end
section
variable (A1 A2 A3 A4 A5 A6 A7 : Option Addr) (c1 c2 c3 c4 c5 c6 c7 : Nat) (v5 : Value)
theorem tells_a0 : letI := row0; evOpsK Tryd.prog ext (callWithK Tryd.prog (tab AS) (evK Tryd.prog ext (tab AS) 100)) te9 103 (te9.toList.drop 2) ((⟨[(40, .val (.int .i64 0)), (5, .val v5), (7, .val (.slice A1 0 c1)), (8, .val (.slice A2 0 c2)), (9, .val (.slice A3 0 c3)), (10, .val (.slice A4 0 c4)), (11, .val (.slice A5 0 c5)), (12, .val (.slice A6 0 c6))], []⟩ : Cut).st 0) (obsS [5, 7, 8, 9, 10, 11, 12, 67] []) = some ([.val v5, .val (.slice A1 0 c1), .val (.slice A2 0 c2), .val (.slice A3 0 c3), .val (.slice A4 0 c4), .val (.slice A5 0 c5), .val (.slice A6 0 c6), .val (.bool false)], []) := by kernel_rfl
theorem tells_b0 : letI := row0; evK Tryd.prog ext (tab AS) 100 103 (seqL [te.getD 11 .skip, te.getD 12 .skip, te.getD 13 .skip, te.getD 14 .skip]) ((⟨[(5, .val v5), (7, .val (.slice A1 0 c1)), (8, .val (.slice A2 0 c2)), (9, .val (.slice A3 0 c3)), (10, .val (.slice A4 0 c4)), (11, .val (.slice A5 0 c5)), (12, .val (.slice A6 0 c6))], []⟩ : Cut).st 0) (obs [5, 8, 10, 11, 12] []) = some ([.val v5, .val (.slice A2 0 c2), .val (.slice A4 0 c4), .val (.slice A5 0 c5), .val (.slice A6 0 c6)], []) := by kernel_rfl
theorem tells_c0 : letI := row0; evOpsK Tryd.prog ext (callWithK Tryd.prog (tab AS) (evK Tryd.prog ext (tab AS) 100)) te19 103 (te19.toList.take 9) ((⟨[(5, .val v5), (8, .val (.slice A2 0 c2)), (10, .val (.slice A4 0 c4)), (11, .val (.slice A5 0 c5)), (12, .val (.slice A6 0 c6))], []⟩ : Cut).st 0) (obsS [5, 11, 97] []) = some ([.val v5, .val (.slice A5 0 c5), .val (.bool true)], []) := by kernel_rfl
theorem tells_d0 : letI := row0; evOpsK Tryd.prog ext (callWithK Tryd.prog (tab AS) (evK Tryd.prog ext (tab AS) 100)) te19 103 (te19.toList.drop 11) ((⟨[(11, .val (.slice A5 0 c5)), (97, .val (.bool true)), (99, .val (.slice A7 0 c7))], []⟩ : Cut).st 0) (obsS [4] []) = some ([.val (.bool true)], []) := by kernel_rfl
end
end Go.Proofs.YtbpdpnoekkkapaaDoor.PDescKinds
end
section
namespace Go.Proofs.YtbpdpnoekkkapaaDoor.PDescKinds
open Go.RowKit Go.Ev Go.Proofs.YtbpdpnoekkkapaaDoorV.PrintLast
set_option maxRecDepth 100000
def TEqV (a b : V) : DT Value := .leaf (.bool (S.eqV a b))
theorem ev39 (a b : V) : evFn Tryd.prog ext (tab []) 60 39 [a.agg, b.agg] = some (.bool (S.eqV a b)) := by
  have h : evFn Tryd.prog ext (tab []) 60 39 [a.agg, b.agg] = bif (a.n : Int) == (b.n : Int) then (bif a.k == b.k then (bif a.b == b.b then (bif a.s.toList == b.s.toList then some (.bool (a.id == b.id)) else some (.bool false)) else some (.bool false)) else some (.bool false)) else
    (bif S.nan a.n then (bif S.nan b.n then (bif a.k == b.k then (bif a.b == b.b then (bif a.s.toList == b.s.toList then some (.bool (a.id == b.id)) else some (.bool false)) else some (.bool false)) else some (.bool false)) else some (.bool false)) else some (.bool false)) := by kernel_rfl
  rw [h]
  unfold S.eqV
  cases (a.n : Int) == (b.n : Int) <;> cases S.nan a.n <;> cases S.nan b.n <;> cases a.k == b.k <;> cases a.b == b.b <;> cases a.s.toList == b.s.toList <;> cases a.id == b.id <;> rfl
theorem ent_eqV : E (39, onVV TEqV) := byEv entries_nil 60 fun args t h => by
  obtain ⟨a, b, rfl, rfl⟩ := onVV_eq h
  exact ev39 a b
theorem ev22 (a b : D) : evFn Tryd.prog ext (tab [(39, onVV TEqV)]) 60 22 [a.agg, b.agg] = some (.bool (S.eqD a b)) := by
  have h : evFn Tryd.prog ext (tab [(39, onVV TEqV)]) 60 22 [a.agg, b.agg] = bif S.eqV a.v b.v then (bif S.eqV a.g b.g then (bif S.eqV a.t b.t then (bif a.w == b.w then (bif a.e == b.e then some (.bool (a.c == b.c)) else some (.bool false)) else some (.bool false)) else some (.bool false)) else some (.bool false)) else some (.bool false) := by kernel_rfl
  rw [h]
  unfold S.eqD
  cases S.eqV a.v b.v <;> cases S.eqV a.g b.g <;> cases S.eqV a.t b.t <;> cases a.w == b.w <;> cases a.e == b.e <;> cases a.c == b.c <;> rfl
theorem ent_same : E (22, onDD TSame) := byEv (entries_cons ent_eqV entries_nil) 60 fun args t h => by
  obtain ⟨a, b, rfl, rfl⟩ := onDD_eq h
  exact ev22 a b
theorem entsAS : ∀ p ∈ AS, E p := entries_cons ent_same entries_nil
theorem ctxS : @Ctx row0 Tryd.prog ext (tab AS) Tabs := by
  letI := row0
  exact ⟨mixed, ext_sound, tabs_stable, fun w h => xok_0 w, tab_sound fun p hp => (fun args t v h1 h2 w hw => entsAS p hp args t v h1 h2 w hw)⟩
def mapsOf (n : Nat) (f : Nat → K × D) : List Me := (List.range n).map fun i => ((f i).1, i, i)
structure Pst (B : Nat) (w : World) (pb : Nat) (x : Tk) (r : Rf) (n : Nat) : Prop where
  pair : ∃ g1 r1, w.heap[pb]? = some (.cells #[pt x.gb, pt g1, pt r.rb, pt r1, .int .i64 4000] 71 (0, 0))
  own : OwnT B w (x.tb n)
  ref : OwnR B w r n x.f
  maps : x.m = mapsOf n x.f ∧ x.last = n ∧ x.cl = n
  good : ∀ i, i < n → S.chk (x.f i).1 = 0
theorem keq_sym (a b : K) : keq a b = keq b a := by
  cases h : keq a b with
  | true => rw [keq_iff.1 h, keq_refl]
  | false => cases h' : keq b a with
    | false => rfl
    | true => rw [keq_iff.1 h', keq_refl] at h; cases h
theorem mget_find (f : Nat → K × D) (k : K) : ∀ n, n ≤ 2 → mget (mapsOf n f) k = S.find n f k
  | 0, _ => rfl
  | 1, _ => by
    show (mfind [((f 0).1, 0, 0)] k 0).map (·.2) = seek (fun i => bif keq (f i).1 k then some i else none) 1 0
    unfold mfind seek
    rw [keq_sym k (f 0).1]
    cases keq (f 0).1 k <;> rfl
  | 2, _ => by
    show (mfind [((f 0).1, 0, 0), ((f 1).1, 1, 1)] k 0).map (·.2) = seek (fun i => bif keq (f i).1 k then some i else none) 2 0
    unfold mfind mfind seek seek
    rw [keq_sym k (f 0).1, keq_sym k (f 1).1]
    cases keq (f 0).1 k <;> cases keq (f 1).1 k <;> rfl
  | n + 3, h => absurd h (by omega)
theorem find_lt (f : Nat → K × D) (k : K) : ∀ n, n ≤ 2 → ∀ p, S.find n f k = some p → p < n
  | 0, _, p, h => by cases h
  | 1, _, p, h => by
    unfold S.find seek at h
    cases hq : keq (f 0).1 k with
    | true => rw [hq] at h; cases h; omega
    | false => rw [hq] at h; cases h
  | 2, _, p, h => by
    unfold S.find seek seek at h
    cases hq : keq (f 0).1 k with
    | true => rw [hq] at h; cases h; omega
    | false =>
      rw [hq] at h
      cases hq1 : keq (f 1).1 k with
      | true =>
        have h : (bif keq (f 1).1 k then some 1 else none) = some p := by
          simp only [cond_false] at h
          cases hz : keq (f 1).1 k <;> rw [hz] at h <;> first | exact h | (rw [hz] at hq1; cases hq1)
        rw [hq1] at h; cases h; omega
      | false =>
        exfalso
        simp only [cond_false, Nat.zero_add, hq1, seek] at h
        cases h
  | n + 3, h, _, _ => absurd h (by omega)
end Go.Proofs.YtbpdpnoekkkapaaDoor.PDescKinds
end
section
namespace Go.Proofs.YtbpdpnoekkkapaaDoor.PDescKinds
open Go.RowKit Go.Ev Go.Proofs.YtbpdpnoekkkapaaDoorV.PrintLast
set_option maxRecDepth 100000
theorem arr_run {o : Oper} {a : Act} {w : World} {t : TypeId} {x y : Operand} {g off : Nat} (ht : t = 67 ∨ t = 69) (ho : o.op = .indexAddr t x y) (hx : a.eval x = .pointer (some ⟨g, off, none⟩)) (hy : a.eval y = .int .i64 0) :
    (execOp a.eval o).run Tryd.prog w = .ok (.value (.pointer (some ⟨g, off, none⟩))) w := by
  have h : (Instr.indexAt t (.pointer (some ⟨g, off, none⟩)) (.int .i64 0)).run Tryd.prog w = .ok (.pointer (some ⟨g, off, none⟩)) w := by
    rcases ht with rfl | rfl
    · have hu : Tryd.prog.underlying 67 = some (.array (Tryd.prog.arrayLen 67) (Tryd.prog.elem 67)) := by kernel_rfl
      have hl : Tryd.prog.arrayLen 67 = 2 := by kernel_rfl
      have hs : pureRun Tryd.prog (sizeOf (Tryd.prog.elem 67)) = some 1 := by kernel_rfl
      rw [run_indexAt_array w 67 _ _ _ hu, hl, if_pos (by decide)]
      simp only [Int.toNat_zero, Nat.zero_mul]
      rw [add_none, Nat.add_zero, pureRun_run _ hs w]
      rfl
    · have hu : Tryd.prog.underlying 69 = some (.array (Tryd.prog.arrayLen 69) (Tryd.prog.elem 69)) := by kernel_rfl
      have hl : Tryd.prog.arrayLen 69 = 2 := by kernel_rfl
      have hs : pureRun Tryd.prog (sizeOf (Tryd.prog.elem 69)) = some 1 := by kernel_rfl
      rw [run_indexAt_array w 69 _ _ _ hu, hl, if_pos (by decide)]
      simp only [Int.toNat_zero, Nat.zero_mul]
      rw [add_none, Nat.add_zero, pureRun_run _ hs w]
      rfl
  unfold execOp
  simp only [ho, hx, hy, Sem.run_bind, h, Result.andThen_ok, Sem.run_pure]
abbrev plst (a b c d : Nat) : List Value := [pt a, pt b, pt c, pt d, .int .i64 4000]
noncomputable def pl : List Code := bodyOf Tryd.f29
noncomputable def te' : List Code := bodyOf Tryd.f30
noncomputable def pl1 : Array Oper := opsOf (pl.getD 1 .skip)
theorem pl1_eq : pl1.toList = pl1.toList.take 3 ++ (pl1.toList.getD 3 default :: (pl1.toList.drop 4 ++ [])) := by kernel_rfl
theorem pl1_1 (pb ga gb gc gd : Nat) (u : Value) : letI := rowsN (nth [bxR pb (plst ga gb gc gd)])
    (reads Tryd.prog 222 (pl1.toList.take 3) (pickT [(0, .xp [0] 0 0), (4, .val u)])).map (fun t => [0, 4, 20].map t) = some [.xp [0] 0 0, .val u, .xp [0] 0 0] := by kernel_rfl
theorem pl1_2 (pb ga gb gc gd : Nat) (u : Value) : letI := rowsN (nth [bxR pb (plst ga gb gc gd)])
    (reads Tryd.prog 222 (pl1.toList.drop 4) (pickT [(0, .xp [0] 0 0), (4, .val u), (21, .xp [0] 0 0)])).map (fun t => [0, 4, 7].map t) = some [.xp [0] 0 0, .val u, .val (pt ga)] := by kernel_rfl
theorem pl1_reg {pb ga gb gc gd : Nat} {u : Value} {w : World} {a : Act} {Q : Exit → Act → World → Prop} (hw : w.heap[pb]? = some (.cells (plst ga gb gc gd).toArray 71 (0, 0))) (hk : Kp 222 [(0, pt pb), (4, u)] a)
    (hQ : ∀ a', Kp 222 [(0, pt pb), (4, u), (7, pt ga)] a' → Q .normal a' w) : (Code.region 1 pl1 false).wp Tryd.prog Q a w := by
  have hX : @XOk (rowsN (nth [bxR pb (plst ga gb gc gd)])) w := xokN fun y hy e => by
    obtain rfl := List.mem_singleton.1 hy
    exact box_heap (t := 71) hw
  have pden : @SV.den (rowsN (nth [bxR pb (plst ga gb gc gd)])) (fun _ => 0) (.xp [0] 0 0) = .pointer (some ⟨pb, 0, none⟩) := by
    rw [@den_xp (rowsN (nth [bxR pb (plst ga gb gc gd)]))]
    show Value.pointer (some ((⟨pb, 0, none⟩ : Addr).add (0 * 5 + 0))) = _
    rw [add_none]
  have pok : ∀ mem, @SV.ok (rowsN (nth [bxR pb (plst ga gb gc gd)])) mem (.xp [0] 0 0) := fun mem => (@ok_xp (rowsN (nth [bxR pb (plst ga gb gc gd)])) _ _ _ _).2 Nat.zero_lt_one
  have pden0 : @SV.den (rowsN (nth [bxR pb (plst ga gb gc gd)])) (fun _ => 0) (.xp [0] 0 0) = pt pb := den_n _ pb 0 _ rfl _
  refine wp_region_list ?_
  rw [pl1_eq]
  refine read_kp (e := rowsN (nth [bxR pb (plst ga gb gc gd)])) (us := [pt pb, u, .pointer (some ⟨pb, 0, none⟩)]) hX (pl1_1 pb ga gb gc gd u) hk (fun p hp => ?_) ?_ (by kernel_rfl) fun a1 K1 => ?_
  · simp only [List.mem_cons, List.not_mem_nil, or_false] at hp
    rcases hp with rfl | rfl
    · exact ⟨by rw [den_n _ pb 0 _ rfl]; simp, ok_n _ pb 0 _ rfl _⟩
    · exact ⟨by rw [@den_val (rowsN (nth [bxR pb (plst ga gb gc gd)]))]; simp, @ok_val (rowsN (nth [bxR pb (plst ga gb gc gd)])) _ _⟩
  · simp only [List.map_cons, List.map_nil, @den_val (rowsN (nth [bxR pb (plst ga gb gc gd)])), pden, pden0]
  refine wpList_val (by kernel_rfl) (arr_run (g := pb) (off := 0) (t := 67) (x := .tmp 20) (y := .const (.int .i64 0)) (by simp) (by kernel_rfl) (K1.get (d := 20) (by simp)) rfl) ?_
  rw [show (pl1.toList.getD 3 default).dst = some 21 by kernel_rfl]
  have K2 := K1.put (d := 21) (v := .pointer (some ⟨pb, 0, none⟩)) rfl
  generalize a1.put (some 21) (.pointer (some ⟨pb, 0, none⟩)) = a2 at K2 ⊢
  refine read_kp (e := rowsN (nth [bxR pb (plst ga gb gc gd)])) (us := [pt pb, u, pt ga]) hX (pl1_2 pb ga gb gc gd u) K2 (fun p hp => ?_) ?_ (by kernel_rfl) fun a3 K3 => hQ a3 K3
  · simp only [List.mem_cons, List.not_mem_nil, or_false] at hp
    rcases hp with rfl | rfl | rfl
    · exact ⟨by rw [den_n _ pb 0 _ rfl]; simp, ok_n _ pb 0 _ rfl _⟩
    · exact ⟨by rw [@den_val (rowsN (nth [bxR pb (plst ga gb gc gd)]))]; simp, @ok_val (rowsN (nth [bxR pb (plst ga gb gc gd)])) _ _⟩
    · exact ⟨by rw [den_n _ pb 0 _ rfl]; simp, ok_n _ pb 0 _ rfl _⟩
  · simp only [List.map_cons, List.map_nil, @den_val (rowsN (nth [bxR pb (plst ga gb gc gd)])), pden, pden0]
noncomputable def pl2 : Array Oper := opsOf (pl.getD 2 .skip)
theorem pl2_eq : pl2.toList = pl2.toList.take 3 ++ (pl2.toList.getD 3 default :: (pl2.toList.drop 4 ++ [])) := by kernel_rfl
theorem pl2_1 (pb ga gb gc gd : Nat) (u : Value) (v : Value) : letI := rowsN (nth [bxR pb (plst ga gb gc gd)])
    (reads Tryd.prog 222 (pl2.toList.take 3) (pickT [(0, .xp [0] 0 0), (4, .val u), (7, .val v)])).map (fun t => [4, 7, 25].map t) = some [.val u, .val v, .xp [0] 0 2] := by kernel_rfl
theorem pl2_2 (pb ga gb gc gd : Nat) (u : Value) (v : Value) : letI := rowsN (nth [bxR pb (plst ga gb gc gd)])
    (reads Tryd.prog 222 (pl2.toList.drop 4) (pickT [(4, .val u), (7, .val v), (26, .xp [0] 0 2)])).map (fun t => [4, 7, 8].map t) = some [.val u, .val v, .val (pt gc)] := by kernel_rfl
theorem pl2_reg {pb ga gb gc gd : Nat} {u : Value} {v : Value} {w : World} {a : Act} {Q : Exit → Act → World → Prop} (hw : w.heap[pb]? = some (.cells (plst ga gb gc gd).toArray 71 (0, 0))) (hk : Kp 222 [(0, pt pb), (4, u), (7, v)] a)
    (hQ : ∀ a', Kp 222 [(4, u), (7, v), (8, pt gc)] a' → Q .normal a' w) : (Code.region 2 pl2 false).wp Tryd.prog Q a w := by
  have hX : @XOk (rowsN (nth [bxR pb (plst ga gb gc gd)])) w := xokN fun y hy e => by
    obtain rfl := List.mem_singleton.1 hy
    exact box_heap (t := 71) hw
  have pden : @SV.den (rowsN (nth [bxR pb (plst ga gb gc gd)])) (fun _ => 0) (.xp [0] 0 2) = .pointer (some ⟨pb, 2, none⟩) := by
    rw [@den_xp (rowsN (nth [bxR pb (plst ga gb gc gd)]))]
    show Value.pointer (some ((⟨pb, 0, none⟩ : Addr).add (0 * 5 + 2))) = _
    rw [add_none]
  have pok : ∀ mem, @SV.ok (rowsN (nth [bxR pb (plst ga gb gc gd)])) mem (.xp [0] 0 2) := fun mem => (@ok_xp (rowsN (nth [bxR pb (plst ga gb gc gd)])) _ _ _ _).2 Nat.zero_lt_one
  have pden0 : @SV.den (rowsN (nth [bxR pb (plst ga gb gc gd)])) (fun _ => 0) (.xp [0] 0 0) = pt pb := den_n _ pb 0 _ rfl _
  refine wp_region_list ?_
  rw [pl2_eq]
  refine read_kp (e := rowsN (nth [bxR pb (plst ga gb gc gd)])) (us := [u, v, .pointer (some ⟨pb, 2, none⟩)]) hX (pl2_1 pb ga gb gc gd u v) hk (fun p hp => ?_) ?_ (by kernel_rfl) fun a1 K1 => ?_
  · simp only [List.mem_cons, List.not_mem_nil, or_false] at hp
    rcases hp with rfl | rfl | rfl
    · exact ⟨by rw [den_n _ pb 0 _ rfl]; simp, ok_n _ pb 0 _ rfl _⟩
    · exact ⟨by rw [@den_val (rowsN (nth [bxR pb (plst ga gb gc gd)]))]; simp, @ok_val (rowsN (nth [bxR pb (plst ga gb gc gd)])) _ _⟩
    · exact ⟨by rw [@den_val (rowsN (nth [bxR pb (plst ga gb gc gd)]))]; simp, @ok_val (rowsN (nth [bxR pb (plst ga gb gc gd)])) _ _⟩
  · simp only [List.map_cons, List.map_nil, @den_val (rowsN (nth [bxR pb (plst ga gb gc gd)])), pden, pden0]
  refine wpList_val (by kernel_rfl) (arr_run (g := pb) (off := 2) (t := 69) (x := .tmp 25) (y := .const (.int .i64 0)) (by simp) (by kernel_rfl) (K1.get (d := 25) (by simp)) rfl) ?_
  rw [show (pl2.toList.getD 3 default).dst = some 26 by kernel_rfl]
  have K2 := K1.put (d := 26) (v := .pointer (some ⟨pb, 2, none⟩)) rfl
  generalize a1.put (some 26) (.pointer (some ⟨pb, 2, none⟩)) = a2 at K2 ⊢
  refine read_kp (e := rowsN (nth [bxR pb (plst ga gb gc gd)])) (us := [u, v, pt gc]) hX (pl2_2 pb ga gb gc gd u v) K2 (fun p hp => ?_) ?_ (by kernel_rfl) fun a3 K3 => hQ a3 K3
  · simp only [List.mem_cons, List.not_mem_nil, or_false] at hp
    rcases hp with rfl | rfl | rfl
    · exact ⟨by rw [@den_val (rowsN (nth [bxR pb (plst ga gb gc gd)]))]; simp, @ok_val (rowsN (nth [bxR pb (plst ga gb gc gd)])) _ _⟩
    · exact ⟨by rw [@den_val (rowsN (nth [bxR pb (plst ga gb gc gd)]))]; simp, @ok_val (rowsN (nth [bxR pb (plst ga gb gc gd)])) _ _⟩
    · exact ⟨by rw [pden]; simp, pok _⟩
  · simp only [List.map_cons, List.map_nil, @den_val (rowsN (nth [bxR pb (plst ga gb gc gd)])), pden, pden0]
noncomputable def te1 : Array Oper := opsOf (te'.getD 1 .skip)
theorem te1_eq : te1.toList = te1.toList.take 4 ++ (te1.toList.getD 4 default :: (te1.toList.drop 5 ++ [])) := by kernel_rfl
theorem te1_1 (pb ga gb gc gd : Nat)  : letI := rowsN (nth [bxR pb (plst ga gb gc gd)])
    (reads Tryd.prog 103 (te1.toList.take 4) (pickT [(0, .xp [0] 0 0), (1, .val (.int .i64 0))])).map (fun t => [0, 1, 16, 18].map t) = some [.xp [0] 0 0, .val (.int .i64 0), .val (.int .i64 0), .xp [0] 0 0] := by kernel_rfl
theorem te1_2 (pb ga gb gc gd : Nat)  : letI := rowsN (nth [bxR pb (plst ga gb gc gd)])
    (reads Tryd.prog 103 (te1.toList.drop 5) (pickT [(0, .xp [0] 0 0), (1, .val (.int .i64 0)), (19, .xp [0] 0 0)])).map (fun t => [0, 1, 5].map t) = some [.xp [0] 0 0, .val (.int .i64 0), .val (pt ga)] := by kernel_rfl
theorem te1_reg {pb ga gb gc gd : Nat}  {w : World} {a : Act} {Q : Exit → Act → World → Prop} (hw : w.heap[pb]? = some (.cells (plst ga gb gc gd).toArray 71 (0, 0))) (hk : Kp 103 [(0, pt pb), (1, .int .i64 0)] a)
    (hQ : ∀ a', Kp 103 [(0, pt pb), (1, .int .i64 0), (5, pt ga)] a' → Q .normal a' w) : (Code.region 1 te1 false).wp Tryd.prog Q a w := by
  have hX : @XOk (rowsN (nth [bxR pb (plst ga gb gc gd)])) w := xokN fun y hy e => by
    obtain rfl := List.mem_singleton.1 hy
    exact box_heap (t := 71) hw
  have pden : @SV.den (rowsN (nth [bxR pb (plst ga gb gc gd)])) (fun _ => 0) (.xp [0] 0 0) = .pointer (some ⟨pb, 0, none⟩) := by
    rw [@den_xp (rowsN (nth [bxR pb (plst ga gb gc gd)]))]
    show Value.pointer (some ((⟨pb, 0, none⟩ : Addr).add (0 * 5 + 0))) = _
    rw [add_none]
  have pok : ∀ mem, @SV.ok (rowsN (nth [bxR pb (plst ga gb gc gd)])) mem (.xp [0] 0 0) := fun mem => (@ok_xp (rowsN (nth [bxR pb (plst ga gb gc gd)])) _ _ _ _).2 Nat.zero_lt_one
  have pden0 : @SV.den (rowsN (nth [bxR pb (plst ga gb gc gd)])) (fun _ => 0) (.xp [0] 0 0) = pt pb := den_n _ pb 0 _ rfl _
  refine wp_region_list ?_
  rw [te1_eq]
  refine read_kp (e := rowsN (nth [bxR pb (plst ga gb gc gd)])) (us := [pt pb, .int .i64 0, .int .i64 0, .pointer (some ⟨pb, 0, none⟩)]) hX (te1_1 pb ga gb gc gd ) hk (fun p hp => ?_) ?_ (by kernel_rfl) fun a1 K1 => ?_
  · simp only [List.mem_cons, List.not_mem_nil, or_false] at hp
    rcases hp with rfl | rfl
    · exact ⟨by rw [den_n _ pb 0 _ rfl]; simp, ok_n _ pb 0 _ rfl _⟩
    · exact ⟨by rw [@den_val (rowsN (nth [bxR pb (plst ga gb gc gd)]))]; simp, @ok_val (rowsN (nth [bxR pb (plst ga gb gc gd)])) _ _⟩
  · simp only [List.map_cons, List.map_nil, @den_val (rowsN (nth [bxR pb (plst ga gb gc gd)])), pden, pden0]
  refine wpList_val (by kernel_rfl) (arr_run (g := pb) (off := 0) (t := 67) (x := .tmp 18) (y := .tmp 16) (by simp) (by kernel_rfl) (K1.get (d := 18) (by simp)) (K1.get (d := 16) (by simp))) ?_
  rw [show (te1.toList.getD 4 default).dst = some 19 by kernel_rfl]
  have K2 := K1.put (d := 19) (v := .pointer (some ⟨pb, 0, none⟩)) rfl
  generalize a1.put (some 19) (.pointer (some ⟨pb, 0, none⟩)) = a2 at K2 ⊢
  refine read_kp (e := rowsN (nth [bxR pb (plst ga gb gc gd)])) (us := [pt pb, .int .i64 0, pt ga]) hX (te1_2 pb ga gb gc gd ) K2 (fun p hp => ?_) ?_ (by kernel_rfl) fun a3 K3 => hQ a3 K3
  · simp only [List.mem_cons, List.not_mem_nil, or_false] at hp
    rcases hp with rfl | rfl | rfl
    · exact ⟨by rw [den_n _ pb 0 _ rfl]; simp, ok_n _ pb 0 _ rfl _⟩
    · exact ⟨by rw [@den_val (rowsN (nth [bxR pb (plst ga gb gc gd)]))]; simp, @ok_val (rowsN (nth [bxR pb (plst ga gb gc gd)])) _ _⟩
    · exact ⟨by rw [den_n _ pb 0 _ rfl]; simp, ok_n _ pb 0 _ rfl _⟩
  · simp only [List.map_cons, List.map_nil, @den_val (rowsN (nth [bxR pb (plst ga gb gc gd)])), pden, pden0]
noncomputable def te2 : Array Oper := opsOf (te'.getD 2 .skip)
theorem te2_eq : te2.toList = te2.toList.take 4 ++ (te2.toList.getD 4 default :: (te2.toList.drop 5 ++ [])) := by kernel_rfl
theorem te2_1 (pb ga gb gc gd : Nat) (v : Value) : letI := rowsN (nth [bxR pb (plst ga gb gc gd)])
    (reads Tryd.prog 103 (te2.toList.take 4) (pickT [(0, .xp [0] 0 0), (1, .val (.int .i64 0)), (5, .val v)])).map (fun t => [5, 22, 24].map t) = some [.val v, .val (.int .i64 0), .xp [0] 0 2] := by kernel_rfl
theorem te2_2 (pb ga gb gc gd : Nat) (v : Value) : letI := rowsN (nth [bxR pb (plst ga gb gc gd)])
    (reads Tryd.prog 103 (te2.toList.drop 5) (pickT [(5, .val v), (25, .xp [0] 0 2)])).map (fun t => [5, 6].map t) = some [.val v, .val (pt gc)] := by kernel_rfl
theorem te2_reg {pb ga gb gc gd : Nat} {v : Value} {w : World} {a : Act} {Q : Exit → Act → World → Prop} (hw : w.heap[pb]? = some (.cells (plst ga gb gc gd).toArray 71 (0, 0))) (hk : Kp 103 [(0, pt pb), (1, .int .i64 0), (5, v)] a)
    (hQ : ∀ a', Kp 103 [(5, v), (6, pt gc)] a' → Q .normal a' w) : (Code.region 2 te2 false).wp Tryd.prog Q a w := by
  have hX : @XOk (rowsN (nth [bxR pb (plst ga gb gc gd)])) w := xokN fun y hy e => by
    obtain rfl := List.mem_singleton.1 hy
    exact box_heap (t := 71) hw
  have pden : @SV.den (rowsN (nth [bxR pb (plst ga gb gc gd)])) (fun _ => 0) (.xp [0] 0 2) = .pointer (some ⟨pb, 2, none⟩) := by
    rw [@den_xp (rowsN (nth [bxR pb (plst ga gb gc gd)]))]
    show Value.pointer (some ((⟨pb, 0, none⟩ : Addr).add (0 * 5 + 2))) = _
    rw [add_none]
  have pok : ∀ mem, @SV.ok (rowsN (nth [bxR pb (plst ga gb gc gd)])) mem (.xp [0] 0 2) := fun mem => (@ok_xp (rowsN (nth [bxR pb (plst ga gb gc gd)])) _ _ _ _).2 Nat.zero_lt_one
  have pden0 : @SV.den (rowsN (nth [bxR pb (plst ga gb gc gd)])) (fun _ => 0) (.xp [0] 0 0) = pt pb := den_n _ pb 0 _ rfl _
  refine wp_region_list ?_
  rw [te2_eq]
  refine read_kp (e := rowsN (nth [bxR pb (plst ga gb gc gd)])) (us := [v, .int .i64 0, .pointer (some ⟨pb, 2, none⟩)]) hX (te2_1 pb ga gb gc gd v) hk (fun p hp => ?_) ?_ (by kernel_rfl) fun a1 K1 => ?_
  · simp only [List.mem_cons, List.not_mem_nil, or_false] at hp
    rcases hp with rfl | rfl | rfl
    · exact ⟨by rw [den_n _ pb 0 _ rfl]; simp, ok_n _ pb 0 _ rfl _⟩
    · exact ⟨by rw [@den_val (rowsN (nth [bxR pb (plst ga gb gc gd)]))]; simp, @ok_val (rowsN (nth [bxR pb (plst ga gb gc gd)])) _ _⟩
    · exact ⟨by rw [@den_val (rowsN (nth [bxR pb (plst ga gb gc gd)]))]; simp, @ok_val (rowsN (nth [bxR pb (plst ga gb gc gd)])) _ _⟩
  · simp only [List.map_cons, List.map_nil, @den_val (rowsN (nth [bxR pb (plst ga gb gc gd)])), pden, pden0]
  refine wpList_val (by kernel_rfl) (arr_run (g := pb) (off := 2) (t := 69) (x := .tmp 24) (y := .tmp 22) (by simp) (by kernel_rfl) (K1.get (d := 24) (by simp)) (K1.get (d := 22) (by simp))) ?_
  rw [show (te2.toList.getD 4 default).dst = some 25 by kernel_rfl]
  have K2 := K1.put (d := 25) (v := .pointer (some ⟨pb, 2, none⟩)) rfl
  generalize a1.put (some 25) (.pointer (some ⟨pb, 2, none⟩)) = a2 at K2 ⊢
  refine read_kp (e := rowsN (nth [bxR pb (plst ga gb gc gd)])) (us := [v, pt gc]) hX (te2_2 pb ga gb gc gd v) K2 (fun p hp => ?_) ?_ (by kernel_rfl) fun a3 K3 => hQ a3 K3
  · simp only [List.mem_cons, List.not_mem_nil, or_false] at hp
    rcases hp with rfl | rfl
    · exact ⟨by rw [@den_val (rowsN (nth [bxR pb (plst ga gb gc gd)]))]; simp, @ok_val (rowsN (nth [bxR pb (plst ga gb gc gd)])) _ _⟩
    · exact ⟨by rw [pden]; simp, pok _⟩
  · simp only [List.map_cons, List.map_nil, @den_val (rowsN (nth [bxR pb (plst ga gb gc gd)])), pden, pden0]
end Go.Proofs.YtbpdpnoekkkapaaDoor.PDescKinds
end
section
namespace Go.Proofs.YtbpdpnoekkkapaaDoor.PDescKinds
open Go.RowKit Go.Ev Go.Proofs.YtbpdpnoekkkapaaDoorV.PrintLast
set_option maxRecDepth 100000
theorem frE_new (f : Nat → K × D) (n : Nat) (k : K) (d : D) : fput (frE f) n ⟨k, d, n + 1, false⟩ = frE (fput f n (k, d)) := by
  funext j
  simp only [fput, frE]
  split
  · rename_i h; subst h; simp
  · rfl
theorem frE_old (f : Nat → K × D) (p : Nat) (d : D) : fput (frE f) p { frE f p with d := d } = frE (fput f p ((f p).1, d)) := by
  funext j
  simp only [fput, frE]
  split
  · rename_i h; subst h; simp
  · rfl
theorem mapsOf_succ (n : Nat) (f : Nat → K × D) (k : K) (d : D) : mapsOf (n + 1) (fput f n (k, d)) = mapsOf n f ++ [(k, n, n)] := by
  unfold mapsOf
  rw [List.range_succ, List.map_append]
  congr 1
  · refine List.map_congr_left fun i hi => ?_
    have := List.mem_range.1 hi
    simp only [fput]
    rw [if_neg (by omega)]
  · simp [fput]
theorem put_both {x : Tk} {n n' : Nat} {k : K} {d : D} {q q' : Int} {t' : Tb} {f' : Nat → K × D} (hm : x.m = mapsOf n x.f ∧ x.last = n ∧ x.cl = n) (hg : ∀ i, i < n → S.chk (x.f i).1 = 0) (hn : n ≤ 1) (h1 : S.Put k d (x.tb n) q t') (h2 : S.RPut k d n x.f q' n' f') :
    q = q' ∧ n' ≤ n + 1 ∧ ∃ x' : Tk, x'.gb = x.gb ∧ t' = x'.tb n' ∧ x'.f = f' ∧ (x'.m = mapsOf n' x'.f ∧ x'.last = n' ∧ x'.cl = n') ∧ ∀ i, i < n' → S.chk (x'.f i).1 = 0 := by
  obtain ⟨hm1, hm2, hm3⟩ := hm
  have hfind : mget x.m k = S.find n x.f k := by rw [hm1]; exact mget_find x.f k n (by omega)
  have hf1 : n = 1 → S.find n x.f k = bif keq (x.f 0).1 k then some 0 else none := fun e => by
    subst e
    unfold S.find seek
    cases keq (x.f 0).1 k <;> rfl
  cases h1 with
  | bad hc =>
    cases h2 with
    | bad _ => exact ⟨((chk_eq k).2.resolve_left hc), by omega, x, rfl, rfl, rfl, ⟨hm1, hm2, hm3⟩, hg⟩
    | old hc' _ _ => exact absurd hc' hc
    | new hc' _ => exact absurd hc' hc
  | @old p hc hp =>
    have hp : mget x.m k = some p := hp
    rw [hfind] at hp
    have hn1 : n = 1 := by
      have := find_lt x.f k n (by omega) p hp
      omega
    have hp0 : p = 0 := by
      have := find_lt x.f k n (by omega) p hp
      omega
    subst hp0
    rw [hf1 hn1] at hp
    cases h2 with
    | bad hc' => exact absurd hc hc'
    | new _ hk =>
      rw [hk hn1] at hp
      cases hp
    | old _ _ hk =>
      subst hn1
      refine ⟨rfl, by omega, { x with f := fput x.f 0 ((x.f 0).1, d) }, rfl, ?_, rfl, ⟨?_, hm2, hm3⟩, fun i hi => ?_⟩
      · show (x.tb 1).setD 0 d = _
        unfold Tb.setD
        show ({ gb := x.gb, mb := x.mb, A := x.A, n := 1, c := x.c, E := fput (frE x.f) 0 { frE x.f 0 with d := d }, last := x.last, m := x.m, clock := x.cl } : Tb) = _
        rw [frE_old]
      · show x.m = mapsOf 1 (fput x.f 0 ((x.f 0).1, d))
        rw [hm1]
        rfl
      · obtain rfl : i = 0 := by omega
        exact hg 0 (by omega)
  | @new A c hc hp =>
    have hp : mget x.m k = none := hp
    rw [hfind] at hp
    cases h2 with
    | bad hc' => exact absurd hc hc'
    | old _ hn1 hk =>
      rw [hf1 hn1, hk] at hp
      cases hp
    | new _ _ =>
      refine ⟨rfl, by omega, ⟨x.gb, x.mb, A, c, fput x.f n (k, d), x.last + 1, x.m ++ [(k, n, x.cl)], x.cl + 1⟩, rfl, ?_, rfl, ⟨?_, by show x.last + 1 = n + 1; omega, by show x.cl + 1 = n + 1; omega⟩, fun i hi => ?_⟩
      · show ({ gb := x.gb, mb := x.mb, A := A, n := n + 1, c := c, E := fput (frE x.f) n ⟨k, d, x.last + 1, false⟩, last := x.last + 1, m := x.m ++ [(k, n, x.cl)], clock := x.cl + 1 } : Tb) = _
        rw [hm2, frE_new]
      · show x.m ++ [(k, n, x.cl)] = mapsOf (n + 1) (fput x.f n (k, d))
        rw [mapsOf_succ, hm1, hm3]
      · show S.chk (fput x.f n (k, d) i).1 = 0
        simp only [fput]
        split
        · exact hc
        · exact hg i (by omega)
def alist (q : Int) (k : K) (d : D) : List Value := [.int .i64 q, .string k.s, .int .i64 k.n, .int .i64 d.v.k, .bool d.v.b, .float .f64 d.v.n, .string d.v.s, .int .i64 d.v.id,
  .int .i64 d.g.k, .bool d.g.b, .float .f64 d.g.n, .string d.g.s, .int .i64 d.g.id, .int .i64 d.t.k, .bool d.t.b, .float .f64 d.t.n, .string d.t.s, .int .i64 d.t.id, .int .i64 d.w, .int .i64 d.e, .int .i64 d.c, .int .i64 0, .slice none 0 0]
noncomputable def pB : List Code := flat (inB (pl.getD 4 .skip))
noncomputable def pl3 : Array Oper := opsOf (pl.getD 3 .skip)
theorem pl_eq : pl = [pl.getD 0 .skip] ++ [.region 1 pl1 false, .region 2 pl2 false, .region 3 pl3 false, .block 0 (inB (pl.getD 4 .skip)), pl.getD 5 .skip, .ret] := by kernel_rfl
theorem pl0 (pb : Nat) (q : Int) (k : K) (d : D) : letI := row0
    evK Tryd.prog ext (tab []) 60 222 (seqL [pl.getD 0 .skip]) (⟨argS ([pt pb, .agg (alist q k d).toArray, .int .i64 0].map SV.val), fun _ => none, 0⟩) (grab Tryd.prog Tryd.f29 [0, 4] [0] 1) = some (Res.cut Ex.normal ⟨[(0, .val (pt pb)), (4, .ptr 0 0)], [(0, ⟨42, (alist q k d).map SV.val⟩)]⟩) := by kernel_rfl
theorem pl3_v (ab : Nat) (q : Int) (k : K) (d : D) (b c : Value) : letI := rowsN (nth [bxR ab (alist q k d)])
    (reads Tryd.prog 222 pl3.toList (pickT [(4, .xp [0] 0 0), (7, .val b), (8, .val c)])).map (fun t => [4, 7, 8, 29].map t) = some [.xp [0] 0 0, .val b, .val c, .val (.int .i64 q)] := by kernel_rfl
abbrev KA (ab ga gc : Nat) (q : Int) : List (Nat × Value) := [(4, pt ab), (7, pt ga), (8, pt gc), (29, .int .i64 q)]
theorem play_head {w : World} {pb ga gb gc gd : Nat} {q : Int} {k : K} {d : D} {R : Ending → World → Prop} (hw : w.heap[pb]? = some (.cells (plst ga gb gc gd).toArray 71 (0, 0)))
    (h : ∀ a' w' ab, Kp 222 (KA ab ga gc q) a' → w'.heap[ab]? = some (.cells (alist q k d).toArray 42 (0, 0)) → Below w.heap.size w w' → w.heap.size ≤ ab → wpL Tryd.prog pB (Exit.inBlock 0 (Exit.then (wpL Tryd.prog [pl.getD 5 .skip, .ret] (bodyPost Tryd.prog Tryd.f29 R)) (bodyPost Tryd.prog Tryd.f29 R))) a' w') :
    Calls Tryd.prog 29 #[pt pb, .agg (alist q k d).toArray, .int .i64 0] w R := by
  refine enter_vals (vs := [pt pb, .agg (alist q k d).toArray, .int .i64 0]) (N := 222) Tryd.func29 (by kernel_rfl) (by kernel_rfl) (show 3 ≤ 222 by decide) fun a0 h0 => ?_
  show wpL Tryd.prog pl _ _ _
  rw [pl_eq, wpL_app]
  refine pieceZ (pl0 pb q k d) h0 (fun v hv => by cases hv) (fun ex c hc m a1 w1 hr => ?_)
  cases hc
  have hb1 := SR.bel hr
  have ⟨hg1, hw1⟩ := SR.own (b := 0) (l := alist q k d) (ty := 42) hr rfl
  have K1 : Kp 222 [(0, pt pb), (4, pt (m 0))] a1 := SR.kp hr fun p hp => by
    simp only [List.mem_cons, List.not_mem_nil, or_false] at hp
    rcases hp with rfl | rfl
    · exact ⟨rfl, @den_val row0 _ _⟩
    · exact ⟨rfl, @den_ptr row0 _ _ _⟩
  generalize m 0 = ab at hg1 hw1 K1
  have hp1 := (hb1.block pb (lt' hw)).trans hw
  refine pl1_reg hp1 K1 fun a2 K2 => ?_
  refine pl2_reg hp1 K2 fun a3 K3 => ?_
  refine wp_region_list ?_
  rw [← List.append_nil pl3.toList]
  refine read_kp (e := rowsN (nth [bxR ab (alist q k d)])) (us := [pt ab, pt ga, pt gc, .int .i64 q]) (xokN fun y hy e => by
    obtain rfl := List.mem_singleton.1 hy
    exact box_heap (t := 42) hw1) (pl3_v ab q k d (pt ga) (pt gc)) K3 (fun p hp => ?_) ?_ (by kernel_rfl) fun a4 K4 => ?_
  · simp only [List.mem_cons, List.not_mem_nil, or_false] at hp
    rcases hp with rfl | rfl | rfl
    · exact ⟨by rw [den_n _ ab 0 _ rfl]; simp, ok_n _ ab 0 _ rfl _⟩
    · exact ⟨by rw [@den_val (rowsN (nth [bxR ab (alist q k d)]))]; simp, @ok_val (rowsN (nth [bxR ab (alist q k d)])) _ _⟩
    · exact ⟨by rw [@den_val (rowsN (nth [bxR ab (alist q k d)]))]; simp, @ok_val (rowsN (nth [bxR ab (alist q k d)])) _ _⟩
  · simp only [List.map_cons, List.map_nil, @den_val (rowsN (nth [bxR ab (alist q k d)]))]
    rw [den_n _ ab 0 _ rfl]
  refine wp_block ?_
  refine wpL_flat _ ?_
  exact h a4 w1 ab K4 hw1 hb1 hg1
end Go.Proofs.YtbpdpnoekkkapaaDoor.PDescKinds
end
section
namespace Go.Proofs.YtbpdpnoekkkapaaDoor.PDescKinds
open Go.RowKit Go.Ev Go.Proofs.YtbpdpnoekkkapaaDoorV.PrintLast
set_option maxRecDepth 100000
noncomputable def pT : List Code := flat (thenOf (pB.getD 1 .skip))
noncomputable def pl5 : Array Oper := opsOf (pT.getD 0 .skip)
theorem pB_eq : pB = [pB.getD 0 .skip] ++ [.cond (.tmp 30) (thenOf (pB.getD 1 .skip)) (elseOf (pB.getD 1 .skip))] := by kernel_rfl
theorem pT_eq : pT = [.region 5 pl5 true, .ret] := by kernel_rfl
theorem pl5_size : pl5.size = 15 := by kernel_rfl
theorem pl4_v (a b c : Value) (q : Int) : letI := row0
    evK Tryd.prog ext (tab []) 60 222 (seqL [pB.getD 0 .skip]) ((⟨[(4, .val a), (7, .val b), (8, .val c), (29, .val (.int .i64 q))], []⟩ : Cut).st 0) (grab Tryd.prog Tryd.f29 [4, 7, 8, 29, 30] [] 0) = some (Res.cut Ex.normal ⟨[(4, .val a), (7, .val b), (8, .val c), (29, .val (.int .i64 q)), (30, .val (.bool (q == 1)))], []⟩) := by kernel_rfl
theorem pl5_v (ab : Nat) (k : K) (d : D) (b c : Value) : letI := rowsN (nth [bxR ab (alist 1 k d)])
    (takesL Tryd.prog pl5 [] 222 [0, 1, 2, 3, 4, 7, 8, 9, 10, 11] (pickT [(4, .xp [0] 0 0), (7, .val b), (8, .val c)]) (Array.replicate 15 false)).map (fun p => ([32, 34, 36, 39, 41, 43].map p.1, p.2)) =
    some ([.val b, .val k.agg, .val d.agg, .val c, .val k.agg, .val d.agg], #[true, true, true, true, true, false, false, true, true, true, true, true, false, false, false]) := by kernel_rfl
theorem pl5_13 (p q : Int) : letI := row0
    evP Tryd.prog (Ev.look (pickT ([(38, Value.int .i64 p), (44, Value.int .i64 q)].map fun p => (p.1, .val p.2)))) (pl5.toList.getD 13 default) = some (.val (.bool (p == q))) := by kernel_rfl
theorem pl5_14 (b : Bool) : letI := row0
    evP Tryd.prog (Ev.look (pickT ([(45, Value.bool b)].map fun p => (p.1, .val p.2)))) (pl5.toList.getD 14 default) = some (.val (.bool b)) := by kernel_rfl
theorem plR (b : Bool) : letI := row0
    evK Tryd.prog ext (tab []) 60 222 (seqL [.ret]) ((⟨[(6, .val (.bool b))], []⟩ : Cut).st 0) (grab Tryd.prog Tryd.f29 [] [] 0) = some (Res.ret (.val (.bool b))) := by kernel_rfl
theorem ent_num : E (14, onI fun n => .leaf (.int .i64 n)) := byEv entries_nil 20 fun args t h => by
  obtain ⟨n, rfl, rfl⟩ := onI_eq h
  have : evFn Tryd.prog ext (tab []) 20 14 [.int .i64 n] = some (.int .i64 n) := by kernel_rfl
  exact this
theorem blk_t {B : Nat} {w : World} {t : Tb} {g ty : Nat} {l : Array Value} (hO : OwnT B w t) (h : w.heap[g]? = some (.cells l ty (0, 0))) (h1 : 80 ≠ ty) (h2 : 84 ≠ ty) : ¬ t.blk g := fun hb => by
  rcases hb with rfl | rfl | hb
  · exact own_nt hO.box h h1 rfl
  · have := hO.map.1
    rw [h] at this
    cases this
  · exact own_nt hO.row h h2 hb
theorem blk_r {B n : Nat} {w : World} {r : Rf} {f : Nat → K × D} {g ty : Nat} {l : Array Value} (hO : OwnR B w r n f) (h : w.heap[g]? = some (.cells l ty (0, 0))) (h1 : 103 ≠ ty) (h2 : 117 ≠ ty) : ¬ r.blk n g := fun hb => by
  rcases hb with rfl | hb
  · exact own_nt hO.box h h1 rfl
  · exact own_nt hO.row h h2 hb
theorem blk_tr {B B' n : Nat} {w : World} {t : Tb} {r : Rf} {f : Nat → K × D} (hO : OwnT B w t) (hR : OwnR B' w r n f) {k : Nat} (h : t.blk k) : ¬ r.blk n k := fun h' => by
  rcases h' with rfl | h'
  · rcases h with h | h | h
    · exact own_ne hO.box hR.box (by decide) (g := r.rb) (by rw [h]; rfl) rfl
    · exact own_nm hR.box (g := r.rb) (by rw [h]; exact hO.map.1) rfl
    · exact own_ne hO.row hR.box (by decide) h rfl
  · rcases h with h | h | h
    · exact own_ne hO.box hR.row (by decide) (g := k) (by rw [h]; rfl) h'
    · exact own_nm hR.row (g := k) (by rw [h]; exact hO.map.1) h'
    · exact own_ne hO.row hR.row (by decide) h h'
set_option maxHeartbeats 1000000 in
theorem PlayPut.calls {pb n : Nat} {W0 w : World} {x : Tk} {r : Rf} {k : K} {d : D} (hT0 : Tabs W0) (hW : Below W0.heap.size W0 w) (hP : Pst W0.heap.size w pb x r n) (hn : n ≤ 1) :
    Calls Tryd.prog 29 #[pt pb, .agg (alist 1 k d).toArray, .int .i64 0] w fun e w' => e = .returned (.bool true) ∧ Below W0.heap.size W0 w' ∧ ∃ x' r' n', n' ≤ n + 1 ∧ x'.gb = x.gb ∧ r'.rb = r.rb ∧ Pst W0.heap.size w' pb x' r' n' ∧ Fr (fun b => (x.tb n).blk b ∨ r.blk n b) w w' := by
  have hT : Tabs w := tabs_stable _ _ hT0 hW
  have hB : W0.heap.size ≤ w.heap.size := hW.size
  obtain ⟨g1, r1, hpair⟩ := hP.pair
  refine play_head hpair fun a1 w1 ab K1 hab hb1 hg1 => ?_
  rw [pB_eq, wpL_app]
  refine pieceZ (pl4_v (pt ab) (pt x.gb) (pt r.rb) 1) (K1.sr w1) (fun v hv => by cases hv) (fun ex c hc m2 a2 w2 hr2 => ?_)
  cases hc
  have hb2 := SR.bel hr2
  have K2 : Kp 222 [(4, pt ab), (7, pt x.gb), (8, pt r.rb), (29, .int .i64 1), (30, .bool true)] a2 := SR.kp hr2 fun p hp => by
    simp only [List.mem_cons, List.not_mem_nil, or_false] at hp
    rcases hp with rfl | rfl | rfl | rfl | rfl <;> exact ⟨rfl, @den_val row0 _ _⟩
  have hab2 := (hb2.block ab (lt' hab)).trans hab
  have hb12 := hb1.trans (hb2.mono hb1.size)
  refine wp_cond_true (K2.get (d := 30) (by simp)) ?_
  refine wpL_flat _ ?_
  show wpL Tryd.prog pT _ _ _
  rw [pT_eq]
  refine region_last (fun w' => @XOk (rowsN (nth [bxR ab (alist 1 k d)])) w') [] ?_
  rw [pl5_size]
  have hb3 : Below w.heap.size w { w2 with drawn := w2.drawn + 1 } := hb12.trans ((drew_bel w2).mono hb12.size)
  have hab3 : ({ w2 with drawn := w2.drawn + 1 } : World).heap[ab]? = some (.cells (alist 1 k d).toArray 42 (0, 0)) := hab2
  generalize ({ w2 with drawn := w2.drawn + 1 } : World) = w3 at hb3 hab3 ⊢
  have s3 := hb3.size
  have hX : ∀ w', w'.heap[ab]? = some (.cells (alist 1 k d).toArray 42 (0, 0)) → @XOk (rowsN (nth [bxR ab (alist 1 k d)])) w' := fun w' h => xokN fun y hy e => by
    obtain rfl := List.mem_singleton.1 hy
    exact box_heap (t := 42) h
  show wpAnyLast Tryd.prog .any pl5 _ _ _ ([0, 1, 2, 3, 4, 7, 8, 9, 10, 11].length + 5) (Array.replicate 15 false) a2 _
  refine take_kp (e := rowsN (nth [bxR ab (alist 1 k d)])) (us := [pt x.gb, k.agg, d.agg, pt r.rb, k.agg, d.agg]) (fun w h => h) (by kernel_rfl) (pl5_v ab k d (pt x.gb) (pt r.rb)) K2 (fun p hp => ?_) ?_ (by kernel_rfl) (hX _ hab3) fun a3 K3 => ?_
  · simp only [List.mem_cons, List.not_mem_nil, or_false] at hp
    rcases hp with rfl | rfl | rfl
    · exact ⟨by rw [den_n _ ab 0 _ rfl]; simp, ok_n _ ab 0 _ rfl _⟩
    · exact ⟨by rw [@den_val (rowsN (nth [bxR ab (alist 1 k d)]))]; simp, @ok_val (rowsN (nth [bxR ab (alist 1 k d)])) _ _⟩
    · exact ⟨by rw [@den_val (rowsN (nth [bxR ab (alist 1 k d)]))]; simp, @ok_val (rowsN (nth [bxR ab (alist 1 k d)])) _ _⟩
  · simp only [List.map_cons, List.map_nil, @den_val (rowsN (nth [bxR ab (alist 1 k d)]))]
  have K3 : Kp 222 [(32, pt x.gb), (34, k.agg), (36, d.agg), (39, pt r.rb), (41, k.agg), (43, d.agg)] a3 := K3
  have hO3 := hP.own.bel hb3
  have hR3 := hP.ref.bel hb3
  have hp3 := (hb3.block pb (lt' hpair)).trans hpair
  refine wpAnyLast_one (i := 5) (l' := #[true, true, true, true, true, true, false, true, true, true, true, true, false, false, false]) (by kernel_rfl) (ops_get pl5_size 5 (by decide)) (by kernel_rfl) (by kernel_rfl) ?_
  have hlt : ∀ p, mget (x.tb n).m k = some p → p < n := fun p hp => by
    have hp : mget x.m k = some p := hp
    rw [hP.maps.1, mget_find x.f k n (by omega)] at hp
    exact find_lt x.f k n (by omega) p hp
  have hc := Put.calls (k := k) (d := d) (tabs_stable _ _ hT hb3) hO3 (by omega) hlt (show n < 1048576 by omega) (show x.last + 1 < 18446744073709551616 by rw [hP.maps.2.1]; omega)
  have hve : (#[.tmp 32, .tmp 34, .tmp 36] : Array Operand).map a3.eval = #[pt x.gb, k.agg, d.agg] := by
    have e1 : a3.eval (.tmp 32) = pt x.gb := K3.get (by simp)
    have e2 : a3.eval (.tmp 34) = k.agg := K3.get (by simp)
    have e3 : a3.eval (.tmp 36) = d.agg := K3.get (by simp)
    simp only [List.map_toArray, List.map_cons, List.map_nil, e1, e2, e3]
  refine call_op (f := 15) (ats := #[29, 34, 40]) (by kernel_rfl) (by kernel_rfl) hve hc (fun e w' he => by obtain ⟨q, t', _, rfl, _⟩ := he; exact ⟨_, rfl⟩) fun v w4 he => ?_
  obtain ⟨q, t', hS, hv, hO4, hf4, hnb4⟩ := he
  cases hv
  have nab : ¬ (x.tb n).blk ab := blk_t hO3 hab3 (by decide) (by decide)
  have npb : ¬ (x.tb n).blk pb := blk_t hO3 hp3 (by decide) (by decide)
  have hab4 := hf4.at hab3 nab
  have hp4 := hf4.at hp3 npb
  have hR4 : OwnR W0.heap.size w4 r n x.f := hR3.away hf4 fun b hb hb' => blk_tr hO3 hR3 hb' hb
  refine ⟨fun _ _ => hX _ hab4, ?_⟩
  rw [show (pl5.toList.getD 5 default).dst = some 37 by kernel_rfl]
  have K4 := K3.put (d := 37) (v := .int .i64 q) rfl
  generalize a3.put (some 37) (.int .i64 q) = a4 at K4 ⊢
  have f04 : Fr (x.tb n).blk w w4 := (Fr.of hb3).trans hf4 fun b hb => .inl hb
  have hW4 : Below W0.heap.size W0 w4 := hW.trans (f04.below hB fun b hb => (hP.own.blk hb).1)
  have hT4 : Tabs w4 := tabs_stable _ _ hT0 hW4
  have s4 := f04.size
  refine wpAnyLast_one (i := 6) (l' := #[true, true, true, true, true, true, true, true, true, true, true, true, false, false, false]) (by kernel_rfl) (ops_get pl5_size 6 (by decide)) (by kernel_rfl) (by kernel_rfl) ?_
  have hve6 : (#[.tmp 37] : Array Operand).map a4.eval = #[.int .i64 q] := by
    have e1 : a4.eval (.tmp 37) = .int .i64 q := K4.get (by simp)
    simp only [List.map_toArray, List.map_cons, List.map_nil, e1]
  refine call_op (f := 14) (ats := #[44]) (by kernel_rfl) (by kernel_rfl) hve6 (ent_num [.int .i64 q] _ (.int .i64 q) rfl rfl w4 hT4) (fun e w' he => ⟨_, he.1⟩) fun v w5 he => ?_
  obtain ⟨hv, hb5⟩ := he
  cases hv
  have hab5 := (hb5.block ab (lt' hab4)).trans hab4
  have hp5 := (hb5.block pb (lt' hp4)).trans hp4
  have hO5 := hO4.bel hb5
  have hR5 := hR4.bel hb5
  have s5 := hb5.size
  have f05 : Fr (x.tb n).blk w w5 := f04.trans (Fr.of hb5 (S := (x.tb n).blk)) fun b hb => .inl hb
  refine ⟨fun _ _ => hX _ hab5, ?_⟩
  rw [show (pl5.toList.getD 6 default).dst = some 38 by kernel_rfl]
  have K5 := K4.put (d := 38) (v := .int .i64 q) rfl
  generalize a4.put (some 38) (.int .i64 q) = a5 at K5 ⊢
  have hT5 : Tabs w5 := tabs_stable _ _ hT4 hb5
  refine wpAnyLast_one (i := 12) (l' := #[true, true, true, true, true, true, true, true, true, true, true, true, true, false, false]) (by kernel_rfl) (ops_get pl5_size 12 (by decide)) (by kernel_rfl) (by kernel_rfl) ?_
  have hve7 : (#[.tmp 39, .tmp 41, .tmp 43] : Array Operand).map a5.eval = #[pt r.rb, k.agg, d.agg] := by
    have e1 : a5.eval (.tmp 39) = pt r.rb := K5.get (by simp)
    have e2 : a5.eval (.tmp 41) = k.agg := K5.get (by simp)
    have e3 : a5.eval (.tmp 43) = d.agg := K5.get (by simp)
    simp only [List.map_toArray, List.map_cons, List.map_nil, e1, e2, e3]
  refine call_op (f := 47) (ats := #[68, 34, 40]) (by kernel_rfl) (by kernel_rfl) hve7 (RPut.calls (k := k) (d := d) hT5 hR5 (by omega) hn) (fun e w' he => by obtain ⟨q, r', n', f', _, rfl, _⟩ := he; exact ⟨_, rfl⟩) fun v w6 he => ?_
  obtain ⟨q', r', n', f', hS', hv, hrb, hR6, hf6, hnb6⟩ := he
  cases hv
  have nab' : ¬ r.blk n ab := blk_r hR5 hab5 (by decide) (by decide)
  have npb' : ¬ r.blk n pb := blk_r hR5 hp5 (by decide) (by decide)
  have hab6 := hf6.at hab5 nab'
  have hp6 := hf6.at hp5 npb'
  obtain ⟨hqq, hn', x', hx1, ht', hfx, hm', hg'⟩ := put_both hP.maps hP.good hn hS hS'
  subst hqq ht' hfx
  have hO6 : OwnT W0.heap.size w6 (x'.tb n') := hO5.away hf6 fun b hb hb' => by
    rcases hnb4 b hb with h | h
    · exact blk_tr hO3 hR3 h hb'
    · have := (hR3.blk hb').2
      omega
  have f06 : Fr (fun b => (x.tb n).blk b ∨ r.blk n b) w w6 := (f05.mono fun b hb => .inl hb).trans hf6 fun b hb => .inl (.inr hb)
  have hW6 : Below W0.heap.size W0 w6 := hW.trans (f06.below hB fun b hb => hb.elim (fun h => (hP.own.blk h).1) fun h => (hP.ref.blk h).1)
  refine ⟨fun _ _ => hX _ hab6, ?_⟩
  rw [show (pl5.toList.getD 12 default).dst = some 44 by kernel_rfl]
  have K6 : Kp 222 [(38, .int .i64 q), (44, .int .i64 q)] _ := (K5.put (d := 44) (v := .int .i64 q) rfl).sub (by simp)
  generalize a5.put (some 44) (.int .i64 q) = a6 at K6 ⊢
  refine one_ev (e := row0) (i := 13) (l' := #[true, true, true, true, true, true, true, true, true, true, true, true, true, true, false]) (by kernel_rfl) (ops_get pl5_size 13 (by decide)) (by kernel_rfl) (by kernel_rfl) (xok_0 _) K6 (ss := [(38, .val (.int .i64 q)), (44, .val (.int .i64 q))]) (fun p hp => ?_) (pl5_13 q q) (d := 45) (by kernel_rfl) rfl fun a7 K7 => ?_
  · simp only [List.mem_cons, List.not_mem_nil, or_false] at hp
    rcases hp with rfl | rfl
    · exact ⟨by rw [@den_val row0]; simp, @ok_val row0 _ _⟩
    · exact ⟨by rw [@den_val row0]; simp, @ok_val row0 _ _⟩
  rw [@den_val row0, show (q == q) = true from beq_self_eq_true q] at K7
  refine one_ev (e := row0) (i := 14) (l' := #[true, true, true, true, true, true, true, true, true, true, true, true, true, true, true]) (by kernel_rfl) (ops_get pl5_size 14 (by decide)) (by kernel_rfl) (by kernel_rfl) (xok_0 _) K7 (ss := [(45, .val (.bool true))]) (fun p hp => ?_) (pl5_14 true) (d := 6) (by kernel_rfl) rfl fun a8 K8 => ?_
  · simp only [List.mem_cons, List.not_mem_nil, or_false] at hp
    subst hp
    exact ⟨by rw [@den_val row0]; simp, @ok_val row0 _ _⟩
  rw [@den_val row0] at K8
  refine wpAnyLast_done (by kernel_rfl) ?_ _
  have K9 : Kp 222 [(6, .bool true)] a8 := K8.sub (by simp)
  show wpL Tryd.prog [_] _ a8 w6
  refine pieceZ (plR true) (K9.sr w6) (fun v hv m' a' w' hd hres hb' => ?_) (fun ex d hd => by cases hd)
  cases hv
  rw [@den_val row0] at hres
  have s6 := hW6.size
  have hp7 := (hb'.block pb (lt' hp6)).trans hp6
  refine ⟨hd, _, hres, rfl, hW6.trans (hb'.mono s6), x', r', n', hn', hx1, hrb, ⟨⟨g1, r1, ?_⟩, hO6.bel hb', hR6.bel hb', hm', hg'⟩, f06.trans (Fr.of hb' (S := fun _ => False)) fun b hb => hb.elim⟩
  rw [hx1, hrb]
  exact hp7
end Go.Proofs.YtbpdpnoekkkapaaDoor.PDescKinds
end
section
namespace Go.Proofs.YtbpdpnoekkkapaaDoor.PDescKinds
open Go.RowKit Go.Ev Go.Proofs.YtbpdpnoekkkapaaDoorV.PrintLast
set_option maxRecDepth 100000
noncomputable def pe1 : List Code := flat (elseOf (pB.getD 1 .skip))
noncomputable def pe2 : List Code := flat (elseOf (pe1.getD 1 .skip))
noncomputable def pe3 : List Code := flat (elseOf (pe2.getD 1 .skip))
noncomputable def pe4 : List Code := flat (elseOf (pe3.getD 1 .skip))
noncomputable def pG : List Code := flat (thenOf (pe4.getD 1 .skip))
noncomputable def pg14 : Array Oper := opsOf (pG.getD 0 .skip)
noncomputable def pg15 : Array Oper := opsOf (pG.getD 1 .skip)
noncomputable def pg16 : Array Oper := opsOf (pG.getD 2 .skip)
theorem pe1_eq : pe1 = [pe1.getD 0 .skip] ++ [.cond (.tmp 46) (thenOf (pe1.getD 1 .skip)) (elseOf (pe1.getD 1 .skip))] := by kernel_rfl
theorem pe2_eq : pe2 = [pe2.getD 0 .skip] ++ [.cond (.tmp 57) (thenOf (pe2.getD 1 .skip)) (elseOf (pe2.getD 1 .skip))] := by kernel_rfl
theorem pe3_eq : pe3 = [pe3.getD 0 .skip] ++ [.cond (.tmp 63) (thenOf (pe3.getD 1 .skip)) (elseOf (pe3.getD 1 .skip))] := by kernel_rfl
theorem pe4_eq : pe4 = [pe4.getD 0 .skip] ++ [.cond (.tmp 67) (thenOf (pe4.getD 1 .skip)) (elseOf (pe4.getD 1 .skip))] := by kernel_rfl
theorem pG_eq : pG = [.region 14 pg14 false, .region 15 pg15 false, .region 16 pg16 false, .ret] := by kernel_rfl
theorem pg14_eq : pg14.toList = pg14.toList.take 3 ++ (pg14.toList.getD 3 default :: (pg14.toList.drop 4 ++ [])) := by kernel_rfl
theorem pg15_eq : pg15.toList = pg15.toList.take 3 ++ (pg15.toList.getD 3 default :: (pg15.toList.drop 4 ++ [])) := by kernel_rfl
theorem pe1_v (a b c : Value) (q : Int) : letI := row0
    evK Tryd.prog ext (tab []) 60 222 (seqL [pe1.getD 0 .skip]) ((⟨[(4, .val a), (7, .val b), (8, .val c), (29, .val (.int .i64 q))], []⟩ : Cut).st 0) (grab Tryd.prog Tryd.f29 [4, 7, 8, 29, 46] [] 0) = some (Res.cut Ex.normal ⟨[(4, .val a), (7, .val b), (8, .val c), (29, .val (.int .i64 q)), (46, .val (.bool (q == 2)))], []⟩) := by kernel_rfl
theorem pe2_v (a b c : Value) (q : Int) : letI := row0
    evK Tryd.prog ext (tab []) 60 222 (seqL [pe2.getD 0 .skip]) ((⟨[(4, .val a), (7, .val b), (8, .val c), (29, .val (.int .i64 q))], []⟩ : Cut).st 0) (grab Tryd.prog Tryd.f29 [4, 7, 8, 29, 57] [] 0) = some (Res.cut Ex.normal ⟨[(4, .val a), (7, .val b), (8, .val c), (29, .val (.int .i64 q)), (57, .val (.bool (q == 3)))], []⟩) := by kernel_rfl
theorem pe3_v (a b c : Value) (q : Int) : letI := row0
    evK Tryd.prog ext (tab []) 60 222 (seqL [pe3.getD 0 .skip]) ((⟨[(4, .val a), (7, .val b), (8, .val c), (29, .val (.int .i64 q))], []⟩ : Cut).st 0) (grab Tryd.prog Tryd.f29 [4, 7, 8, 29, 63] [] 0) = some (Res.cut Ex.normal ⟨[(4, .val a), (7, .val b), (8, .val c), (29, .val (.int .i64 q)), (63, .val (.bool (q == 4)))], []⟩) := by kernel_rfl
theorem pe4_v (a b c : Value) (q : Int) : letI := row0
    evK Tryd.prog ext (tab []) 60 222 (seqL [pe4.getD 0 .skip]) ((⟨[(4, .val a), (7, .val b), (8, .val c), (29, .val (.int .i64 q))], []⟩ : Cut).st 0) (grab Tryd.prog Tryd.f29 [4, 7, 8, 29, 67] [] 0) = some (Res.cut Ex.normal ⟨[(4, .val a), (7, .val b), (8, .val c), (29, .val (.int .i64 q)), (67, .val (.bool (q == 5)))], []⟩) := by kernel_rfl
theorem pg14_1 (ab : Nat) (k : K) (d : D) (b c : Value) : letI := rowsN (nth [bxR ab (alist 5 k d)])
    (reads Tryd.prog 222 (pg14.toList.take 3) (pickT [(4, .xp [0] 0 0), (7, .val b), (8, .val c)])).map (fun t => [4, 8, 70, 72].map t) = some [.xp [0] 0 0, .val c, .val b, .val k.agg] := by kernel_rfl
theorem pg15_1 (ab : Nat) (k : K) (d : D) (x9 x10 c : Value) : letI := rowsN (nth [bxR ab (alist 5 k d)])
    (reads Tryd.prog 222 (pg15.toList.take 3) (pickT [(4, .xp [0] 0 0), (8, .val c), (9, .val x9), (10, .val x10)])).map (fun t => [9, 10, 77, 79].map t) = some [.val x9, .val x10, .val c, .val k.agg] := by kernel_rfl
theorem pg14_2 (d : D) (b : Bool) (x4 x8 : Value) : letI := row0
    evOpsK Tryd.prog ext (callWithK Tryd.prog (tab []) (evK Tryd.prog ext (tab []) 60)) pg14 222 (pg14.toList.drop 4) ((⟨[(4, .val x4), (8, .val x8), (73, .val (.tuple #[d.agg, .bool b]))], []⟩ : Cut).st 0) (fun st => cutS [4, 8, 9, 10] [0] 1 st) = some ⟨[(4, .val x4), (8, .val x8), (9, .ptr 0 0), (10, .val (.bool b))], [(0, ⟨40, d.list.map SV.val⟩)]⟩ := by kernel_rfl
theorem pg15_2 (d : D) (b : Bool) (x9 x10 : Value) : letI := row0
    evOpsK Tryd.prog ext (callWithK Tryd.prog (tab []) (evK Tryd.prog ext (tab []) 60)) pg15 222 (pg15.toList.drop 4) ((⟨[(9, .val x9), (10, .val x10), (80, .val (.tuple #[d.agg, .bool b]))], []⟩ : Cut).st 0) (fun st => cutS [9, 10, 11, 12] [0] 1 st) = some ⟨[(9, .val x9), (10, .val x10), (11, .ptr 0 0), (12, .val (.bool b))], [(0, ⟨40, d.list.map SV.val⟩)]⟩ := by kernel_rfl
theorem pg16_v (g9 g11 : Nat) (d d' : D) (b b' : Bool) : letI := rowsN (nth [bxR g9 d.list, bxR g11 d'.list])
    evK Tryd.prog ext (tab AS) 60 222 (seqL [.region 16 pg16 false, .ret]) ((⟨[(9, .xp [0] 0 0), (10, .val (.bool b)), (11, .xp [1] 0 0), (12, .val (.bool b'))], []⟩ : Cut).st 0) (grab Tryd.prog Tryd.f29 [] [] 0) = bif S.eqD d d' then some (Res.ret (.val (.bool (b == b')))) else some (Res.ret (.val (.bool false))) := by kernel_rfl
theorem pg14_reg {B n ab : Nat} {x : Tk} {u : Value} {k : K} {d : D} {w : World} {a : Act} {Q : Exit → Act → World → Prop} (hab : w.heap[ab]? = some (.cells (alist 5 k d).toArray 42 (0, 0))) (hO : OwnT B w (x.tb n)) (hlt : ∀ p, mget (x.tb n).m k = some p → p < n) (hk : Kp 222 [(4, pt ab), (7, pt x.gb), (8, u)] a)
    (hQ : ∀ a' w' g, Kp 222 [(4, pt ab), (8, u), (9, pt g), (10, .bool (mget (x.tb n).m k).isSome)] a' → w'.heap[g]? = some (.cells (S.get (x.tb n) k).list.toArray 40 (0, 0)) → w.heap.size ≤ g → Below w.heap.size w w' → Q .normal a' w') : (Code.region 14 pg14 false).wp Tryd.prog Q a w := by
  refine wp_region_list ?_
  rw [pg14_eq]
  refine read_kp (e := rowsN (nth [bxR ab (alist 5 k d)])) (us := [pt ab, u, pt x.gb, k.agg]) (xokN fun y hy e => by
    obtain rfl := List.mem_singleton.1 hy
    exact box_heap (t := 42) hab) (pg14_1 ab k d (pt x.gb) u) hk (fun p hp => ?_) ?_ (by kernel_rfl) fun a1 K1 => ?_
  · simp only [List.mem_cons, List.not_mem_nil, or_false] at hp
    rcases hp with rfl | rfl | rfl
    · exact ⟨by rw [den_n _ ab 0 _ rfl]; simp, ok_n _ ab 0 _ rfl _⟩
    · exact ⟨by rw [@den_val (rowsN (nth [bxR ab (alist 5 k d)]))]; simp, @ok_val (rowsN (nth [bxR ab (alist 5 k d)])) _ _⟩
    · exact ⟨by rw [@den_val (rowsN (nth [bxR ab (alist 5 k d)]))]; simp, @ok_val (rowsN (nth [bxR ab (alist 5 k d)])) _ _⟩
  · simp only [List.map_cons, List.map_nil, @den_val (rowsN (nth [bxR ab (alist 5 k d)]))]
    rw [den_n _ ab 0 _ rfl]
  have K1 : Kp 222 [(4, pt ab), (8, u), (70, pt x.gb), (72, k.agg)] a1 := K1
  have hve : (#[.tmp 70, .tmp 72] : Array Operand).map a1.eval = #[pt x.gb, k.agg] := by
    have e1 : a1.eval (.tmp 70) = pt x.gb := K1.get (by simp)
    have e2 : a1.eval (.tmp 72) = k.agg := K1.get (by simp)
    simp only [List.map_toArray, List.map_cons, List.map_nil, e1, e2]
  have hc := Get.calls (k := k) hO hlt
  generalize S.get (x.tb n) k = dd at hc hQ
  generalize (mget (x.tb n).m k).isSome = bb at hc hQ
  refine wpList_plain (by kernel_rfl) fun J hJ => ?_
  refine call_op (f := 23) (ats := #[29, 34]) (by kernel_rfl) (by kernel_rfl) hve hc (fun e w' he => ⟨_, he.1⟩) fun v w2 he => hJ _ _ ?_
  obtain ⟨hv, hb2⟩ := he
  cases hv
  rw [show (pg14.toList.getD 3 default).dst = some 73 by kernel_rfl]
  have K2 : Kp 222 [(4, pt ab), (8, u), (73, .tuple #[dd.agg, .bool bb])] _ := (K1.put (d := 73) (v := .tuple #[dd.agg, .bool bb]) rfl).sub (by simp)
  refine opsE row0 Ap.ctx0 (pg14_2 dd bb (pt ab) u) trivial (K2.sr w2) fun m a3 w3 hr => ?_
  have hb3 := SR.bel hr
  have ⟨hg3, hw3⟩ := SR.own (b := 0) (l := dd.list) (ty := 40) hr rfl
  refine hQ a3 w3 (m 0) (SR.kp hr fun p hp => ?_) hw3 (Nat.le_trans hb2.size hg3) (hb2.trans (hb3.mono hb2.size))
  simp only [List.mem_cons, List.not_mem_nil, or_false] at hp
  rcases hp with rfl | rfl | rfl | rfl
  · exact ⟨rfl, @den_val row0 _ _⟩
  · exact ⟨rfl, @den_val row0 _ _⟩
  · exact ⟨rfl, @den_ptr row0 _ _ _⟩
  · exact ⟨rfl, @den_val row0 _ _⟩
theorem pg15_reg {B n ab : Nat} {r : Rf} {f : Nat → K × D} {x9 x10 : Value} {k : K} {d : D} {w : World} {a : Act} {Q : Exit → Act → World → Prop} (hab : w.heap[ab]? = some (.cells (alist 5 k d).toArray 42 (0, 0))) (hO : OwnR B w r n f) (hn : n ≤ 2) (hk : Kp 222 [(4, pt ab), (8, pt r.rb), (9, x9), (10, x10)] a)
    (hQ : ∀ a' w' g, Kp 222 [(9, x9), (10, x10), (11, pt g), (12, .bool (S.find n f k).isSome)] a' → w'.heap[g]? = some (.cells (S.rget n f k).list.toArray 40 (0, 0)) → w.heap.size ≤ g → Below w.heap.size w w' → Q .normal a' w') : (Code.region 15 pg15 false).wp Tryd.prog Q a w := by
  refine wp_region_list ?_
  rw [pg15_eq]
  refine read_kp (e := rowsN (nth [bxR ab (alist 5 k d)])) (us := [x9, x10, pt r.rb, k.agg]) (xokN fun y hy e => by
    obtain rfl := List.mem_singleton.1 hy
    exact box_heap (t := 42) hab) (pg15_1 ab k d x9 x10 (pt r.rb)) hk (fun p hp => ?_) ?_ (by kernel_rfl) fun a1 K1 => ?_
  · simp only [List.mem_cons, List.not_mem_nil, or_false] at hp
    rcases hp with rfl | rfl | rfl | rfl
    · exact ⟨by rw [den_n _ ab 0 _ rfl]; simp, ok_n _ ab 0 _ rfl _⟩
    · exact ⟨by rw [@den_val (rowsN (nth [bxR ab (alist 5 k d)]))]; simp, @ok_val (rowsN (nth [bxR ab (alist 5 k d)])) _ _⟩
    · exact ⟨by rw [@den_val (rowsN (nth [bxR ab (alist 5 k d)]))]; simp, @ok_val (rowsN (nth [bxR ab (alist 5 k d)])) _ _⟩
    · exact ⟨by rw [@den_val (rowsN (nth [bxR ab (alist 5 k d)]))]; simp, @ok_val (rowsN (nth [bxR ab (alist 5 k d)])) _ _⟩
  · simp only [List.map_cons, List.map_nil, @den_val (rowsN (nth [bxR ab (alist 5 k d)]))]
  have K1 : Kp 222 [(9, x9), (10, x10), (77, pt r.rb), (79, k.agg)] a1 := K1
  have hve : (#[.tmp 77, .tmp 79] : Array Operand).map a1.eval = #[pt r.rb, k.agg] := by
    have e1 : a1.eval (.tmp 77) = pt r.rb := K1.get (by simp)
    have e2 : a1.eval (.tmp 79) = k.agg := K1.get (by simp)
    simp only [List.map_toArray, List.map_cons, List.map_nil, e1, e2]
  have hc := RGet.calls hO hn k
  generalize S.rget n f k = dd at hc hQ
  generalize (S.find n f k).isSome = bb at hc hQ
  refine wpList_plain (by kernel_rfl) fun J hJ => ?_
  refine call_op (f := 50) (ats := #[68, 34]) (by kernel_rfl) (by kernel_rfl) hve hc (fun e w' he => ⟨_, he.1⟩) fun v w2 he => hJ _ _ ?_
  obtain ⟨hv, hb2⟩ := he
  cases hv
  rw [show (pg15.toList.getD 3 default).dst = some 80 by kernel_rfl]
  have K2 : Kp 222 [(9, x9), (10, x10), (80, .tuple #[dd.agg, .bool bb])] _ := (K1.put (d := 80) (v := .tuple #[dd.agg, .bool bb]) rfl).sub (by simp)
  refine opsE row0 Ap.ctx0 (pg15_2 dd bb x9 x10) trivial (K2.sr w2) fun m a3 w3 hr => ?_
  have hb3 := SR.bel hr
  have ⟨hg3, hw3⟩ := SR.own (b := 0) (l := dd.list) (ty := 40) hr rfl
  refine hQ a3 w3 (m 0) (SR.kp hr fun p hp => ?_) hw3 (Nat.le_trans hb2.size hg3) (hb2.trans (hb3.mono hb2.size))
  simp only [List.mem_cons, List.not_mem_nil, or_false] at hp
  rcases hp with rfl | rfl | rfl | rfl
  · exact ⟨rfl, @den_val row0 _ _⟩
  · exact ⟨rfl, @den_val row0 _ _⟩
  · exact ⟨rfl, @den_ptr row0 _ _ _⟩
  · exact ⟨rfl, @den_val row0 _ _⟩
theorem ctxNS (x : Nat → XR) : @Ctx (rowsN x) Tryd.prog ext (tab AS) (fun w => Tabs w ∧ @XOk (rowsN x) w) := by
  letI := rowsN x
  exact ⟨mixed, ext_sound, fun w w' h hb => ⟨tabs_stable _ _ h.1 hb, XOk.below h.2 hb⟩, fun w h => h.2, tab_sound fun p hp => (fun args t v h1 h2 w hw => entsAS p hp args t v h1 h2 w hw.1)⟩
set_option maxHeartbeats 1000000 in
theorem PlayGet.calls {B pb n : Nat} {w : World} {x : Tk} {r : Rf} {k : K} {d : D} (hT : Tabs w) (hP : Pst B w pb x r n) (hn : n ≤ 2) :
    Calls Tryd.prog 29 #[pt pb, .agg (alist 5 k d).toArray, .int .i64 0] w fun e w' => e = .returned (.bool true) ∧ Below w.heap.size w w' := by
  obtain ⟨g1, r1, hpair⟩ := hP.pair
  refine play_head hpair fun a1 w1 ab K1 hab hb1 hg1 => ?_
  have hfind : ∀ k, mget (x.tb n).m k = S.find n x.f k := fun k => by
    show mget x.m k = _
    rw [hP.maps.1]
    exact mget_find x.f k n hn
  have hget : S.get (x.tb n) k = S.rget n x.f k := by
    unfold S.get S.rget
    rw [hfind k]
    rfl
  have hlt : ∀ p, mget (x.tb n).m k = some p → p < n := fun p hp => by
    rw [hfind k] at hp
    exact find_lt x.f k n hn p hp
  have K1 : Kp 222 [(4, pt ab), (7, pt x.gb), (8, pt r.rb), (29, .int .i64 5)] a1 := K1
  rw [pB_eq, wpL_app]
  refine pieceZ (pl4_v (pt ab) (pt x.gb) (pt r.rb) 5) (K1.sr w1) (fun v hv => by cases hv) (fun ex c hc m2 a2 w2 hr2 => ?_)
  cases hc
  have hb2' := SR.bel hr2
  have K2 : Kp 222 [(4, pt ab), (7, pt x.gb), (8, pt r.rb), (29, .int .i64 5), (30, .bool false)] a2 := SR.kp hr2 fun p hp => by
    simp only [List.mem_cons, List.not_mem_nil, or_false] at hp
    rcases hp with rfl | rfl | rfl | rfl | rfl <;> exact ⟨rfl, @den_val row0 _ _⟩
  have hab2 := (hb2'.block ab (lt' hab)).trans hab
  have hb2 := hb1.trans (hb2'.mono hb1.size)
  refine wp_cond_false (K2.get (d := 30) (by simp)) ?_
  refine wpL_flat _ ?_
  replace K2 : Kp 222 [(4, pt ab), (7, pt x.gb), (8, pt r.rb), (29, .int .i64 5)] a2 := K2.sub (by simp)
  show wpL Tryd.prog pe1 _ _ _
  rw [pe1_eq, wpL_app]
  refine pieceZ (pe1_v (pt ab) (pt x.gb) (pt r.rb) 5) (K2.sr w2) (fun v hv => by cases hv) (fun ex c hc m3 a3 w3 hr3 => ?_)
  cases hc
  have hb3' := SR.bel hr3
  have K3 : Kp 222 [(4, pt ab), (7, pt x.gb), (8, pt r.rb), (29, .int .i64 5), (46, .bool false)] a3 := SR.kp hr3 fun p hp => by
    simp only [List.mem_cons, List.not_mem_nil, or_false] at hp
    rcases hp with rfl | rfl | rfl | rfl | rfl <;> exact ⟨rfl, @den_val row0 _ _⟩
  have hab3 := (hb3'.block ab (lt' hab2)).trans hab2
  have hb3 := hb2.trans (hb3'.mono hb2.size)
  refine wp_cond_false (K3.get (d := 46) (by simp)) ?_
  refine wpL_flat _ ?_
  replace K3 : Kp 222 [(4, pt ab), (7, pt x.gb), (8, pt r.rb), (29, .int .i64 5)] a3 := K3.sub (by simp)
  show wpL Tryd.prog pe2 _ _ _
  rw [pe2_eq, wpL_app]
  refine pieceZ (pe2_v (pt ab) (pt x.gb) (pt r.rb) 5) (K3.sr w3) (fun v hv => by cases hv) (fun ex c hc m4 a4 w4 hr4 => ?_)
  cases hc
  have hb4' := SR.bel hr4
  have K4 : Kp 222 [(4, pt ab), (7, pt x.gb), (8, pt r.rb), (29, .int .i64 5), (57, .bool false)] a4 := SR.kp hr4 fun p hp => by
    simp only [List.mem_cons, List.not_mem_nil, or_false] at hp
    rcases hp with rfl | rfl | rfl | rfl | rfl <;> exact ⟨rfl, @den_val row0 _ _⟩
  have hab4 := (hb4'.block ab (lt' hab3)).trans hab3
  have hb4 := hb3.trans (hb4'.mono hb3.size)
  refine wp_cond_false (K4.get (d := 57) (by simp)) ?_
  refine wpL_flat _ ?_
  replace K4 : Kp 222 [(4, pt ab), (7, pt x.gb), (8, pt r.rb), (29, .int .i64 5)] a4 := K4.sub (by simp)
  show wpL Tryd.prog pe3 _ _ _
  rw [pe3_eq, wpL_app]
  refine pieceZ (pe3_v (pt ab) (pt x.gb) (pt r.rb) 5) (K4.sr w4) (fun v hv => by cases hv) (fun ex c hc m5 a5 w5 hr5 => ?_)
  cases hc
  have hb5' := SR.bel hr5
  have K5 : Kp 222 [(4, pt ab), (7, pt x.gb), (8, pt r.rb), (29, .int .i64 5), (63, .bool false)] a5 := SR.kp hr5 fun p hp => by
    simp only [List.mem_cons, List.not_mem_nil, or_false] at hp
    rcases hp with rfl | rfl | rfl | rfl | rfl <;> exact ⟨rfl, @den_val row0 _ _⟩
  have hab5 := (hb5'.block ab (lt' hab4)).trans hab4
  have hb5 := hb4.trans (hb5'.mono hb4.size)
  refine wp_cond_false (K5.get (d := 63) (by simp)) ?_
  refine wpL_flat _ ?_
  replace K5 : Kp 222 [(4, pt ab), (7, pt x.gb), (8, pt r.rb), (29, .int .i64 5)] a5 := K5.sub (by simp)
  show wpL Tryd.prog pe4 _ _ _
  rw [pe4_eq, wpL_app]
  refine pieceZ (pe4_v (pt ab) (pt x.gb) (pt r.rb) 5) (K5.sr w5) (fun v hv => by cases hv) (fun ex c hc m6 a6 w6 hr6 => ?_)
  cases hc
  have hb6' := SR.bel hr6
  have K6 : Kp 222 [(4, pt ab), (7, pt x.gb), (8, pt r.rb), (29, .int .i64 5), (67, .bool true)] a6 := SR.kp hr6 fun p hp => by
    simp only [List.mem_cons, List.not_mem_nil, or_false] at hp
    rcases hp with rfl | rfl | rfl | rfl | rfl <;> exact ⟨rfl, @den_val row0 _ _⟩
  have hab6 := (hb6'.block ab (lt' hab5)).trans hab5
  have hb6 := hb5.trans (hb6'.mono hb5.size)
  refine wp_cond_true (K6.get (d := 67) (by simp)) ?_
  refine wpL_flat _ ?_
  replace K6 : Kp 222 [(4, pt ab), (7, pt x.gb), (8, pt r.rb)] a6 := K6.sub (by simp)
  show wpL Tryd.prog pG _ _ _
  rw [pG_eq]
  have hO6 := hP.own.bel hb6
  refine pg14_reg hab6 hO6 hlt K6 fun a7 w7 g9 K7 hg9 hge9 hb7' => ?_
  have hb7 := hb6.trans (hb7'.mono hb6.size)
  have hab7 := (hb7'.block ab (lt' hab6)).trans hab6
  have hR7 := hP.ref.bel hb7
  refine pg15_reg hab7 hR7 hn ((K7.sub (by simp) : Kp 222 [(4, pt ab), (8, pt r.rb), (9, pt g9), (10, .bool (mget (x.tb n).m k).isSome)] a7)) fun a8 w8 g11 K8 hg11 hge11 hb8' => ?_
  have hb8 := hb7.trans (hb8'.mono hb7.size)
  have hg98 := (hb8'.block g9 (lt' hg9)).trans hg9
  rw [hget] at hg98
  rw [hfind k] at K8
  generalize S.rget n x.f k = dd at hg98 hg11
  generalize (S.find n x.f k).isSome = bb at K8
  have hX : @XOk (rowsN (nth [bxR g9 dd.list, bxR g11 dd.list])) w8 := xokN fun y hy e => by
    simp only [List.mem_cons, List.not_mem_nil, or_false] at hy
    rcases hy with rfl | rfl
    · exact box_heap (t := 40) hg98
    · exact box_heap (t := 40) hg11
  have ev := pg16_v g9 g11 dd dd bb bb
  rw [S.eqD_refl, cond_true, show (bb == bb) = true from beq_self_eq_true bb] at ev
  show wpL Tryd.prog [_, _] _ a8 w8
  refine pieceE _ (ctxNS _) ev ⟨tabs_stable _ _ hT hb8, hX⟩ (epochE _ K8 fun p hp => ?_) (fun v hv m' a' w' hd hres hb' => ?_) (fun ex d hd => by cases hd)
  · simp only [List.mem_cons, List.not_mem_nil, or_false] at hp
    rcases hp with rfl | rfl | rfl | rfl
    · exact ⟨by rw [den_n _ g9 0 _ rfl]; simp, ok_n _ g9 0 _ rfl _⟩
    · exact ⟨by rw [@den_val (rowsN (nth [bxR g9 dd.list, bxR g11 dd.list]))]; simp, @ok_val (rowsN (nth [bxR g9 dd.list, bxR g11 dd.list])) _ _⟩
    · exact ⟨by rw [den_n _ g11 1 _ rfl]; simp, ok_n _ g11 1 _ rfl _⟩
    · exact ⟨by rw [@den_val (rowsN (nth [bxR g9 dd.list, bxR g11 dd.list]))]; simp, @ok_val (rowsN (nth [bxR g9 dd.list, bxR g11 dd.list])) _ _⟩
  · cases hv
    rw [@den_val (rowsN (nth [bxR g9 dd.list, bxR g11 dd.list]))] at hres
    exact ⟨hd, _, hres, rfl, hb8.trans (hb'.mono hb8.size)⟩
end Go.Proofs.YtbpdpnoekkkapaaDoor.PDescKinds
end
section
namespace Go.Proofs.YtbpdpnoekkkapaaDoor.PDescKinds
open Go.RowKit Go.Ev Go.Proofs.YtbpdpnoekkkapaaDoorV.PrintLast
set_option maxRecDepth 100000
theorem kp_obs {N : Nat} {w0 w : World} {m : Nat → Nat} {st : St} {a : Act} {ns : List Nat} {vs : List SV} {us : List Value} (hr : @SR row0 w0 N m st a w) (e : ns.map st.tmps = vs) (hv : vs.map (@SV.den row0 m) = us) (hkn : vs.all SV.known = true) : Kp N (ns.zip us) a := by
  letI := row0
  refine ⟨hr.ar.size, hr.ar.defers, fun p hp => ?_⟩
  subst hv e
  rw [List.map_map] at hp
  have : ∃ n ∈ ns, p = (n, (st.tmps n).den m) := by
    clear hkn
    induction ns with
    | nil => cases hp
    | cons n r ih =>
      simp only [List.map_cons, List.zip_cons_cons, List.mem_cons] at hp
      rcases hp with rfl | hp
      · exact ⟨n, by simp, rfl⟩
      · obtain ⟨n', h1, h2⟩ := ih hp
        exact ⟨n', by simp [h1], h2⟩
  obtain ⟨n, hn, rfl⟩ := this
  exact ar_get hr.ar rfl (List.all_eq_true.1 hkn _ (List.mem_map_of_mem hn))
theorem call3 {id N : Nat} {ops : Array Oper} {o1 o2 o3 : Oper} {t1 t2 src dst f : Nat} {ty : TypeId} {ts : List (Nat × Value)} {u : Value} {R : Ending → World → Prop} {a : Act} {w : World} {Q : Exit → Act → World → Prop} (he : ops.toList = [o1, o2, o3])
    (hk : Kp N ts a) (hu : (src, u) ∈ ts) (g1 : o1.guard = none) (g2 : o2.guard = none) (g3 : o3.guard = none) (d1 : o1.dst = some t1) (d2 : o2.dst = some t2) (d3 : o3.dst = some dst)
    (e1 : letI := row0; evP Tryd.prog (Ev.look (pickT [(src, .val u)])) o1 = some (.val u)) (e2 : o2.op = .call { callee := .value (.func f), args := #[.tmp t1], argTypes := #[ty] }) (e3 : ∀ v, letI := row0; evP Tryd.prog (Ev.look (pickT [(t2, .val v)])) o3 = some (.val v))
    (hf1 : (decide (t1 < N) && ts.all fun p => t1 != p.1) = true) (hf2 : (decide (t2 < N) && (t2 != t1) && ts.all fun p => t2 != p.1) = true) (hf3 : (decide (dst < N) && (dst != t1) && (dst != t2) && ts.all fun p => dst != p.1) = true) (hen : enters Tryd.prog f = true)
    (hc : Calls Tryd.prog f #[u] w R) (hR : ∀ e w', R e w' → ∃ v, e = .returned v) (k : ∀ v w' a', R (.returned v) w' → Kp N ((dst, v) :: ts) a' → Q .normal a' w') : (Code.region id ops false).wp Tryd.prog Q a w := by
  refine wp_region_list ?_
  rw [he]
  refine one_evL (e := row0) g1 (xok_0 _) hk (ss := [(src, .val u)]) (fun q hq => ?_) e1 d1 hf1 fun a1 K1 => ?_
  · obtain rfl := List.mem_singleton.1 hq
    exact ⟨by rw [@den_val row0]; exact hu, @ok_val row0 _ _⟩
  rw [@den_val row0] at K1
  refine wpList_plain g2 fun J hJ => ?_
  refine call_op e2 hen (vs := #[u]) (by
    have e1 : a1.eval (.tmp t1) = u := K1.get (by simp)
    simp only [List.map_toArray, List.map_cons, List.map_nil, e1]) hc hR fun v w2 hr => hJ _ _ ?_
  rw [d2]
  have K2 := K1.put (d := t2) (v := v) (by simpa [Bool.and_assoc] using hf2)
  refine one_evL (e := row0) g3 (xok_0 _) K2 (ss := [(t2, .val v)]) (fun q hq => ?_) (e3 v) d3 (by
    simp only [Bool.and_eq_true] at hf3
    simp only [List.all_cons, Bool.and_eq_true]
    exact ⟨hf3.1.1.1, hf3.1.2, hf3.1.1.2, hf3.2⟩) fun a3 K3 => ?_
  · obtain rfl := List.mem_singleton.1 hq
    exact ⟨by rw [@den_val row0]; simp, @ok_val row0 _ _⟩
  rw [@den_val row0] at K3
  exact k v w2 a3 hr (K3.sub fun p hp => by
    simp only [List.mem_cons] at hp ⊢
    rcases hp with h | h
    · exact .inl h
    · exact .inr (.inr (.inr h)))
structure RowAt (s t : Nat) (w : World) (ty z n : Nat) (A : Option Addr) (c : Nat) (xs : List Value) : Prop where
  own : w.ownsRow s ty z (.slice A n c) n xs
  top : ∀ g, A = some ⟨g, 0, none⟩ → g < t
theorem RowAt.bel {s t ty z n c : Nat} {w w' : World} {A : Option Addr} {xs : List Value} (h : RowAt s t w ty z n A c xs) (hb : Below w.heap.size w w') : RowAt s t w' ty z n A c xs := ⟨own_bel h.own hb, h.top⟩
theorem RowAt.mk' {s ty z n c : Nat} {w : World} {A : Option Addr} {xs : List Value} (h : w.ownsRow s ty z (.slice A n c) n xs) : RowAt s w.heap.size w ty z n A c xs := ⟨h, fun g hg => by
  rcases row_slice h with ⟨e, _⟩ | ⟨g', e, _, h2⟩
  · rw [e] at hg; cases hg
  · rw [e] at hg; cases hg; exact h2⟩
theorem RowAt.some {s t ty z n c : Nat} {w : World} {A : Option Addr} {xs : List Value} (h : RowAt s t w ty z n A c xs) (hn : 1 ≤ n) : ∃ g rest, A = some ⟨g, 0, none⟩ ∧ s ≤ g ∧ g < t ∧ w.heap[g]? = some (.cells (xs ++ rest).toArray ty (0, 0)) := by
  rcases row_slice h.own with ⟨_, e, _⟩ | ⟨g, rfl, h1, h2⟩
  · omega
  · obtain ⟨rest, h3, _⟩ := own_rest h.own
    exact ⟨g, rest, rfl, h1, h.top g rfl, h3⟩
noncomputable def tr3 : Array Oper := opsOf (te.getD 3 .skip)
theorem tr3_eq : tr3.toList = [tr3.toList.getD 0 default, tr3.toList.getD 1 default, tr3.toList.getD 2 default] := by kernel_rfl
theorem tr3_1 (u : Value) : letI := row0; evP Tryd.prog (Ev.look (pickT [(5, .val u)])) (tr3.toList.getD 0 default) = some (.val u) := by kernel_rfl
theorem tr3_3 (v : Value) : letI := row0; evP Tryd.prog (Ev.look (pickT [(28, .val v)])) (tr3.toList.getD 2 default) = some (.val v) := by kernel_rfl
noncomputable def tr4 : Array Oper := opsOf (te.getD 4 .skip)
theorem tr4_eq : tr4.toList = [tr4.toList.getD 0 default, tr4.toList.getD 1 default, tr4.toList.getD 2 default] := by kernel_rfl
theorem tr4_1 (u : Value) : letI := row0; evP Tryd.prog (Ev.look (pickT [(5, .val u)])) (tr4.toList.getD 0 default) = some (.val u) := by kernel_rfl
theorem tr4_3 (v : Value) : letI := row0; evP Tryd.prog (Ev.look (pickT [(30, .val v)])) (tr4.toList.getD 2 default) = some (.val v) := by kernel_rfl
noncomputable def tr5 : Array Oper := opsOf (te.getD 5 .skip)
theorem tr5_eq : tr5.toList = [tr5.toList.getD 0 default, tr5.toList.getD 1 default, tr5.toList.getD 2 default] := by kernel_rfl
theorem tr5_1 (u : Value) : letI := row0; evP Tryd.prog (Ev.look (pickT [(5, .val u)])) (tr5.toList.getD 0 default) = some (.val u) := by kernel_rfl
theorem tr5_3 (v : Value) : letI := row0; evP Tryd.prog (Ev.look (pickT [(32, .val v)])) (tr5.toList.getD 2 default) = some (.val v) := by kernel_rfl
noncomputable def tr6 : Array Oper := opsOf (te.getD 6 .skip)
theorem tr6_eq : tr6.toList = [tr6.toList.getD 0 default, tr6.toList.getD 1 default, tr6.toList.getD 2 default] := by kernel_rfl
theorem tr6_1 (u : Value) : letI := row0; evP Tryd.prog (Ev.look (pickT [(5, .val u)])) (tr6.toList.getD 0 default) = some (.val u) := by kernel_rfl
theorem tr6_3 (v : Value) : letI := row0; evP Tryd.prog (Ev.look (pickT [(34, .val v)])) (tr6.toList.getD 2 default) = some (.val v) := by kernel_rfl
noncomputable def tr7 : Array Oper := opsOf (te.getD 7 .skip)
theorem tr7_eq : tr7.toList = [tr7.toList.getD 0 default, tr7.toList.getD 1 default, tr7.toList.getD 2 default] := by kernel_rfl
theorem tr7_1 (u : Value) : letI := row0; evP Tryd.prog (Ev.look (pickT [(6, .val u)])) (tr7.toList.getD 0 default) = some (.val u) := by kernel_rfl
theorem tr7_3 (v : Value) : letI := row0; evP Tryd.prog (Ev.look (pickT [(36, .val v)])) (tr7.toList.getD 2 default) = some (.val v) := by kernel_rfl
noncomputable def tr8 : Array Oper := opsOf (te.getD 8 .skip)
theorem tr8_eq : tr8.toList = [tr8.toList.getD 0 default, tr8.toList.getD 1 default, tr8.toList.getD 2 default] := by kernel_rfl
theorem tr8_1 (u : Value) : letI := row0; evP Tryd.prog (Ev.look (pickT [(6, .val u)])) (tr8.toList.getD 0 default) = some (.val u) := by kernel_rfl
theorem tr8_3 (v : Value) : letI := row0; evP Tryd.prog (Ev.look (pickT [(38, .val v)])) (tr8.toList.getD 2 default) = some (.val v) := by kernel_rfl
theorem te_eq : te = [te.getD 0 .skip] ++ [.region 1 te1 false, .region 2 te2 false, .region 3 tr3 false, .region 4 tr4 false, .region 5 tr5 false, .region 6 tr6 false, .region 7 tr7 false, .region 8 tr8 false, .region 9 te9 false, te.getD 10 .skip, te.getD 11 .skip, te.getD 12 .skip, te.getD 13 .skip, te.getD 14 .skip, .region 19 te19 false, .ret] := by kernel_rfl
noncomputable def teT : List Code := [.region 9 te9 false, te.getD 10 .skip, te.getD 11 .skip, te.getD 12 .skip, te.getD 13 .skip, te.getD 14 .skip, .region 19 te19 false, .ret]
theorem te0_v (pb : Nat) : letI := row0
    evK Tryd.prog ext (tab []) 60 103 (seqL [te.getD 0 .skip]) (⟨argS ([pt pb, .int .i64 0].map SV.val), fun _ => none, 0⟩) (grab Tryd.prog Tryd.f30 [0, 1] [] 0) = some (Res.cut Ex.normal ⟨[(0, .val (pt pb)), (1, .val (.int .i64 0))], []⟩) := by kernel_rfl
structure Rows6 (w : World) (n : Nat) (f : Nat → K × D) (s : Nat → Nat) (A : Nat → Option Addr) (c : Nat → Nat) : Prop where
  le : ∀ i, s i ≤ s (i + 1)
  r1 : RowAt (s 0) (s 1) w 54 20 n (A 0) (c 0) (cP n f)
  r2 : RowAt (s 1) (s 2) w 54 20 n (A 1) (c 1) (cP n f)
  r3 : RowAt (s 2) (s 3) w 34 2 n (A 2) (c 2) (cK n (S.ordF n fun j => (f j).1))
  r4 : RowAt (s 3) (s 4) w 34 2 n (A 3) (c 3) (cK n (S.ordF n fun j => (f j).1))
  r5 : RowAt (s 4) (s 5) w 54 20 n (A 4) (c 4) (cP n f)
  r6 : RowAt (s 5) (s 6) w 34 2 n (A 5) (c 5) (cK n (S.ordF n fun j => (f j).1))
set_option maxHeartbeats 1000000 in
theorem tells_head {B pb n : Nat} {w : World} {x : Tk} {r : Rf} {R : Ending → World → Prop} (hT : Tabs w) (hP : Pst B w pb x r n) (hn : n ≤ 2)
    (h : ∀ a' w' s A c, Kp 103 [(5, pt x.gb), (7, .slice (A 0) n (c 0)), (8, .slice (A 1) n (c 1)), (9, .slice (A 2) n (c 2)), (10, .slice (A 3) n (c 3)), (11, .slice (A 4) n (c 4)), (12, .slice (A 5) n (c 5))] a' → Below w.heap.size w w' → w.heap.size ≤ s 0 → s 6 ≤ w'.heap.size → Rows6 w' n x.f s A c → wpL Tryd.prog teT (bodyPost Tryd.prog Tryd.f30 R) a' w') :
    Calls Tryd.prog 30 #[pt pb, .int .i64 0] w R := by
  obtain ⟨gb1, gd1, hpair⟩ := hP.pair
  have hm : x.m.length ≤ 1000 := by
    rw [hP.maps.1, mapsOf, List.length_map, List.length_range]
    omega
  refine enter_vals (vs := [pt pb, .int .i64 0]) (N := 103) Tryd.func30 (by kernel_rfl) (by kernel_rfl) (show 2 ≤ 103 by decide) fun a0 h0 => ?_
  show wpL Tryd.prog te _ _ _
  rw [te_eq, wpL_app]
  refine pieceZ (te0_v pb) h0 (fun v hv => by cases hv) (fun ex c hc m a0 w0 hr => ?_)
  cases hc
  have b0 := SR.bel hr
  have L0 : Kp 103 [(0, pt pb), (1, .int .i64 0)] a0 := SR.kp hr fun p hp => by
    simp only [List.mem_cons, List.not_mem_nil, or_false] at hp
    rcases hp with rfl | rfl <;> exact ⟨rfl, @den_val row0 _ _⟩
  have hp0 := (b0.block pb (lt' hpair)).trans hpair
  refine te1_reg hp0 L0 fun a1 L1 => ?_
  refine te2_reg hp0 L1 fun a2 L2 => ?_
  refine call3 tr3_eq L2 (src := 5) (t1 := 27) (t2 := 28) (dst := 7) (f := 19) (ty := 29) (by simp) (by kernel_rfl) (by kernel_rfl) (by kernel_rfl) (by kernel_rfl) (by kernel_rfl) (by kernel_rfl) (tr3_1 _) (by kernel_rfl) tr3_3 (by rfl) (by rfl) (by rfl) (by kernel_rfl) (Props.calls hn (hP.own.bel b0) hm) (fun e w' he => by obtain ⟨A, c, rfl, _⟩ := he; exact ⟨_, rfl⟩) fun v w1 a3 he L3 => ?_
  obtain ⟨A1, c1, hv, bb1, hr1⟩ := he
  cases hv
  have b1 := b0.trans (bb1.mono b0.size)
  have R1 := RowAt.mk' hr1.row
  refine call3 tr4_eq L3 (src := 5) (t1 := 29) (t2 := 30) (dst := 8) (f := 19) (ty := 29) (by simp) (by kernel_rfl) (by kernel_rfl) (by kernel_rfl) (by kernel_rfl) (by kernel_rfl) (by kernel_rfl) (tr4_1 _) (by kernel_rfl) tr4_3 (by rfl) (by rfl) (by rfl) (by kernel_rfl) (Props.calls hn (hP.own.bel b1) hm) (fun e w' he => by obtain ⟨A, c, rfl, _⟩ := he; exact ⟨_, rfl⟩) fun v w2 a4 he L4 => ?_
  obtain ⟨A2, c2, hv, bb2, hr2⟩ := he
  cases hv
  have b2 := b1.trans (bb2.mono b1.size)
  have R2 := RowAt.mk' hr2.row
  replace R1 := R1.bel bb2
  refine call3 tr5_eq L4 (src := 5) (t1 := 31) (t2 := 32) (dst := 9) (f := 27) (ty := 29) (by simp) (by kernel_rfl) (by kernel_rfl) (by kernel_rfl) (by kernel_rfl) (by kernel_rfl) (by kernel_rfl) (tr5_1 _) (by kernel_rfl) tr5_3 (by rfl) (by rfl) (by rfl) (by kernel_rfl) (Keys.calls (tabs_stable _ _ hT b2) hn (hP.own.bel b2) hm hP.good) (fun e w' he => by obtain ⟨A, c, rfl, _⟩ := he; exact ⟨_, rfl⟩) fun v w3 a5 he L5 => ?_
  obtain ⟨A3, c3, hv, bb3, hr3⟩ := he
  cases hv
  have b3 := b2.trans (bb3.mono b2.size)
  have R3 := RowAt.mk' hr3
  replace R1 := R1.bel bb3
  replace R2 := R2.bel bb3
  refine call3 tr6_eq L5 (src := 5) (t1 := 33) (t2 := 34) (dst := 10) (f := 27) (ty := 29) (by simp) (by kernel_rfl) (by kernel_rfl) (by kernel_rfl) (by kernel_rfl) (by kernel_rfl) (by kernel_rfl) (tr6_1 _) (by kernel_rfl) tr6_3 (by rfl) (by rfl) (by rfl) (by kernel_rfl) (Keys.calls (tabs_stable _ _ hT b3) hn (hP.own.bel b3) hm hP.good) (fun e w' he => by obtain ⟨A, c, rfl, _⟩ := he; exact ⟨_, rfl⟩) fun v w4 a6 he L6 => ?_
  obtain ⟨A4, c4, hv, bb4, hr4⟩ := he
  cases hv
  have b4 := b3.trans (bb4.mono b3.size)
  have R4 := RowAt.mk' hr4
  replace R1 := R1.bel bb4
  replace R2 := R2.bel bb4
  replace R3 := R3.bel bb4
  refine call3 tr7_eq L6 (src := 6) (t1 := 35) (t2 := 36) (dst := 11) (f := 51) (ty := 68) (by simp) (by kernel_rfl) (by kernel_rfl) (by kernel_rfl) (by kernel_rfl) (by kernel_rfl) (by kernel_rfl) (tr7_1 _) (by kernel_rfl) tr7_3 (by rfl) (by rfl) (by rfl) (by kernel_rfl) (RProps.calls hn (hP.ref.bel b4)) (fun e w' he => by obtain ⟨A, c, rfl, _⟩ := he; exact ⟨_, rfl⟩) fun v w5 a7 he L7 => ?_
  obtain ⟨A5, c5, hv, bb5, hr5⟩ := he
  cases hv
  have b5 := b4.trans (bb5.mono b4.size)
  have R5 := RowAt.mk' hr5.row
  replace R1 := R1.bel bb5
  replace R2 := R2.bel bb5
  replace R3 := R3.bel bb5
  replace R4 := R4.bel bb5
  refine call3 tr8_eq L7 (src := 6) (t1 := 37) (t2 := 38) (dst := 12) (f := 54) (ty := 68) (by simp) (by kernel_rfl) (by kernel_rfl) (by kernel_rfl) (by kernel_rfl) (by kernel_rfl) (by kernel_rfl) (tr8_1 _) (by kernel_rfl) tr8_3 (by rfl) (by rfl) (by rfl) (by kernel_rfl) (RKeys.calls hn (hP.ref.bel b5) hP.good) (fun e w' he => by obtain ⟨A, c, rfl, _⟩ := he; exact ⟨_, rfl⟩) fun v w6 a8 he L8 => ?_
  obtain ⟨A6, c6, hv, bb6, hr6⟩ := he
  cases hv
  have b6 := b5.trans (bb6.mono b5.size)
  have R6 := RowAt.mk' hr6
  replace R1 := R1.bel bb6
  replace R2 := R2.bel bb6
  replace R3 := R3.bel bb6
  replace R4 := R4.bel bb6
  replace R5 := R5.bel bb6
  have z0 := b0.size
  have z1 := bb1.size
  have z2 := bb2.size
  have z3 := bb3.size
  have z4 := bb4.size
  have z5 := bb5.size
  have z6 := bb6.size
  refine h a8 w6 (fun i => [w0.heap.size, w1.heap.size, w2.heap.size, w3.heap.size, w4.heap.size, w5.heap.size].getD i w6.heap.size) (fun i => [A1, A2, A3, A4, A5].getD i A6) (fun i => [c1, c2, c3, c4, c5].getD i c6) (L8.sub (by simp)) b6 z0 (Nat.le_refl _) ⟨fun i => ?_, R1, R2, R3, R4, R5, R6⟩
  match i with
  | 0 => exact z1
  | 1 => exact z2
  | 2 => exact z3
  | 3 => exact z4
  | 4 => exact z5
  | 5 => exact z6
  | i + 6 => exact Nat.le_refl _
end Go.Proofs.YtbpdpnoekkkapaaDoor.PDescKinds
end
section
namespace Go.Proofs.YtbpdpnoekkkapaaDoor.PDescKinds
open Go.RowKit Go.Ev Go.Proofs.YtbpdpnoekkkapaaDoorV.PrintLast
set_option maxRecDepth 100000
theorem s_mono {s : Nat → Nat} (h : ∀ i, s i ≤ s (i + 1)) (i : Nat) : ∀ d, s i ≤ s (i + d)
  | 0 => Nat.le_refl _
  | d + 1 => Nat.le_trans (s_mono h i d) (h (i + d))
theorem own6_mk {w0 w : World} {bl : List (Nat × List Value)} {g s : Nat → Nat} (hb : Below w0.heap.size w0 w) (hs : ∀ i, s i ≤ s (i + 1)) (h0 : w0.heap.size ≤ s 0) (h : ∀ b p, bl[b]? = some p → s b ≤ g b ∧ g b < s (b + 1) ∧ w.heap[g b]? = some (.cells p.2.toArray p.1 (0, 0))) : Own6 w0 w g bl := by
  have hz : ∀ b, s 0 ≤ s b := fun b => by
    have := s_mono hs 0 b
    rwa [Nat.zero_add] at this
  have hlt : ∀ b b', b < b' → b' < bl.length → g b < g b' := fun b b' h1 h2 => by
    have e1 := (h b _ (List.getElem?_eq_getElem (by omega))).2.1
    have e2 := (h b' _ (List.getElem?_eq_getElem h2)).1
    have e3 := s_mono hs (b + 1) (b' - (b + 1))
    rw [show b + 1 + (b' - (b + 1)) = b' by omega] at e3
    omega
  refine ⟨hb, fun b p hp => ⟨?_, (h b p hp).2.2⟩, fun b b' h1 h2 he => ?_⟩
  · have e1 := (h b p hp).1
    have e2 := hz b
    omega
  · rcases Nat.lt_trichotomy b b' with h | h | h
    · have := hlt b b' h h2
      omega
    · exact h
    · have := hlt b' b h h1
      omega
theorem wanted_true {os : Array Oper} {o : Oper} {j t : Nat} {a : Act} (hg : o.guard = some (j, true)) (hj : (os[j]?).bind (·.dst) = some t) (hs : t < a.tmps.size) (hv : a.tmps.getD t undef = .bool true) : Region.wanted o (yielded os a.tmps) = true := by
  have e : a.tmps[t]? = some (.bool true) := by
    rw [Array.getElem?_eq_getElem hs]
    simp only [Array.getD, hs, dite_true] at hv
    rw [← hv]
    rfl
  have hy : yielded os a.tmps j = some true := by
    unfold yielded
    rw [hj, Option.bind_some, e]
  unfold Region.wanted
  rw [hg]
  simp [hy]
theorem one_evW [e : XEnv] {N : Nat} {os : Array Oper} {Q : Exit → Act → World → Prop} {rest : List Oper} {ss : List (Nat × SV)} {ts : List (Nat × Value)} {a : Act} {w : World} {o : Oper} {d : Nat} {v : SV}
    (hg : Region.wanted o (yielded os a.tmps) = true) (hX : XOk w) (hk : Kp N ts a) (hs : ∀ p ∈ ss, (p.1, p.2.den fun _ => 0) ∈ ts ∧ p.2.ok fun _ => none)
    (hev : evP Tryd.prog (Ev.look (pickT ss)) o = some v) (hd : o.dst = some d) (hoff : (decide (d < N) && ts.all fun p => d != p.1) = true) (k : ∀ a', Kp N ((d, v.den fun _ => 0) :: ts) a' → wpList Tryd.prog os Q rest a' w) : wpList Tryd.prog os Q (o :: rest) a w := by
  refine Lw.wpList_wanted hg fun K hK => ?_
  have har := hk.ar w hs
  have := (evP_run (m := fun _ => 0) hX (fun x => har.look_ok x) (fun x hk => har.eval x hk) hev).1
  unfold Oper.wp
  rw [this, Oper.upon_value, hd]
  exact hK _ _ (k _ (hk.put hoff))
theorem te9_eq : te9.toList = te9.toList.getD 0 default :: te9.toList.getD 1 default :: (te9.toList.drop 2 ++ []) := by kernel_rfl
theorem te19_eq : te19.toList = te19.toList.take 9 ++ (te19.toList.getD 9 default :: te19.toList.getD 10 default :: (te19.toList.drop 11 ++ [])) := by kernel_rfl
theorem teT_eq : teT = [.region 9 te9 false, .cond (.tmp 67) (thenOf (te.getD 10 .skip)) .skip] ++ ([te.getD 11 .skip, te.getD 12 .skip, te.getD 13 .skip, te.getD 14 .skip] ++ [.region 19 te19 false, .ret]) := by kernel_rfl
theorem te9_0 (u : Value) : letI := row0; evP Tryd.prog (Ev.look (pickT [(5, .val u)])) (te9.toList.getD 0 default) = some (.val u) := by kernel_rfl
theorem te19_9 (u : Value) : letI := row0; evP Tryd.prog (Ev.look (pickT [(5, .val u)])) (te19.toList.getD 9 default) = some (.val u) := by kernel_rfl
theorem teR_v (b : Bool) : letI := row0
    evK Tryd.prog ext (tab []) 60 103 (seqL [.ret]) ((⟨[(4, .val (.bool b))], []⟩ : Cut).st 0) (grab Tryd.prog Tryd.f30 [] [] 0) = some (Res.ret (.val (.bool b))) := by kernel_rfl
theorem te9_reg {B n : Nat} {w : World} {x : Tk} {ts : List (Nat × Value)} {a : Act} {Q : Exit → Act → World → Prop} (hO : OwnT B w (x.tb n)) (hk : Kp 103 ((5, pt x.gb) :: ts) a) (hts : (((5, pt x.gb) :: ts).all fun p => p.1 != 39 && p.1 != 40) = true)
    (hQ : ∀ a' w', Kp 103 ((40, .int .i64 (x.m.length : Int)) :: (5, pt x.gb) :: ts) a' → Below w.heap.size w w' → wpList Tryd.prog te9 Q (te9.toList.drop 2 ++ []) a' w') : (Code.region 9 te9 false).wp Tryd.prog Q a w := by
  have h39 : (((5, pt x.gb) :: ts).all fun p => 39 != p.1) = true := by
    rw [List.all_eq_true] at hts ⊢
    intro p hp
    have := hts p hp
    simp only [Bool.and_eq_true, bne_iff_ne] at this ⊢
    exact fun h => this.1 h.symm
  have h40 : (((5, pt x.gb) :: ts).all fun p => 40 != p.1) = true := by
    rw [List.all_eq_true] at hts ⊢
    intro p hp
    have := hts p hp
    simp only [Bool.and_eq_true, bne_iff_ne] at this ⊢
    exact fun h => this.2 h.symm
  refine wp_region_list ?_
  rw [te9_eq]
  refine one_evL (e := row0) (by kernel_rfl) (xok_0 _) hk (ss := [(5, .val (pt x.gb))]) (fun q hq => ?_) (te9_0 _) (d := 39) (by kernel_rfl) (by rw [h39]; rfl) fun a1 K1 => ?_
  · obtain rfl := List.mem_singleton.1 hq
    exact ⟨by rw [@den_val row0]; simp, @ok_val row0 _ _⟩
  rw [@den_val row0] at K1
  refine wpList_plain (by kernel_rfl) fun J hJ => ?_
  have hve : (#[.tmp 39] : Array Operand).map a1.eval = #[pt x.gb] := by
    have e1 : a1.eval (.tmp 39) = pt x.gb := K1.get (by simp)
    simp only [List.map_toArray, List.map_cons, List.map_nil, e1]
  have hc : Calls Tryd.prog 20 #[pt x.gb] w fun e w' => e = .returned (.int .i64 (x.m.length : Int)) ∧ Below w.heap.size w w' := Len.calls hO
  refine call_op (f := 20) (ats := #[29]) (by kernel_rfl) (by kernel_rfl) hve hc (fun e w' he => ⟨_, he.1⟩) fun v w2 he => hJ _ _ ?_
  obtain ⟨hv, hb⟩ := he
  cases hv
  rw [show (te9.toList.getD 1 default).dst = some 40 by kernel_rfl]
  have K2 := K1.put (d := 40) (v := .int .i64 (x.m.length : Int)) (by
    rw [List.all_cons, h40]
    rfl)
  exact hQ _ w2 (K2.sub fun p hp => by
    simp only [List.mem_cons] at hp ⊢
    rcases hp with h | h
    · exact .inl h
    · exact .inr (.inr h)) hb
theorem te19_mid {B n : Nat} {w : World} {x : Tk} {v11 : Value} {a : Act} {Q : Exit → Act → World → Prop} (hO : OwnT B w (x.tb n)) (hn : n ≤ 2) (hm : x.m.length ≤ 1000) (hk : Kp 103 [(5, pt x.gb), (11, v11), (97, .bool true)] a)
    (hQ : ∀ a' w' A c, Kp 103 [(11, v11), (97, .bool true), (99, .slice A n c)] a' → Below w.heap.size w w' → PropsR w.heap.size w' n x.f A c → wpList Tryd.prog te19 Q (te19.toList.drop 11 ++ []) a' w') : wpList Tryd.prog te19 Q (te19.toList.getD 9 default :: te19.toList.getD 10 default :: (te19.toList.drop 11 ++ [])) a w := by
  refine one_evW (e := row0) (wanted_true (j := 8) (t := 97) (by kernel_rfl) (by kernel_rfl) (by rw [hk.size]; decide) (hk.get (by simp))) (xok_0 _) hk (ss := [(5, .val (pt x.gb))]) (fun q hq => ?_) (te19_9 _) (d := 98) (by kernel_rfl) (by rfl) fun a1 K1 => ?_
  · obtain rfl := List.mem_singleton.1 hq
    exact ⟨by rw [@den_val row0]; simp, @ok_val row0 _ _⟩
  rw [@den_val row0] at K1
  refine Lw.wpList_wanted (wanted_true (j := 8) (t := 97) (by kernel_rfl) (by kernel_rfl) (by rw [K1.size]; decide) (K1.get (by simp))) fun J hJ => ?_
  refine call_op (f := 19) (ats := #[29]) (xs := #[.tmp 98]) (vs := #[pt x.gb]) (by kernel_rfl) (by kernel_rfl) (by
    have e1 : a1.eval (.tmp 98) = pt x.gb := K1.get (by simp)
    simp only [List.map_toArray, List.map_cons, List.map_nil, e1]) (Props.calls hn hO hm) (fun e w' he => by obtain ⟨A, c, rfl, _⟩ := he; exact ⟨_, rfl⟩) fun v w2 he => hJ _ _ ?_
  obtain ⟨A, c, hv, hb, hr⟩ := he
  cases hv
  rw [show (te19.toList.getD 10 default).dst = some 99 by kernel_rfl]
  have K2 := K1.put (d := 99) (v := .slice A n c) (by rfl)
  exact hQ _ w2 A c (K2.sub (by simp)) hb hr
end Go.Proofs.YtbpdpnoekkkapaaDoor.PDescKinds
end
section
namespace Go.Proofs.YtbpdpnoekkkapaaDoor.PDescKinds
open Go.RowKit Go.Ev Go.Proofs.YtbpdpnoekkkapaaDoorV.PrintLast
set_option maxRecDepth 100000
abbrev TR (w : World) (e : Ending) (w' : World) : Prop := e = .returned (.bool true) ∧ Below w.heap.size w w'
theorem te_end {w : World} {a' : Act} {w' : World} (hK : Kp 103 [(4, .bool true)] a') (hb : Below w.heap.size w w') : wpL Tryd.prog [.ret] (bodyPost Tryd.prog Tryd.f30 (TR w)) a' w' := by
  refine pieceZ (teR_v true) (hK.sr w') (fun v hv m6 a6 w6 hd hres hb6 => ?_) (fun ex d hd => by cases hd)
  cases hv
  rw [@den_val row0] at hres
  exact ⟨hd, _, hres, rfl, hb.trans (hb6.mono hb.size)⟩
set_option maxHeartbeats 1000000 in
theorem tells_0 {B : Nat} {w w1 : World} {x : Tk} {a : Act} {A1 A2 A3 A4 A5 A6 : Option Addr} {c1 c2 c3 c4 c5 c6 : Nat} (hT : Tabs w) (hO : OwnT B w (x.tb 0)) (hm : x.m.length = 0) (hb : Below w.heap.size w w1)
    (hk : Kp 103 [(5, pt x.gb), (7, .slice A1 0 c1), (8, .slice A2 0 c2), (9, .slice A3 0 c3), (10, .slice A4 0 c4), (11, .slice A5 0 c5), (12, .slice A6 0 c6)] a) : wpL Tryd.prog teT (bodyPost Tryd.prog Tryd.f30 (TR w)) a w1 := by
  rw [teT_eq, wpL_app]
  show wpL Tryd.prog [_, _] _ a w1
  refine te9_reg (hO.bel hb) hk (by rfl) fun a2 w2 K2 hb2 => ?_
  rw [hm] at K2
  have b2 := hb.trans (hb2.mono hb.size)
  refine opsO row0 ctxS (tells_a0 A1 A2 A3 A4 A5 A6 c1 c2 c3 c4 c5 c6 (pt x.gb)) (tabs_stable _ _ hT b2) (K2.sr w2) fun m3 st3 a3 w3 hr3 ht3 _ => ?_
  have b3 := b2.trans ((SR.bel hr3).mono b2.size)
  have K3 : Kp 103 [(5, pt x.gb), (7, .slice A1 0 c1), (8, .slice A2 0 c2), (9, .slice A3 0 c3), (10, .slice A4 0 c4), (11, .slice A5 0 c5), (12, .slice A6 0 c6), (67, .bool false)] a3 := kp_obs hr3 ht3 (us := [pt x.gb, .slice A1 0 c1, .slice A2 0 c2, .slice A3 0 c3, .slice A4 0 c4, .slice A5 0 c5, .slice A6 0 c6, .bool false]) (by simp only [List.map_cons, List.map_nil, @den_val row0]) (by rfl)
  show wpL Tryd.prog [_] _ a3 w3
  refine wp_cond_false (K3.get (d := 67) (by simp)) (wp_skip ?_)
  show wpL Tryd.prog ([te.getD 11 .skip, te.getD 12 .skip, te.getD 13 .skip, te.getD 14 .skip] ++ [.region 19 te19 false, .ret]) _ a3 w3
  rw [wpL_app]
  have K3' : Kp 103 [(5, pt x.gb), (7, .slice A1 0 c1), (8, .slice A2 0 c2), (9, .slice A3 0 c3), (10, .slice A4 0 c4), (11, .slice A5 0 c5), (12, .slice A6 0 c6)] a3 := K3.sub (by simp)
  refine pieceO row0 ctxS (tells_b0 A1 A2 A3 A4 A5 A6 c1 c2 c3 c4 c5 c6 (pt x.gb)) (tabs_stable _ _ hT b3) (K3'.sr w3) fun m4 st4 a4 w4 hr4 ht4 _ => ?_
  have b4 := b3.trans ((SR.bel hr4).mono b3.size)
  have K4 : Kp 103 [(5, pt x.gb), (8, .slice A2 0 c2), (10, .slice A4 0 c4), (11, .slice A5 0 c5), (12, .slice A6 0 c6)] a4 := kp_obs hr4 ht4 (us := [pt x.gb, .slice A2 0 c2, .slice A4 0 c4, .slice A5 0 c5, .slice A6 0 c6]) (by simp only [List.map_cons, List.map_nil, @den_val row0]) (by rfl)
  show wpL Tryd.prog [_, _] _ a4 w4
  refine wp_region_list ?_
  rw [te19_eq]
  refine opsO row0 ctxS (tells_c0 A2 A4 A5 A6 c2 c4 c5 c6 (pt x.gb)) (tabs_stable _ _ hT b4) (K4.sr w4) fun m5 st5 a5 w5 hr5 ht5 _ => ?_
  have b5 := b4.trans ((SR.bel hr5).mono b4.size)
  have K5 : Kp 103 [(5, pt x.gb), (11, .slice A5 0 c5), (97, .bool true)] a5 := kp_obs hr5 ht5 (us := [pt x.gb, .slice A5 0 c5, .bool true]) (by simp only [List.map_cons, List.map_nil, @den_val row0]) (by rfl)
  refine te19_mid (hO.bel b5) (by omega) (by omega) K5 fun a6 w6 A7 c7 K6 hb6 _ => ?_
  have b6 := b5.trans (hb6.mono b5.size)
  refine opsO row0 ctxS (tells_d0 A5 A7 c5 c7) (tabs_stable _ _ hT b6) (K6.sr w6) fun m7 st7 a7 w7 hr7 ht7 _ => ?_
  have b7 := b6.trans ((SR.bel hr7).mono b6.size)
  have K7 : Kp 103 [(4, .bool true)] a7 := kp_obs hr7 ht7 (us := [.bool true]) (by simp only [List.map_cons, List.map_nil, @den_val row0]) (by rfl)
  exact te_end K7 b7
set_option maxHeartbeats 1000000 in
theorem tells_n {B n : Nat} {w w1 : World} {x : Tk} {a : Act} {s : Nat → Nat} {A : Nat → Option Addr} {c : Nat → Nat} (hT : Tabs w) (h1 : 1 ≤ n) (h2 : n ≤ 2) (hO : OwnT B w (x.tb n)) (hm : x.m.length = n) (hb : Below w.heap.size w w1) (hs0 : w.heap.size ≤ s 0)
    (hR : Rows6 w1 n x.f s A c)
    (hk : Kp 103 [(5, pt x.gb), (7, .slice (A 0) n (c 0)), (8, .slice (A 1) n (c 1)), (9, .slice (A 2) n (c 2)), (10, .slice (A 3) n (c 3)), (11, .slice (A 4) n (c 4)), (12, .slice (A 5) n (c 5))] a) : wpL Tryd.prog teT (bodyPost Tryd.prog Tryd.f30 (TR w)) a w1 := by
  obtain ⟨g1, r1, e1, l1, u1, q1⟩ := hR.r1.some h1
  obtain ⟨g2, r2, e2, l2, u2, q2⟩ := hR.r2.some h1
  obtain ⟨g3, r3, e3, l3, u3, q3⟩ := hR.r3.some h1
  obtain ⟨g4, r4, e4, l4, u4, q4⟩ := hR.r4.some h1
  obtain ⟨g5, r5, e5, l5, u5, q5⟩ := hR.r5.some h1
  obtain ⟨g6, r6, e6, l6, u6, q6⟩ := hR.r6.some h1
  rw [e1, e2, e3, e4, e5, e6] at hk
  have hm' : x.m.length ≤ 1000 := by omega
  generalize hkk : (S.ordF n fun j => (x.f j).1) = kk at q3 q4 q6
  rw [teT_eq, wpL_app]
  show wpL Tryd.prog [_, _] _ a w1
  refine te9_reg (hO.bel hb) hk (by rfl) fun a2 w2 K2 hb2 => ?_
  rw [hm] at K2
  have b2 := hb.trans (hb2.mono hb.size)
  have hh : ∀ {g ty : Nat} {l : List Value}, w1.heap[g]? = some (.cells l.toArray ty (0, 0)) → w2.heap[g]? = some (.cells l.toArray ty (0, 0)) := fun h => (hb2.block _ (lt' h)).trans h
  have O2 : Own6 w w2 (fun i => [g1, g2, g3, g4, g5, g6].getD i 0) (six n x.f kk r1 r2 r3 r4 r5 r6) := own6_mk b2 hR.le hs0 fun b p hp => by
    match b, hp with
    | 0, hp => cases hp; exact ⟨l1, u1, hh q1⟩
    | 1, hp => cases hp; exact ⟨l2, u2, hh q2⟩
    | 2, hp => cases hp; exact ⟨l3, u3, hh q3⟩
    | 3, hp => cases hp; exact ⟨l4, u4, hh q4⟩
    | 4, hp => cases hp; exact ⟨l5, u5, hh q5⟩
    | 5, hp => cases hp; exact ⟨l6, u6, hh q6⟩
    | b + 6, hp => cases hp
  have S2 := Own6.sr row0 O2 K2 (ss := (40, .val (.int .i64 (n : Nat))) :: ss6 (pt x.gb) n (c 0) (c 1) (c 2) (c 3) (c 4) (c 5)) (fun p hp => by
    simp only [ss6, List.mem_cons, List.not_mem_nil, or_false] at hp
    rcases hp with rfl | rfl | rfl | rfl | rfl | rfl | rfl | rfl
    · rw [@den_val row0]; simp
    · rw [@den_val row0]; simp
    · rw [@den_slc row0]; simp
    · rw [@den_slc row0]; simp
    · rw [@den_slc row0]; simp
    · rw [@den_slc row0]; simp
    · rw [@den_slc row0]; simp
    · rw [@den_slc row0]; simp) (fun p hp => by
    simp only [ss6, List.mem_cons, List.not_mem_nil, or_false] at hp
    rcases hp with rfl | rfl | rfl | rfl | rfl | rfl | rfl | rfl
    · exact @ok_val row0 _ _
    · exact @ok_val row0 _ _
    · exact (@ok_slc row0 _ _ _ _ _).2 rfl
    · exact (@ok_slc row0 _ _ _ _ _).2 rfl
    · exact (@ok_slc row0 _ _ _ _ _).2 rfl
    · exact (@ok_slc row0 _ _ _ _ _).2 rfl
    · exact (@ok_slc row0 _ _ _ _ _).2 rfl
    · exact (@ok_slc row0 _ _ _ _ _).2 rfl)
  refine opsO row0 ctxS (tells_a x.f kk (c 0) (c 1) (c 2) (c 3) (c 4) (c 5) r1 r2 r3 r4 r5 r6 (pt x.gb) n h1 h2) hT S2 fun m3 st3 a3 w3 hr3 ht3 hm3 => ?_
  have O3 := Own6.of (ids := [0, 1, 2, 3, 4, 5]) hr3 hm3 (by decide)
  have b3 : Below w.heap.size w w3 := SR.bel hr3
  have K3 : Kp 103 [(5, pt x.gb), (7, .slice (some ⟨m3 0, 0, none⟩) n (c 0)), (8, .slice (some ⟨m3 1, 0, none⟩) n (c 1)), (9, .slice (some ⟨m3 2, 0, none⟩) n (c 2)), (10, .slice (some ⟨m3 3, 0, none⟩) n (c 3)), (11, .slice (some ⟨m3 4, 0, none⟩) n (c 4)), (12, .slice (some ⟨m3 5, 0, none⟩) n (c 5)), (67, .bool false)] a3 := kp_obs hr3 ht3 (us := [pt x.gb, .slice (some ⟨m3 0, 0, none⟩) n (c 0), .slice (some ⟨m3 1, 0, none⟩) n (c 1), .slice (some ⟨m3 2, 0, none⟩) n (c 2), .slice (some ⟨m3 3, 0, none⟩) n (c 3), .slice (some ⟨m3 4, 0, none⟩) n (c 4), .slice (some ⟨m3 5, 0, none⟩) n (c 5), .bool false]) (by simp only [List.map_cons, List.map_nil, @den_val row0, @den_slc row0]) (by rfl)
  show wpL Tryd.prog [_] _ a3 w3
  refine wp_cond_false (K3.get (d := 67) (by simp)) (wp_skip ?_)
  show wpL Tryd.prog ([te.getD 11 .skip, te.getD 12 .skip, te.getD 13 .skip, te.getD 14 .skip] ++ [.region 19 te19 false, .ret]) _ a3 w3
  rw [wpL_app]
  have S3 := Own6.sr row0 O3 K3 (ss := ss6 (pt x.gb) n (c 0) (c 1) (c 2) (c 3) (c 4) (c 5)) (fun p hp => by
    simp only [ss6, List.mem_cons, List.not_mem_nil, or_false] at hp
    rcases hp with rfl | rfl | rfl | rfl | rfl | rfl | rfl
    · rw [@den_val row0]; simp
    · rw [@den_slc row0]; simp
    · rw [@den_slc row0]; simp
    · rw [@den_slc row0]; simp
    · rw [@den_slc row0]; simp
    · rw [@den_slc row0]; simp
    · rw [@den_slc row0]; simp) (fun p hp => by
    simp only [ss6, List.mem_cons, List.not_mem_nil, or_false] at hp
    rcases hp with rfl | rfl | rfl | rfl | rfl | rfl | rfl
    · exact @ok_val row0 _ _
    · exact (@ok_slc row0 _ _ _ _ _).2 rfl
    · exact (@ok_slc row0 _ _ _ _ _).2 rfl
    · exact (@ok_slc row0 _ _ _ _ _).2 rfl
    · exact (@ok_slc row0 _ _ _ _ _).2 rfl
    · exact (@ok_slc row0 _ _ _ _ _).2 rfl
    · exact (@ok_slc row0 _ _ _ _ _).2 rfl)
  refine pieceO row0 ctxS (tells_b x.f kk (c 0) (c 1) (c 2) (c 3) (c 4) (c 5) r1 r2 r3 r4 r5 r6 (pt x.gb) n h1 h2) hT S3 fun m4 st4 a4 w4 hr4 ht4 hm4 => ?_
  have O4 := Own6.of (ids := [1, 3, 4, 5]) hr4 hm4 (by decide)
  have b4 : Below w.heap.size w w4 := SR.bel hr4
  have K4 : Kp 103 [(5, pt x.gb), (8, .slice (some ⟨m4 1, 0, none⟩) n (c 1)), (10, .slice (some ⟨m4 3, 0, none⟩) n (c 3)), (11, .slice (some ⟨m4 4, 0, none⟩) n (c 4)), (12, .slice (some ⟨m4 5, 0, none⟩) n (c 5))] a4 := kp_obs hr4 ht4 (us := [pt x.gb, .slice (some ⟨m4 1, 0, none⟩) n (c 1), .slice (some ⟨m4 3, 0, none⟩) n (c 3), .slice (some ⟨m4 4, 0, none⟩) n (c 4), .slice (some ⟨m4 5, 0, none⟩) n (c 5)]) (by simp only [List.map_cons, List.map_nil, @den_val row0, @den_slc row0]) (by rfl)
  show wpL Tryd.prog [_, _] _ a4 w4
  refine wp_region_list ?_
  rw [te19_eq]
  have S4 := Own6.sr row0 O4 K4 (ss := [(5, .val (pt x.gb)), (8, .slc 0 0 n (c 1)), (10, .slc 1 0 n (c 3)), (11, .slc 2 0 n (c 4)), (12, .slc 3 0 n (c 5))]) (fun p hp => by
    simp only [List.mem_cons, List.not_mem_nil, or_false] at hp
    rcases hp with rfl | rfl | rfl | rfl | rfl
    · rw [@den_val row0]; simp
    · rw [@den_slc row0]; simp
    · rw [@den_slc row0]; simp
    · rw [@den_slc row0]; simp
    · rw [@den_slc row0]; simp) (fun p hp => by
    simp only [List.mem_cons, List.not_mem_nil, or_false] at hp
    rcases hp with rfl | rfl | rfl | rfl | rfl
    · exact @ok_val row0 _ _
    · exact (@ok_slc row0 _ _ _ _ _).2 rfl
    · exact (@ok_slc row0 _ _ _ _ _).2 rfl
    · exact (@ok_slc row0 _ _ _ _ _).2 rfl
    · exact (@ok_slc row0 _ _ _ _ _).2 rfl)
  refine opsO row0 ctxS (tells_c x.f kk (c 1) (c 3) (c 4) (c 5) r2 r4 r5 r6 (pt x.gb) n h1 h2) hT S4 fun m5 st5 a5 w5 hr5 ht5 hm5 => ?_
  have O5 := Own6.of (ids := [2]) hr5 hm5 (by decide)
  have b5 : Below w.heap.size w w5 := SR.bel hr5
  have K5 : Kp 103 [(5, pt x.gb), (11, .slice (some ⟨m5 2, 0, none⟩) n (c 4)), (97, .bool true)] a5 := kp_obs hr5 ht5 (us := [pt x.gb, .slice (some ⟨m5 2, 0, none⟩) n (c 4), .bool true]) (by simp only [List.map_cons, List.map_nil, @den_val row0, @den_slc row0]) (by rfl)
  obtain ⟨p1, p2⟩ := O5.at_ 0 _ rfl
  have p1 : w.heap.size ≤ m5 2 := p1
  have p2 : w5.heap[m5 2]? = some (.cells (cP n x.f ++ r5).toArray 54 (0, 0)) := p2
  refine te19_mid (hO.bel b5) h2 hm' K5 fun a6 w6 A7 c7 K6 hb6 hp6 => ?_
  have b6 := b5.trans (hb6.mono b5.size)
  obtain ⟨g7, r7, e7, l7, u7, q7⟩ := (RowAt.mk' hp6.row).some h1
  rw [e7] at K6
  have O6 : Own6 w w6 (fun i => [m5 2, g7].getD i 0) [(54, cP n x.f ++ r5), (54, cP n x.f ++ r7)] := by
    have hlt := lt' p2
    have hlt7 := lt' q7
    have z1 := b5.size
    have z2 := hb6.size
    refine own6_mk (s := fun i => [m5 2, w5.heap.size].getD i w6.heap.size) b6 (fun i => ?_) p1 fun b p hp => ?_
    · match i with
      | 0 => exact Nat.le_of_lt hlt
      | 1 => exact z2
      | i + 2 => exact Nat.le_refl _
    · match b, hp with
      | 0, hp => cases hp; exact ⟨Nat.le_refl _, hlt, (hb6.block _ hlt).trans p2⟩
      | 1, hp => cases hp; exact ⟨l7, hlt7, q7⟩
      | b + 2, hp => cases hp
  have S6 := Own6.sr row0 O6 K6 (ss := [(11, .slc 0 0 n (c 4)), (97, .val (.bool true)), (99, .slc 1 0 n c7)]) (fun p hp => by
    simp only [List.mem_cons, List.not_mem_nil, or_false] at hp
    rcases hp with rfl | rfl | rfl
    · rw [@den_slc row0]; simp
    · rw [@den_val row0]; simp
    · rw [@den_slc row0]; simp) (fun p hp => by
    simp only [List.mem_cons, List.not_mem_nil, or_false] at hp
    rcases hp with rfl | rfl | rfl
    · exact (@ok_slc row0 _ _ _ _ _).2 rfl
    · exact @ok_val row0 _ _
    · exact (@ok_slc row0 _ _ _ _ _).2 rfl)
  refine opsO row0 ctxS (tells_d x.f (c 4) c7 r5 r7 n h1 h2) hT S6 fun m7 st7 a7 w7 hr7 ht7 _ => ?_
  have b7 : Below w.heap.size w w7 := SR.bel hr7
  have K7 : Kp 103 [(4, .bool true)] a7 := kp_obs hr7 ht7 (us := [.bool true]) (by simp only [List.map_cons, List.map_nil, @den_val row0]) (by rfl)
  exact te_end K7 b7
theorem Tells.calls {B pb n : Nat} {w : World} {x : Tk} {r : Rf} (hT : Tabs w) (hP : Pst B w pb x r n) (hn : n ≤ 2) :
    Calls Tryd.prog 30 #[pt pb, .int .i64 0] w (TR w) := by
  have hm : x.m.length = n := by rw [hP.maps.1, mapsOf, List.length_map, List.length_range]
  refine tells_head hT hP hn fun a' w' s A c hk hb hs _ hR => ?_
  match n, hn, hP, hm, hk, hR with
  | 0, _, hP, hm, hk, _ => exact tells_0 hT hP.own hm hb hk
  | n + 1, hn, hP, hm, hk, hR => exact tells_n hT (by omega) hn hP.own hm hb hs hR hk
end Go.Proofs.YtbpdpnoekkkapaaDoor.PDescKinds
end
section
namespace Go.Proofs.YtbpdpnoekkkapaaDoor.PDescKinds
open Go.RowKit Go.Ev Go.Proofs.YtbpdpnoekkkapaaDoorV.PrintLast
set_option maxRecDepth 100000
noncomputable def np : List Code := bodyOf Tryd.f28
noncomputable def np1 : Array Oper := opsOf (np.getD 1 .skip)
theorem np_eq : np = [np.getD 0 .skip] ++ [.region 1 np1 false, .ret] := by kernel_rfl
theorem np1_eq : np1.toList = np1.toList.getD 0 default :: np1.toList.getD 1 default :: (np1.toList.drop 2 ++ []) := by kernel_rfl
theorem np0 : letI := row0
    evK Tryd.prog ext (tab []) 60 11 (seqL [np.getD 0 .skip]) (⟨argS [], fun _ => none, 0⟩) (grab Tryd.prog Tryd.f28 [] [] 0) = some (Res.cut Ex.normal ⟨[], []⟩) := by kernel_rfl
abbrev ag2 (a b : Nat) : Value := .agg #[pt a, pt b]
theorem np1_v (g0 g1 : Nat) : letI := row0
    evOpsK Tryd.prog ext (callWithK Tryd.prog (tab []) (evK Tryd.prog ext (tab []) 60)) np1 11 ((np1.toList.drop 2).take 6) ((⟨[(1, .val (pt g0)), (2, .val (pt g1))], []⟩ : Cut).st 0) (fun st => cutS [3, 8] [0, 1] 2 st) = some ⟨[(3, .val (ag2 g0 g1)), (8, .arr [.ptr 0 0, .ptr 1 0])], [(0, ⟨103, [Value.slice none 0 0, .int .i64 0].map SV.val⟩), (1, ⟨103, [Value.slice none 0 0, .int .i64 0].map SV.val⟩)]⟩ := by kernel_rfl
theorem np1_w (g0 g1 r0 r1 : Nat) : letI := row0
    evOpsK Tryd.prog ext (callWithK Tryd.prog (tab []) (evK Tryd.prog ext (tab []) 60)) np1 11 ((np1.toList.drop 2).drop 6) ((⟨[(3, .val (ag2 g0 g1)), (8, .val (ag2 r0 r1))], []⟩ : Cut).st 0) (fun st => cutS [0] [0] 1 st) = some ⟨[(0, .ptr 0 0)], [(0, ⟨71, (plst g0 g1 r0 r1).map SV.val⟩)]⟩ := by kernel_rfl
theorem np1_sp : np1.toList.drop 2 = (np1.toList.drop 2).take 6 ++ (np1.toList.drop 2).drop 6 := by kernel_rfl
theorem npR (v : Value) : letI := row0
    evK Tryd.prog ext (tab []) 60 11 (seqL [.ret]) ((⟨[(0, .val v)], []⟩ : Cut).st 0) (grab Tryd.prog Tryd.f28 [] [] 0) = some (Res.ret (.val v)) := by kernel_rfl
theorem NewPair.calls {w : World} (f : Nat → K × D) : Calls Tryd.prog 28 #[] w fun e w' => ∃ pb x r, e = .returned (pt pb) ∧ Below w.heap.size w w' ∧ w.heap.size ≤ pb ∧ Pst w.heap.size w' pb x r 0 := by
  refine enter_vals (vs := []) (N := 11) Tryd.func28 (by kernel_rfl) (by kernel_rfl) (show 0 ≤ 11 by decide) fun a0 h0 => ?_
  show wpL Tryd.prog np _ _ _
  rw [np_eq, wpL_app]
  refine pieceZ np0 h0 (fun v hv => by cases hv) (fun ex c hc m a1 w1 hr => ?_)
  cases hc
  have hb1 := SR.bel hr
  have K1 : Kp 11 [] a1 := SR.kp hr fun p hp => by cases hp
  refine wp_region_list ?_
  rw [np1_eq]
  refine wpList_plain (by kernel_rfl) fun J hJ => ?_
  have hc1 : Calls Tryd.prog 12 #[] w1 fun e w' => ∃ g mb, e = .returned (pt g) ∧ Below w1.heap.size w1 w' ∧ ∀ E, OwnT w1.heap.size w' ⟨g, mb, none, 0, 0, E, 0, [], 0⟩ := New.calls
  refine call_op (f := 12) (ats := #[]) (xs := #[]) (by kernel_rfl) (by kernel_rfl) (show (#[] : Array Operand).map a1.eval = #[] from Array.map_empty) hc1 (fun e w' he => by obtain ⟨g, mb, rfl, _⟩ := he; exact ⟨_, rfl⟩) fun v w2 he => hJ _ _ ?_
  obtain ⟨g0, mb0, hv, hb2', hO2⟩ := he
  cases hv
  rw [show (np1.toList.getD 0 default).dst = some 1 by kernel_rfl]
  have K2 := K1.put (d := 1) (v := pt g0) rfl
  generalize a1.put (some 1) (pt g0) = a2 at K2 ⊢
  refine wpList_plain (by kernel_rfl) fun J hJ => ?_
  have hc2 : Calls Tryd.prog 12 #[] w2 fun e w' => ∃ g mb, e = .returned (pt g) ∧ Below w2.heap.size w2 w' ∧ ∀ E, OwnT w2.heap.size w' ⟨g, mb, none, 0, 0, E, 0, [], 0⟩ := New.calls
  refine call_op (f := 12) (ats := #[]) (xs := #[]) (by kernel_rfl) (by kernel_rfl) (show (#[] : Array Operand).map a2.eval = #[] from Array.map_empty) hc2 (fun e w' he => by obtain ⟨g, mb, rfl, _⟩ := he; exact ⟨_, rfl⟩) fun v w3 he => hJ _ _ ?_
  obtain ⟨g1, mb1, hv, hb3', _⟩ := he
  cases hv
  rw [show (np1.toList.getD 1 default).dst = some 2 by kernel_rfl]
  have K3 : Kp 11 [(1, pt g0), (2, pt g1)] _ := (K2.put (d := 2) (v := pt g1) rfl).sub (by simp)
  have s1 := hb1.size
  have s2 := hb2'.size
  have s3 := hb3'.size
  have b3 : Below w.heap.size w w3 := (hb1.trans (hb2'.mono s1)).trans (hb3'.mono (by omega))
  rw [np1_sp, List.append_assoc]
  refine opsE row0 Ap.ctx0 (np1_v g0 g1) trivial (K3.sr w3) fun m4 a4 w4 hr4 => ?_
  have hb4' := SR.bel hr4
  have s4 := hb4'.size
  have ⟨p1, p2⟩ := SR.own (b := 0) (l := [.slice none 0 0, .int .i64 0]) (ty := 103) hr4 rfl
  have K4 : Kp 11 [(3, ag2 g0 g1), (8, ag2 (m4 0) (m4 1))] a4 := SR.kp hr4 fun p hp => by
    simp only [List.mem_cons, List.not_mem_nil, or_false] at hp
    rcases hp with rfl | rfl
    · exact ⟨rfl, @den_val row0 _ _⟩
    · refine ⟨rfl, ?_⟩
      show @SV.den row0 m4 (.arr [.ptr 0 0, .ptr 1 0]) = _
      rw [@den_arr row0, List.map_cons, List.map_cons, List.map_nil, @den_ptr row0, @den_ptr row0]
  generalize m4 0 = rb at p1 p2 K4
  generalize m4 1 = rb1 at K4
  have b4 := b3.trans (hb4'.mono (by omega))
  refine opsE row0 Ap.ctx0 (np1_w g0 g1 rb rb1) trivial (K4.sr w4) fun m5 a5 w5 hr5 => ?_
  have hb5' := SR.bel hr5
  have s5 := hb5'.size
  have ⟨q1, q2⟩ := SR.own (b := 0) (l := plst g0 g1 rb rb1) (ty := 71) hr5 rfl
  have K5 : Kp 11 [(0, pt (m5 0))] a5 := SR.kp hr5 fun p hp => by
    obtain rfl := List.mem_singleton.1 hp
    exact ⟨rfl, @den_ptr row0 _ _ _⟩
  have b5 := b4.trans (hb5'.mono (by omega))
  show wpL Tryd.prog [.ret] _ a5 w5
  refine pieceZ (npR (pt (m5 0))) (K5.sr w5) (fun v hv m' a' w' hd hres hb' => ?_) (fun ex d hd => by cases hd)
  cases hv
  rw [@den_val row0] at hres
  have hOx : OwnT w.heap.size w3 (({ gb := g0, mb := mb0, A := none, c := 0, f := f, last := 0, m := [], cl := 0 } : Tk).tb 0) := ((hO2 (frE f)).bel hb3').mono s1
  have hbb : Below w4.heap.size w4 w' := hb5'.trans (hb'.mono s5)
  refine ⟨hd, _, hres, m5 0, ⟨g0, mb0, none, 0, f, 0, [], 0⟩, ⟨rb, none, 0⟩, rfl, b5.trans (hb'.mono (by omega)), by omega, ⟨g1, rb1, ?_⟩, hOx.bel (hb4'.trans (hbb.mono s4)), ⟨?_, ⟨rfl, .inl ⟨rfl, rfl⟩⟩⟩, ⟨rfl, rfl, rfl⟩, fun i hi => absurd hi (by omega)⟩
  · exact (hb'.block _ (lt' q2)).trans q2
  · exact own_new (l := [.slice none 0 0, .int .i64 0]) rfl (by show w.heap.size ≤ rb; omega) ((hbb.block _ (lt' p2)).trans p2)
end Go.Proofs.YtbpdpnoekkkapaaDoor.PDescKinds
end
