/- DescKeeps: words: epochs, rows of its own, the chain. -/
import Derived.Test.YtaojjpdlfnphiaaDoorK2
import Derived.Test.YtaojjpdlfnphiaaDoorC1
set_option linter.unusedSimpArgs false
set_option linter.unusedVariables false
set_option linter.unusedSectionVars false
namespace Go.Ev
open Go.RowKit
section
variable [XEnv]
variable {P : Program} {X : ExtFn} {call : CallFn} {I : World → Prop} {N : Nat} {ops : Array Oper} {w0 : World} {Q : Exit → Act → World → Prop}
/-- Some operations of a region, and what is behind them. -/
theorem ops_sound_tail (hX : ExtSound P X) (hI : I w0) (hs : Stable I) (hXO : ∀ w, I w → XOk w) (hcall : CallSound P I call) (tail : List Oper) : ∀ (l : List Oper) (st st' : St) (m : Nat → Nat) (a : Act) (w : World), evOps P X call ops N l st = some st' → SR w0 N m st a w →
    (∀ m' a' w', Later st m st' m' → SR w0 N m' st' a' w' → wpList P ops Q tail a' w') → wpList P ops Q (l ++ tail) a w
  | [], st, st', m, a, w, h, hr, k => by
    simp only [evOps, Option.some.injEq] at h
    subst h
    exact k m a w (Later.refl _ _) hr
  | o :: r, st, st', m, a, w, h, hr, k => by
    unfold evOps at h
    cases hdg : dstOk N o.dst && knownG ops st.tmps o with
    | false => rw [hdg] at h; cases h
    | true =>
      rw [hdg] at h
      rw [Bool.and_eq_true] at hdg
      obtain ⟨hd, hgk⟩ := hdg
      simp only [cond_true] at h
      simp only [List.cons_append]
      unfold wpList
      rw [want_eq hr.ar.tm o hgk]
      cases hw : wantS ops st.tmps o with
      | true =>
        rw [hw] at h
        simp only [cond_true] at h
        simp only [if_true]
        split at h
        · rename_i v e he
          refine .inl (op_sound hX hI hs hXO hcall he (fun _ => hr.fresh _ (Nat.le_refl _)) (fun _ => hr.fresh) hr.ar.look_ok hr.ar.eval hr.mr ?_)
          intro m' w' hag hmr hv hg hall
          have hf := hall hr.fresh
          exact ops_sound_tail hX hI hs hXO hcall tail r _ st' m' _ w' h ⟨hmr, hr.ar.put hag hg hd hv, hf.1⟩ (fun m2 a2 w2 hl hr2 => k m2 a2 w2 (Later.trans ⟨hag, hg, hf.2⟩ hl) hr2)
        · cases h
      | false =>
        rw [hw] at h
        simp only [cond_false] at h
        simp only [Bool.false_eq_true, if_false]
        exact ops_sound_tail hX hI hs hXO hcall tail r _ st' m _ w h ⟨hr.mr, (den_val m undef) ▸ hr.ar.put (v := .val undef) (Agree.refl _ _) (Grows.refl _) hd (ok_val _ _), hr.fresh⟩ (fun m2 a2 w2 hl hr2 => k m2 a2 w2 ⟨hl.agree, hl.grows, hl.le⟩ hr2)
theorem pickT_mem (t : Nat) : ∀ ts : List (Nat × SV), pickT ts t = SV.unk ∨ (t, pickT ts t) ∈ ts
  | [] => .inl rfl
  | p :: r => by
    simp only [pickT]
    cases h : Nat.beq t p.1 with
    | true =>
      have := Nat.eq_of_beq_eq_true h
      subst this
      exact .inr List.mem_cons_self
    | false =>
      rcases pickT_mem t r with h | h
      · exact .inl h
      · exact .inr (List.mem_cons_of_mem _ h)
/-- All that is, is as if it had come in. -/
theorem epoch {a : Act} {w : World} (hs : a.tmps.size = N) (hd : a.defers = []) (ts : List (Nat × SV)) (m : Nat → Nat) (h : ∀ p ∈ ts, a.tmps.getD p.1 undef = p.2.den m) (hok : ∀ p ∈ ts, p.2.ok fun _ => none) :
    SR w N m ((Cut.mk ts []).st 0) a w := by
  refine ⟨MR.start w m, ⟨hs, hd, fun t ht => ?_, fun t => ?_⟩, fun _ _ => rfl⟩
  · have ht : (pickT ts t).known = true := ht
    show a.tmps.getD t undef = (pickT ts t).den m
    rcases pickT_mem t ts with h1 | h1
    · rw [h1] at ht; cases ht
    · exact h _ h1
  · show (pickT ts t).ok _
    rcases pickT_mem t ts with h1 | h1
    · rw [h1]; exact ok_unk
    · exact hok _ h1
end
end Go.Ev
namespace Go.Proofs.YtaojjpdlfnphiaaDoor.PDescKinds
open Go.RowKit Go.Ev
theorem flat_get (L : List D) (j k : Nat) (v : Value) (hj : j < L.length) (h : (L.getD j S.D0).list[k]? = some v) : (L.flatMap D.list)[j * 18 + k]? = some v := by
  induction L generalizing j with
  | nil => simp at hj
  | cons d r ih =>
    have hk : k < 18 := by
      have := (List.getElem?_eq_some_iff.1 h).1
      rwa [D.list_length] at this
    rw [List.flatMap_cons]
    cases j with
    | zero =>
      simp only [Nat.zero_mul, Nat.zero_add]
      rw [List.getElem?_append_left (by rw [D.list_length]; exact hk)]
      simpa using h
    | succ j =>
      rw [List.getElem?_append_right (by rw [D.list_length]; omega), D.list_length]
      rw [show (j + 1) * 18 + k - 18 = j * 18 + k by omega]
      exact ih j (by simpa using hj) (by simpa using h)
namespace Keeps
/-- An own row. -/
theorem own_row {w : World} {base : Nat} {v : Value} {L : List D} (h : w.ownsRow base 27 18 v L.length (L.flatMap D.list)) (hne : L ≠ []) :
    ∃ g cap, v = .slice (some ⟨g, 0, none⟩) L.length cap ∧ base ≤ g ∧ RawRow w (some ⟨g, 0, none⟩) L.length (fun j => L.getD j S.D0) := by
  have hl := h.lt
  have hc := h.cells (g := (v.ownBlock).getD 0)
  rcases h.2 with ⟨_, h0⟩ | ⟨g, cap, cur, rfl, hb, hg, h1, h2, h3, h4⟩
  · exact absurd (List.length_eq_zero_iff.1 h0) hne
  · refine ⟨g, cap, rfl, hb, fun j hj => ⟨_, rfl, (hl g rfl).2, fun k u hu => ?_⟩⟩
    exact hc rfl _ _ (flat_get L j k u hj hu)
structure Chain (z : D) (L : List D) : Prop where
  ne : L ≠ []
  no : S.wz z = false → L = [z]
  all : S.wz z = true → (∀ b ∈ L, S.wz b = true) ∧ ∀ i j, i ≤ j → j < L.length → S.keeps (L.getD i S.D0) (L.getD j S.D0) = true
theorem Chain.one (z : D) : Chain z [z] := by
  refine ⟨by simp, fun _ => rfl, fun h => ⟨fun b hb => ?_, fun i j hij hj => ?_⟩⟩
  · rw [List.mem_singleton.1 hb]; exact h
  · simp only [List.length_cons, List.length_nil, Nat.zero_add, Nat.lt_one_iff] at hj
    subst hj
    obtain rfl : i = 0 := by omega
    exact S.keeps_refl h
theorem Chain.step {z d : D} {L : List D} (x : Bool) (h : Chain z L) (ho : S.okA (L.getD (L.length - 1) S.D0) d = true) : Chain z (L ++ [(S.apply x (L.getD (L.length - 1) S.D0) d).1]) := by
  have hlen : 0 < L.length := List.length_pos_iff.2 h.ne
  cases hz : S.wz z with
  | false =>
    exfalso
    have e := h.no hz
    subst e
    rw [S.okA_eq, Bool.and_eq_true] at ho
    have := ho.2
    simp only [List.length_cons, List.length_nil, Nat.zero_add, Nat.sub_self, List.getD_cons_zero] at this
    rw [hz] at this
    cases this
  | true =>
    obtain ⟨h1, h2⟩ := h.all hz
    refine ⟨by simp, fun h => (by rw [hz] at h; cases h), fun _ => ⟨fun b hb => ?_, fun i j hij hj => ?_⟩⟩
    · rcases List.mem_append.1 hb with hb | hb
      · exact h1 b hb
      · rw [List.mem_singleton.1 hb]
        exact S.apply_wz x ho
    · simp only [List.length_append, List.length_cons, List.length_nil, Nat.zero_add] at hj
      have gl : ∀ q, q < L.length → (L ++ [(S.apply x (L.getD (L.length - 1) S.D0) d).1]).getD q S.D0 = L.getD q S.D0 := fun q hq => by
        simp [List.getD_eq_getElem?_getD, List.getElem?_append_left hq]
      have gr : (L ++ [(S.apply x (L.getD (L.length - 1) S.D0) d).1]).getD L.length S.D0 = (S.apply x (L.getD (L.length - 1) S.D0) d).1 := by
        simp [List.getD_eq_getElem?_getD]
      by_cases hjl : j < L.length
      · rw [gl i (by omega), gl j hjl]
        exact h2 i j hij hjl
      · obtain rfl : j = L.length := by omega
        rw [gr]
        by_cases hil : i < L.length
        · rw [gl i hil]
          exact S.keeps_step x (h2 i (L.length - 1) (by omega) (by omega)) ho
        · obtain rfl : i = L.length := by omega
          rw [gr]
          exact S.keeps_refl (S.apply_wz x ho)
end Keeps
end Go.Proofs.YtaojjpdlfnphiaaDoor.PDescKinds
