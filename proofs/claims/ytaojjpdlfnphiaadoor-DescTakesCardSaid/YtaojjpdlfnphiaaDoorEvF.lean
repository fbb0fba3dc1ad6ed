import Derived.Test.YtaojjpdlfnphiaaDoorEvE
set_option linter.unusedSimpArgs false
set_option linter.unusedVariables false
set_option linter.unusedSectionVars false
namespace Go.Ev
/-! ### Tables of contracts -/
abbrev Tab := List (Nat × (List Value → Option (DT Value)))
def tab : Tab → GFn
  | [], _ => none
  | p :: r, f => bif Nat.beq f p.1 then some p.2 else tab r f
def Entry (P : Program) (I : World → Prop) (p : Nat × (List Value → Option (DT Value))) : Prop :=
  ∀ args t v, p.2 args = some t → t.val = some v → ∀ w, I w → Calls P p.1 args.toArray w (fun e w' => e = .returned v ∧ RowKit.Below w.heap.size w w')
theorem tab_sound {P : Program} {I : World → Prop} : ∀ {l : Tab}, (∀ p ∈ l, Entry P I p) → GivenSound P I (tab l)
  | [], _ => fun f g h => (by cases h)
  | p :: r, hl => fun f g h => by
    unfold tab at h
    cases hb : Nat.beq f p.1 with
    | true =>
      rw [hb] at h
      simp only [cond_true, Option.some.injEq] at h
      subst h
      have := Nat.eq_of_beq_eq_true hb
      subst this
      exact hl p List.mem_cons_self
    | false =>
      rw [hb] at h
      exact tab_sound (fun q hq => hl q (List.mem_cons_of_mem _ hq)) f g h
theorem entries_nil {P : Program} {I : World → Prop} : ∀ p ∈ ([] : Tab), Entry P I p := fun p hp => (by cases hp)
theorem entries_cons {P : Program} {I : World → Prop} {q : Nat × (List Value → Option (DT Value))} {l : Tab} (h : Entry P I q) (hl : ∀ p ∈ l, Entry P I p) : ∀ p ∈ q :: l, Entry P I p := fun p hp => by
  rcases List.mem_cons.1 hp with rfl | hp
  · exact h
  · exact hl p hp
/-- A function's entry, by evaluation over the entries before. -/
theorem entry_of {P : Program} {X : ExtFn} {I : World → Prop} (hmix : P.follows .mixedOrders = true) (hX : ExtSound P X) (hs : Stable I) {l : Tab} (hl : ∀ p ∈ l, Entry P I p) {q : Nat × (List Value → Option (DT Value))} (k : Nat)
    (h : ∀ args t, q.2 args = some t → evFn P X (tab l) k q.1 args = t.val) : Entry P I q :=
  fun args t v ht hv w hI => evFn_sound hmix hX hs (tab_sound hl) ((h args t ht).trans hv) w hI
end Go.Ev
