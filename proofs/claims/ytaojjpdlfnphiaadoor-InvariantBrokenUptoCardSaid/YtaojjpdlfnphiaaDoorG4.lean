/- The same contracts without branches, for the laws. -/
import Derived.Test.YtaojjpdlfnphiaaDoorI1
set_option linter.unusedSimpArgs false
set_option linter.unusedVariables false
namespace Go.Proofs.YtaojjpdlfnphiaaDoor.PDescKinds
open Go.RowKit Go.Ev
theorem onD_val {f : Nat} {g g' : D → DT Value} (h : E (f, onD g)) (e : ∀ d, (g' d).val = (g d).val) : E (f, onD g') := by
  intro args t v ht hv
  obtain ⟨d, rfl, rfl⟩ := onD_eq ht
  rw [e d] at hv
  exact h [d.agg] (g d) v rfl hv
namespace S
def err (b : Bool) : Int := bif b then 0 else 5
def freezeD (d : D) : D := ⟨V0, V0, V0, bif whole d && isD d then 1 else 0, 0, bif whole d then 1 else 0⟩
end S
namespace R
def freezeD (d : D) : D := ⟨S.V0, S.V0, S.V0, bif whole d && isD d then 1 else 0, 0, bif whole d then 1 else 0⟩
end R
namespace T
def check1 (d : D) : DT Value := .leaf (.int .i64 (S.err (S.check d)))
def complete1 (d : D) : DT Value := .leaf (.tuple #[(S.compl d).agg, .int .i64 (S.err (S.check d))])
def freeze1 (d : D) : DT Value := .leaf (.tuple #[(S.freezeD d).agg, .int .i64 (S.err (S.whole d))])
def rfreeze1 (d : D) : DT Value := .leaf (.tuple #[(R.freezeD d).agg, .int .i64 (S.err (R.whole d))])
end T
theorem ent_check1 : E (16, onD T.check1) := onD_val ent_check fun d => by
  simp only [T.check1, T.check, T.err, DT.val_node, DT.val_leaf, S.err]
  cases S.check d <;> rfl
theorem ent_complete1 : E (12, onD T.complete1) := onD_val ent_complete fun d => by
  simp only [T.complete1, T.complete, DT.val_node, DT.val_leaf, S.err, S.compl]
  cases S.check d <;> rfl
theorem ent_freeze1 : E (13, onD T.freeze1) := onD_val ent_freeze fun d => by
  simp only [T.freeze1, T.freeze, DT.val_node, DT.val_leaf, S.err, S.freezeD]
  cases S.whole d <;> cases S.isD d <;> rfl
theorem ent_rfreeze1 : E (14, onD T.rfreeze1) := onD_val ent_rfreeze fun d => by
  simp only [T.rfreeze1, T.rfreeze, DT.val_node, DT.val_leaf, S.err, R.freezeD]
  cases R.whole d <;> cases R.isD d <;> rfl
theorem ents_app {l r : Tab} (hl : ∀ p ∈ l, E p) (hr : ∀ p ∈ r, E p) : ∀ p ∈ l ++ r, E p := fun p hp => by
  rcases List.mem_append.1 hp with h | h
  · exact hl p h
  · exact hr p h
abbrev AL : Tab := [(16, onD T.check1), (12, onD T.complete1), (13, onD T.freeze1), (14, onD T.rfreeze1)] ++ (IL23 ++ HL27)
theorem entsAL : ∀ p ∈ AL, E p := ents_app (entries_cons ent_check1 (entries_cons ent_complete1 (entries_cons ent_freeze1 (entries_cons ent_rfreeze1 entries_nil)))) (ents_app Ients23 Hents27)
end Go.Proofs.YtaojjpdlfnphiaaDoor.PDescKinds
