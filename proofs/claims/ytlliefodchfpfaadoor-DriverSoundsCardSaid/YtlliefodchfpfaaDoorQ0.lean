/- Keys; the program's Valid; what a step must be. -/
import Derived.Test.YtlliefodchfpfaaDoorH0
import Derived.Test.YtlliefodchfpfaaDoorJ0
import Derived.Test.YtlliefodchfpfaaDoorL0
set_option linter.unusedSimpArgs false
set_option linter.unusedVariables false
set_option linter.unusedSectionVars false
namespace Go.Proofs.YtlliefodchfpfaaDoor.PDescKinds
open Go.RowKit Go.Ev
structure K where
  s : ByteArray
  n : Int
def K.agg (k : K) : Value := .agg #[.string k.s, .int .i64 k.n]
def getK : Value → Option K
  | .agg a => match a.toList with
    | [.string s, .int .i64 n] => some ⟨s, n⟩
    | _ => none
  | _ => none
theorem getK_agg {x : Value} {v : K} (h : getK x = some v) : x = v.agg := by
  unfold getK at h
  split at h
  · rename_i a
    split at h
    · rename_i s n ha
      simp only [Option.some.injEq] at h
      subst h
      unfold K.agg
      rw [← ha]
    · cases h
  · cases h
def onK (g : K → DT Value) : List Value → Option (DT Value)
  | [x] => match getK x with
    | some k => some (g k)
    | none => none
  | _ => none
theorem onK_eq {g : K → DT Value} {l : List Value} {t : DT Value} (h : onK g l = some t) : ∃ v, l = [v.agg] ∧ t = g v := by
  unfold onK at h
  split at h
  · split at h
    · rename_i v hv
      simp only [Option.some.injEq] at h
      exact ⟨v, by rw [getK_agg hv], h.symm⟩
    · cases h
  · cases h
namespace S
def keyOk (k : K) : Bool := (k.n == 0 && leafIn.strOk k.s) || (leafIn.idOk k.n && emp k.s)
end S
namespace T
def key (k : K) : DT Value := err (S.keyOk k)
def rkey (k : K) : DT Value := B (S.keyOk k)
end T
theorem ent_pvalid : E (32, onS T.valid) := fun args t v h hv w hI => by
  obtain ⟨s, rfl, rfl⟩ := onS_eq h
  unfold T.valid at hv
  rw [DT.val_node, DT.val_leaf, DT.val_bad] at hv
  cases hs : decide ((s.size : Int) ≤ 1048576)
  · rw [hs] at hv
    cases hv
  · rw [hs] at hv
    obtain rfl := Option.some.inj hv
    have hs' : s.size ≤ 1048576 := by
      rw [decide_eq_true_eq] at hs
      omega
    exact units_Valid.calls s _ w hI (by unfold units_Valid.f; rw [if_pos (by omega)])
end Go.Proofs.YtlliefodchfpfaaDoor.PDescKinds
