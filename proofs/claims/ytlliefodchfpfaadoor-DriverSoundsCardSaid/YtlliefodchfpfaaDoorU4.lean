/- The contract of the reference's Valid. -/
import Derived.Test.YtlliefodchfpfaaDoorU3
import Derived.Test.YtlliefodchfpfaaDoorG3
set_option linter.unusedSimpArgs false
set_option linter.unusedVariables false
namespace Go.Proofs.YtlliefodchfpfaaDoor.PDescKinds
open Go.RowKit Go.Ev
theorem ent_valid : E (36, onS T.valid) := fun args t v h hv w hI => by
  obtain ⟨s, rfl, rfl⟩ := onS_eq h
  unfold T.valid at hv
  rw [DT.val_node, DT.val_leaf, DT.val_bad] at hv
  cases hs : decide ((s.size : Int) ≤ 1048576)
  · rw [hs] at hv
    cases hv
  · rw [hs] at hv
    obtain rfl := Option.some.inj hv
    have hs' : s.size ≤ 1048576 := by
      rw [decide_eq_true_eq] at hs
      omega
    obtain ⟨k, hk⟩ := Utf.valid_eq s hs'
    exact cameoref01_Valid.calls k s _ w hk
end Go.Proofs.YtlliefodchfpfaaDoor.PDescKinds
