/- The seat of InvariantPatches: what the ported texts lack. -/
import Derived.Test.YtaojjpdlfnphiaaX3
set_option linter.unusedSimpArgs false
set_option linter.unusedVariables false
set_option linter.unusedSectionVars false
namespace Go.Proofs.Ytaojjpdlfnphiaa.PDescKinds
open Go.RowKit Go.Ev
def D.cells (d : D) : List SV := d.list.map SV.val
/-- Two rows of deltas that read alike. -/
@[instance_reducible] def rowD2 (A1 A2 : Option Addr) (n c1 c2 : Nat) (g : Nat → Dl) : XEnv := ⟨fun r => match r with
  | [] => ⟨A1, 29, n, c1, fun j => (g j).cells⟩
  | _ :: _ => ⟨A2, 29, n, c2, fun j => (g j).cells⟩⟩
end Go.Proofs.Ytaojjpdlfnphiaa.PDescKinds
