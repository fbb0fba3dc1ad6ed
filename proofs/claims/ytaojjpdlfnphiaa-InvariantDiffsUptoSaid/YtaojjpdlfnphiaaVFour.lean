-- The words of the print without the theorems that no text of this claim names: written by a program of this session out of the print's text.
import Derived.Test.YtaojjpdlfnphiaaVTab
/-! ### 56. Four, five, six operations that may come up next, in any order -/
namespace Go.Proofs.YtaojjpdlfnphiaaW.PrintLast
section
variable {P : Program} {ops : Array Oper} {Q : Exit → Act → World → Prop} {md : Region.Mode} {S : World → Prop} {ds : List Nat} {T : Bool × List (List Nat × List Nat)}
end
end Go.Proofs.YtaojjpdlfnphiaaW.PrintLast
