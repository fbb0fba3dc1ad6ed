-- The words of the print without the theorems that no text of this claim names: written by a program of this session out of the print's text.
import Derived.Test.YtaojjpdlfnphiaaVInv
import Derived.Test.YtaojjpdlfnphiaaVFootNe
namespace Go.Proofs.YtaojjpdlfnphiaaW.PrintWords
open Go.RowKit
end Go.Proofs.YtaojjpdlfnphiaaW.PrintWords
namespace Go.Proofs.YtaojjpdlfnphiaaW.PrintLast
section
variable {ops : Array Oper} {a : Act} {o og : Oper} {g : Nat} {t : Tmp} {u : Bool}
end
end Go.Proofs.YtaojjpdlfnphiaaW.PrintLast
