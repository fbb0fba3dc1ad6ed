/-
  DERIVED. GIVEN WITH THE SEED: THE CARDS: each row of YtaojjpdlfnphiaaDoorRows.lean that lists a variable, with what it lists TIED to the program's text (the seventh form; the later family's looks); each row that meets fmt, with fmt's text TOLD by the authors' own Lean function (tested against real Go, not proved from fmt's source: count such statements apart). THE CARD IS WHAT COUNTS. Prove the row's statement (the work); the ties are given (YtaojjpdlfnphiaaDoorTie.lean); close each card by the builder's one call (the guide's Derived/Test/ToyasCard.lean, 'card_holds'). Laid BY PROGRAM, IN A SANDBOX (cutbox-door.mjs). By AI agents, Wed Nov 11 2026. No macro, syntax, notation, axiom, sorry.
-/
import Derived.Test.YtaojjpdlfnphiaaDoorRows
import GoSem.ClaimSeven
namespace Go.Proofs.YtaojjpdlfnphiaaDoor
namespace Rows

/-- THE TIED CARD OF 'cameolaw05.DescKinds'. -/
def descKindsCard : Claim7 := { stood := { row := descKindsRow, standIns := [], harness := (true, "b97dfc45d3f129c6fd72d61f94fc0f286a8e9ee654deb46f50bf22ff0e9548d7"), looks := true }, kinds := [], alts := [], laidByText := true, laidKinds := [.data, .pinned], laidTests := true, laidLooks := .later }
def DescKindsCardSaid : Prop := Claim7.holds Tryd.pinned (.plain (OpenSpec.ofChange descKindsSpec)) descKindsCard

/-- THE TIED CARD OF 'cameolaw05.DescTakes'. -/
def descTakesCard : Claim7 := { stood := { row := descTakesRow, standIns := [], harness := (true, "b97dfc45d3f129c6fd72d61f94fc0f286a8e9ee654deb46f50bf22ff0e9548d7"), looks := true }, kinds := [], alts := [], laidByText := true, laidKinds := [.data, .pinned], laidTests := true, laidLooks := .later }
def DescTakesCardSaid : Prop := Claim7.holds Tryd.pinned (.plain (OpenSpec.ofChange descTakesSpec)) descTakesCard

/-- THE TIED CARD OF 'cameolaw05.DescKeeps'. -/
def descKeepsCard : Claim7 := { stood := { row := descKeepsRow, standIns := [], harness := (true, "b97dfc45d3f129c6fd72d61f94fc0f286a8e9ee654deb46f50bf22ff0e9548d7"), looks := true }, kinds := [], alts := [], laidByText := true, laidKinds := [.data, .pinned], laidTests := true, laidLooks := .later }
def DescKeepsCardSaid : Prop := Claim7.holds Tryd.pinned (.plain (OpenSpec.ofChange descKeepsSpec)) descKeepsCard

/-- THE TIED CARD OF 'cameolaw05.DescFrozen'. -/
def descFrozenCard : Claim7 := { stood := { row := descFrozenRow, standIns := [], harness := (true, "b97dfc45d3f129c6fd72d61f94fc0f286a8e9ee654deb46f50bf22ff0e9548d7"), looks := true }, kinds := [], alts := [], laidByText := true, laidKinds := [.data, .pinned], laidTests := true, laidLooks := .later }
def DescFrozenCardSaid : Prop := Claim7.holds Tryd.pinned (.plain (OpenSpec.ofChange descFrozenSpec)) descFrozenCard

/-- THE TIED CARD OF 'cameolaw05.DescApplies'. -/
def descAppliesCard : Claim7 := { stood := { row := descAppliesRow, standIns := [], harness := (true, "b97dfc45d3f129c6fd72d61f94fc0f286a8e9ee654deb46f50bf22ff0e9548d7"), looks := true }, kinds := [], alts := [], laidByText := true, laidKinds := [.data, .pinned], laidTests := true, laidLooks := .later }
def DescAppliesCardSaid : Prop := Claim7.holds Tryd.pinned (.plain (OpenSpec.ofChange descAppliesSpec)) descAppliesCard

/-- THE TIED CARD OF 'cameolaw10.InvariantBroken'. -/
def invariantBrokenCard : Claim7 := { stood := { row := invariantBrokenRow, standIns := [], harness := (true, "b97dfc45d3f129c6fd72d61f94fc0f286a8e9ee654deb46f50bf22ff0e9548d7"), looks := true }, kinds := [], alts := [], laidByText := true, laidKinds := [.data, .pinned], laidTests := true, laidLooks := .later }
def InvariantBrokenCardSaid : Prop := Claim7.holds Tryd.pinned (.plain (OpenSpec.ofChange invariantBrokenSpec)) invariantBrokenCard

/-- THE TIED CARD OF 'cameolaw10.InvariantGoes'. -/
def invariantGoesCard : Claim7 := { stood := { row := invariantGoesRow, standIns := [], harness := (true, "b97dfc45d3f129c6fd72d61f94fc0f286a8e9ee654deb46f50bf22ff0e9548d7"), looks := true }, kinds := [], alts := [], laidByText := true, laidKinds := [.data, .pinned], laidTests := true, laidLooks := .later }
def InvariantGoesCardSaid : Prop := Claim7.holds Tryd.pinned (.plain (OpenSpec.ofChange invariantGoesSpec)) invariantGoesCard

/-- THE TIED CARD OF 'cameolaw10.InvariantFrozen'. -/
def invariantFrozenCard : Claim7 := { stood := { row := invariantFrozenRow, standIns := [], harness := (true, "b97dfc45d3f129c6fd72d61f94fc0f286a8e9ee654deb46f50bf22ff0e9548d7"), looks := true }, kinds := [], alts := [], laidByText := true, laidKinds := [.data, .pinned], laidTests := true, laidLooks := .later }
def InvariantFrozenCardSaid : Prop := Claim7.holds Tryd.pinned (.plain (OpenSpec.ofChange invariantFrozenSpec)) invariantFrozenCard

/-- THE TIED CARD OF 'cameolaw10.InvariantBack'. -/
def invariantBackCard : Claim7 := { stood := { row := invariantBackRow, standIns := [], harness := (true, "b97dfc45d3f129c6fd72d61f94fc0f286a8e9ee654deb46f50bf22ff0e9548d7"), looks := true }, kinds := [], alts := [], laidByText := true, laidKinds := [.data, .pinned], laidTests := true, laidLooks := .later }
def InvariantBackCardSaid : Prop := Claim7.holds Tryd.pinned (.plain (OpenSpec.ofChange invariantBackSpec)) invariantBackCard

/-- THE SECOND FORM's CARD OF 'cameolaw05.DescKinds'. -/
def descKindsUptoCard : Claim7 := { stood := { row := descKindsUptoRow, standIns := [], harness := (true, "b97dfc45d3f129c6fd72d61f94fc0f286a8e9ee654deb46f50bf22ff0e9548d7"), looks := true }, kinds := [], alts := [], laidByText := true, laidKinds := [.data, .pinned], laidTests := true, laidLooks := .later }
def DescKindsUptoCardSaid : Prop := Claim7.holds Tryd.pinned (.plain (OpenSpec.upto descKindsSpec)) descKindsUptoCard

/-- THE SECOND FORM's CARD OF 'cameolaw05.DescTakes'. -/
def descTakesUptoCard : Claim7 := { stood := { row := descTakesUptoRow, standIns := [], harness := (true, "b97dfc45d3f129c6fd72d61f94fc0f286a8e9ee654deb46f50bf22ff0e9548d7"), looks := true }, kinds := [], alts := [], laidByText := true, laidKinds := [.data, .pinned], laidTests := true, laidLooks := .later }
def DescTakesUptoCardSaid : Prop := Claim7.holds Tryd.pinned (.plain (OpenSpec.upto descTakesSpec)) descTakesUptoCard

/-- THE SECOND FORM's CARD OF 'cameolaw05.DescKeeps'. -/
def descKeepsUptoCard : Claim7 := { stood := { row := descKeepsUptoRow, standIns := [], harness := (true, "b97dfc45d3f129c6fd72d61f94fc0f286a8e9ee654deb46f50bf22ff0e9548d7"), looks := true }, kinds := [], alts := [], laidByText := true, laidKinds := [.data, .pinned], laidTests := true, laidLooks := .later }
def DescKeepsUptoCardSaid : Prop := Claim7.holds Tryd.pinned (.plain (OpenSpec.upto descKeepsSpec)) descKeepsUptoCard

/-- THE SECOND FORM's CARD OF 'cameolaw05.DescFrozen'. -/
def descFrozenUptoCard : Claim7 := { stood := { row := descFrozenUptoRow, standIns := [], harness := (true, "b97dfc45d3f129c6fd72d61f94fc0f286a8e9ee654deb46f50bf22ff0e9548d7"), looks := true }, kinds := [], alts := [], laidByText := true, laidKinds := [.data, .pinned], laidTests := true, laidLooks := .later }
def DescFrozenUptoCardSaid : Prop := Claim7.holds Tryd.pinned (.plain (OpenSpec.upto descFrozenSpec)) descFrozenUptoCard

/-- THE SECOND FORM's CARD OF 'cameolaw05.DescApplies'. -/
def descAppliesUptoCard : Claim7 := { stood := { row := descAppliesUptoRow, standIns := [], harness := (true, "b97dfc45d3f129c6fd72d61f94fc0f286a8e9ee654deb46f50bf22ff0e9548d7"), looks := true }, kinds := [], alts := [], laidByText := true, laidKinds := [.data, .pinned], laidTests := true, laidLooks := .later }
def DescAppliesUptoCardSaid : Prop := Claim7.holds Tryd.pinned (.plain (OpenSpec.upto descAppliesSpec)) descAppliesUptoCard

/-- THE SECOND FORM's CARD OF 'cameolaw10.InvariantBroken'. -/
def invariantBrokenUptoCard : Claim7 := { stood := { row := invariantBrokenUptoRow, standIns := [], harness := (true, "b97dfc45d3f129c6fd72d61f94fc0f286a8e9ee654deb46f50bf22ff0e9548d7"), looks := true }, kinds := [], alts := [], laidByText := true, laidKinds := [.data, .pinned], laidTests := true, laidLooks := .later }
def InvariantBrokenUptoCardSaid : Prop := Claim7.holds Tryd.pinned (.plain (OpenSpec.upto invariantBrokenSpec)) invariantBrokenUptoCard

/-- THE SECOND FORM's CARD OF 'cameolaw10.InvariantGoes'. -/
def invariantGoesUptoCard : Claim7 := { stood := { row := invariantGoesUptoRow, standIns := [], harness := (true, "b97dfc45d3f129c6fd72d61f94fc0f286a8e9ee654deb46f50bf22ff0e9548d7"), looks := true }, kinds := [], alts := [], laidByText := true, laidKinds := [.data, .pinned], laidTests := true, laidLooks := .later }
def InvariantGoesUptoCardSaid : Prop := Claim7.holds Tryd.pinned (.plain (OpenSpec.upto invariantGoesSpec)) invariantGoesUptoCard

/-- THE SECOND FORM's CARD OF 'cameolaw10.InvariantFrozen'. -/
def invariantFrozenUptoCard : Claim7 := { stood := { row := invariantFrozenUptoRow, standIns := [], harness := (true, "b97dfc45d3f129c6fd72d61f94fc0f286a8e9ee654deb46f50bf22ff0e9548d7"), looks := true }, kinds := [], alts := [], laidByText := true, laidKinds := [.data, .pinned], laidTests := true, laidLooks := .later }
def InvariantFrozenUptoCardSaid : Prop := Claim7.holds Tryd.pinned (.plain (OpenSpec.upto invariantFrozenSpec)) invariantFrozenUptoCard

/-- THE SECOND FORM's CARD OF 'cameolaw10.InvariantBack'. -/
def invariantBackUptoCard : Claim7 := { stood := { row := invariantBackUptoRow, standIns := [], harness := (true, "b97dfc45d3f129c6fd72d61f94fc0f286a8e9ee654deb46f50bf22ff0e9548d7"), looks := true }, kinds := [], alts := [], laidByText := true, laidKinds := [.data, .pinned], laidTests := true, laidLooks := .later }
def InvariantBackUptoCardSaid : Prop := Claim7.holds Tryd.pinned (.plain (OpenSpec.upto invariantBackSpec)) invariantBackUptoCard
end Rows
end Go.Proofs.YtaojjpdlfnphiaaDoor
