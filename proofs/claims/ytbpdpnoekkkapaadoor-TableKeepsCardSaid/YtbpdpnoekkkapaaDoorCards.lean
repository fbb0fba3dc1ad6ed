/-
  DERIVED. GIVEN WITH THE SEED: THE CARDS: each row of YtbpdpnoekkkapaaDoorRows.lean that lists a variable, with what it lists TIED to the program's text (the seventh form; the later family's looks); each row that meets fmt, with fmt's text TOLD by the authors' own Lean function (tested against real Go, not proved from fmt's source: count such statements apart). THE CARD IS WHAT COUNTS. Prove the row's statement (the work); the ties are given (YtbpdpnoekkkapaaDoorTie.lean); close each card by the builder's one call (the guide's Derived/Test/ToyasCard.lean, 'card_holds'). Laid BY PROGRAM, IN A SANDBOX (cutbox-door.mjs). By AI agents, Wed Nov 11 2026. No macro, syntax, notation, axiom, sorry.
-/
import Derived.Test.YtbpdpnoekkkapaaDoorRows
import GoSem.ClaimSeven
namespace Go.Proofs.YtbpdpnoekkkapaaDoor
namespace Rows

/-- THE TIED CARD OF 'cameolaw06.TableQuiet'. -/
def tableQuietCard : Claim7 := { stood := { row := tableQuietRow, standIns := [], harness := (true, "df05a8a57233766cea7502c1604a6d7d7fccffcb9be788ebd39f95dcd5c7b580"), looks := false }, kinds := [], alts := [], laidByText := true, laidKinds := [.data, .pinned], laidTests := true, laidLooks := .later }
def TableQuietCardSaid : Prop := Claim7.holds Tryd.pinned (.plain (OpenSpec.ofChange tableQuietSpec)) tableQuietCard

/-- THE TIED CARD OF 'cameolaw06.TableMap'. -/
def tableMapCard : Claim7 := { stood := { row := tableMapRow, standIns := [], harness := (true, "df05a8a57233766cea7502c1604a6d7d7fccffcb9be788ebd39f95dcd5c7b580"), looks := false }, kinds := [], alts := [], laidByText := true, laidKinds := [.data, .pinned], laidTests := true, laidLooks := .later }
def TableMapCardSaid : Prop := Claim7.holds Tryd.pinned (.plain (OpenSpec.ofChange tableMapSpec)) tableMapCard

/-- THE TIED CARD OF 'cameolaw06.TableExact'. -/
def tableExactCard : Claim7 := { stood := { row := tableExactRow, standIns := [], harness := (true, "df05a8a57233766cea7502c1604a6d7d7fccffcb9be788ebd39f95dcd5c7b580"), looks := false }, kinds := [], alts := [], laidByText := true, laidKinds := [.data, .pinned], laidTests := true, laidLooks := .later }
def TableExactCardSaid : Prop := Claim7.holds Tryd.pinned (.plain (OpenSpec.ofChange tableExactSpec)) tableExactCard

/-- THE TIED CARD OF 'cameolaw06.TableWalks'. -/
def tableWalksCard : Claim7 := { stood := { row := tableWalksRow, standIns := [], harness := (true, "df05a8a57233766cea7502c1604a6d7d7fccffcb9be788ebd39f95dcd5c7b580"), looks := false }, kinds := [], alts := [], laidByText := true, laidKinds := [.data, .pinned], laidTests := true, laidLooks := .later }
def TableWalksCardSaid : Prop := Claim7.holds Tryd.pinned (.plain (OpenSpec.ofChange tableWalksSpec)) tableWalksCard

/-- THE TIED CARD OF 'cameolaw06.TableKeeps'. -/
def tableKeepsCard : Claim7 := { stood := { row := tableKeepsRow, standIns := [], harness := (true, "df05a8a57233766cea7502c1604a6d7d7fccffcb9be788ebd39f95dcd5c7b580"), looks := false }, kinds := [], alts := [], laidByText := true, laidKinds := [.data, .pinned], laidTests := true, laidLooks := .later }
def TableKeepsCardSaid : Prop := Claim7.holds Tryd.pinned (.plain (OpenSpec.ofChange tableKeepsSpec)) tableKeepsCard

/-- THE TIED CARD OF 'cameolaw06.TableAnew'. -/
def tableAnewCard : Claim7 := { stood := { row := tableAnewRow, standIns := [], harness := (true, "df05a8a57233766cea7502c1604a6d7d7fccffcb9be788ebd39f95dcd5c7b580"), looks := false }, kinds := [], alts := [], laidByText := true, laidKinds := [.data, .pinned], laidTests := true, laidLooks := .later }
def TableAnewCardSaid : Prop := Claim7.holds Tryd.pinned (.plain (OpenSpec.ofChange tableAnewSpec)) tableAnewCard

/-- THE SECOND FORM's CARD OF 'cameolaw06.TableQuiet'. -/
def tableQuietUptoCard : Claim7 := { stood := { row := tableQuietUptoRow, standIns := [], harness := (true, "df05a8a57233766cea7502c1604a6d7d7fccffcb9be788ebd39f95dcd5c7b580"), looks := false }, kinds := [], alts := [], laidByText := true, laidKinds := [.data, .pinned], laidTests := true, laidLooks := .later }
def TableQuietUptoCardSaid : Prop := Claim7.holds Tryd.pinned (.plain (OpenSpec.upto tableQuietSpec)) tableQuietUptoCard

/-- THE SECOND FORM's CARD OF 'cameolaw06.TableMap'. -/
def tableMapUptoCard : Claim7 := { stood := { row := tableMapUptoRow, standIns := [], harness := (true, "df05a8a57233766cea7502c1604a6d7d7fccffcb9be788ebd39f95dcd5c7b580"), looks := false }, kinds := [], alts := [], laidByText := true, laidKinds := [.data, .pinned], laidTests := true, laidLooks := .later }
def TableMapUptoCardSaid : Prop := Claim7.holds Tryd.pinned (.plain (OpenSpec.upto tableMapSpec)) tableMapUptoCard

/-- THE SECOND FORM's CARD OF 'cameolaw06.TableExact'. -/
def tableExactUptoCard : Claim7 := { stood := { row := tableExactUptoRow, standIns := [], harness := (true, "df05a8a57233766cea7502c1604a6d7d7fccffcb9be788ebd39f95dcd5c7b580"), looks := false }, kinds := [], alts := [], laidByText := true, laidKinds := [.data, .pinned], laidTests := true, laidLooks := .later }
def TableExactUptoCardSaid : Prop := Claim7.holds Tryd.pinned (.plain (OpenSpec.upto tableExactSpec)) tableExactUptoCard

/-- THE SECOND FORM's CARD OF 'cameolaw06.TableWalks'. -/
def tableWalksUptoCard : Claim7 := { stood := { row := tableWalksUptoRow, standIns := [], harness := (true, "df05a8a57233766cea7502c1604a6d7d7fccffcb9be788ebd39f95dcd5c7b580"), looks := false }, kinds := [], alts := [], laidByText := true, laidKinds := [.data, .pinned], laidTests := true, laidLooks := .later }
def TableWalksUptoCardSaid : Prop := Claim7.holds Tryd.pinned (.plain (OpenSpec.upto tableWalksSpec)) tableWalksUptoCard

/-- THE SECOND FORM's CARD OF 'cameolaw06.TableKeeps'. -/
def tableKeepsUptoCard : Claim7 := { stood := { row := tableKeepsUptoRow, standIns := [], harness := (true, "df05a8a57233766cea7502c1604a6d7d7fccffcb9be788ebd39f95dcd5c7b580"), looks := false }, kinds := [], alts := [], laidByText := true, laidKinds := [.data, .pinned], laidTests := true, laidLooks := .later }
def TableKeepsUptoCardSaid : Prop := Claim7.holds Tryd.pinned (.plain (OpenSpec.upto tableKeepsSpec)) tableKeepsUptoCard

/-- THE SECOND FORM's CARD OF 'cameolaw06.TableAnew'. -/
def tableAnewUptoCard : Claim7 := { stood := { row := tableAnewUptoRow, standIns := [], harness := (true, "df05a8a57233766cea7502c1604a6d7d7fccffcb9be788ebd39f95dcd5c7b580"), looks := false }, kinds := [], alts := [], laidByText := true, laidKinds := [.data, .pinned], laidTests := true, laidLooks := .later }
def TableAnewUptoCardSaid : Prop := Claim7.holds Tryd.pinned (.plain (OpenSpec.upto tableAnewSpec)) tableAnewUptoCard
end Rows
end Go.Proofs.YtbpdpnoekkkapaaDoor
