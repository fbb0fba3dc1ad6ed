/-
  DERIVED. GIVEN WITH THE SEED: THE CARDS: each row of YtlliefodchfpfaaDoorRows.lean that lists a variable, with what it lists TIED to the program's text (the seventh form; the later family's looks); each row that meets fmt, with fmt's text TOLD by the authors' own Lean function (tested against real Go, not proved from fmt's source: count such statements apart). THE CARD IS WHAT COUNTS. Prove the row's statement (the work); the ties are given (YtlliefodchfpfaaDoorTie.lean); close each card by the builder's one call (the guide's Derived/Test/ToyasCard.lean, 'card_holds'). Laid BY PROGRAM, IN A SANDBOX (cutbox-door.mjs). By AI agents, Wed Nov 11 2026. No macro, syntax, notation, axiom, sorry.
-/
import Derived.Test.YtlliefodchfpfaaDoorRows
import GoSem.ClaimSeven
namespace Go.Proofs.YtlliefodchfpfaaDoor
namespace Rows

/-- THE TIED CARD OF 'cameolaw27.DriverSounds'. -/
def driverSoundsCard : Claim7 := { stood := { row := driverSoundsRow, standIns := [], harness := (true, "827840ede5abdf4ac6a65ec5c2cadb7bb38c010ed761c839a7bf72993ce41fd1"), looks := false }, kinds := [], alts := [], laidByText := true, laidKinds := [.data, .pinned], laidTests := true, laidLooks := .later }
def DriverSoundsCardSaid : Prop := Claim7.holds Tryd.pinned (.plain (OpenSpec.ofChange driverSoundsSpec)) driverSoundsCard

/-- THE TIED CARD OF 'cameolaw28.ScriptChecks'. -/
def scriptChecksCard : Claim7 := { stood := { row := scriptChecksRow, standIns := [], harness := (true, "827840ede5abdf4ac6a65ec5c2cadb7bb38c010ed761c839a7bf72993ce41fd1"), looks := false }, kinds := [], alts := [], laidByText := true, laidKinds := [.data, .pinned], laidTests := true, laidLooks := .later }
def ScriptChecksCardSaid : Prop := Claim7.holds Tryd.pinned (.plain (OpenSpec.ofChange scriptChecksSpec)) scriptChecksCard

/-- THE SECOND FORM's CARD OF 'cameolaw27.DriverSounds'. -/
def driverSoundsUptoCard : Claim7 := { stood := { row := driverSoundsUptoRow, standIns := [], harness := (true, "827840ede5abdf4ac6a65ec5c2cadb7bb38c010ed761c839a7bf72993ce41fd1"), looks := false }, kinds := [], alts := [], laidByText := true, laidKinds := [.data, .pinned], laidTests := true, laidLooks := .later }
def DriverSoundsUptoCardSaid : Prop := Claim7.holds Tryd.pinned (.plain (OpenSpec.upto driverSoundsSpec)) driverSoundsUptoCard

/-- THE SECOND FORM's CARD OF 'cameolaw28.ScriptChecks'. -/
def scriptChecksUptoCard : Claim7 := { stood := { row := scriptChecksUptoRow, standIns := [], harness := (true, "827840ede5abdf4ac6a65ec5c2cadb7bb38c010ed761c839a7bf72993ce41fd1"), looks := false }, kinds := [], alts := [], laidByText := true, laidKinds := [.data, .pinned], laidTests := true, laidLooks := .later }
def ScriptChecksUptoCardSaid : Prop := Claim7.holds Tryd.pinned (.plain (OpenSpec.upto scriptChecksSpec)) scriptChecksUptoCard
end Rows
end Go.Proofs.YtlliefodchfpfaaDoor
