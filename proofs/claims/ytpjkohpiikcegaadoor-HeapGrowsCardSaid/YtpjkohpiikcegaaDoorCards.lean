/-
  DERIVED. GIVEN WITH THE SEED: THE CARDS: each row of YtpjkohpiikcegaaDoorRows.lean that lists a variable, with what it lists TIED to the program's text (the seventh form; the later family's looks); each row that meets fmt, with fmt's text TOLD by the authors' own Lean function (tested against real Go, not proved from fmt's source: count such statements apart). THE CARD IS WHAT COUNTS. Prove the row's statement (the work); the ties are given (YtpjkohpiikcegaaDoorTie.lean); close each card by the builder's one call (the guide's Derived/Test/ToyasCard.lean, 'card_holds'). Laid BY PROGRAM, IN A SANDBOX (cutbox-door.mjs). By AI agents, Wed Nov 11 2026. No macro, syntax, notation, axiom, sorry.
-/
import Derived.Test.YtpjkohpiikcegaaDoorRows
import GoSem.ClaimSeven
namespace Go.Proofs.YtpjkohpiikcegaaDoor
namespace Rows

/-- THE TIED CARD OF 'cameolaw07.HeapGrows'. -/
def heapGrowsCard : Claim7 := { stood := { row := heapGrowsRow, standIns := [], harness := (true, "950b0751e5bfdfd541e34eba88aa50ec14751c1c0401d16946f3e25d82bf759d"), looks := true }, kinds := [], alts := [], laidByText := true, laidKinds := [.data, .pinned], laidTests := true, laidLooks := .later }
def HeapGrowsCardSaid : Prop := Claim7.holds Tryd.pinned (.plain (OpenSpec.ofChange heapGrowsSpec)) heapGrowsCard

/-- THE SECOND FORM's CARD OF 'cameolaw07.HeapGrows'. -/
def heapGrowsUptoCard : Claim7 := { stood := { row := heapGrowsUptoRow, standIns := [], harness := (true, "950b0751e5bfdfd541e34eba88aa50ec14751c1c0401d16946f3e25d82bf759d"), looks := true }, kinds := [], alts := [], laidByText := true, laidKinds := [.data, .pinned], laidTests := true, laidLooks := .later }
def HeapGrowsUptoCardSaid : Prop := Claim7.holds Tryd.pinned (.plain (OpenSpec.upto heapGrowsSpec)) heapGrowsUptoCard
end Rows
end Go.Proofs.YtpjkohpiikcegaaDoor
