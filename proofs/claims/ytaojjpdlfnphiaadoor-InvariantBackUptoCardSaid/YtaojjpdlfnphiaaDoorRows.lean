/-
  NARROWER THAN 'FOR EVERY INPUT', by the rows' own cells (each row's printed sentence says how): DescKinds: laid · DescTakes: laid · DescKeeps: laid · DescFrozen: laid · DescApplies: laid · InvariantBroken: laid · InvariantGoes: laid · InvariantFrozen: laid · InvariantBack: laid.
  DERIVED. THE GIVEN ROWS OF THIS SEAT. 9 by the template 'for every input the law returns true; each argument reads behind the call as it read before'; 0 by the template 'total and deterministic' (their statements: YtaojjpdlfnphiaaDoorTotals.lean).
  GIVEN WITH THE SEED: the statements are not yours to turn. If you find one false, say at which input.
  Laid BY PROGRAM, IN A SANDBOX (cutbox-rows.mjs): the forced cells as the released guide's own fill.sh prints them over the translation d0bc7982fbf8bc21… (all of the seat's roots in one cut). By AI agents, Wed Nov 11 2026. No macro, syntax, notation, axiom, sorry.
-/
import Derived.Test.YtaojjpdlfnphiaaDoorChecked
import GoSem.PinnedTables
import GoSem.Claim
import GoSem.ClaimJoined
import GoSem.ClaimMapViews
import Derived.JoinedTies
import Derived.KernelRfl
namespace Go.Proofs.YtaojjpdlfnphiaaDoor
/- THE CELL 'sum', in the pinned program and in every row, IS THE sha256 OF THE DUMP (.gsa) THAT YtaojjpdlfnphiaaDoorProg.lean LOADS. Nothing in Lean hashes anything: it is a label: what it is worth is what the hold of that sum in a sandbox is worth. -/
noncomputable def Tryd.pinned : Pinned := { name := "ytaojjpdlfnphiaadoor", sum := "d0bc7982fbf8bc216110e55941ec66c2d0192be6ccc3e8f8b3902741f49d8f37", checked := Tryd.checked }
namespace Rows
def none {H : Type} : Left H := { results := [], args := [] }

/- WHAT THE LISTED PACKAGE-LEVEL VARIABLES READ AS WHEN THE CALL BEGINS. Each datum BY PROGRAM (the guide's laid-datum.mjs) off the statement by which the dump's own 'gosem.cut.vars' lays the variable. In a bare row this is a premise. The card (YtaojjpdlfnphiaaDoorCards.lean) ties it to the program's text. -/
def laid_unicode_utf8_acceptRanges {H : Type} : DataW H := .agg [.agg [.lit (.int .u8 128), .lit (.int .u8 191)], .agg [.lit (.int .u8 160), .lit (.int .u8 191)], .agg [.lit (.int .u8 128), .lit (.int .u8 159)], .agg [.lit (.int .u8 144), .lit (.int .u8 191)], .agg [.lit (.int .u8 128), .lit (.int .u8 143)], .agg [.lit (.int .u8 0), .lit (.int .u8 0)], .agg [.lit (.int .u8 0), .lit (.int .u8 0)], .agg [.lit (.int .u8 0), .lit (.int .u8 0)], .agg [.lit (.int .u8 0), .lit (.int .u8 0)], .agg [.lit (.int .u8 0), .lit (.int .u8 0)], .agg [.lit (.int .u8 0), .lit (.int .u8 0)], .agg [.lit (.int .u8 0), .lit (.int .u8 0)], .agg [.lit (.int .u8 0), .lit (.int .u8 0)], .agg [.lit (.int .u8 0), .lit (.int .u8 0)], .agg [.lit (.int .u8 0), .lit (.int .u8 0)], .agg [.lit (.int .u8 0), .lit (.int .u8 0)]]
/-- One of Go's own tables, pinned by name: the form's constant. -/
def laid_unicode_utf8_first : DataW Unit := Go.Pinned.utf8First

/-- 'cameolaw05.DescKinds': WHATEVER THE INPUT: true; the input reads as it did. -/
def descKindsSpec : ChangeSpec := { name := "descKinds", fn := fun _ => fun
  | [d] => { results := [.lit (.bool true)], args := [d] }
  | _ => none }
def descKindsRow : OpenClaim := { program := "ytaojjpdlfnphiaadoor", sum := "d0bc7982fbf8bc216110e55941ec66c2d0192be6ccc3e8f8b3902741f49d8f37", func := "cameo/cameolaw05.DescKinds", spec := "descKinds", inPlace := ["math.Float64bits"], unfollowed := true, recurses := true, named := ["unicode/utf8.first", "unicode/utf8.acceptRanges"], plainKeys := false, apart := false, laid := [("unicode/utf8.acceptRanges", laid_unicode_utf8_acceptRanges), ("unicode/utf8.first", laid_unicode_utf8_first)] }
def DescKindsSaid : Prop := descKindsRow.holds Tryd.pinned (OpenSpec.ofChange descKindsSpec)

/-- ITS FALSE NEIGHBOUR: 'it returns false'. Refute it at one input. -/
def descKindsWrong : ChangeSpec := { name := "descKinds", fn := fun _ => fun
  | [d] => { results := [.lit (.bool false)], args := [d] }
  | _ => none }
def DescKindsWrongFalsely : Prop := descKindsRow.holds Tryd.pinned (OpenSpec.ofChange descKindsWrong)

/-- 'cameolaw05.DescTakes': WHATEVER THE INPUT: true; the input reads as it did. -/
def descTakesSpec : ChangeSpec := { name := "descTakes", fn := fun _ => fun
  | [d1, d2, d3] => { results := [.lit (.bool true)], args := [d1, d2, d3] }
  | _ => none }
def descTakesRow : OpenClaim := { program := "ytaojjpdlfnphiaadoor", sum := "d0bc7982fbf8bc216110e55941ec66c2d0192be6ccc3e8f8b3902741f49d8f37", func := "cameo/cameolaw05.DescTakes", spec := "descTakes", inPlace := ["math.Float64bits"], unfollowed := true, recurses := true, named := ["unicode/utf8.first", "unicode/utf8.acceptRanges"], plainKeys := false, apart := false, laid := [("unicode/utf8.acceptRanges", laid_unicode_utf8_acceptRanges), ("unicode/utf8.first", laid_unicode_utf8_first)] }
def DescTakesSaid : Prop := descTakesRow.holds Tryd.pinned (OpenSpec.ofChange descTakesSpec)

/-- ITS FALSE NEIGHBOUR: 'it returns false'. Refute it at one input. -/
def descTakesWrong : ChangeSpec := { name := "descTakes", fn := fun _ => fun
  | [d1, d2, d3] => { results := [.lit (.bool false)], args := [d1, d2, d3] }
  | _ => none }
def DescTakesWrongFalsely : Prop := descTakesRow.holds Tryd.pinned (OpenSpec.ofChange descTakesWrong)

/-- 'cameolaw05.DescKeeps': WHATEVER THE INPUT: true; the input reads as it did. -/
def descKeepsSpec : ChangeSpec := { name := "descKeeps", fn := fun _ => fun
  | [d1, d2, d3] => { results := [.lit (.bool true)], args := [d1, d2, d3] }
  | _ => none }
def descKeepsRow : OpenClaim := { program := "ytaojjpdlfnphiaadoor", sum := "d0bc7982fbf8bc216110e55941ec66c2d0192be6ccc3e8f8b3902741f49d8f37", func := "cameo/cameolaw05.DescKeeps", spec := "descKeeps", inPlace := ["math.Float64bits"], unfollowed := true, recurses := true, named := ["unicode/utf8.first", "unicode/utf8.acceptRanges"], plainKeys := false, apart := false, laid := [("unicode/utf8.acceptRanges", laid_unicode_utf8_acceptRanges), ("unicode/utf8.first", laid_unicode_utf8_first)] }
def DescKeepsSaid : Prop := descKeepsRow.holds Tryd.pinned (OpenSpec.ofChange descKeepsSpec)

/-- ITS FALSE NEIGHBOUR: 'it returns false'. Refute it at one input. -/
def descKeepsWrong : ChangeSpec := { name := "descKeeps", fn := fun _ => fun
  | [d1, d2, d3] => { results := [.lit (.bool false)], args := [d1, d2, d3] }
  | _ => none }
def DescKeepsWrongFalsely : Prop := descKeepsRow.holds Tryd.pinned (OpenSpec.ofChange descKeepsWrong)

/-- 'cameolaw05.DescFrozen': WHATEVER THE INPUT: true; the input reads as it did. -/
def descFrozenSpec : ChangeSpec := { name := "descFrozen", fn := fun _ => fun
  | [d1, d2] => { results := [.lit (.bool true)], args := [d1, d2] }
  | _ => none }
def descFrozenRow : OpenClaim := { program := "ytaojjpdlfnphiaadoor", sum := "d0bc7982fbf8bc216110e55941ec66c2d0192be6ccc3e8f8b3902741f49d8f37", func := "cameo/cameolaw05.DescFrozen", spec := "descFrozen", inPlace := ["math.Float64bits"], unfollowed := true, recurses := true, named := ["unicode/utf8.first", "unicode/utf8.acceptRanges"], plainKeys := false, apart := false, laid := [("unicode/utf8.acceptRanges", laid_unicode_utf8_acceptRanges), ("unicode/utf8.first", laid_unicode_utf8_first)] }
def DescFrozenSaid : Prop := descFrozenRow.holds Tryd.pinned (OpenSpec.ofChange descFrozenSpec)

/-- ITS FALSE NEIGHBOUR: 'it returns false'. Refute it at one input. -/
def descFrozenWrong : ChangeSpec := { name := "descFrozen", fn := fun _ => fun
  | [d1, d2] => { results := [.lit (.bool false)], args := [d1, d2] }
  | _ => none }
def DescFrozenWrongFalsely : Prop := descFrozenRow.holds Tryd.pinned (OpenSpec.ofChange descFrozenWrong)

/-- 'cameolaw05.DescApplies': WHATEVER THE INPUT: true; the input reads as it did. -/
def descAppliesSpec : ChangeSpec := { name := "descApplies", fn := fun _ => fun
  | [d1, d2, d3] => { results := [.lit (.bool true)], args := [d1, d2, d3] }
  | _ => none }
def descAppliesRow : OpenClaim := { program := "ytaojjpdlfnphiaadoor", sum := "d0bc7982fbf8bc216110e55941ec66c2d0192be6ccc3e8f8b3902741f49d8f37", func := "cameo/cameolaw05.DescApplies", spec := "descApplies", inPlace := ["math.Float64bits"], unfollowed := true, recurses := true, named := ["unicode/utf8.first", "unicode/utf8.acceptRanges"], plainKeys := false, apart := false, laid := [("unicode/utf8.acceptRanges", laid_unicode_utf8_acceptRanges), ("unicode/utf8.first", laid_unicode_utf8_first)] }
def DescAppliesSaid : Prop := descAppliesRow.holds Tryd.pinned (OpenSpec.ofChange descAppliesSpec)

/-- ITS FALSE NEIGHBOUR: 'it returns false'. Refute it at one input. -/
def descAppliesWrong : ChangeSpec := { name := "descApplies", fn := fun _ => fun
  | [d1, d2, d3] => { results := [.lit (.bool false)], args := [d1, d2, d3] }
  | _ => none }
def DescAppliesWrongFalsely : Prop := descAppliesRow.holds Tryd.pinned (OpenSpec.ofChange descAppliesWrong)

/-- 'cameolaw10.InvariantBroken': WHATEVER THE INPUT: true; the input reads as it did. -/
def invariantBrokenSpec : ChangeSpec := { name := "invariantBroken", fn := fun _ => fun
  | [d1, d2] => { results := [.lit (.bool true)], args := [d1, d2] }
  | _ => none }
def invariantBrokenRow : OpenClaim := { program := "ytaojjpdlfnphiaadoor", sum := "d0bc7982fbf8bc216110e55941ec66c2d0192be6ccc3e8f8b3902741f49d8f37", func := "cameo/cameolaw10.InvariantBroken", spec := "invariantBroken", inPlace := ["math.Float64bits"], unfollowed := true, recurses := true, named := ["unicode/utf8.first", "unicode/utf8.acceptRanges"], plainKeys := false, apart := false, laid := [("unicode/utf8.acceptRanges", laid_unicode_utf8_acceptRanges), ("unicode/utf8.first", laid_unicode_utf8_first)] }
def InvariantBrokenSaid : Prop := invariantBrokenRow.holds Tryd.pinned (OpenSpec.ofChange invariantBrokenSpec)

/-- ITS FALSE NEIGHBOUR: 'it returns false'. Refute it at one input. -/
def invariantBrokenWrong : ChangeSpec := { name := "invariantBroken", fn := fun _ => fun
  | [d1, d2] => { results := [.lit (.bool false)], args := [d1, d2] }
  | _ => none }
def InvariantBrokenWrongFalsely : Prop := invariantBrokenRow.holds Tryd.pinned (OpenSpec.ofChange invariantBrokenWrong)

/-- 'cameolaw10.InvariantGoes': WHATEVER THE INPUT: true; the input reads as it did. -/
def invariantGoesSpec : ChangeSpec := { name := "invariantGoes", fn := fun _ => fun
  | [d1, d2, d3] => { results := [.lit (.bool true)], args := [d1, d2, d3] }
  | _ => none }
def invariantGoesRow : OpenClaim := { program := "ytaojjpdlfnphiaadoor", sum := "d0bc7982fbf8bc216110e55941ec66c2d0192be6ccc3e8f8b3902741f49d8f37", func := "cameo/cameolaw10.InvariantGoes", spec := "invariantGoes", inPlace := ["math.Float64bits"], unfollowed := true, recurses := true, named := ["unicode/utf8.first", "unicode/utf8.acceptRanges"], plainKeys := false, apart := false, laid := [("unicode/utf8.acceptRanges", laid_unicode_utf8_acceptRanges), ("unicode/utf8.first", laid_unicode_utf8_first)] }
def InvariantGoesSaid : Prop := invariantGoesRow.holds Tryd.pinned (OpenSpec.ofChange invariantGoesSpec)

/-- ITS FALSE NEIGHBOUR: 'it returns false'. Refute it at one input. -/
def invariantGoesWrong : ChangeSpec := { name := "invariantGoes", fn := fun _ => fun
  | [d1, d2, d3] => { results := [.lit (.bool false)], args := [d1, d2, d3] }
  | _ => none }
def InvariantGoesWrongFalsely : Prop := invariantGoesRow.holds Tryd.pinned (OpenSpec.ofChange invariantGoesWrong)

/-- 'cameolaw10.InvariantFrozen': WHATEVER THE INPUT: true; the input reads as it did. -/
def invariantFrozenSpec : ChangeSpec := { name := "invariantFrozen", fn := fun _ => fun
  | [d1, d2] => { results := [.lit (.bool true)], args := [d1, d2] }
  | _ => none }
def invariantFrozenRow : OpenClaim := { program := "ytaojjpdlfnphiaadoor", sum := "d0bc7982fbf8bc216110e55941ec66c2d0192be6ccc3e8f8b3902741f49d8f37", func := "cameo/cameolaw10.InvariantFrozen", spec := "invariantFrozen", inPlace := ["math.Float64bits"], unfollowed := true, recurses := true, named := ["unicode/utf8.first", "unicode/utf8.acceptRanges"], plainKeys := false, apart := false, laid := [("unicode/utf8.acceptRanges", laid_unicode_utf8_acceptRanges), ("unicode/utf8.first", laid_unicode_utf8_first)] }
def InvariantFrozenSaid : Prop := invariantFrozenRow.holds Tryd.pinned (OpenSpec.ofChange invariantFrozenSpec)

/-- ITS FALSE NEIGHBOUR: 'it returns false'. Refute it at one input. -/
def invariantFrozenWrong : ChangeSpec := { name := "invariantFrozen", fn := fun _ => fun
  | [d1, d2] => { results := [.lit (.bool false)], args := [d1, d2] }
  | _ => none }
def InvariantFrozenWrongFalsely : Prop := invariantFrozenRow.holds Tryd.pinned (OpenSpec.ofChange invariantFrozenWrong)

/-- 'cameolaw10.InvariantBack': WHATEVER THE INPUT: true; the input reads as it did. -/
def invariantBackSpec : ChangeSpec := { name := "invariantBack", fn := fun _ => fun
  | [d1, d2] => { results := [.lit (.bool true)], args := [d1, d2] }
  | _ => none }
def invariantBackRow : OpenClaim := { program := "ytaojjpdlfnphiaadoor", sum := "d0bc7982fbf8bc216110e55941ec66c2d0192be6ccc3e8f8b3902741f49d8f37", func := "cameo/cameolaw10.InvariantBack", spec := "invariantBack", inPlace := ["math.Float64bits"], unfollowed := true, recurses := true, named := ["unicode/utf8.first", "unicode/utf8.acceptRanges"], plainKeys := false, apart := false, laid := [("unicode/utf8.acceptRanges", laid_unicode_utf8_acceptRanges), ("unicode/utf8.first", laid_unicode_utf8_first)] }
def InvariantBackSaid : Prop := invariantBackRow.holds Tryd.pinned (OpenSpec.ofChange invariantBackSpec)

/-- ITS FALSE NEIGHBOUR: 'it returns false'. Refute it at one input. -/
def invariantBackWrong : ChangeSpec := { name := "invariantBack", fn := fun _ => fun
  | [d1, d2] => { results := [.lit (.bool false)], args := [d1, d2] }
  | _ => none }
def InvariantBackWrongFalsely : Prop := invariantBackRow.holds Tryd.pinned (OpenSpec.ofChange invariantBackWrong)

/- THE SECOND FORM. 'bulk': how many values and letters a reading holds, each counted each time it is reached (what is shared counts as often as it is met; a slice's spare places count too). A statement '..UptoSaid' is the law's where the arguments, and the package variables that the reading takes, are together of bulk at most 1048576: NARROWER than '..Said'. Prove '..Said' where nothing that the law and all that it calls make is longer than what came in: it says more and counts as full. Else prove '..UptoSaid'. A law counts once. -/
mutual
def uptoBulk {H : Type} : DataW H → Nat
  | .lit (.string bytes) => bytes.length + 1
  | .lit _ => 1
  | .nil => 1
  | .ptr d => uptoBulk d + 1
  | .slice elems spare => uptoBulkAll elems + uptoBulkAll spare + 1
  | .agg parts => uptoBulkAll parts + 1
  | .iface _ d => uptoBulk d + 1
  | .map entries => uptoBulkEntries entries + 1
  | .held _ => 1
def uptoBulkAll {H : Type} : List (DataW H) → Nat
  | [] => 0
  | d :: r => uptoBulk d + uptoBulkAll r
def uptoBulkEntries {H : Type} : List (Lit × DataW H) → Nat
  | [] => 0
  | x :: r => uptoBulkEntry x + uptoBulkEntries r
def uptoBulkEntry {H : Type} : Lit × DataW H → Nat
  | (.string bytes, d) => bytes.length + uptoBulk d + 1
  | (_, d) => uptoBulk d + 1
 end
def uptoSmall : (H : Type) → List (DataW H) → Bool := fun _ ds => decide (uptoBulkAll ds ≤ 1048576)
def OpenSpec.upto (s : _root_.Go.ChangeSpec) : _root_.Go.OpenSpec := { _root_.Go.OpenSpec.ofChange s with cond := some uptoSmall }

/-- 'cameolaw05.DescKinds', WHERE WHAT IT READS IS OF BULK AT MOST 1048576: true; the input reads as it did. -/
def descKindsUptoRow : OpenClaim := { program := "ytaojjpdlfnphiaadoor", sum := "d0bc7982fbf8bc216110e55941ec66c2d0192be6ccc3e8f8b3902741f49d8f37", func := "cameo/cameolaw05.DescKinds", spec := "descKinds", inPlace := ["math.Float64bits"], unfollowed := true, recurses := true, named := ["unicode/utf8.first", "unicode/utf8.acceptRanges"], plainKeys := false, apart := false, laid := [("unicode/utf8.acceptRanges", laid_unicode_utf8_acceptRanges), ("unicode/utf8.first", laid_unicode_utf8_first)], narrowed := true }
def DescKindsUptoSaid : Prop := descKindsUptoRow.holds Tryd.pinned (OpenSpec.upto descKindsSpec)

/-- 'cameolaw05.DescTakes', WHERE WHAT IT READS IS OF BULK AT MOST 1048576: true; the input reads as it did. -/
def descTakesUptoRow : OpenClaim := { program := "ytaojjpdlfnphiaadoor", sum := "d0bc7982fbf8bc216110e55941ec66c2d0192be6ccc3e8f8b3902741f49d8f37", func := "cameo/cameolaw05.DescTakes", spec := "descTakes", inPlace := ["math.Float64bits"], unfollowed := true, recurses := true, named := ["unicode/utf8.first", "unicode/utf8.acceptRanges"], plainKeys := false, apart := false, laid := [("unicode/utf8.acceptRanges", laid_unicode_utf8_acceptRanges), ("unicode/utf8.first", laid_unicode_utf8_first)], narrowed := true }
def DescTakesUptoSaid : Prop := descTakesUptoRow.holds Tryd.pinned (OpenSpec.upto descTakesSpec)

/-- 'cameolaw05.DescKeeps', WHERE WHAT IT READS IS OF BULK AT MOST 1048576: true; the input reads as it did. -/
def descKeepsUptoRow : OpenClaim := { program := "ytaojjpdlfnphiaadoor", sum := "d0bc7982fbf8bc216110e55941ec66c2d0192be6ccc3e8f8b3902741f49d8f37", func := "cameo/cameolaw05.DescKeeps", spec := "descKeeps", inPlace := ["math.Float64bits"], unfollowed := true, recurses := true, named := ["unicode/utf8.first", "unicode/utf8.acceptRanges"], plainKeys := false, apart := false, laid := [("unicode/utf8.acceptRanges", laid_unicode_utf8_acceptRanges), ("unicode/utf8.first", laid_unicode_utf8_first)], narrowed := true }
def DescKeepsUptoSaid : Prop := descKeepsUptoRow.holds Tryd.pinned (OpenSpec.upto descKeepsSpec)

/-- 'cameolaw05.DescFrozen', WHERE WHAT IT READS IS OF BULK AT MOST 1048576: true; the input reads as it did. -/
def descFrozenUptoRow : OpenClaim := { program := "ytaojjpdlfnphiaadoor", sum := "d0bc7982fbf8bc216110e55941ec66c2d0192be6ccc3e8f8b3902741f49d8f37", func := "cameo/cameolaw05.DescFrozen", spec := "descFrozen", inPlace := ["math.Float64bits"], unfollowed := true, recurses := true, named := ["unicode/utf8.first", "unicode/utf8.acceptRanges"], plainKeys := false, apart := false, laid := [("unicode/utf8.acceptRanges", laid_unicode_utf8_acceptRanges), ("unicode/utf8.first", laid_unicode_utf8_first)], narrowed := true }
def DescFrozenUptoSaid : Prop := descFrozenUptoRow.holds Tryd.pinned (OpenSpec.upto descFrozenSpec)

/-- 'cameolaw05.DescApplies', WHERE WHAT IT READS IS OF BULK AT MOST 1048576: true; the input reads as it did. -/
def descAppliesUptoRow : OpenClaim := { program := "ytaojjpdlfnphiaadoor", sum := "d0bc7982fbf8bc216110e55941ec66c2d0192be6ccc3e8f8b3902741f49d8f37", func := "cameo/cameolaw05.DescApplies", spec := "descApplies", inPlace := ["math.Float64bits"], unfollowed := true, recurses := true, named := ["unicode/utf8.first", "unicode/utf8.acceptRanges"], plainKeys := false, apart := false, laid := [("unicode/utf8.acceptRanges", laid_unicode_utf8_acceptRanges), ("unicode/utf8.first", laid_unicode_utf8_first)], narrowed := true }
def DescAppliesUptoSaid : Prop := descAppliesUptoRow.holds Tryd.pinned (OpenSpec.upto descAppliesSpec)

/-- 'cameolaw10.InvariantBroken', WHERE WHAT IT READS IS OF BULK AT MOST 1048576: true; the input reads as it did. -/
def invariantBrokenUptoRow : OpenClaim := { program := "ytaojjpdlfnphiaadoor", sum := "d0bc7982fbf8bc216110e55941ec66c2d0192be6ccc3e8f8b3902741f49d8f37", func := "cameo/cameolaw10.InvariantBroken", spec := "invariantBroken", inPlace := ["math.Float64bits"], unfollowed := true, recurses := true, named := ["unicode/utf8.first", "unicode/utf8.acceptRanges"], plainKeys := false, apart := false, laid := [("unicode/utf8.acceptRanges", laid_unicode_utf8_acceptRanges), ("unicode/utf8.first", laid_unicode_utf8_first)], narrowed := true }
def InvariantBrokenUptoSaid : Prop := invariantBrokenUptoRow.holds Tryd.pinned (OpenSpec.upto invariantBrokenSpec)

/-- 'cameolaw10.InvariantGoes', WHERE WHAT IT READS IS OF BULK AT MOST 1048576: true; the input reads as it did. -/
def invariantGoesUptoRow : OpenClaim := { program := "ytaojjpdlfnphiaadoor", sum := "d0bc7982fbf8bc216110e55941ec66c2d0192be6ccc3e8f8b3902741f49d8f37", func := "cameo/cameolaw10.InvariantGoes", spec := "invariantGoes", inPlace := ["math.Float64bits"], unfollowed := true, recurses := true, named := ["unicode/utf8.first", "unicode/utf8.acceptRanges"], plainKeys := false, apart := false, laid := [("unicode/utf8.acceptRanges", laid_unicode_utf8_acceptRanges), ("unicode/utf8.first", laid_unicode_utf8_first)], narrowed := true }
def InvariantGoesUptoSaid : Prop := invariantGoesUptoRow.holds Tryd.pinned (OpenSpec.upto invariantGoesSpec)

/-- 'cameolaw10.InvariantFrozen', WHERE WHAT IT READS IS OF BULK AT MOST 1048576: true; the input reads as it did. -/
def invariantFrozenUptoRow : OpenClaim := { program := "ytaojjpdlfnphiaadoor", sum := "d0bc7982fbf8bc216110e55941ec66c2d0192be6ccc3e8f8b3902741f49d8f37", func := "cameo/cameolaw10.InvariantFrozen", spec := "invariantFrozen", inPlace := ["math.Float64bits"], unfollowed := true, recurses := true, named := ["unicode/utf8.first", "unicode/utf8.acceptRanges"], plainKeys := false, apart := false, laid := [("unicode/utf8.acceptRanges", laid_unicode_utf8_acceptRanges), ("unicode/utf8.first", laid_unicode_utf8_first)], narrowed := true }
def InvariantFrozenUptoSaid : Prop := invariantFrozenUptoRow.holds Tryd.pinned (OpenSpec.upto invariantFrozenSpec)

/-- 'cameolaw10.InvariantBack', WHERE WHAT IT READS IS OF BULK AT MOST 1048576: true; the input reads as it did. -/
def invariantBackUptoRow : OpenClaim := { program := "ytaojjpdlfnphiaadoor", sum := "d0bc7982fbf8bc216110e55941ec66c2d0192be6ccc3e8f8b3902741f49d8f37", func := "cameo/cameolaw10.InvariantBack", spec := "invariantBack", inPlace := ["math.Float64bits"], unfollowed := true, recurses := true, named := ["unicode/utf8.first", "unicode/utf8.acceptRanges"], plainKeys := false, apart := false, laid := [("unicode/utf8.acceptRanges", laid_unicode_utf8_acceptRanges), ("unicode/utf8.first", laid_unicode_utf8_first)], narrowed := true }
def InvariantBackUptoSaid : Prop := invariantBackUptoRow.holds Tryd.pinned (OpenSpec.upto invariantBackSpec)

end Rows
end Go.Proofs.YtaojjpdlfnphiaaDoor
