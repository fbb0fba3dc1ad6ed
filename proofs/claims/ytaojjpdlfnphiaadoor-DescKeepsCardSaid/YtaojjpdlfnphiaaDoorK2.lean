/- DescKeeps: its code, in pieces; rows that came in and rows of its own. -/
import Derived.Test.YtaojjpdlfnphiaaDoorK1
import Derived.Test.YtaojjpdlfnphiaaDoorP5
import Derived.Laws.AppendOwn
set_option linter.unusedSimpArgs false
set_option linter.unusedVariables false
set_option linter.unusedSectionVars false
namespace Go.Proofs.YtaojjpdlfnphiaaDoor.PDescKinds
open Go.RowKit Go.Ev
namespace Keeps
/-- The parameter's row, the own row, the box of what is now. -/
@[instance_reducible] def rows (A : Option Addr) (n c : Nat) (g : Nat → D) (A1 : Option Addr) (n1 c1 : Nat) (g1 : Nat → D) (A2 : Option Addr) (z : D) : XEnv :=
  ⟨fun r => match r with
    | [0] => ⟨A, 18, n, c, fun j => (g j).cells⟩
    | [1] => ⟨A1, 18, n1, c1, fun j => (g1 j).cells⟩
    | [2] => ⟨A2, 18, 1, 1, fun _ => z.cells⟩
    | _ => ⟨none, 18, 0, 0, fun _ => []⟩⟩
def inBlk : Code → Code
  | .block _ c => c
  | c => c
def opsOf : Code → Array Oper
  | .region _ ops _ => ops
  | _ => #[]
noncomputable def code : List Code := flat (Tryd.f5.body.getD .skip)
noncomputable def pre : List Code := code.take 7
noncomputable def round1 : Code := Frozen.inLoop (code.getD 7 .skip)
noncomputable def mid : Code := code.getD 8 .skip
noncomputable def round2 : Code := Frozen.inLoop (code.getD 9 .skip)
noncomputable def post : List Code := code.drop 10
theorem split : code = pre ++ Code.block 0 (.loop round1) :: mid :: Code.block 2 (.loop round2) :: post := by kernel_rfl
-- the first loop
noncomputable def r1a : List Code := (flat round1).take 2
noncomputable def r1b : Code := inBlk ((flat round1).getD 2 .skip)
noncomputable def r1c : List Code := (flat round1).drop 3
theorem split1 : flat round1 = r1a ++ Code.block 1 r1b :: r1c := by kernel_rfl
noncomputable def b1a : List Code := (flat r1b).take 3
noncomputable def ops11 : Array Oper := opsOf ((flat r1b).getD 3 .skip)
theorem split1b : flat r1b = b1a ++ [Code.region 11 ops11 false] := by kernel_rfl
-- the second
noncomputable def r2a : List Code := (flat round2).take 2
noncomputable def r2b : Code := inBlk ((flat round2).getD 2 .skip)
noncomputable def r2c : List Code := (flat round2).drop 3
theorem split2 : flat round2 = r2a ++ Code.block 3 r2b :: r2c := by kernel_rfl
noncomputable def b2a : List Code := (flat r2b).take 1
noncomputable def round3 : Code := Frozen.inLoop ((flat r2b).getD 1 .skip)
theorem split2b : flat r2b = b2a ++ [Code.block 4 (.loop round3)] := by kernel_rfl
/-- Heads. -/
def hd1 (x : Bool) (i : Int) : Cut := ⟨[(0, .val (.bool x)), (2, .xs [0]), (4, .xp [2] 0 0), (7, .xs [1]), (8, .val (.int .i64 i))], []⟩
def hd2 (i : Int) : Cut := ⟨[(4, .xp [2] 0 0), (7, .xs [1]), (12, .val (.int .i64 i))], []⟩
def hd3 (i j : Int) : Cut := ⟨[(4, .xp [2] 0 0), (7, .xs [1]), (12, .val (.int .i64 i)), (13, .val (.int .i64 j))], []⟩
end Keeps
end Go.Proofs.YtaojjpdlfnphiaaDoor.PDescKinds
