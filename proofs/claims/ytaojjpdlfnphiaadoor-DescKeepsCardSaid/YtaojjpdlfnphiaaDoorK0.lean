/- Laws with loops: the rows that come in, the pieces of the laws' code. -/
import Derived.Test.YtaojjpdlfnphiaaDoorH3
import Derived.Test.YtaojjpdlfnphiaaDoorP4
set_option linter.unusedSimpArgs false
set_option linter.unusedVariables false
set_option linter.unusedSectionVars false
namespace Go.Proofs.YtaojjpdlfnphiaaDoor.PDescKinds
open Go.RowKit Go.Ev
/-- A descriptor's cells. -/
def D.cells (d : D) : List SV := [.val (.int .i64 d.v.k), .val (.bool d.v.b), .val (.float .f64 d.v.n), .val (.string d.v.s), .val (.int .i64 d.v.id),
  .val (.int .i64 d.g.k), .val (.bool d.g.b), .val (.float .f64 d.g.n), .val (.string d.g.s), .val (.int .i64 d.g.id), .val (.int .i64 d.t.k), .val (.bool d.t.b), .val (.float .f64 d.t.n), .val (.string d.t.s), .val (.int .i64 d.t.id), .val (.int .i64 d.w), .val (.int .i64 d.e), .val (.int .i64 d.c)]
/-- One row of descriptors. -/
@[instance_reducible] def rowD (A : Option Addr) (n c : Nat) (g : Nat → D) : XEnv := ⟨fun _ => ⟨A, 18, n, c, fun j => (g j).cells⟩⟩
theorem onD_val {f : Nat} {g g' : D → DT Value} (h : E (f, onD g)) (e : ∀ d, (g' d).val = (g d).val) : E (f, onD g') := by
  intro args t v ht hv
  obtain ⟨d, rfl, rfl⟩ := onD_eq ht
  rw [e d] at hv
  exact h [d.agg] (g d) v rfl hv
namespace S
def err (b : Bool) : Int := bif b then 0 else 5
def freezeD (d : D) : D := ⟨V0, V0, V0, bif whole d && isD d then 1 else 0, 0, bif whole d then 1 else 0⟩
end S
namespace T
def freeze1 (d : D) : DT Value := .leaf (.tuple #[(S.freezeD d).agg, .int .i64 (S.err (S.whole d))])
end T
theorem ent_freeze1 : E (13, onD T.freeze1) := onD_val ent_freeze fun d => by
  simp only [T.freeze1, T.freeze, DT.val_node, DT.val_leaf, S.err, S.freezeD]
  cases S.whole d <;> cases S.isD d <;> rfl
abbrev FL : Tab := (13, onD T.freeze1) :: HL27
theorem entsFL : ∀ p ∈ FL, E p := entries_cons ent_freeze1 Hents27
/-! DescFrozen's code -/
namespace Frozen
noncomputable def code : List Code := flat (Tryd.f6.body.getD .skip)
noncomputable def pre : List Code := code.take 10
noncomputable def post : List Code := code.drop 11
def inLoop : Code → Code
  | .block _ (.loop c) => c
  | c => c
noncomputable def round : Code := inLoop (code.getD 10 .skip)
theorem split : code = pre ++ Code.block 0 (.loop round) :: post := by kernel_rfl
/-- The loop's head. -/
def hd (a : D) (i : Int) : Cut := ⟨[(1, .xs [0]), (7, .ptr 2 0), (9, .val (.int .i64 i))], [(2, ⟨27, a.cells⟩)]⟩
end Frozen
end Go.Proofs.YtaojjpdlfnphiaaDoor.PDescKinds
