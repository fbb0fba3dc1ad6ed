/- DescKeeps: what each piece comes to. -/
import Derived.Test.YtaojjpdlfnphiaaDoorK3
set_option linter.unusedSimpArgs false
set_option linter.unusedVariables false
set_option linter.unusedSectionVars false
namespace Go.Proofs.YtaojjpdlfnphiaaDoor.PDescKinds
open Go.RowKit Go.Ev
namespace Keeps
section
variable (A : Option Addr) (n c : Nat) (g : Nat → D) (A1 : Option Addr) (n1 c1 : Nat) (g1 : Nat → D) (A2 : Option Addr) (z : D) (x : Bool) (i j : Int)
set_option maxRecDepth 100000
theorem pre_ev : letI := rowD A n c g
    evK Tryd.prog ext (tab FL) 90 87 (seqL Keeps.pre) ⟨argS [.val (.bool x), .val z.agg, .xs [0]], fun _ => none, 0⟩ (grab Tryd.prog Tryd.f5 [0,2,4,7,8] [0,1] 2) =
    (bif decide ((n : Int) > 60) then some (Res.ret (SV.val (Value.bool true))) else some (Res.cut Ex.normal (Cut.mk [(0, SV.val (Value.bool x)), (2, SV.xs [0]), (4, SV.ptr 0 0), (7, SV.slc 1 0 1 1), (8, SV.val (Value.int IntKind.i64 0))] [(0, Blk.mk 27 z.cells), (1, Blk.mk 27 z.cells)]))) := by kernel_rfl
theorem r1a_ev : letI := rows A n c g A1 n1 c1 g1 A2 z
    evK Tryd.prog ext (tab FL) 90 87 (seqL Keeps.r1a) ((Keeps.hd1 x i).st 0) (grab Tryd.prog Tryd.f5 [0,2,4,7,8] [] 0) =
    (bif decide (i < (n : Int)) then some (Res.cut Ex.normal (hd1 x i)) else some (Res.cut (Ex.exit 0) (hd1 x i))) := by kernel_rfl
/-- Behind a step that was taken. -/
def took (y : D) : Cut := ⟨[(0, .val (.bool x)), (2, .xs [0]), (4, .xp [2] 0 0), (7, .xs [1]), (8, .val (.int .i64 i)), (9, .ptr 16 0)], [(16, ⟨27, y.cells⟩)]⟩
theorem b1a_ev : letI := rows A n c g A1 n1 c1 g1 A2 z
    evK Tryd.prog ext (tab FL) 90 87 (seqL Keeps.b1a) ((Keeps.hd1 x i).st 0) (grab Tryd.prog Tryd.f5 [0,2,4,7,8,9] [16] 20) =
    (bif decide (0 ≤ IntKind.i64.wrap ((n1 : Int) - 1)) && decide (IntKind.i64.wrap ((n1 : Int) - 1) < (n1 : Int)) then
     (bif decide (0 ≤ i) && decide (i < (n : Int)) then
      (bif S.okA (g1 (IntKind.i64.wrap ((n1 : Int) - 1)).toNat) (g i.toNat) then some (Res.cut Ex.normal (took x i (S.apply x (g1 (IntKind.i64.wrap ((n1 : Int) - 1)).toNat) (g i.toNat)).fst)) else some (Res.cut (Ex.exit 1) (took x i S.D0))) else none) else none) := by kernel_rfl
theorem took_hd (y : D) : cutS [0,2,4,7,8] [] 0 ((took x i y).st 20) = some (hd1 x i) := by kernel_rfl
/-- Ahead of the append. -/
def ahead (y : D) : Cut := ⟨[(0, .val (.bool x)), (2, .xs [0]), (4, .xp [2] 0 0), (7, .xs [1]), (8, .val (.int .i64 i)), (47, .xs [1]), (49, .slc 20 0 1 1)], [(20, ⟨27, y.cells⟩)]⟩
theorem o3_ev (y : D) : letI := rows A n c g A1 n1 c1 g1 A2 z
    (evOps Tryd.prog ext (callWith Tryd.prog (tab FL) (ev Tryd.prog ext (tab FL) 0)) Keeps.ops11 87 (Keeps.ops11.toList.take 3) ((took x i y).st 20)).bind (fun st => cutS [0,2,4,7,8,47,49] [20] 21 st) = some (ahead x i y) := by kernel_rfl
theorem r1c_ev : letI := rows A n c g A1 n1 c1 g1 A2 z
    evK Tryd.prog ext (tab FL) 90 87 (seqL Keeps.r1c) ((Keeps.hd1 x i).st 0) (grab Tryd.prog Tryd.f5 [0,2,4,7,8] [] 0) = some (Res.cut Ex.normal (hd1 x (IntKind.i64.wrap (i + 1)))) := by kernel_rfl
theorem mid_ev : letI := rows A n c g A1 n1 c1 g1 A2 z
    evK Tryd.prog ext (tab FL) 90 87 (seqL [Keeps.mid]) ((Keeps.hd1 x i).st 0) (grab Tryd.prog Tryd.f5 [4,7,12] [] 0) = some (Res.cut Ex.normal (hd2 0)) := by kernel_rfl
theorem r2a_ev : letI := rows A n c g A1 n1 c1 g1 A2 z
    evK Tryd.prog ext (tab FL) 90 87 (seqL Keeps.r2a) ((Keeps.hd2 i).st 0) (grab Tryd.prog Tryd.f5 [4,7,12] [] 0) =
    (bif decide (i < (n1 : Int)) then some (Res.cut Ex.normal (hd2 i)) else some (Res.cut (Ex.exit 2) (hd2 i))) := by kernel_rfl
theorem b2a_ev : letI := rows A n c g A1 n1 c1 g1 A2 z
    evK Tryd.prog ext (tab FL) 90 87 (seqL Keeps.b2a) ((Keeps.hd2 i).st 0) (grab Tryd.prog Tryd.f5 [4,7,12,13] [] 0) = some (Res.cut Ex.normal (hd3 i i)) := by kernel_rfl
theorem r3_ev : letI := rows A n c g A1 n1 c1 g1 A2 z
    evK Tryd.prog ext (tab FL) 90 87 (seqL (flat Keeps.round3)) ((Keeps.hd3 i j).st 0) (grab Tryd.prog Tryd.f5 [4,7,12,13] [] 0) =
    (bif decide (j < (n1 : Int)) then
     (bif decide (0 ≤ i) && decide (i < (n1 : Int)) then
      (bif decide (0 ≤ j) && decide (j < (n1 : Int)) then
       (bif S.okK (g1 i.toNat) (g1 j.toNat) then
        (bif !S.keeps (g1 i.toNat) (g1 j.toNat) then some (Res.ret (SV.val (Value.bool false))) else some (Res.cut Ex.normal (hd3 i (IntKind.i64.wrap (j + 1))))) else
        (bif i == 0 then some (Res.ret (SV.val (Value.bool !S.whole z))) else some (Res.ret (SV.val (Value.bool false))))) else none) else none) else some (Res.cut (Ex.exit 4) (hd3 i j))) := by kernel_rfl
theorem r2c_ev : letI := rows A n c g A1 n1 c1 g1 A2 z
    evK Tryd.prog ext (tab FL) 90 87 (seqL Keeps.r2c) ((Keeps.hd3 i j).st 0) (grab Tryd.prog Tryd.f5 [4,7,12] [] 0) = some (Res.cut Ex.normal (hd2 (IntKind.i64.wrap (i + 1)))) := by kernel_rfl
theorem post_ev : letI := rows A n c g A1 n1 c1 g1 A2 z
    evK Tryd.prog ext (tab FL) 90 87 (seqL Keeps.post) ((Keeps.hd2 i).st 0) (grab Tryd.prog Tryd.f5 [4,7,12] [] 0) = some (Res.ret (SV.val (Value.bool true))) := by kernel_rfl
end
theorem info27 : ∃ (i : TypeInfo) (z : Value), Tryd.prog.info? 27 = some i ∧ i.zero = some z ∧ i.size = 18 ∧ i.bytes = 168 ∧ z.cells.size = 18 := by
  have h : (Tryd.prog.info? 27).bind (fun i => i.zero.map fun z => (i.size, i.bytes, z.cells.size)) = some (18, 168, 18) := by kernel_rfl
  obtain ⟨i, hi, h⟩ := Option.bind_eq_some_iff.1 h
  obtain ⟨z, hz, h⟩ := Option.map_eq_some_iff.1 h
  simp only [Prod.mk.injEq] at h
  exact ⟨i, z, hi, hz, h.1, h.2.1, h.2.2⟩
noncomputable def oA : Oper := ops11.toList.getD 3 default
noncomputable def oB : Oper := ops11.toList.getD 4 default
theorem ops11_eq : ops11.toList = ops11.toList.take 3 ++ [oA, oB] := by kernel_rfl
theorem oA_op : oA.op = .call { callee := .builtin .append, args := #[.tmp 47, .tmp 49], argTypes := #[42, 42] } := by kernel_rfl
theorem oA_guard : oA.guard = none := by kernel_rfl
theorem oA_dst : oA.dst = some 50 := by kernel_rfl
theorem oB_op : oB.op = .assign (.tmp 50) := by kernel_rfl
theorem oB_guard : oB.guard = none := by kernel_rfl
theorem oB_dst : oB.dst = some 7 := by kernel_rfl
end Keeps
end Go.Proofs.YtaojjpdlfnphiaaDoor.PDescKinds
