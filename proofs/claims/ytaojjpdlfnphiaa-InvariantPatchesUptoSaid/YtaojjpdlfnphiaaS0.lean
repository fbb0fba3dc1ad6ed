/- cameolaw10.spoil: its pieces, by computing. -/
import Derived.Test.YtaojjpdlfnphiaaZ1
set_option linter.unusedSimpArgs false
set_option linter.unusedVariables false
set_option linter.unusedSectionVars false
namespace Go.Proofs.Ytaojjpdlfnphiaa.PDescKinds
open Go.RowKit Go.Ev
/-- The outer row of a moment alone. -/
@[instance_reducible] def rowO (A : Option Addr) (n c : Nat) (g : Nat → Sh) : XEnv := ⟨fun _ => ⟨A, 8, n, c, fun j => (shVals (g j) (.slice (g j).A (g j).n (g j).c)).map SV.val⟩⟩
def badP (n : Int) : Pr := ⟨⟨⟨#[]⟩, n⟩, S.D0⟩
namespace Sp
noncomputable def sf : List Code := bodyOf Try.f12
noncomputable def rd : List Code := flat (roundOf sf)
noncomputable def inn : List Code := flat (inB (rd.getD 2 .skip))
noncomputable def r2 : List Code := flat (match inn.getD 1 .skip with | .block _ (.loop c) => c | _ => .skip)
noncomputable def i2 : List Code := flat (inB (r2.getD 2 .skip))
noncomputable def r4 : List Code := flat (match inn.getD 4 .skip with | .block _ (.loop c) => c | _ => .skip)
noncomputable def i4 : List Code := flat (inB (r4.getD 2 .skip))
noncomputable def o6 : Array Oper := opsOf (i2.getD 0 .skip)
noncomputable def o11 : Array Oper := opsOf (i4.getD 0 .skip)
noncomputable def o12 : Array Oper := opsOf (inn.getD 5 .skip)
set_option maxRecDepth 100000
theorem sf_eq : sf = [sf.getD 0 .skip] ++ [.block 0 (.loop (roundOf sf))] := by kernel_rfl
theorem rd_eq : rd = rd.take 2 ++ (.block 1 (inB (rd.getD 2 .skip)) :: rd.drop 3) := by kernel_rfl
theorem inn_eq : inn = [inn.getD 0 .skip] ++ (.block 2 (.loop (match inn.getD 1 .skip with | .block _ (.loop c) => c | _ => .skip)) :: ([inn.getD 2 .skip, inn.getD 3 .skip] ++ [.block 4 (.loop (match inn.getD 4 .skip with | .block _ (.loop c) => c | _ => .skip)), .region 12 o12 false])) := by kernel_rfl
theorem r2_eq : r2 = r2.take 2 ++ (.block 3 (inB (r2.getD 2 .skip)) :: r2.drop 3) := by kernel_rfl
theorem i2_eq : i2 = [.region 6 o6 false] := by kernel_rfl
theorem r4_eq : r4 = r4.take 2 ++ (.block 5 (inB (r4.getD 2 .skip)) :: r4.drop 3) := by kernel_rfl
theorem i4_eq : i4 = [.region 11 o11 false] := by kernel_rfl
theorem o6_eq : o6.toList = o6.toList.take 8 ++ (o6.toList.getD 8 default :: ([] ++ [o6.toList.getD 9 default])) := by kernel_rfl
theorem o11_eq : o11.toList = o11.toList.take 3 ++ (o11.toList.getD 3 default :: o11.toList.getD 4 default :: ([o11.toList.getD 5 default] ++ [])) := by kernel_rfl
theorem o12_eq : o12.toList = o12.toList.take 4 ++ [o12.toList.getD 4 default] := by kernel_rfl
theorem s0 (v0 : Value) : letI := row0
    evK Try.prog ext (tab []) 80 49 (seqL [sf.getD 0 .skip]) (⟨argS [.val v0], fun _ => none, 0⟩) (grab Try.prog Try.f12 [0, 2] [] 0) = some (.cut .normal ⟨[(0, .val v0), (2, .val (.int .i64 ((0 : Nat) : Int)))], []⟩) := by kernel_rfl
theorem s1 (A : Option Addr) (n c : Nat) (g : Nat → Sh) (i : Nat) : letI := rowO A n c g
    evK Try.prog ext (tab []) 80 49 (seqL (rd.take 2)) ((⟨[(0, .xs []), (2, .val (.int .i64 (i : Int)))], []⟩ : Cut).st 0) (grab Try.prog Try.f12 [0, 2] [] 0) =
    bif decide ((i : Int) < (n : Int)) then some (.cut .normal ⟨[(0, .xs []), (2, .val (.int .i64 (i : Int)))], []⟩) else some (.cut (.exit 0) ⟨[(0, .xs []), (2, .val (.int .i64 (i : Int)))], []⟩) := by kernel_rfl
theorem s3 (v0 : Value) (i : Nat) : letI := row0
    evK Try.prog ext (tab []) 80 49 (seqL [inn.getD 0 .skip]) ((⟨[(0, .val v0), (2, .val (.int .i64 (i : Int)))], []⟩ : Cut).st 0) (grab Try.prog Try.f12 [0, 2, 3] [] 0) = some (.cut .normal ⟨[(0, .val v0), (2, .val (.int .i64 (i : Int))), (3, .val (.int .i64 ((0 : Nat) : Int)))], []⟩) := by kernel_rfl
theorem s4 (A : Option Addr) (n c : Nat) (g : Nat → Sh) (i j : Nat) : letI := rowO A n c g
    evK Try.prog ext (tab []) 80 49 (seqL (r2.take 2)) ((⟨[(0, .xs []), (2, .val (.int .i64 (i : Int))), (3, .val (.int .i64 (j : Int)))], []⟩ : Cut).st 0) (grab Try.prog Try.f12 [0, 2, 3] [] 0) =
    bif decide (0 ≤ (i : Int)) && decide ((i : Int) < (n : Int)) then (bif decide ((j : Int) < ((g (i : Int).toNat).n : Int)) then some (.cut .normal ⟨[(0, .xs []), (2, .val (.int .i64 (i : Int))), (3, .val (.int .i64 (j : Int)))], []⟩) else some (.cut (.exit 2) ⟨[(0, .xs []), (2, .val (.int .i64 (i : Int))), (3, .val (.int .i64 (j : Int)))], []⟩)) else none := by kernel_rfl
theorem s6a (A : Option Addr) (n c : Nat) (g : Nat → Sh) (i j : Nat) : letI := rowO A n c g
    (reads Try.prog 49 (o6.toList.take 2) (pickT [(0, .xs []), (2, .val (.int .i64 (i : Int))), (3, .val (.int .i64 (j : Int)))])).map (fun t => [22, 23].map t) = some [.xs [], .val (.int .i64 (i : Int))] := by kernel_rfl
theorem s6i (A : Addr) (n c : Nat) (i : Int) : letI := row0
    evP Try.prog (Ev.look (pickT [(26, .val (.slice (some A) n c)), (27, .val (.int .i64 i))])) (o6.toList.getD 8 default) = bif decide (0 ≤ i) && decide (i < (n : Int)) then some (.val (.pointer (some (A.add (i.toNat * 20))))) else none := by kernel_rfl
theorem s5 (v0 : Value) (i j : Nat) : letI := row0
    evK Try.prog ext (tab []) 80 49 (seqL (r2.drop 3)) ((⟨[(0, .val v0), (2, .val (.int .i64 (i : Int))), (3, .val (.int .i64 (j : Int)))], []⟩ : Cut).st 0) (grab Try.prog Try.f12 [0, 2, 3] [] 0) = some (.cut .normal ⟨[(0, .val v0), (2, .val (.int .i64 (i : Int))), (3, .val (.int .i64 (IntKind.i64.wrap ((j : Int) + 1))))], []⟩) := by kernel_rfl
theorem s9 (v0 v4 : Value) (i j : Nat) : letI := row0
    evK Try.prog ext (tab []) 80 49 (seqL (r4.take 2)) ((⟨[(0, .val v0), (2, .val (.int .i64 (i : Int))), (4, .val v4), (5, .val (.int .i64 (j : Int)))], []⟩ : Cut).st 0) (grab Try.prog Try.f12 [0, 2, 4, 5] [] 0) =
    bif decide ((j : Int) < 8) then some (.cut .normal ⟨[(0, .val v0), (2, .val (.int .i64 (i : Int))), (4, .val v4), (5, .val (.int .i64 (j : Int)))], []⟩) else some (.cut (.exit 4) ⟨[(0, .val v0), (2, .val (.int .i64 (i : Int))), (4, .val v4), (5, .val (.int .i64 (j : Int)))], []⟩) := by kernel_rfl
theorem s10 (v0 v4 : Value) (i j : Nat) : letI := row0
    evK Try.prog ext (tab []) 80 49 (seqL (r4.drop 3)) ((⟨[(0, .val v0), (2, .val (.int .i64 (i : Int))), (4, .val v4), (5, .val (.int .i64 (j : Int)))], []⟩ : Cut).st 0) (grab Try.prog Try.f12 [0, 2, 4, 5] [] 0) = some (.cut .normal ⟨[(0, .val v0), (2, .val (.int .i64 (i : Int))), (4, .val v4), (5, .val (.int .i64 (IntKind.i64.wrap ((j : Int) + 1))))], []⟩) := by kernel_rfl
theorem s11 (v4 : Value) : letI := row0
    (reads Try.prog 49 (o11.toList.take 3) (pickT [(4, .val v4)])).map (fun t => [40, 42].map t) = some [.val v4, .val (Pr.agg (badP (-8)))] := by kernel_rfl
theorem s11n (q : Pr) : letI := row0
    evOp Try.prog ext (fun _ _ _ _ => none) (Ev.look (pickT [(42, .val q.agg)])) (fun _ => none) 0 (o11.toList.getD 3 default) = some (.slc 0 0 1 1, .new ⟨55, q.list.map SV.val⟩) := by kernel_rfl
theorem s11b (v : Value) : letI := row0
    (reads Try.prog 49 [o11.toList.getD 5 default] (pickT [(44, .val v)])).map (fun t => [4].map t) = some [.val v] := by kernel_rfl
theorem s2 (v0 : Value) (i : Nat) : letI := row0
    evK Try.prog ext (tab []) 80 49 (seqL (rd.drop 3)) ((⟨[(0, .val v0), (2, .val (.int .i64 (i : Int)))], []⟩ : Cut).st 0) (grab Try.prog Try.f12 [0, 2] [] 0) = some (.cut .normal ⟨[(0, .val v0), (2, .val (.int .i64 (IntKind.i64.wrap ((i : Int) + 1))))], []⟩) := by kernel_rfl
theorem s12i (A : Addr) (n c : Nat) (i : Int) : letI := row0
    (reads Try.prog 49 (o12.toList.take 2) (pickT [(0, .val (.slice (some A) n c)), (2, .val (.int .i64 i))])).map (fun t => [45, 46].map t) = some [.val (.slice (some A) n c), .val (.int .i64 i)] := by kernel_rfl
theorem s12j (A : Addr) (n c : Nat) (i : Int) : letI := row0
    evP Try.prog (Ev.look (pickT [(45, .val (.slice (some A) n c)), (46, .val (.int .i64 i))])) (o12.toList.getD 2 default) = bif decide (0 ≤ i) && decide (i < (n : Int)) then some (.val (.pointer (some (A.add (i.toNat * 8))))) else none := by kernel_rfl
theorem s12k (A : Addr) : letI := row0
    evP Try.prog (Ev.look (pickT [(47, .val (.pointer (some A)))])) (o12.toList.getD 3 default) = some (.val (.pointer (some (A.add 0)))) := by kernel_rfl
end Sp
end Go.Proofs.Ytaojjpdlfnphiaa.PDescKinds
