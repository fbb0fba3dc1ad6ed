/- cameolaw10.InvariantPatches: pieces of its regions, by computing. -/
import Derived.Test.YtaojjpdlfnphiaaM0
set_option linter.unusedSimpArgs false
set_option linter.unusedVariables false
set_option linter.unusedSectionVars false
namespace Go.Proofs.Ytaojjpdlfnphiaa.PDescKinds
open Go.RowKit Go.Ev
namespace Lw
noncomputable def lw : List Code := bodyOf Try.f3
noncomputable def p3 : Array Oper := opsOf (lw.getD 3 .skip)
noncomputable def p4 : Array Oper := opsOf (lw.getD 4 .skip)
noncomputable def p5 : Array Oper := opsOf (lw.getD 5 .skip)
noncomputable def p6 : Array Oper := opsOf (lw.getD 6 .skip)
noncomputable def p7 : Array Oper := opsOf (lw.getD 7 .skip)
noncomputable def p8 : Array Oper := opsOf (lw.getD 8 .skip)
noncomputable def p10 : Array Oper := opsOf (lw.getD 10 .skip)
set_option maxRecDepth 100000
theorem lw_eq : lw = lw.take 2 ++ (.cond (.tmp 20) (thenOf (lw.getD 2 .skip)) .skip :: .region 3 p3 false :: .region 4 p4 false :: .region 5 p5 false :: .region 6 p6 false :: .region 7 p7 false :: .region 8 p8 false :: .cond (.tmp 92) (thenOf (lw.getD 9 .skip)) .skip :: .region 10 p10 false :: lw.drop 11) := by kernel_rfl
/-- The five moments. -/
def five (x b y z t : Mo) : Nat → Mo
  | 0 => x
  | 1 => b
  | 2 => y
  | 3 => z
  | _ => t
/-- Two rows of deltas. -/
def two (A : Option Addr) (n c : Nat) (g : Nat → Dl) (A' : Option Addr) (n' c' : Nat) (g' : Nat → Dl) : Nat → XR
  | 0 => ⟨A, 29, n, c, fun j => (g j).cells⟩
  | _ => ⟨A', 29, n', c', fun j => (g' j).cells⟩
def okP (a b : Nat) : Bool := (Nat.beq a 2 && Nat.beq b 4) || ((Nat.beq a 3 && Nat.beq b 4) || (Nat.beq a 1 && Nat.beq b 0))
def D7 : Dl := ⟨-7, 0, 0, false, S.V0, K0, S.D0⟩
abbrev G9 : GFn := tab2 BvL5 [(9, noMem (onMM fun a b => bif okP a b then LB true else .bad))]
section
variable (x b y z t : Mo) (A : Option Addr) (n c : Nat) (g : Nat → Dl) (A' : Option Addr) (n' c' : Nat) (g' : Nat → Dl)
theorem l0 (M : Nat → Mo) : letI := rowsB M (bxL A n c g)
    evK Try.prog ext (tab2 BvL5 [(5, noMem (onM fun a => LB (S.few (M a))))]) 80 103 (seqL (lw.take 2)) (⟨argS [.xs [0], .xs [0, 0, 0]], fun _ => none, 0⟩) (grab Try.prog Try.f3 [0, 1, 20] [] 0) =
    bif !S.few (M 0) then some (.cut .normal ⟨[(0, .xs [0]), (1, .xs [0, 0, 0]), (20, .val (.bool true))], []⟩) else some (.cut .normal ⟨[(0, .xs [0]), (1, .xs [0, 0, 0]), (20, .val (.bool (decide ((n : Int) > 400))))], []⟩) := by kernel_rfl
theorem l2 : letI := row0
    evK Try.prog ext (tab []) 80 103 (seqL (flat (thenOf (lw.getD 2 .skip)))) ((⟨[], []⟩ : Cut).st 0) (grab Try.prog Try.f3 [] [] 0) = some (.ret (.val (.bool true))) := by kernel_rfl
theorem p4_eq : p4.toList = p4.toList.getD 0 default :: (p4.toList.drop 1).take 1 ++ (p4.toList.getD 2 default :: ((p4.toList.drop 3).take 1 ++ (p4.toList.getD 4 default :: p4.toList.getD 5 default :: ([p4.toList.getD 6 default] ++ [])))) := by kernel_rfl
theorem l4n : letI := row0
    evOp Try.prog ext (fun _ _ _ _ => none) (Ev.look (pickT [])) (fun _ => none) 0 (p4.toList.getD 0 default) = some (.slc 0 0 0 0, .new ⟨35, []⟩) := by kernel_rfl
theorem l4a (v : Value) : letI := row0
    (reads Try.prog 103 ((p4.toList.drop 1).take 1) (pickT [(1, .val v)])).map (fun t => [24].map t) = some [.val v] := by kernel_rfl
theorem l4b : letI := row0
    (reads Try.prog 103 ((p4.toList.drop 3).take 1) (pickT [])).map (fun t => [26].map t) = some [.val D7.agg] := by kernel_rfl
theorem l4m (δ : Dl) : letI := row0
    evOp Try.prog ext (fun _ _ _ _ => none) (Ev.look (pickT [(26, .val δ.agg)])) (fun _ => none) 0 (p4.toList.getD 4 default) = some (.slc 0 0 1 1, .new ⟨35, δ.list.map SV.val⟩) := by kernel_rfl
theorem l4c (v : Value) : letI := row0
    (reads Try.prog 103 [p4.toList.getD 6 default] (pickT [(28, .val v)])).map (fun t => [6].map t) = some [.val v] := by kernel_rfl
theorem p5_eq : p5.toList = p5.toList.take 4 ++ (p5.toList.getD 4 default :: p5.toList.getD 5 default :: (p5.toList.drop 6 ++ [])) := by kernel_rfl
theorem p6_eq : p6.toList = p6.toList.take 4 ++ (p6.toList.getD 4 default :: p6.toList.getD 5 default :: (p6.toList.drop 6 ++ [])) := by kernel_rfl
theorem l5a (v5 v6 : Value) (A : Option Addr) (n c : Nat) : letI := row0
    (reads Try.prog 103 (p5.toList.take 4) (pickT [(1, .val (.slice A n c)), (5, .val v5), (6, .val v6)])).map (fun t => [30, 31, 33].map t) = some [.val v5, .val v6, .val (.int .i64 (n : Int))] := by kernel_rfl
theorem l6a (v5 v6 : Value) (A : Option Addr) (n c : Nat) : letI := row0
    (reads Try.prog 103 (p6.toList.take 4) (pickT [(1, .val (.slice A n c)), (5, .val v5), (6, .val v6)])).map (fun t => [39, 40, 42].map t) = some [.val v5, .val v6, .val (.int .i64 (n : Int))] := by kernel_rfl
theorem l5b (u v : Value) : letI := row0
    (reads Try.prog 103 (p5.toList.drop 6) (pickT [(35, .val (.tuple #[u, v]))])).map (fun t => [7, 8].map t) = some [.val u, .val v] := by kernel_rfl
theorem l6b (u v : Value) : letI := row0
    (reads Try.prog 103 (p6.toList.drop 6) (pickT [(44, .val (.tuple #[u, v]))])).map (fun t => [9, 10].map t) = some [.val u, .val v] := by kernel_rfl
theorem p8_eq : p8.toList = p8.toList.take 26 ++ (p8.toList.getD 26 default :: ((p8.toList.drop 27).take 1 ++ (p8.toList.getD 28 default :: ((p8.toList.drop 29) ++ [])))) := by kernel_rfl
abbrev R8 (e : Int) : List (Nat × SV) := [(0, .xs [0]), (1, .xs [0, 0, 0]), (5, .xs [1]), (6, .xs [1, 0, 0]), (7, .xs [2]), (8, .val (.int .i64 e)), (9, .xs [3]), (10, .val (.int .i64 e)), (11, .xs [4]), (12, .val (.int .i64 e))]
abbrev R9 : List (Nat × SV) := [(0, .xs [0]), (1, .xs [0, 0, 0]), (5, .xs [1]), (6, .xs [1, 0, 0]), (7, .xs [2]), (9, .xs [3]), (11, .xs [4])]
theorem l8a0 : letI := rowsB (five x b y z t) (two A n c g A' n' c' g')
    evOpsK Try.prog ext (callWithK Try.prog G9 (evK Try.prog ext G9 80)) p8 103 (p8.toList.take 26) ((⟨R8 0, []⟩ : Cut).st 0) (fun st => cutS [0, 1, 5, 6, 7, 9, 11, 75, 76, 78] [] 0 st) = some ⟨R9 ++ [(75, .val (.bool false)), (76, .xs [1, 0, 0]), (78, .val (.int .i64 (n : Int)))], []⟩ := by kernel_rfl
theorem l8a7 : letI := rowsB (five x b y z t) (two A n c g A' n' c' g')
    evOpsK Try.prog ext (callWithK Try.prog G9 (evK Try.prog ext G9 80)) p8 103 (p8.toList.take 26) ((⟨R8 7, []⟩ : Cut).st 0) (fun st => cutS [0, 1, 5, 6, 7, 9, 11, 75, 76, 78] [] 0 st) = some ⟨R9 ++ [(75, .val (.bool false)), (76, .xs [1, 0, 0]), (78, .val (.int .i64 (n : Int)))], []⟩ := by kernel_rfl
theorem l8b (v : Value) : letI := rowsB (five x b y z t) (two A n c g A' n' c' g')
    evOpsK Try.prog ext (callWithK Try.prog G9 (evK Try.prog ext G9 80)) p8 103 ((p8.toList.drop 27).take 1) ((⟨R9 ++ [(75, .val (.bool false)), (79, .val v)], []⟩ : Cut).st 0) (fun st => cutS [0, 1, 5, 6, 7, 9, 11, 75, 79, 80] [] 0 st) = some ⟨R9 ++ [(75, .val (.bool false)), (79, .val v), (80, .xs [0, 0, 0])], []⟩ := by kernel_rfl
theorem l8c : letI := rowsB (five x b y z t) (two A n c g A' n' c' g')
    evOpsK Try.prog ext (callWithK Try.prog G9 (evK Try.prog ext G9 80)) p8 103 (p8.toList.drop 29) ((⟨R9 ++ [(75, .val (.bool false)), (81, .val (.bool true))], []⟩ : Cut).st 0) (fun st => cutS [0, 1, 5, 6, 7, 9, 11, 92] [] 0 st) =
    bif decide (0 ≤ (n : Int)) && decide ((n : Int) < (n' : Int)) then some ⟨R9 ++ [(92, .val (.bool ((g' (n : Int).toNat).o != -7)))], []⟩ else none := by kernel_rfl
end
end Lw
end Go.Proofs.Ytaojjpdlfnphiaa.PDescKinds
