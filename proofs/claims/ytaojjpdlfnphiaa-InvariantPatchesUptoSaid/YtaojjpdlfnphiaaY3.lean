/- cameoref10.Patch: its pieces, by computing. -/
import Derived.Test.YtaojjpdlfnphiaaY2
set_option linter.unusedSimpArgs false
set_option linter.unusedVariables false
set_option linter.unusedSectionVars false
namespace Go.Proofs.Ytaojjpdlfnphiaa.PDescKinds
open Go.RowKit Go.Ev
/-- Deltas that came in, beside moments. -/
abbrev bxL (A : Option Addr) (n c : Nat) (g : Nat → Dl) : Nat → XR := fun _ => ⟨A, 29, n, c, fun j => (g j).cells⟩
namespace RP
noncomputable def rf : List Code := bodyOf Try.f8
noncomputable def rd : List Code := flat (roundOf rf)
noncomputable def inn : List Code := flat (inB (rd.getD 2 .skip))
noncomputable def t33 : List Code := flat (thenOf (inn.getD 2 .skip))
noncomputable def l0 : List Code := flat (inB (inn.getD 7 .skip))
noncomputable def l1 : List Code := flat (elseOf (l0.getD 1 .skip))
noncomputable def l2 : List Code := flat (elseOf (l1.getD 1 .skip))
noncomputable def l3 : List Code := flat (elseOf (l2.getD 1 .skip))
noncomputable def l4 : List Code := flat (elseOf (l3.getD 1 .skip))
noncomputable def l5 : List Code := flat (elseOf (l4.getD 1 .skip))
noncomputable def t4 : List Code := flat (thenOf (l4.getD 1 .skip))
noncomputable def o7 : Array Oper := opsOf (t33.getD 0 .skip)
noncomputable def o14 : Array Oper := opsOf (thenOf (l0.getD 1 .skip))
noncomputable def o16 : Array Oper := opsOf (thenOf (l1.getD 1 .skip))
noncomputable def o18 : Array Oper := opsOf (thenOf (l2.getD 1 .skip))
noncomputable def o20 : Array Oper := opsOf (thenOf (l3.getD 1 .skip))
noncomputable def o22 : Array Oper := opsOf (t4.getD 0 .skip)
noncomputable def o23 : Array Oper := opsOf (t4.getD 1 .skip)
noncomputable def o25 : Array Oper := opsOf (thenOf (l5.getD 1 .skip))
noncomputable def o26 : Array Oper := opsOf (inn.getD 8 .skip)
set_option maxRecDepth 100000
theorem rf_eq : rf = [rf.getD 0 .skip, rf.getD 1 .skip, rf.getD 2 .skip, .block 0 (.loop (roundOf rf))] ++ rf.drop 4 := by kernel_rfl
theorem rd_eq : rd = rd.take 2 ++ (.block 1 (inB (rd.getD 2 .skip)) :: rd.drop 3) := by kernel_rfl
theorem inn_eq : inn = inn.take 2 ++ (.cond (.tmp 33) (thenOf (inn.getD 2 .skip)) .skip :: ((inn.drop 3).take 4 ++ [.block 2 (inB (inn.getD 7 .skip)), .region 26 o26 false])) := by kernel_rfl
theorem t33_eq : t33 = [.region 7 o7 false, .exit 1] := by kernel_rfl
theorem l0_eq : l0 = [l0.getD 0 .skip] ++ [.cond (.tmp 65) (.region 14 o14 false) (elseOf (l0.getD 1 .skip))] := by kernel_rfl
theorem l1_eq : l1 = [l1.getD 0 .skip] ++ [.cond (.tmp 72) (.region 16 o16 false) (elseOf (l1.getD 1 .skip))] := by kernel_rfl
theorem l2_eq : l2 = [l2.getD 0 .skip] ++ [.cond (.tmp 79) (.region 18 o18 false) (elseOf (l2.getD 1 .skip))] := by kernel_rfl
theorem l3_eq : l3 = [l3.getD 0 .skip] ++ [.cond (.tmp 86) (.region 20 o20 true) (elseOf (l3.getD 1 .skip))] := by kernel_rfl
theorem l4_eq : l4 = [l4.getD 0 .skip] ++ [.cond (.tmp 107) (thenOf (l4.getD 1 .skip)) (elseOf (l4.getD 1 .skip))] := by kernel_rfl
theorem t4_eq : t4 = [.region 22 o22 false, .region 23 o23 false] := by kernel_rfl
theorem l5_eq : l5 = [l5.getD 0 .skip] ++ [.cond (.tmp 127) (.region 25 o25 true) (elseOf (l5.getD 1 .skip))] := by kernel_rfl
theorem o26_eq : o26.toList = o26.toList.take 5 ++ (o26.toList.getD 5 default :: ([] ++ [o26.toList.getD 6 default])) := by kernel_rfl
theorem o7_eq : o7.toList = o7.toList.take 8 ++ (o7.toList.getD 8 default :: o7.toList.getD 9 default :: ([o7.toList.getD 10 default] ++ [])) := by kernel_rfl
abbrev H (j : Nat) : List (Nat × SV) := [(1, .xs [0, 0, 0]), (6, .xs [0]), (7, .val (.int .i64 (j : Int)))]
theorem q1 (M : Nat → Mo) (A : Option Addr) (n c : Nat) (g : Nat → Dl) (j : Nat) : letI := rowsB M (bxL A n c g)
    evK Try.prog ext (tab2 BvL5 [(17, noMem (onPK fun a b k => LI (S.find ((M a).g b) k)))]) 80 150 (seqL (rd.take 2)) ((⟨H j, []⟩ : Cut).st 0) (grab Try.prog Try.f8 [1, 6, 7] [] 0) =
    bif decide ((j : Int) < (n : Int)) then some (.cut .normal ⟨H j, []⟩) else some (.cut (.exit 0) ⟨H j, []⟩) := by kernel_rfl
theorem q2 (M : Nat → Mo) (A : Option Addr) (n c : Nat) (g : Nat → Dl) (j : Nat) : letI := rowsB M (bxL A n c g)
    evK Try.prog ext (tab2 BvL5 [(17, noMem (onPK fun a b k => LI (S.find ((M a).g b) k)))]) 80 150 (seqL (inn.take 2)) ((⟨H j, []⟩ : Cut).st 0) (grab Try.prog Try.f8 [1, 6, 7, 8, 33] [0] 1) =
    bif decide (0 ≤ (j : Int)) && decide ((j : Int) < (n : Int)) then (bif (g j).what == 1 then some (.cut .normal ⟨[(1, .xs [0, 0, 0]), (6, .xs [0]), (7, .val (.int .i64 (j : Int))), (8, .ptr 0 0), (33, .val (.bool ((g j).o == IntKind.i64.wrap (((M 0).n : Int) + 1))))], [(0, ⟨35, (g j).cells⟩)]⟩) else some (.cut .normal ⟨[(1, .xs [0, 0, 0]), (6, .xs [0]), (7, .val (.int .i64 (j : Int))), (8, .ptr 0 0), (33, .val (.bool false))], [(0, ⟨35, (g j).cells⟩)]⟩)) else none := by kernel_rfl
theorem q3 (M : Nat → Mo) (A : Option Addr) (n c : Nat) (g : Nat → Dl) (j : Nat) : letI := rowsB M (bxL A n c g)
    evK Try.prog ext (tab2 BvL5 [(17, noMem (onPK fun a b k => LI (S.find ((M a).g b) k)))]) 80 150 (seqL ((inn.drop 3).take 4)) ((⟨[(1, .xs [0, 0, 0]), (6, .xs [0]), (7, .val (.int .i64 (j : Int))), (8, .ptr 0 0), (33, .val (.bool false))], [(0, ⟨35, (g j).cells⟩)]⟩ : Cut).st 1) (grab Try.prog Try.f8 [1, 6, 7, 8, 9, 10] [0, 1] 2) =
    bif decide ((g j).o < 1) then some (.ret (.val (.tuple #[.slice none 0 0, .int .i64 7]))) else (bif decide ((g j).o > ((M 0).n : Int)) then some (.ret (.val (.tuple #[.slice none 0 0, .int .i64 7]))) else (bif decide (0 ≤ IntKind.i64.wrap ((g j).o - 1)) && decide (IntKind.i64.wrap ((g j).o - 1) < ((M 0).n : Int)) then some (.cut .normal ⟨[(1, .xs [0, 0, 0]), (6, .xs [0]), (7, .val (.int .i64 (j : Int))), (8, .ptr 0 0), (9, .ptr 1 0), (10, .val (.int .i64 (S.find ((M 0).g (IntKind.i64.wrap ((g j).o - 1)).toNat) (g j).k)))], [(0, ⟨35, (g j).cells⟩), (1, ⟨52, shCells ((M 0).g (IntKind.i64.wrap ((g j).o - 1)).toNat).cl ((M 0).g (IntKind.i64.wrap ((g j).o - 1)).toNat).p ((M 0).g (IntKind.i64.wrap ((g j).o - 1)).toNat).x [0, (IntKind.i64.wrap ((g j).o - 1)).toNat]⟩)]⟩) else none)) := by kernel_rfl
theorem q4 (v u : Value) (j : Nat) : letI := row0
    evK Try.prog ext (tab []) 80 150 (seqL (rd.drop 3)) ((⟨[(1, .val v), (6, .val u), (7, .val (.int .i64 (j : Int)))], []⟩ : Cut).st 0) (grab Try.prog Try.f8 [1, 6, 7] [] 0) =
    some (.cut .normal ⟨[(1, .val v), (6, .val u), (7, .val (.int .i64 (IntKind.i64.wrap ((j : Int) + 1))))], []⟩) := by kernel_rfl
theorem q5 (v : Value) : letI := row0
    evK Try.prog ext (tab []) 80 150 (seqL (rf.drop 4)) ((⟨[(6, .val v)], []⟩ : Cut).st 0) (grab Try.prog Try.f8 [] [] 0) = some (.ret (.val (.tuple #[v, .int .i64 0]))) := by kernel_rfl
theorem q6 : letI := row0
    evK Try.prog ext (tab []) 80 150 (seqL (flat (elseOf (l5.getD 1 .skip)))) ((⟨[], []⟩ : Cut).st 0) (grab Try.prog Try.f8 [] [] 0) = some (.ret (.val (.tuple #[.slice none 0 0, .int .i64 7]))) := by kernel_rfl
theorem e13 (bA sA : Option Addr) (s : List SV) (δ : Dl) (v1 v6 v7 v9 : Value) (f : Int) : letI := rowsX bA δ.cells sA s
    evK Try.prog ext (tab []) 80 150 (seqL [l0.getD 0 .skip]) ((⟨[(1, .val v1), (6, .val v6), (7, .val v7), (8, .xp [] 0 0), (9, .val v9), (10, .val (.int .i64 f))], []⟩ : Cut).st 0) (grab Try.prog Try.f8 [1, 6, 7, 8, 9, 10, 65] [] 0) = some (.cut .normal ⟨[(1, .val v1), (6, .val v6), (7, .val v7), (8, .xp [] 0 0), (9, .val v9), (10, .val (.int .i64 f)), (65, .val (.bool (δ.what == 2)))], []⟩) := by kernel_rfl
theorem e15 (bA sA : Option Addr) (s : List SV) (δ : Dl) (v1 v6 v7 v9 : Value) (f : Int) : letI := rowsX bA δ.cells sA s
    evK Try.prog ext (tab []) 80 150 (seqL [l1.getD 0 .skip]) ((⟨[(1, .val v1), (6, .val v6), (7, .val v7), (8, .xp [] 0 0), (9, .val v9), (10, .val (.int .i64 f))], []⟩ : Cut).st 0) (grab Try.prog Try.f8 [1, 6, 7, 8, 9, 10, 72] [] 0) = some (.cut .normal ⟨[(1, .val v1), (6, .val v6), (7, .val v7), (8, .xp [] 0 0), (9, .val v9), (10, .val (.int .i64 f)), (72, .val (.bool (δ.what == 3)))], []⟩) := by kernel_rfl
theorem e17 (bA sA : Option Addr) (s : List SV) (δ : Dl) (v1 v6 v7 v9 : Value) (f : Int) : letI := rowsX bA δ.cells sA s
    evK Try.prog ext (tab []) 80 150 (seqL [l2.getD 0 .skip]) ((⟨[(1, .val v1), (6, .val v6), (7, .val v7), (8, .xp [] 0 0), (9, .val v9), (10, .val (.int .i64 f))], []⟩ : Cut).st 0) (grab Try.prog Try.f8 [1, 6, 7, 8, 9, 10, 79] [] 0) = some (.cut .normal ⟨[(1, .val v1), (6, .val v6), (7, .val v7), (8, .xp [] 0 0), (9, .val v9), (10, .val (.int .i64 f)), (79, .val (.bool (δ.what == 4)))], []⟩) := by kernel_rfl
theorem e24 (bA sA : Option Addr) (s : List SV) (δ : Dl) (v1 v6 v7 v9 : Value) (f : Int) : letI := rowsX bA δ.cells sA s
    evK Try.prog ext (tab []) 80 150 (seqL [l5.getD 0 .skip]) ((⟨[(1, .val v1), (6, .val v6), (7, .val v7), (8, .xp [] 0 0), (9, .val v9), (10, .val (.int .i64 f))], []⟩ : Cut).st 0) (grab Try.prog Try.f8 [1, 6, 7, 8, 9, 10, 127] [] 0) = some (.cut .normal ⟨[(1, .val v1), (6, .val v6), (7, .val v7), (8, .xp [] 0 0), (9, .val v9), (10, .val (.int .i64 f)), (127, .val (.bool (δ.what == 6)))], []⟩) := by kernel_rfl
theorem e19 (bA sA : Option Addr) (s : List SV) (δ : Dl) (v1 v6 v7 v9 : Value) (f : Int) : letI := rowsX bA δ.cells sA s
    evK Try.prog ext (tab []) 80 150 (seqL [l3.getD 0 .skip]) ((⟨[(1, .val v1), (6, .val v6), (7, .val v7), (8, .xp [] 0 0), (9, .val v9), (10, .val (.int .i64 f))], []⟩ : Cut).st 0) (grab Try.prog Try.f8 [1, 6, 7, 8, 9, 10, 86] [] 0) = bif δ.what == 5 then some (.cut .normal ⟨[(1, .val v1), (6, .val v6), (7, .val v7), (8, .xp [] 0 0), (9, .val v9), (10, .val (.int .i64 f)), (86, .val (.bool (decide (f ≥ 0))))], []⟩) else some (.cut .normal ⟨[(1, .val v1), (6, .val v6), (7, .val v7), (8, .xp [] 0 0), (9, .val v9), (10, .val (.int .i64 f)), (86, .val (.bool false))], []⟩) := by kernel_rfl
theorem e21 (bA sA : Option Addr) (s : List SV) (δ : Dl) (v1 v6 v7 v9 : Value) (f : Int) : letI := rowsX bA δ.cells sA s
    evK Try.prog ext (tab []) 80 150 (seqL [l4.getD 0 .skip]) ((⟨[(1, .val v1), (6, .val v6), (7, .val v7), (8, .xp [] 0 0), (9, .val v9), (10, .val (.int .i64 f))], []⟩ : Cut).st 0) (grab Try.prog Try.f8 [1, 6, 7, 8, 9, 10, 107] [] 0) = bif δ.what == 6 then some (.cut .normal ⟨[(1, .val v1), (6, .val v6), (7, .val v7), (8, .xp [] 0 0), (9, .val v9), (10, .val (.int .i64 f)), (107, .val (.bool (decide (f ≥ 0))))], []⟩) else some (.cut .normal ⟨[(1, .val v1), (6, .val v6), (7, .val v7), (8, .xp [] 0 0), (9, .val v9), (10, .val (.int .i64 f)), (107, .val (.bool false))], []⟩) := by kernel_rfl
theorem eo14 (bA : Option Addr) (δ : Dl) (P : Addr) : letI := rowsX bA δ.cells bA δ.cells
    (reads Try.prog 150 (o14.toList.take 3) (pickT [(8, .xp [] 0 0), (9, .val (.pointer (some P)))])).map (fun t => [70, 71].map t) = some [.val (.int .i64 δ.n), .val (.pointer (some (P.add 0)))] := by kernel_rfl
theorem so14 : o14.toList = o14.toList.take 3 ++ [o14.toList.getD 3 default] := by kernel_rfl
theorem eo16 (bA : Option Addr) (δ : Dl) (P : Addr) : letI := rowsX bA δ.cells bA δ.cells
    (reads Try.prog 150 (o16.toList.take 3) (pickT [(8, .xp [] 0 0), (9, .val (.pointer (some P)))])).map (fun t => [77, 78].map t) = some [.val (δ.v.agg), .val (.pointer (some (P.add 1)))] := by kernel_rfl
theorem so16 : o16.toList = o16.toList.take 3 ++ [o16.toList.getD 3 default] := by kernel_rfl
theorem eo18 (bA : Option Addr) (δ : Dl) (P : Addr) : letI := rowsX bA δ.cells bA δ.cells
    (reads Try.prog 150 (o18.toList.take 3) (pickT [(8, .xp [] 0 0), (9, .val (.pointer (some P)))])).map (fun t => [84, 85].map t) = some [.val (.bool δ.yes), .val (.pointer (some (P.add 6)))] := by kernel_rfl
theorem so18 : o18.toList = o18.toList.take 3 ++ [o18.toList.getD 3 default] := by kernel_rfl
theorem eo26 (bA sA : Option Addr) (δ : Dl) (s : Sh) (A : Option Addr) (n c : Nat) (v6 : Value) : letI := rowsX bA δ.cells sA ((shVals s (.slice A n c)).map SV.val)
    (reads Try.prog 150 (o26.toList.take 5) (pickT [(6, .val v6), (8, .xp [] 0 0), (9, .xp [0] 0 0)])).map (fun t => [143, 146, 147].map t) = some [.val v6, .val (.int .i64 (IntKind.i64.wrap (δ.o - 1))), .val (.agg (shVals s (.slice A n c)).toArray)] := by kernel_rfl
theorem ei26 [XEnv] (A : Addr) (n c : Nat) (i : Int) (u : Value) : evP Try.prog (Ev.look (pickT [(143, .val (.slice (some A) n c)), (146, .val (.int .i64 i)), (147, .val u)])) (o26.toList.getD 5 default) = bif decide (0 ≤ i) && decide (i < (n : Int)) then some (.val (.pointer (some (A.add (i.toNat * 8))))) else none := by kernel_rfl
theorem eo7 (bA : Option Addr) (δ : Dl) (v6 : Value) : letI := rowsX bA δ.cells bA δ.cells
    (reads Try.prog 150 (o7.toList.take 8) (pickT [(6, .val v6), (8, .xp [] 0 0)])).map (fun t => [34, 41].map t) = some [.val v6, .val (.agg (shVals (Ap.newS δ) (.slice none 0 0)).toArray)] := by kernel_rfl
theorem eo7n (s : Sh) (u : Value) : letI := row0
    evOp Try.prog ext (fun _ _ _ _ => none) (Ev.look (pickT [(41, .val (.agg (shVals s u).toArray))])) (fun _ => none) 0 (o7.toList.getD 8 default) = some (.slc 0 0 1 1, .new ⟨52, (shVals s u).map SV.val⟩) := by kernel_rfl
theorem eo7b (v : Value) : letI := row0
    (reads Try.prog 150 [o7.toList.getD 10 default] (pickT [(43, .val v)])).map (fun t => [6].map t) = some [.val v] := by kernel_rfl
theorem ex1 : letI := row0
    evK Try.prog ext (tab []) 80 150 (seqL [.exit 1]) ((⟨[], []⟩ : Cut).st 0) (grab Try.prog Try.f8 [] [] 0) = some (.cut (.exit 1) ⟨[], []⟩) := by kernel_rfl
end RP
end Go.Proofs.Ytaojjpdlfnphiaa.PDescKinds
