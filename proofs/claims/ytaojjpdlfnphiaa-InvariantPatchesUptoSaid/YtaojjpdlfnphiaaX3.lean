/- Parts of the proof, joined (3). -/
import Derived.Test.YtaojjpdlfnphiaaX2
section
/- invariant.apply: its pieces, by computing. -/
set_option linter.unusedSimpArgs false
set_option linter.unusedVariables false
set_option linter.unusedSectionVars false
namespace Go.Proofs.Ytaojjpdlfnphiaa.PDescKinds
open Go.RowKit Go.Ev
abbrev bxD (A : Option Addr) (δ : Dl) : Nat → XR := fun _ => ⟨A, 29, 1, 1, fun _ => δ.cells⟩
def Dl.agg (x : Dl) : Value := .agg x.list.toArray
/-- A box, and a shape, as_ rows. -/
@[instance_reducible] def rowsX (bA : Option Addr) (b : List SV) (sA : Option Addr) (s : List SV) : XEnv := ⟨fun r => match r with
  | [] => ⟨bA, b.length, 1, 1, fun _ => b⟩
  | _ :: _ => ⟨sA, s.length, 1, 1, fun _ => s⟩⟩
/-- No rows. -/
@[instance_reducible] def row0 : XEnv := ⟨fun _ => ⟨none, 0, 0, 0, fun _ => []⟩⟩
theorem xok_0 (w : World) : @XOk row0 w := fun r j hj => absurd hj (Nat.not_lt_zero _)
namespace Ap
noncomputable def ap : List Code := bodyOf Try.f16
noncomputable def l0 : List Code := flat (inB (ap.getD 8 .skip))
noncomputable def l1 : List Code := flat (elseOf (l0.getD 1 .skip))
noncomputable def l2 : List Code := flat (elseOf (l1.getD 1 .skip))
noncomputable def l3 : List Code := flat (elseOf (l2.getD 1 .skip))
noncomputable def t3 : List Code := flat (thenOf (l3.getD 1 .skip))
noncomputable def l4 : List Code := flat (elseOf (l3.getD 1 .skip))
noncomputable def t4 : List Code := flat (thenOf (l4.getD 1 .skip))
noncomputable def o2 : Array Oper := opsOf ((flat (thenOf (ap.getD 2 .skip))).getD 0 .skip)
noncomputable def o9 : Array Oper := opsOf (l0.getD 0 .skip)
noncomputable def o11 : Array Oper := opsOf (l1.getD 0 .skip)
noncomputable def o13 : Array Oper := opsOf (l2.getD 0 .skip)
noncomputable def o15 : Array Oper := opsOf (l3.getD 0 .skip)
noncomputable def o19 : Array Oper := opsOf (l4.getD 0 .skip)
noncomputable def o10 : Array Oper := opsOf (thenOf (l0.getD 1 .skip))
noncomputable def o12 : Array Oper := opsOf (thenOf (l1.getD 1 .skip))
noncomputable def o14 : Array Oper := opsOf (thenOf (l2.getD 1 .skip))
noncomputable def o16 : Array Oper := opsOf (t3.getD 0 .skip)
noncomputable def o18 : Array Oper := opsOf (t3.getD 2 .skip)
noncomputable def o20 : Array Oper := opsOf (t4.getD 0 .skip)
noncomputable def o21 : Array Oper := opsOf (thenOf (t4.getD 1 .skip))
noncomputable def o22 : Array Oper := opsOf (elseOf (t4.getD 1 .skip))
set_option maxRecDepth 100000
theorem ap_eq : ap = ap.take 2 ++ (.cond (.tmp 10) (thenOf (ap.getD 2 .skip)) .skip :: ((ap.drop 3).take 5 ++ (.block 0 (inB (ap.getD 8 .skip)) :: ap.drop 9))) := by kernel_rfl
theorem l0_eq : l0 = [.region 9 o9 false, .cond (.tmp 50) (.region 10 o10 false) (elseOf (l0.getD 1 .skip))] := by kernel_rfl
theorem l1_eq : l1 = [.region 11 o11 false, .cond (.tmp 57) (.region 12 o12 false) (elseOf (l1.getD 1 .skip))] := by kernel_rfl
theorem l2_eq : l2 = [.region 13 o13 false, .cond (.tmp 64) (.region 14 o14 false) (elseOf (l2.getD 1 .skip))] := by kernel_rfl
theorem l3_eq : l3 = [.region 15 o15 false, .cond (.tmp 71) (thenOf (l3.getD 1 .skip)) (elseOf (l3.getD 1 .skip))] := by kernel_rfl
theorem t3_eq : t3 = [.region 16 o16 false, .cond (.tmp 74) (thenOf (t3.getD 1 .skip)) .skip, .region 18 o18 false] := by kernel_rfl
theorem l4_eq : l4 = [.region 19 o19 false, .cond (.tmp 86) (thenOf (l4.getD 1 .skip)) (elseOf (l4.getD 1 .skip))] := by kernel_rfl
theorem t4_eq : t4 = [.region 20 o20 false, .cond (.tmp 89) (.region 21 o21 true) (.region 22 o22 true)] := by kernel_rfl
theorem m_eq : flat (thenOf (ap.getD 2 .skip)) = [.region 2 o2 true, .ret] := by kernel_rfl
theorem pA (M : Nat → Mo) (bx : Nat → XR) (δ : Dl) : letI := rowsB M bx
    evK Try.prog ext (tab2 BvL5 [(31, idxA M)]) 80 114 (seqL (ap.take 2)) (⟨argS [.xs [0], .val δ.agg], fun _ => none, 0⟩) (grab Try.prog Try.f16 [0, 3, 10] [0] 1) =
    some (.cut .normal ⟨[(0, .xs [0]), (3, .ptr 0 0), (10, .val (.bool (δ.what == 1)))], [(0, ⟨35, δ.cells⟩)]⟩) := by kernel_rfl
theorem pB (M : Nat → Mo) (A : Option Addr) (δ : Dl) : letI := rowsB M (bxD A δ)
    evK Try.prog ext (tab2 BvL5 [(31, idxA M)]) 80 114 (seqL ((ap.drop 3).take 5)) ((⟨[(0, .xs [0]), (3, .xp [0, 0, 0] 0 0)], []⟩ : Cut).st 0) (grab Try.prog Try.f16 [0, 3, 6, 7, 49] [] 0) =
    (bif decide (δ.o < 1) then some (Res.ret (SV.val (Value.tuple #[Value.slice none 0 0, Value.bool false]))) else 
     (bif decide (δ.o > (↑(M 0).n : Int)) then some (Res.ret (SV.val (Value.tuple #[Value.slice none 0 0, Value.bool false]))) else 
      (bif decide (0 ≤ IntKind.i64.wrap (δ.o - 1)) && decide (IntKind.i64.wrap (δ.o - 1) < (↑(M 0).n : Int)) then some (Res.cut Ex.normal (Cut.mk [(0, SV.xs [0]), (3, SV.xp [0, 0, 0] 0 0), (6, SV.xp [0] (IntKind.i64.wrap (δ.o - 1)).toNat 0), (7, SV.val (Value.int IntKind.i64 (S.find ((M 0).g (IntKind.i64.wrap (δ.o - 1)).toNat) (δ.k)))), (49, SV.val (Value.int IntKind.i64 δ.what))] [])) else none))) := by kernel_rfl
theorem pC (v : Value) : letI := row0
    evK Try.prog ext (tab []) 80 114 (seqL (ap.drop 9)) ((⟨[(0, .val v)], []⟩ : Cut).st 0) (grab Try.prog Try.f16 [] [] 0) =
    some (.ret (.val (.tuple #[v, .bool true]))) := by kernel_rfl
theorem c17 : letI := row0
    evK Try.prog ext (tab []) 80 114 (seqL (flat (thenOf (t3.getD 1 .skip)))) ((⟨[], []⟩ : Cut).st 0) (grab Try.prog Try.f16 [] [] 0) =
    some (.ret (.val (.tuple #[.slice none 0 0, .bool false]))) := by kernel_rfl
theorem c8 : letI := row0
    evK Try.prog ext (tab []) 80 114 (seqL (flat (elseOf (l4.getD 1 .skip)))) ((⟨[], []⟩ : Cut).st 0) (grab Try.prog Try.f16 [] [] 0) =
    some (.ret (.val (.tuple #[.slice none 0 0, .bool false]))) := by kernel_rfl
theorem eo9 (v0 A3 A6 : Value) (i w : Int) : letI := row0
    (reads Try.prog 114 o9.toList (pickT [(0, .val v0), (3, .val A3), (6, .val A6), (7, .val (.int .i64 i)), (49, .val (.int .i64 w))])).map (fun t => [0, 3, 6, 7, 49, 50].map t) = some [.val v0, .val A3, .val A6, .val (.int .i64 i), .val (.int .i64 w), .val (.bool (w == 2))] := by kernel_rfl
theorem eo11 (v0 A3 A6 : Value) (i w : Int) : letI := row0
    (reads Try.prog 114 o11.toList (pickT [(0, .val v0), (3, .val A3), (6, .val A6), (7, .val (.int .i64 i)), (49, .val (.int .i64 w))])).map (fun t => [0, 3, 6, 7, 49, 57].map t) = some [.val v0, .val A3, .val A6, .val (.int .i64 i), .val (.int .i64 w), .val (.bool (w == 3))] := by kernel_rfl
theorem eo13 (v0 A3 A6 : Value) (i w : Int) : letI := row0
    (reads Try.prog 114 o13.toList (pickT [(0, .val v0), (3, .val A3), (6, .val A6), (7, .val (.int .i64 i)), (49, .val (.int .i64 w))])).map (fun t => [0, 3, 6, 7, 49, 64].map t) = some [.val v0, .val A3, .val A6, .val (.int .i64 i), .val (.int .i64 w), .val (.bool (w == 4))] := by kernel_rfl
theorem eo15 (v0 A3 A6 : Value) (i w : Int) : letI := row0
    (reads Try.prog 114 o15.toList (pickT [(0, .val v0), (3, .val A3), (6, .val A6), (7, .val (.int .i64 i)), (49, .val (.int .i64 w))])).map (fun t => [0, 3, 6, 7, 49, 71].map t) = some [.val v0, .val A3, .val A6, .val (.int .i64 i), .val (.int .i64 w), .val (.bool (w == 5))] := by kernel_rfl
theorem eo19 (v0 A3 A6 : Value) (i w : Int) : letI := row0
    (reads Try.prog 114 o19.toList (pickT [(0, .val v0), (3, .val A3), (6, .val A6), (7, .val (.int .i64 i)), (49, .val (.int .i64 w))])).map (fun t => [0, 3, 6, 7, 49, 86].map t) = some [.val v0, .val A3, .val A6, .val (.int .i64 i), .val (.int .i64 w), .val (.bool (w == 6))] := by kernel_rfl
theorem eo16 (v0 A3 A6 : Value) (i w : Int) : letI := row0
    (reads Try.prog 114 o16.toList (pickT [(0, .val v0), (3, .val A3), (6, .val A6), (7, .val (.int .i64 i)), (49, .val (.int .i64 w))])).map (fun t => [0, 3, 6, 7, 49, 74].map t) = some [.val v0, .val A3, .val A6, .val (.int .i64 i), .val (.int .i64 w), .val (.bool (decide (i < 0)))] := by kernel_rfl
theorem eo20 (v0 A3 A6 : Value) (i w : Int) : letI := row0
    (reads Try.prog 114 o20.toList (pickT [(0, .val v0), (3, .val A3), (6, .val A6), (7, .val (.int .i64 i)), (49, .val (.int .i64 w))])).map (fun t => [0, 3, 6, 7, 49, 89].map t) = some [.val v0, .val A3, .val A6, .val (.int .i64 i), .val (.int .i64 w), .val (.bool (decide (i < 0)))] := by kernel_rfl
theorem eo10 (bA : Option Addr) (δ : Dl) (v0 : Value) (P6 : Addr) : letI := rowsX bA δ.cells bA δ.cells
    (reads Try.prog 114 (o10.toList.take 5) (pickT [(0, .val v0), (3, .xp [] 0 0), (6, .val (.pointer (some P6)))])).map (fun t => [0, 54, 56].map t) = some [.val v0, .val (.int .i64 δ.n), .val (.pointer (some (P6.add 0)))] := by kernel_rfl
theorem so10 : o10.toList = o10.toList.take 5 ++ [o10.toList.getD 5 default] := by kernel_rfl
theorem eo12 (bA : Option Addr) (δ : Dl) (v0 : Value) (P6 : Addr) : letI := rowsX bA δ.cells bA δ.cells
    (reads Try.prog 114 (o12.toList.take 5) (pickT [(0, .val v0), (3, .xp [] 0 0), (6, .val (.pointer (some P6)))])).map (fun t => [0, 61, 63].map t) = some [.val v0, .val (δ.v.agg), .val (.pointer (some (P6.add 1)))] := by kernel_rfl
theorem so12 : o12.toList = o12.toList.take 5 ++ [o12.toList.getD 5 default] := by kernel_rfl
theorem eo14 (bA : Option Addr) (δ : Dl) (v0 : Value) (P6 : Addr) : letI := rowsX bA δ.cells bA δ.cells
    (reads Try.prog 114 (o14.toList.take 5) (pickT [(0, .val v0), (3, .xp [] 0 0), (6, .val (.pointer (some P6)))])).map (fun t => [0, 68, 70].map t) = some [.val v0, .val (.bool δ.yes), .val (.pointer (some (P6.add 6)))] := by kernel_rfl
theorem so14 : o14.toList = o14.toList.take 5 ++ [o14.toList.getD 5 default] := by kernel_rfl
theorem eo18 (bA sA : Option Addr) (δ : Dl) (s : Sh) (A : Option Addr) (n c : Nat) (v0 : Value) (i : Int) : letI := rowsX bA δ.cells sA ((shVals s (.slice A n c)).map SV.val)
    (reads Try.prog 114 (o18.toList.take 8) (pickT [(0, .val v0), (6, .xp [0] 0 0), (7, .val (.int .i64 i))])).map (fun t => [0, 75, 79, 80, 82].map t) = some [.val v0, .xp [0] 0 0, .val (.slice A n c), .val (.int .i64 i), .val (.int .i64 (IntKind.i64.wrap (i + 1)))] := by kernel_rfl
theorem so18 : o18.toList = o18.toList.take 8 ++ (o18.toList.getD 8 default :: ((o18.toList.drop 9).take 2 ++ [o18.toList.getD 11 default])) := by kernel_rfl
theorem eo18b (v0 v : Value) (P6 : Addr) : letI := row0
    (reads Try.prog 114 ((o18.toList.drop 9).take 2) (pickT [(0, .val v0), (75, .val (.pointer (some P6))), (83, .val v)])).map (fun t => [0, 83, 85].map t) = some [.val v0, .val v, .val (.pointer (some (P6.add 7)))] := by kernel_rfl
theorem eo22 (bA sA : Option Addr) (δ : Dl) (s : Sh) (A : Addr) (n c : Nat) (v0 : Value) (i : Int) : letI := rowsX bA δ.cells sA ((shVals s (.slice (some A) n c)).map SV.val)
    (takes Try.prog o22 114 [0, 1, 2, 3, 4, 5, 6] (pickT [(0, .val v0), (3, .xp [] 0 0), (6, .xp [0] 0 0), (7, .val (.int .i64 i))]) #[false, false, false, false, false, false, false, false, false, false]).map (fun p => ([0, 107, 108, 110].map p.1, p.2)) = some ([.val v0, .val (.slice (some A) n c), .val (.int .i64 i), .val δ.d.agg], #[true, true, true, true, true, true, true, false, false, false]) := by kernel_rfl
theorem e22i [XEnv] (A : Addr) (n c : Nat) (v0 d : Value) (i : Int) : evP Try.prog (Ev.look (pickT [(0, .val v0), (107, .val (.slice (some A) n c)), (108, .val (.int .i64 i)), (110, .val d)])) (o22.toList.getD 7 default) = bif decide (0 ≤ i) && decide (i < (n : Int)) then some (.val (.pointer (some (A.add (i.toNat * 20))))) else none := by kernel_rfl
theorem e22p [XEnv] (A : Addr) (n c : Nat) (v0 d : Value) (i : Int) (x : SV) : [0, 110, 111].map (putS (pickT [(0, .val v0), (107, .val (.slice (some A) n c)), (108, .val (.int .i64 i)), (110, .val d)]) (o22.toList.getD 7 default).dst x) = [.val v0, .val d, x] := by kernel_rfl
theorem eo22b [XEnv] (v0 d : Value) (P : Addr) : (takes Try.prog o22 114 [8] (pickT [(0, .val v0), (110, .val d), (111, .val (.pointer (some P)))]) #[true, true, true, true, true, true, true, true, false, false]).map (fun p => ([0, 110, 112].map p.1, p.2)) = some ([.val v0, .val d, .val (.pointer (some (P.add 2)))], #[true, true, true, true, true, true, true, true, true, false]) := by kernel_rfl
theorem eo21 (bA : Option Addr) (δ : Dl) (v0 : Value) (P6 : Addr) : letI := rowsX bA δ.cells bA δ.cells
    (takes Try.prog o21 114 [0, 1, 2, 3, 5, 6, 7, 8, 9] (pickT [(0, .val v0), (3, .xp [] 0 0), (6, .val (.pointer (some P6)))]) #[false, false, false, false, false, false, false, false, false, false, false, false, false, false, false]).map (fun p => ([0, 90, 93, 99].map p.1, p.2)) = some ([.val v0, .val (.pointer (some P6)), .val (.pointer (some (P6.add 7))), .val (Pr.agg ⟨δ.k, δ.d⟩)], #[true, true, true, true, false, true, true, true, true, true, false, false, false, false, false]) := by kernel_rfl
theorem eo2 (bA : Option Addr) (δ : Dl) (A : Option Addr) (n c : Nat) : letI := rowsX bA δ.cells bA δ.cells
    (takes Try.prog o2 114 [0, 1, 2, 3, 4, 5, 6, 7, 10, 11, 12, 13, 14, 15] (pickT [(0, .val (.slice A n c)), (3, .xp [] 0 0)]) #[false, false, false, false, false, false, false, false, false, false, false, false, false, false, false, false, false, false]).map (fun p => ([0, 11, 18, 26].map p.1, p.2)) = some ([.val (.slice A n c), .val (.slice A n c), .val (.agg (shVals ⟨δ.n, δ.v, δ.yes, none, 0, 0, fun _ => ⟨K0, S.D0⟩⟩ (.slice none 0 0)).toArray), .val (.bool (δ.o == IntKind.i64.wrap ((n : Int) + 1)))], #[true, true, true, true, true, true, true, true, false, false, true, true, true, true, true, true, false, false]) := by kernel_rfl
theorem eo21b [XEnv] (v0 v : Value) (P : Addr) : (takes Try.prog o21 114 [12, 13] (pickT [(0, .val v0), (90, .val (.pointer (some P))), (101, .val v)]) #[true, true, true, true, true, true, true, true, true, true, true, true, false, false, false]).map (fun p => ([0, 101, 103].map p.1, p.2)) = some ([.val v0, .val v, .val (.pointer (some (P.add 7)))], #[true, true, true, true, true, true, true, true, true, true, true, true, true, true, false]) := by kernel_rfl
theorem eo21l (bA sA : Option Addr) (δ : Dl) (s : Sh) (A : Option Addr) (n c : Nat) : letI := rowsX bA δ.cells sA ((shVals s (.slice A n c)).map SV.val)
    evP Try.prog (Ev.look (pickT [(93, .xp [0] 0 7)])) (o21.toList.getD 4 default) = some (.val (.slice A n c)) := by kernel_rfl
theorem eo21n (q : Pr) : letI := row0
    evOp Try.prog ext (fun _ _ _ _ => none) (Ev.look (pickT [(99, .val q.agg)])) (fun _ => none) 0 (o21.toList.getD 10 default) = some (.slc 0 0 1 1, .new ⟨55, q.list.map SV.val⟩) := by kernel_rfl
theorem eo2n (s : Sh) (u : Value) : letI := row0
    evOp Try.prog ext (fun _ _ _ _ => none) (Ev.look (pickT [(18, .val (.agg (shVals s u).toArray))])) (fun _ => none) 0 (o2.toList.getD 8 default) = some (.slc 0 0 1 1, .new ⟨52, (shVals s u).map SV.val⟩) := by kernel_rfl
theorem eo2b [XEnv] (v b : Value) : (takes Try.prog o2 114 [16, 17] (pickT [(20, .val v), (26, .val b)]) #[true, true, true, true, true, true, true, true, true, true, true, true, true, true, true, true, false, false]).map (fun p => ([4, 5].map p.1, p.2)) = some ([.val v, .val b], #[true, true, true, true, true, true, true, true, true, true, true, true, true, true, true, true, true, true]) := by kernel_rfl
theorem eret (v b : Value) : letI := row0
    evK Try.prog ext (tab []) 80 114 (seqL [.ret]) ((⟨[(4, .val v), (5, .val b)], []⟩ : Cut).st 0) (grab Try.prog Try.f16 [] [] 0) =
    some (.ret (.val (.tuple #[v, b]))) := by kernel_rfl
end Ap
end Go.Proofs.Ytaojjpdlfnphiaa.PDescKinds
end
section
/- invariant.apply: tools for its regions. -/
set_option linter.unusedSimpArgs false
set_option linter.unusedVariables false
set_option linter.unusedSectionVars false
namespace Go.Proofs.Ytaojjpdlfnphiaa.PDescKinds
open Go.RowKit Go.Ev
theorem then_nil {P : Program} {Q : Exit → Act → World → Prop} : Exit.then (wpL P [] Q) Q = Q := by
  funext e a w
  cases e <;> rfl
theorem below_grown {B g : Nat} {w w' : World} (hB : B ≤ w.heap.size) (hg : w.grownBy w' (some g)) (h : B ≤ g) : Below B w w' :=
  ⟨hg.os, hg.tape, hg.output, hg.size, fun k hk => hg.block k (Nat.lt_of_lt_of_le hk hB) (fun e => by
    simp only [Option.some.injEq] at e
    omega)⟩
theorem below_own {B e z n : Nat} {v : Value} {xs : List Value} {w w' : World} (hB : B ≤ w.heap.size) (h : w.ownsRow B e z v n xs) (hg : w.grownBy w' v.ownBlock) : Below B w w' :=
  ⟨hg.os, hg.tape, hg.output, hg.size, fun k hk => hg.block k (Nat.lt_of_lt_of_le hk hB) (fun e => by
    have := (h.lt k e.symm).1
    omega)⟩
theorem below_drew (B : Nat) (w : World) : Below B w { w with drawn := w.drawn + 1 } := ⟨rfl, rfl, rfl, Nat.le_refl _, fun _ _ => rfl⟩
/-- A region that draws. -/
theorem region_drawn {id : Nat} {ops : Array Oper} {Q : Exit → Act → World → Prop} (S : World → Prop) {a : Act} {w : World}
    (h : wpAnyH Try.prog .any ops (onlyN fun a w => Q .normal a w) S ops.size (Array.replicate ops.size false) a { w with drawn := w.drawn + 1 }) : (Code.region id ops true).wp Try.prog Q a w :=
  wp_mono (wp_region_held mixed h) fun e a w h => by cases e <;> first | exact h | exact h.elim
theorem xrow_val {w : World} {A : Addr} {l : List Value} (hA : A.block < w.heap.size) (h : ∀ k u, l[k]? = some u → w.cell? (A.add k) = some u) (e : XEnv) : @XRow e w ⟨some A, (l.map SV.val).length, 1, 1, fun _ => l.map SV.val⟩ := by
  intro j hj
  have hj : j < 1 := hj
  obtain rfl : j = 0 := by omega
  refine ⟨rfl, fun s hs mem => ?_, A, rfl, hA, fun k s hk m => ?_⟩
  · obtain ⟨u, _, rfl⟩ := List.mem_map.1 hs
    exact ok_val _ _
  · have hk : (l.map SV.val)[k]? = some s := hk
    rw [List.getElem?_map] at hk
    obtain ⟨u, hu, rfl⟩ := Option.map_eq_some_iff.1 hk
    rw [show 0 * (l.map SV.val).length + k = k by omega, den_val]
    exact h k u hu
theorem xok_X {w : World} {bA sA : Option Addr} {b s : List SV} (h1 : ∀ e, @XRow e w ⟨bA, b.length, 1, 1, fun _ => b⟩) (h2 : ∀ e, @XRow e w ⟨sA, s.length, 1, 1, fun _ => s⟩) : @XOk (rowsX bA b sA s) w := by
  intro r
  cases r with
  | nil => exact h1 _
  | cons x r => exact h2 _
/-- A delta's box. -/
def Boxed (w : World) (g : Nat) (δ : Dl) : Prop := w.heap[g]? = some (.cells δ.list.toArray 35 (0, 0))
theorem Boxed.row {w : World} {g : Nat} {δ : Dl} (h : Boxed w g δ) (e : XEnv) : @XRow e w ⟨some ⟨g, 0, none⟩, δ.cells.length, 1, 1, fun _ => δ.cells⟩ :=
  xrow_val (l := δ.list) (Array.getElem?_eq_some_iff.1 h).1 (fun k u hk => by
    rw [add_none, cell_of_row w g _ _ 35 (0, 0) h]
    simpa using hk) e
theorem Boxed.xok {w : World} {g : Nat} {δ : Dl} (h : Boxed w g δ) : @XOk (rowsX (some ⟨g, 0, none⟩) δ.cells (some ⟨g, 0, none⟩) δ.cells) w := xok_X h.row h.row
theorem Boxed.kept {B : Nat} {w w' : World} {g : Nat} {δ : Dl} (h : Boxed w g δ) (hb : Below B w w') (hg : g < B) : Boxed w' g δ := (hb.block g hg).trans h
theorem shape_row {B : Nat} {w : World} {mo : Mo} (h : OwnMo B w mo) {k g : Nat} (hk : k < mo.n) (hA : mo.A = some ⟨g, 0, none⟩) (e : XEnv) :
    @XRow e w ⟨some ⟨g, k * 8, none⟩, ((shVals (mo.g k) (mo.g k).row).map SV.val).length, 1, 1, fun _ => (shVals (mo.g k) (mo.g k).row).map SV.val⟩ := by
  have hr := h.row
  rw [hA] at hr
  refine xrow_val (l := shVals (mo.g k) (mo.g k).row) ?_ (fun j u hj => ?_) e
  · have := hr.lt g rfl
    exact this.2
  · have := own_at (fun t => shVals_length _ _) hr hk j u hj
    rw [add_none] at this ⊢
    rw [← this]
    congr 2
    omega
/-- An own slice of one, out of a value. -/
theorem build1 {o : Oper} {a : Act} {w : World} {N : Nat} {K : Act → World → Prop} {Q : Exit → Act → World → Prop} {t : Nat → SV} {ty : TypeId} {l : List Value} (har : @AR row0 N (fun _ => 0) t (fun _ => none) a)
    (hev : @evOp row0 Try.prog ext (fun _ _ _ _ => none) (Ev.look t) (fun _ => none) 0 o = some (.slc 0 0 1 1, .new ⟨ty, l.map SV.val⟩))
    (k : ∀ g w', Below w.heap.size w w' → w.heap.size ≤ g → w'.heap[g]? = some (.cells l.toArray ty (0, 0)) → K (a.put o.dst (.slice (some ⟨g, 0, none⟩) 1 1)) w') : o.wp Try.prog a w K Q := by
  letI := row0
  refine op_sound (I := fun _ => True) (w0 := w) ext_sound trivial (fun _ _ _ _ => trivial) (fun w _ => xok_0 w) (fun f args mem id v m' n hc => by cases hc) hev (fun _ => rfl) (fun ⟨m, n, he⟩ => by cases he) (fun x => har.look_ok x) (fun x hk => har.eval x hk) (MR.start w fun _ => 0) fun m' w' h1 h2 h3 h4 h5 => ?_
  obtain ⟨b1, b2, b3⟩ := h2.blk 0 ⟨ty, l.map SV.val⟩ (by simp [Eff.mem, upd])
  rw [den_slc]
  refine k (m' 0) w' h2.below b1 ?_
  rw [b2, List.map_map, show (SV.den m' ∘ SV.val) = _root_.id from funext fun v => den_val _ v, List.map_id]
namespace Ap
/-- Where apply stands behind its head. -/
structure At (v0 A3 A6 : Value) (i w : Int) (a : Act) : Prop where
  size : a.tmps.size = 114
  defers : a.defers = []
  t0 : a.tmps.getD 0 undef = v0
  t3 : a.tmps.getD 3 undef = A3
  t6 : a.tmps.getD 6 undef = A6
  t7 : a.tmps.getD 7 undef = .int .i64 i
  t49 : a.tmps.getD 49 undef = .int .i64 w
section
variable {v0 A3 A6 : Value} {i what : Int} {a : Act} {w : World} {Q : Exit → Act → World → Prop}
abbrev TS (v0 A3 A6 : Value) (i w : Int) : List (Nat × SV) := [(0, .val v0), (3, .val A3), (6, .val A6), (7, .val (.int .i64 i)), (49, .val (.int .i64 w))]
theorem At.ar (h : At v0 A3 A6 i what a) (w : World) : @AR row0 114 (fun _ => 0) (pickT (TS v0 A3 A6 i what)) (fun _ => none) a := by
  letI := row0
  refine ar_of w h.size h.defers (fun p hp => ?_) (fun p hp => ?_)
  · simp only [List.mem_cons, List.not_mem_nil, or_false] at hp
    rcases hp with rfl | rfl | rfl | rfl | rfl
    · exact h.t0.trans (den_val _ _).symm
    · exact h.t3.trans (den_val _ _).symm
    · exact h.t6.trans (den_val _ _).symm
    · exact h.t7.trans (den_val _ _).symm
    · exact h.t49.trans (den_val _ _).symm
  · simp only [List.mem_cons, List.not_mem_nil, or_false] at hp
    rcases hp with rfl | rfl | rfl | rfl | rfl <;> exact ok_val _ _
theorem lvl {id : Nat} {ops : Array Oper} {d : Nat} {b : Bool} (h : At v0 A3 A6 i what a)
    (hev : letI := row0; (reads Try.prog 114 ops.toList (pickT (TS v0 A3 A6 i what))).map (fun t => [0, 3, 6, 7, 49, d].map t) = some [.val v0, .val A3, .val A6, .val (.int .i64 i), .val (.int .i64 what), .val (.bool b)])
    (k : ∀ a', At v0 A3 A6 i what a' → a'.eval (.tmp d) = .bool b → Q .normal a' w) : (Code.region id ops false).wp Try.prog Q a w := by
  letI := row0
  refine region_reads (xok_0 w) hev (h.ar w) fun a' t' har e => ?_
  simp only [List.map_cons, List.map_nil, List.cons.injEq, and_true] at e
  obtain ⟨e0, e3, e6, e7, e49, ed⟩ := e
  exact k a' ⟨har.size, har.defers, ar_eval har e0, ar_eval har e3, ar_eval har e6, ar_eval har e7, ar_eval har e49⟩ (ar_eval har ed)
theorem level {l rest : List Code} {T E : Code} {id : Nat} {ops : Array Oper} {d : Nat} {b : Bool} (hl : l = .region id ops false :: .cond (.tmp d) T E :: rest) (h : At v0 A3 A6 i what a)
    (hev : letI := row0; (reads Try.prog 114 ops.toList (pickT (TS v0 A3 A6 i what))).map (fun t => [0, 3, 6, 7, 49, d].map t) = some [.val v0, .val A3, .val A6, .val (.int .i64 i), .val (.int .i64 what), .val (.bool b)])
    (kt : b = true → ∀ a', At v0 A3 A6 i what a' → T.wp Try.prog (Exit.then (wpL Try.prog rest Q) Q) a' w) (kf : b = false → ∀ a', At v0 A3 A6 i what a' → E.wp Try.prog (Exit.then (wpL Try.prog rest Q) Q) a' w) : wpL Try.prog l Q a w := by
  rw [hl]
  simp only [wpL]
  refine lvl h hev fun a' h' hv => ?_
  show wpL Try.prog (.cond (.tmp d) T E :: rest) Q a' w
  simp only [wpL]
  cases b with
  | true => exact wp_cond_true hv (kt rfl a' h')
  | false => exact wp_cond_false hv (kf rfl a' h')
end
end Ap
end Go.Proofs.Ytaojjpdlfnphiaa.PDescKinds
end
section
/- invariant.apply: its stores, and the property that goes. -/
set_option linter.unusedSimpArgs false
set_option linter.unusedVariables false
set_option linter.unusedSectionVars false
namespace Go.Proofs.Ytaojjpdlfnphiaa.PDescKinds
open Go.RowKit Go.Ev
theorem V.agg_cells (v : V) : v.agg.cells.toList = v.list := by rfl
theorem D.agg_cells (d : D) : d.agg.cells.toList = d.list := by rfl
theorem V.list_one (v : V) : ∀ u ∈ v.list, u.oneCell' = true := by
  intro u hu
  simp only [V.list, List.mem_cons, List.not_mem_nil, or_false] at hu
  rcases hu with rfl | rfl | rfl | rfl | rfl <;> rfl
theorem map_erase {α : Type} (f : Nat → α) {n i : Nat} (hi : i < n) : (List.range (n - 1)).map (fun j => if j < i then f j else f (j + 1)) = ((List.range n).map f).eraseIdx i := by
  apply List.ext_getElem?
  intro j
  rw [List.getElem?_eraseIdx, List.getElem?_map, List.getElem?_map, List.getElem?_map]
  by_cases h : j < n - 1
  · rw [List.getElem?_range h, List.getElem?_range (by omega : j < n), List.getElem?_range (by omega : j + 1 < n)]
    by_cases e : j < i
    · simp only [if_pos e, Option.map_some]
    · simp only [if_neg e, Option.map_some]
  · rw [List.getElem?_eq_none (l := List.range (n - 1)) (by simpa using h), if_neg (by omega), List.getElem?_eq_none (l := List.range n) (by simp; omega)]
    rfl
namespace Ap
/-- What has come of a moment. -/
structure Fin (B : Nat) (v0 : Value) (mo mo' : Mo) (w : World) (a' : Act) (w' : World) : Prop where
  size : a'.tmps.size = 114
  defers : a'.defers = []
  t0 : a'.tmps.getD 0 undef = v0
  own : OwnMo B w' mo'
  below : Below B w w'
  row : Value.slice mo'.A mo'.n mo'.c = Value.slice mo.A mo.n mo.c
section
variable {v0 : Value} {i what : Int} {a : Act} {w : World} {Q : Exit → Act → World → Prop} {B : Nat} {mo : Mo} {δ : Dl} {k gb g : Nat}
abbrev bxP (gb : Nat) : Value := .pointer (some ⟨gb, 0, none⟩)
abbrev shP (g k : Nat) : Value := .pointer (some ⟨g, k * 8, none⟩)
theorem At.arX {sA : Option Addr} {s : List SV} (h : At v0 (bxP gb) (shP g k) i what a) (w : World) : @AR (rowsX (some ⟨gb, 0, none⟩) δ.cells sA s) 114 (fun _ => 0) (pickT [(0, .val v0), (3, .xp [] 0 0), (6, .val (shP g k))]) (fun _ => none) a := by
  letI := rowsX (some ⟨gb, 0, none⟩) δ.cells sA s
  refine ar_of w h.size h.defers (fun p hp => ?_) (fun p hp => ?_)
  · simp only [List.mem_cons, List.not_mem_nil, or_false] at hp
    rcases hp with rfl | rfl | rfl
    · exact h.t0.trans (den_val _ _).symm
    · refine h.t3.trans ?_
      rw [den_xp]
      rfl
    · exact h.t6.trans (den_val _ _).symm
  · simp only [List.mem_cons, List.not_mem_nil, or_false] at hp
    rcases hp with rfl | rfl | rfl
    · exact ok_val _ _
    · exact ok_xp.2 (by show 0 < 1; omega)
    · exact ok_val _ _
theorem At.arS {s : List SV} (h : At v0 (bxP gb) (shP g k) i what a) (w : World) : @AR (rowsX (some ⟨gb, 0, none⟩) δ.cells (some ⟨g, k * 8, none⟩) s) 114 (fun _ => 0) (pickT [(0, .val v0), (3, .xp [] 0 0), (6, .xp [0] 0 0), (7, .val (.int .i64 i))]) (fun _ => none) a := by
  letI := rowsX (some ⟨gb, 0, none⟩) δ.cells (some ⟨g, k * 8, none⟩) s
  refine ar_of w h.size h.defers (fun p hp => ?_) (fun p hp => ?_)
  · simp only [List.mem_cons, List.not_mem_nil, or_false] at hp
    rcases hp with rfl | rfl | rfl | rfl
    · exact h.t0.trans (den_val _ _).symm
    · refine h.t3.trans ?_
      rw [den_xp]
      rfl
    · refine h.t6.trans ?_
      rw [den_xp]
      show shP g k = .pointer (some ((⟨g, k * 8, none⟩ : Addr).add (0 * s.length + 0)))
      rw [add_none]
      simp
    · exact h.t7.trans (den_val _ _).symm
  · simp only [List.mem_cons, List.not_mem_nil, or_false] at hp
    rcases hp with rfl | rfl | rfl | rfl
    · exact ok_val _ _
    · exact ok_xp.2 (by show 0 < 1; omega)
    · exact ok_xp.2 (by show 0 < 1; omega)
    · exact ok_val _ _
/-- A store into the shape. -/
theorem cellsR {id : Nat} {ops : Array Oper} {tv tp off : Nat} {ty : TypeId} {x : Value} {s' : Sh} (h : At v0 (bxP gb) (shP g k) i what a) (hO : OwnMo B w mo) (hB : B ≤ w.heap.size) (hk : k < mo.n) (hA : mo.A = some ⟨g, 0, none⟩) (hbx : Boxed w gb δ)
    (hev : letI := rowsX (some ⟨gb, 0, none⟩) δ.cells (some ⟨gb, 0, none⟩) δ.cells; (reads Try.prog 114 (ops.toList.take 5) (pickT [(0, .val v0), (3, .xp [] 0 0), (6, .val (shP g k))])).map (fun t => [0, tv, tp].map t) = some [.val v0, .val x, .val (.pointer (some ((⟨g, k * 8, none⟩ : Addr).add off)))])
    (hsp : ops.toList = ops.toList.take 5 ++ [ops.toList.getD 5 default]) (ho : (ops.toList.getD 5 default).op = .store ty (.tmp tp) (.tmp tv)) (hg : (ops.toList.getD 5 default).guard = none) (hd : (ops.toList.getD 5 default).dst = none)
    (hs : pureRun Try.prog (sizeOf ty) = some x.cells.size) (hoff : off + x.cells.size ≤ 8) (h1 : ∀ u ∈ x.cells.toList, u.oneCell' = true)
    (he : shVals s' s'.row = splice (shVals (mo.g k) (mo.g k).row) off x.cells.toList) (hr : s'.row = (mo.g k).row) (hn : s'.n = (mo.g k).n) (hgg : s'.g = (mo.g k).g)
    (hQ : ∀ mo' a' w', Fin B v0 mo mo' w a' w' → mo'.ls = mo.ls.set k s'.ls → Q .normal a' w') : (Code.region id ops false).wp Try.prog Q a w := by
  letI := rowsX (some ⟨gb, 0, none⟩) δ.cells (some ⟨gb, 0, none⟩) δ.cells
  refine wp_region_list ?_
  rw [hsp]
  refine wpList_reads hbx.xok hev (h.arX w) fun a' t' har' e => ?_
  simp only [List.map_cons, List.map_nil, List.cons.injEq, and_true] at e
  obtain ⟨e0, ev, ep⟩ := e
  rw [add_none] at ep
  obtain ⟨w', g', hA', hrun, hgr, hBg, hown⟩ := hO.cells (P := Try.prog) hk hs hoff h1 he hr hn hgg
  rw [hA] at hA'
  cases hA'
  exact wpList_store ho hg hd (ar_eval har' ep) (ar_eval har' ev) hrun (hQ _ _ _ ⟨har'.size, har'.defers, ar_eval har' e0, hown, below_grown hB hgr hBg, rfl⟩ (ls_fput _ _ _))
theorem op18 : (o18.toList.getD 8 default).op = .call { callee := .value (.func 26), args := #[.tmp 79, .tmp 80, .tmp 82], argTypes := #[50, 3, 3] } := by kernel_rfl
set_option maxRecDepth 100000 in
/-- A property goes. -/
theorem gone {id : Nat} {j : Nat} (h : At v0 (bxP gb) (shP g k) (j : Int) what a) (hO : OwnMo B w mo) (hB : B ≤ w.heap.size) (hk : k < mo.n) (hA : mo.A = some ⟨g, 0, none⟩) (hbx : Boxed w gb δ) (hj : j < (mo.g k).n) (hjs : j < 4000000000)
    (hQ : ∀ mo' a' w', Fin B v0 mo mo' w a' w' → mo'.ls = mo.ls.set k { (mo.g k).ls with ps := (mo.g k).ls.ps.eraseIdx j } → Q .normal a' w') : (Code.region id o18 false).wp Try.prog Q a w := by
  have hprops := hO.props k
  rcases row_slice hprops with ⟨_, h0, _⟩ | ⟨g2, hA2, hB2, hlt2⟩
  · omega
  have hrow : (mo.g k).row = .slice (some ⟨g2, 0, none⟩) (mo.g k).n (mo.g k).c := by unfold Sh.row; rw [hA2]
  have hxok : @XOk (rowsX (some ⟨gb, 0, none⟩) δ.cells (some ⟨g, k * 8, none⟩) ((shVals (mo.g k) (.slice (some ⟨g2, 0, none⟩) (mo.g k).n (mo.g k).c)).map SV.val)) w := by
    rw [← hrow]
    exact xok_X hbx.row (shape_row hO hk hA)
  have hw : IntKind.i64.wrap ((j : Int) + 1) = ((j + 1 : Nat) : Int) := by
    have := wr (n := 5000000000) (i := j) (by omega) (by omega)
    exact this
  refine wp_region_list ?_
  rw [so18]
  letI := rowsX (some ⟨gb, 0, none⟩) δ.cells (some ⟨g, k * 8, none⟩) ((shVals (mo.g k) (.slice (some ⟨g2, 0, none⟩) (mo.g k).n (mo.g k).c)).map SV.val)
  have har0 : AR 114 (fun _ => 0) (pickT [(0, .val v0), (6, .xp [0] 0 0), (7, .val (.int .i64 (j : Int)))]) (fun _ => none) a := by
    have := h.arS (δ := δ) (s := (shVals (mo.g k) (.slice (some ⟨g2, 0, none⟩) (mo.g k).n (mo.g k).c)).map SV.val) w
    refine ar_of w h.size h.defers (fun p hp => ?_) (fun p hp => ?_)
    · simp only [List.mem_cons, List.not_mem_nil, or_false] at hp
      rcases hp with rfl | rfl | rfl
      · exact ar_get this (i := 0) rfl rfl
      · exact ar_get this (i := 6) rfl rfl
      · exact ar_get this (i := 7) rfl rfl
    · simp only [List.mem_cons, List.not_mem_nil, or_false] at hp
      rcases hp with rfl | rfl | rfl
      · exact ok_val _ _
      · exact ok_xp.2 (by show 0 < 1; omega)
      · exact ok_val _ _
  refine wpList_reads hxok (eo18 (some ⟨gb, 0, none⟩) (some ⟨g, k * 8, none⟩) δ (mo.g k) (some ⟨g2, 0, none⟩) (mo.g k).n (mo.g k).c v0 (j : Int)) har0 fun a1 t1 har1 e => ?_
  simp only [List.map_cons, List.map_nil, List.cons.injEq, and_true] at e
  obtain ⟨e0, e75, e79, e80, e82⟩ := e
  have p75 : a1.tmps.getD 75 undef = shP g k := by
    refine (ar_get har1 e75 rfl).trans ?_
    rw [den_xp]
    show Value.pointer (some ((⟨g, k * 8, none⟩ : Addr).add (0 * _ + 0))) = _
    rw [add_none]
    simp
  have p0 : a1.tmps.getD 0 undef = v0 := ar_eval har1 e0
  have p79 := ar_eval har1 e79
  have p80 := ar_eval har1 e80
  have p82 := ar_eval har1 e82
  rw [hw] at p82
  -- the call
  have hrun : (execOp a1.eval (o18.toList.getD 8 default)).run Try.prog w = .ok (.enter 26 #[.slice (some ⟨g2, 0, none⟩) (mo.g k).n (mo.g k).c, .int .i64 (j : Int), .int .i64 ((j + 1 : Nat) : Int)]) w := by
    rw [← run_enters (P := Try.prog) (f := 26) (by kernel_rfl)]
    have em : (#[Operand.tmp 79, .tmp 80, .tmp 82] : Array Operand).map a1.eval = #[.slice (some ⟨g2, 0, none⟩) (mo.g k).n (mo.g k).c, .int .i64 (j : Int), .int .i64 ((j + 1 : Nat) : Int)] := by
      simp only [List.map_toArray, List.map_cons, List.map_nil, p79, p80, p82]
    unfold execOp
    simp only [op18, resolve, em, Act.eval, Deferred.ofValue, Sem.run_bind, Sem.run_pure, Result.andThen_ok, invoke]
    simp
  refine wpList_plain (by kernel_rfl) fun K hK => ?_
  unfold Oper.wp
  rw [hrun, Oper.upon_enter]
  have hpr := hprops
  unfold Sh.row at hpr
  rw [hA2] at hpr
  refine Calls.mono (Delete.calls hpr (fun t => Pr.list_length _) (fun t u hu => Pr.list_one _ u hu) hj) fun e w1 ⟨he, hown1, hgr1⟩ => ?_
  subst he
  refine hK _ _ ?_
  rw [show (o18.toList.getD 8 default).dst = some 83 by kernel_rfl]
  obtain ⟨s1, f1, q1, r1⟩ := put_all a1 114 83 (.slice (some ⟨g2, 0, none⟩) ((mo.g k).n - 1) (mo.g k).c) har1.size (by decide)
  generalize hA1 : a1.put (some 83) (.slice (some ⟨g2, 0, none⟩) ((mo.g k).n - 1) (mo.g k).c) = a2 at s1 f1 q1 r1 ⊢
  obtain ⟨s', hs'⟩ : ∃ s' : Sh, s' = { mo.g k with n := (mo.g k).n - 1, g := fun t => if t < j then (mo.g k).g t else (mo.g k).g (t + 1) } := ⟨_, rfl⟩
  have hrow' : s'.row = .slice (some ⟨g2, 0, none⟩) ((mo.g k).n - 1) (mo.g k).c := by rw [hs']; unfold Sh.row; simp only [hA2]
  have hrowOf : Copy.rowOf s' = (List.range ((mo.g k).n - 1)).flatMap fun t => if t < j then ((mo.g k).g t).list else ((mo.g k).g (t + 1)).list := by
    rw [hs']
    unfold Copy.rowOf
    refine flat_congr _ fun t _ => ?_
    show (if t < j then (mo.g k).g t else (mo.g k).g (t + 1)).list = _
    split <;> rfl
  have hob : (mo.g k).row.ownBlock = some g2 := by rw [hrow]; rfl
  obtain ⟨w2, g', hA', hst, hgr2, hBg, hown2⟩ := hO.reprop (P := Try.prog) (w1 := w1) (s' := s') hk (by kernel_rfl) (by rw [hob]; exact hgr1) (by
    rw [hrow', hrowOf, show s'.n = (mo.g k).n - 1 by rw [hs']]
    exact hown1) (.inl (by rw [hrow', hob]; rfl)) (by rw [hs']) (by rw [hs']) (by rw [hs'])
  rw [hA] at hA'
  cases hA'
  -- the store
  have har2 : @AR row0 114 (fun _ => 0) (pickT [(0, .val v0), (75, .val (shP g k)), (83, .val s'.row)]) (fun _ => none) a2 := by
    refine @ar_of row0 _ _ _ w1 _ s1 (f1.trans har1.defers) (fun p hp => ?_) (fun p hp => ?_)
    · simp only [List.mem_cons, List.not_mem_nil, or_false] at hp
      rcases hp with rfl | rfl | rfl
      · exact ((r1 0 (by decide)).trans p0).trans (@den_val row0 _ _).symm
      · exact ((r1 75 (by decide)).trans p75).trans (@den_val row0 _ _).symm
      · rw [@den_val row0, hrow']; exact q1
    · simp only [List.mem_cons, List.not_mem_nil, or_false] at hp
      rcases hp with rfl | rfl | rfl <;> exact @ok_val row0 _ _
  refine @wpList_reads row0 _ _ _ _ _ _ _ _ _ _ _ _ (xok_0 w1) (eo18b v0 s'.row ⟨g, k * 8, none⟩) har2 fun a3 t3 har3 e => ?_
  simp only [List.map_cons, List.map_nil, List.cons.injEq, and_true] at e
  obtain ⟨e0, e83, e85⟩ := e
  rw [add_none] at e85
  refine wpList_store (t := 50) (x := .tmp 85) (y := .tmp 83) (by kernel_rfl) (by kernel_rfl) (by kernel_rfl) (@ar_eval row0 _ _ _ _ _ har3 _ _ e85) (@ar_eval row0 _ _ _ _ _ har3 _ _ e83) hst (hQ _ _ _ ⟨@AR.size row0 _ _ _ _ _ har3, @AR.defers row0 _ _ _ _ _ har3, @ar_eval row0 _ _ _ _ _ har3 _ _ e0, hown2, ?_, rfl⟩ ?_)
  · exact (below_grown hB hgr1 hB2).trans (below_grown (Nat.le_trans hB hgr1.size) hgr2 hBg)
  · rw [ls_fput]
    congr 1
    rw [hs']
    unfold Sh.ls
    simp only [LS.mk.injEq, true_and]
    exact map_erase _ hj
end
end Ap
end Go.Proofs.Ytaojjpdlfnphiaa.PDescKinds
end
section
/- invariant.apply: its regions that draw. -/
set_option linter.unusedSimpArgs false
set_option linter.unusedVariables false
set_option linter.unusedSectionVars false
namespace Go.Ev
open Go.RowKit Go.Proofs.Ytaojjpdlfnphiaa.PDescKinds
section
variable [XEnv] {P : Program} {N : Nat} {m : Nat → Nat}
theorem pickT_zip (t : Nat → SV) (i : Nat) : ∀ ns : List Nat, pickT (ns.zip (ns.map t)) i = .unk ∨ pickT (ns.zip (ns.map t)) i = t i
  | [] => .inl rfl
  | n :: r => by
    simp only [List.map_cons, List.zip_cons_cons, pickT]
    cases hb : Nat.beq i n with
    | true => right; rw [Nat.eq_of_beq_eq_true hb]; rfl
    | false => exact pickT_zip t i r
theorem ar_pick {a : Act} {t : Nat → SV} {ns : List Nat} {vs : List SV} (h : AR N m t (fun _ => none) a) (e : ns.map t = vs) : AR N m (pickT (ns.zip vs)) (fun _ => none) a := by
  subst e
  refine ⟨h.size, h.defers, fun i hi => ?_, fun i => ?_⟩
  · rcases pickT_zip t i ns with e | e
    · rw [e] at hi; cases hi
    · rw [e] at hi ⊢; exact h.tm i hi
  · rcases pickT_zip t i ns with e | e
    · rw [e]; exact ok_unk
    · rw [e]; exact h.ok i
theorem take_one {ops : Array Oper} {S : World → Prop} {Q : Act → World → Prop} (hS : ∀ w, S w → XOk w) (hns : Region.noSelect ops = true) {i : Nat} {o : Oper} {v : SV} {t : Nat → SV} {l : Array Bool} {fuel : Nat} {a : Act} {w : World} (ho : ops[i]? = some o)
    (hc : (o.guard.isNone && (Region.free .any ops l i && ((Region.ready .any ops l).contains i && dstOk N o.dst))) = true) (hv : evP P (Ev.look t) o = some v) (har : AR N m t (fun _ => none) a) (hw : S w)
    (k : ∀ a', AR N m (putS t o.dst v) (fun _ => none) a' → wpAnyH P .any ops (onlyN Q) S fuel (l.setIfInBounds i true) a' w) : wpAnyH P .any ops (onlyN Q) S (fuel + 1) l a w := by
  rw [Nat.add_comm]
  refine takes_sound hS hns [i] t (putS t o.dst v) l (l.setIfInBounds i true) fuel a w ?_ har hw k
  unfold takes
  rw [ho]
  simp only [hc, if_true, hv]
  rfl
end
end Go.Ev
namespace Go.Proofs.Ytaojjpdlfnphiaa.PDescKinds
open Go.RowKit Go.Ev
theorem D.list_one (d : D) : ∀ u ∈ d.list, u.oneCell' = true := fun u hu => Pr.list_one ⟨K0, d⟩ u (by
  show u ∈ _ :: _ :: d.list
  simp [hu])
theorem map_modify {α : Type} (f : Nat → α) (n i : Nat) (u : α → α) : (List.range n).map (fput f i (u (f i))) = ((List.range n).map f).modify i u := by
  apply List.ext_getElem?
  intro j
  rw [List.getElem?_modify, List.getElem?_map, List.getElem?_map]
  by_cases h : j < n
  · rw [List.getElem?_range h]
    by_cases e : i = j
    · subst e; simp [fput]
    · simp [e, fput, Ne.symm e]
  · rw [List.getElem?_eq_none (l := List.range n) (by simpa using h)]
    rfl
namespace Ap
section
variable {v0 : Value} {i what : Int} {a : Act} {w : World} {Q : Exit → Act → World → Prop} {B : Nat} {mo : Mo} {δ : Dl} {k gb g : Nat}
theorem i22 (j : Nat) (hj : j < 10) : o22[j]? = some (o22.toList.getD j default) := by
  have h : o22.size = 10 := by kernel_rfl
  have : o22.toList.length = 10 := by rw [Array.length_toList]; exact h
  rw [← Array.getElem?_toList, List.getD_eq_getElem?_getD, List.getElem?_eq_getElem (by omega)]
  rfl
theorem i21 (j : Nat) (hj : j < 15) : o21[j]? = some (o21.toList.getD j default) := by
  have h : o21.size = 15 := by kernel_rfl
  have : o21.toList.length = 15 := by rw [Array.length_toList]; exact h
  rw [← Array.getElem?_toList, List.getD_eq_getElem?_getD, List.getElem?_eq_getElem (by omega)]
  rfl
theorem i2 (j : Nat) (hj : j < 18) : o2[j]? = some (o2.toList.getD j default) := by
  have h : o2.size = 18 := by kernel_rfl
  have : o2.toList.length = 18 := by rw [Array.length_toList]; exact h
  rw [← Array.getElem?_toList, List.getD_eq_getElem?_getD, List.getElem?_eq_getElem (by omega)]
  rfl
set_option maxRecDepth 100000 in
/-- A property put anew. -/
theorem put22 {id j : Nat} (h : At v0 (bxP gb) (shP g k) (j : Int) what a) (hO : OwnMo B w mo) (hB : B ≤ w.heap.size) (hk : k < mo.n) (hA : mo.A = some ⟨g, 0, none⟩) (hbx : Boxed w gb δ) (hj : j < (mo.g k).n) (hlt : ∀ t b, (mo.g t).row.ownBlock = some b → b < gb)
    (hQ : ∀ mo' a' w', Fin B v0 mo mo' w a' w' → mo'.ls = mo.ls.set k { (mo.g k).ls with ps := (mo.g k).ls.ps.modify j fun q => { q with d := δ.d } } → Q .normal a' w') : (Code.region id o22 true).wp Try.prog Q a w := by
  have hprops := hO.props k
  rcases row_slice hprops with ⟨_, h0, _⟩ | ⟨g2, hA2, hB2, hlt2⟩
  · omega
  have hrow : (mo.g k).row = .slice (some ⟨g2, 0, none⟩) (mo.g k).n (mo.g k).c := by unfold Sh.row; rw [hA2]
  have hg2 : g2 < gb := hlt k g2 (by rw [hrow]; rfl)
  have hxok : ∀ w' mo', OwnMo B w' mo' → Boxed w' gb δ → mo'.A = mo.A → mo'.n = mo.n → (mo'.g k).cl = (mo.g k).cl → (mo'.g k).p = (mo.g k).p → (mo'.g k).x = (mo.g k).x → (mo'.g k).row = (mo.g k).row →
      @XOk (rowsX (some ⟨gb, 0, none⟩) δ.cells (some ⟨g, k * 8, none⟩) ((shVals (mo.g k) (.slice (some ⟨g2, 0, none⟩) (mo.g k).n (mo.g k).c)).map SV.val)) w' := by
    intro w' mo' h1 h2 h3 h4 h5 h6 h7 h8
    have e : shVals (mo'.g k) (mo'.g k).row = shVals (mo.g k) (.slice (some ⟨g2, 0, none⟩) (mo.g k).n (mo.g k).c) := by
      rw [h8, ← hrow]
      unfold shVals
      rw [h5, h6, h7]
    have := shape_row h1 (k := k) (g := g) (by rw [h4]; exact hk) (by rw [h3]; exact hA)
    rw [e] at this
    exact xok_X h2.row this
  refine region_drawn (fun w' => @XOk (rowsX (some ⟨gb, 0, none⟩) δ.cells (some ⟨g, k * 8, none⟩) ((shVals (mo.g k) (.slice (some ⟨g2, 0, none⟩) (mo.g k).n (mo.g k).c)).map SV.val)) w') ?_
  rw [show o22.size = 10 by kernel_rfl]
  have hb1 := below_drew w.heap.size w
  have hO1 := hO.below hb1
  have hbx1 : Boxed { w with drawn := w.drawn + 1 } gb δ := hbx
  have hB1 : B ≤ ({ w with drawn := w.drawn + 1 } : World).heap.size := hB
  have hbB := below_drew B w
  generalize hw1 : ({ w with drawn := w.drawn + 1 } : World) = w1 at hO1 hbx1 hB1 hbB ⊢
  letI := rowsX (some ⟨gb, 0, none⟩) δ.cells (some ⟨g, k * 8, none⟩) ((shVals (mo.g k) (.slice (some ⟨g2, 0, none⟩) (mo.g k).n (mo.g k).c)).map SV.val)
  have hS1 := hxok w1 mo hO1 hbx1 rfl rfl rfl rfl rfl rfl
  show wpAnyH Try.prog .any o22 _ _ ([0, 1, 2, 3, 4, 5, 6].length + 3) #[false, false, false, false, false, false, false, false, false, false] a w1
  refine takes_cut (fun w h => h) (by kernel_rfl) (eo22 (some ⟨gb, 0, none⟩) (some ⟨g, k * 8, none⟩) δ (mo.g k) ⟨g2, 0, none⟩ (mo.g k).n (mo.g k).c v0 (j : Int)) (h.arS w1) hS1 fun a1 t1 har1 e => ?_
  have har2 := ar_pick har1 e
  refine take_one (o := o22.toList.getD 7 default) (v := .val (.pointer (some ⟨g2, j * 20, none⟩))) (fun w h => h) (by kernel_rfl) (i22 7 (by decide)) (by kernel_rfl) ?_ har2 hS1 fun a2 har3 => ?_
  · refine (e22i ⟨g2, 0, none⟩ (mo.g k).n (mo.g k).c v0 δ.d.agg (j : Int)).trans ?_
    rw [decide_eq_true (by omega), decide_eq_true (by omega), add_none]
    simp
  have har4 := ar_pick har3 (e22p ⟨g2, 0, none⟩ (mo.g k).n (mo.g k).c v0 δ.d.agg (j : Int) _)
  show wpAnyH Try.prog .any o22 _ _ ([8].length + 1) #[true, true, true, true, true, true, true, true, false, false] a2 w1
  refine takes_cut (fun w h => h) (by kernel_rfl) (eo22b v0 δ.d.agg ⟨g2, j * 20, none⟩) har4 hS1 fun a3 t3 har5 e => ?_
  simp only [List.map_cons, List.map_nil, List.cons.injEq, and_true] at e
  obtain ⟨e0, e110, e112⟩ := e
  rw [add_none] at e112
  have p0 := ar_eval har5 e0
  have p110 := ar_eval har5 e110
  have p112 := ar_eval har5 e112
  obtain ⟨w2, g', hA', hrun, hgr, hBg, hown⟩ := hO1.prop (P := Try.prog) (k := k) (i := j) (o := 2) (ty := 33) (x := δ.d.agg) (q' := { (mo.g k).g j with d := δ.d }) hj (by kernel_rfl) (by show 2 + 18 ≤ 20; omega) (by rw [D.agg_cells]; exact D.list_one δ.d) (by rw [D.agg_cells]; rfl)
  rw [hA2] at hA'
  cases hA'
  have hbx2 : Boxed w2 gb δ := by
    have h1 : gb < w1.heap.size := (Array.getElem?_eq_some_iff.1 hbx1).1
    exact (hgr.block gb h1 (by simp; omega)).trans hbx1
  have hS2 := hxok w2 _ hown hbx2 rfl rfl (by simp [fput]) (by simp [fput]) (by simp [fput]) (by simp [fput, Sh.row])
  refine wpAnyH_all (rs := [9]) (by kernel_rfl) (by simp) fun q hq => ?_
  obtain rfl : q = 9 := by simpa using hq
  refine wpOp_of (i22 9 (by decide)) (by kernel_rfl) ?_
  unfold Oper.wp
  rw [store_run (o := o22.toList.getD 9 default) (t := 33) (x := .tmp 112) (y := .tmp 110) (by kernel_rfl) p112 p110 hrun, Oper.upon_skip, show (o22.toList.getD 9 default).dst = none by kernel_rfl]
  refine ⟨hS2, ?_⟩
  refine wpAnyH_done (by kernel_rfl) ?_ 0
  show Q .normal a3 w2
  refine hQ _ _ _ ⟨har5.size, har5.defers, p0, hown, hbB.trans (below_grown hB1 hgr hB2), rfl⟩ ?_
  rw [ls_fput]
  congr 1
  unfold Sh.ls
  simp only [LS.mk.injEq, true_and]
  exact map_modify (mo.g k).g (mo.g k).n j fun q => { q with d := δ.d }
end
end Ap
end Go.Proofs.Ytaojjpdlfnphiaa.PDescKinds
end
section
/- invariant.apply: a property more, an object more. -/
set_option linter.unusedSimpArgs false
set_option linter.unusedVariables false
set_option linter.unusedSectionVars false
namespace Go.Proofs.Ytaojjpdlfnphiaa.PDescKinds
open Go.RowKit Go.Ev
namespace Ap
theorem ctx0 : @Ctx row0 Try.prog ext (tab []) (fun _ => True) := by
  letI := row0
  exact ⟨mixed, ext_sound, fun _ _ _ _ => trivial, fun w _ => xok_0 w, tab_sound entries_nil⟩
section
variable {v0 : Value} {i what : Int} {a : Act} {w : World} {Q : Exit → Act → World → Prop} {B : Nat} {mo : Mo} {δ : Dl} {k gb g : Nat}
/-- Where region 21 stands behind the load and the new slice. -/
structure T21 (v0 A6 row : Value) (gn : Nat) (a : Act) : Prop where
  size : a.tmps.size = 114
  defers : a.defers = []
  t0 : a.tmps.getD 0 undef = v0
  t90 : a.tmps.getD 90 undef = A6
  t94 : a.tmps.getD 94 undef = row
  t100 : a.tmps.getD 100 undef = .slice (some ⟨gn, 0, none⟩) 1 1
set_option maxRecDepth 100000 in
theorem tail21 {gn : Nat} {w0 : World} (h : T21 v0 (shP g k) (mo.g k).row gn a) (hO : OwnMo B w mo) (hB : B ≤ w.heap.size) (hk : k < mo.n) (hA : mo.A = some ⟨g, 0, none⟩) (hbx : Boxed w gb δ) (hgb : g < gb) (hlt : ∀ t b, (mo.g t).row.ownBlock = some b → b < gb)
    (hn : (mo.g k).n ≤ 2000000) (hnew : w.heap[gn]? = some (.cells (Pr.list ⟨δ.k, δ.d⟩).toArray 55 (0, 0))) (hb0 : Below B w0 w)
    (hQ : ∀ mo' a' w', Fin B v0 mo mo' w0 a' w' → mo'.ls = mo.ls.set k { (mo.g k).ls with ps := (mo.g k).ls.ps ++ [⟨δ.k, δ.d⟩] } → Q .normal a' w') :
    wpAnyH Try.prog .any o21 (onlyN fun a w => Q .normal a w) (fun w' => Boxed w' gb δ) 4 #[true, true, true, true, true, true, true, true, true, true, true, false, false, false, false] a w := by
  refine wpAnyH_all (rs := [11]) (by kernel_rfl) (by simp) fun q hq => ?_
  obtain rfl : q = 11 := by simpa using hq
  refine wpOp_of (i21 11 (by decide)) (by kernel_rfl) ?_
  obtain ⟨i66, z66, q1, q2, q3, q4, q5⟩ := Copy.info66
  have hM : maxLen = 9223372036854775807 := by decide +kernel
  refine wp_append_fresh (w := w) (o := o21.toList.getD 11 default) (.tmp 94) (.tmp 100) 50 (by kernel_rfl) B 55 i66 z66 20 192 Try.underlying50 q1 q2 q3 q4 q5 (by decide) (mo.g k).row (mo.g k).n (Copy.rowOf (mo.g k)) h.t94 (hO.props k) ⟨gn, 0, none⟩ 1 1 (Pr.list ⟨δ.k, δ.d⟩) h.t100 (Pr.list_length _) (fun j u hu => ?_) (Pr.list_one _) (by omega) (by omega) hB fun v' w1 hown hgr hf => ?_
  · rw [add_none, cell_of_row w gn _ _ 55 (0, 0) hnew]
    simpa using hu
  have hbx1 : Boxed w1 gb δ := by
    have h1 : gb < w.heap.size := (Array.getElem?_eq_some_iff.1 hbx).1
    exact (hgr.block gb h1 (fun e => by have := hlt k gb e.symm; omega)).trans hbx
  refine ⟨hbx1, ?_⟩
  rw [show (o21.toList.getD 11 default).dst = some 101 by kernel_rfl]
  obtain ⟨s1, f1, p1, r1⟩ := put_all a 114 101 v' h.size (by decide)
  generalize hA1 : a.put (some 101) v' = a1 at s1 f1 p1 r1 ⊢
  letI := row0
  have har : AR 114 (fun _ => 0) (pickT [(0, .val v0), (90, .val (.pointer (some ⟨g, k * 8, none⟩))), (101, .val v')]) (fun _ => none) a1 := by
    refine ar_of w1 s1 (f1.trans h.defers) (fun p hp => ?_) (fun p hp => ?_)
    · simp only [List.mem_cons, List.not_mem_nil, or_false] at hp
      rcases hp with rfl | rfl | rfl
      · exact ((r1 0 (by decide)).trans h.t0).trans (den_val _ _).symm
      · exact ((r1 90 (by decide)).trans h.t90).trans (den_val _ _).symm
      · exact p1.trans (den_val _ _).symm
    · simp only [List.mem_cons, List.not_mem_nil, or_false] at hp
      rcases hp with rfl | rfl | rfl <;> exact ok_val _ _
  show wpAnyH Try.prog .any o21 _ _ ([12, 13].length + 1) #[true, true, true, true, true, true, true, true, true, true, true, true, false, false, false] a1 w1
  refine takes_cut (fun w _ => xok_0 w) (by kernel_rfl) (eo21b v0 v' ⟨g, k * 8, none⟩) har hbx1 fun a2 t2 har2 e => ?_
  simp only [List.map_cons, List.map_nil, List.cons.injEq, and_true] at e
  obtain ⟨e0, e101, e103⟩ := e
  rw [add_none] at e103
  obtain ⟨s', hs'⟩ : ∃ s' : Sh, s' = { mo.g k with A := slA v', n := (mo.g k).n + 1, c := slC v', g := fput (mo.g k).g (mo.g k).n ⟨δ.k, δ.d⟩ } := ⟨_, rfl⟩
  have hv := (own_slice hown).1
  have hrow' : s'.row = v' := by
    rw [hs']
    unfold Sh.row
    exact hv.symm
  have hrowOf : Copy.rowOf s' = Copy.rowOf (mo.g k) ++ Pr.list ⟨δ.k, δ.d⟩ := by
    rw [hs']
    unfold Copy.rowOf
    show ((List.range ((mo.g k).n + 1)).flatMap fun t => (fput (mo.g k).g (mo.g k).n ⟨δ.k, δ.d⟩ t).list) = _
    rw [List.range_succ, List.flatMap_append, flat_congr (mo.g k).n (g := fun t => ((mo.g k).g t).list) fun t ht => by simp only [fput]; rw [if_neg (by omega)]]
    simp [fput]
  obtain ⟨w2, g', hA', hst, hgr2, hBg, hown2⟩ := hO.reprop (P := Try.prog) (w1 := w1) (s' := s') hk (by kernel_rfl) hgr (by
    rw [hrow', hrowOf, show s'.n = (mo.g k).n + 1 by rw [hs']]
    exact hown) (by rw [hrow']; exact hf) (by rw [hs']) (by rw [hs']) (by rw [hs'])
  rw [hA] at hA'
  cases hA'
  have hbx2 : Boxed w2 gb δ := by
    have h1 : gb < w1.heap.size := (Array.getElem?_eq_some_iff.1 hbx1).1
    exact (hgr2.block gb h1 (by simp; omega)).trans hbx1
  refine wpAnyH_all (rs := [14]) (by kernel_rfl) (by simp) fun q hq => ?_
  obtain rfl : q = 14 := by simpa using hq
  refine wpOp_of (i21 14 (by decide)) (by kernel_rfl) ?_
  rw [hrow'] at hst
  unfold Oper.wp
  rw [store_run (o := o21.toList.getD 14 default) (t := 50) (x := .tmp 103) (y := .tmp 101) (by kernel_rfl) (ar_eval har2 e103) (ar_eval har2 e101) hst, Oper.upon_skip, show (o21.toList.getD 14 default).dst = none by kernel_rfl]
  refine ⟨hbx2, ?_⟩
  refine wpAnyH_done (by kernel_rfl) ?_ 0
  show Q .normal a2 w2
  refine hQ _ _ _ ⟨har2.size, har2.defers, ar_eval har2 e0, hown2, (hb0.trans (below_own hB (hO.props k) hgr)).trans (below_grown (Nat.le_trans hB hgr.size) hgr2 hBg), rfl⟩ ?_
  rw [ls_fput]
  congr 1
  rw [hs']
  unfold Sh.ls
  simp only [LS.mk.injEq, true_and]
  rw [List.range_succ, List.map_append, List.map_congr_left (g := (mo.g k).g) fun t ht => by
    have := List.mem_range.1 ht
    simp only [fput]
    rw [if_neg (by omega)]]
  simp [fput]
set_option maxRecDepth 100000 in
theorem load21 {a : Act} {w : World} (hO : OwnMo B w mo) (hk : k < mo.n) (hA : mo.A = some ⟨g, 0, none⟩) (hbx : Boxed w gb δ) (hs : a.tmps.size = 114) (hd : a.defers = []) (h93 : a.tmps.getD 93 undef = .pointer (some ⟨g, k * 8 + 7, none⟩)) :
    (execOp a.eval (o21.toList.getD 4 default)).run Try.prog w = .ok (.value (mo.g k).row) w := by
  letI := rowsX (some ⟨gb, 0, none⟩) δ.cells (some ⟨g, k * 8, none⟩) ((shVals (mo.g k) (mo.g k).row).map SV.val)
  have har : AR 114 (fun _ => 0) (pickT [(93, .xp [0] 0 7)]) (fun _ => none) a := by
    refine ar_of w hs hd (fun p hp => ?_) (fun p hp => ?_)
    · obtain rfl := List.mem_singleton.1 hp
      refine h93.trans ?_
      rw [den_xp]
      show _ = Value.pointer (some ((⟨g, k * 8, none⟩ : Addr).add (0 * _ + 7)))
      rw [add_none]
      simp
    · obtain rfl := List.mem_singleton.1 hp
      exact ok_xp.2 (by show 0 < 1; omega)
  have := (evP_run (m := fun _ => 0) (w := w) (xok_X hbx.row (shape_row hO hk hA)) (fun x => har.look_ok x) (fun x hk => har.eval x hk) (eo21l (some ⟨gb, 0, none⟩) (some ⟨g, k * 8, none⟩) δ (mo.g k) (mo.g k).A (mo.g k).n (mo.g k).c)).1
  rw [den_val] at this
  exact this
set_option maxRecDepth 100000 in
theorem new21 {a : Act} {w : World} {K : Act → World → Prop} {Q : Exit → Act → World → Prop} {q : Pr} (hs : a.tmps.size = 114) (hd : a.defers = []) (h99 : a.tmps.getD 99 undef = q.agg)
    (hK : ∀ gn w', Below w.heap.size w w' → w.heap.size ≤ gn → w'.heap[gn]? = some (.cells q.list.toArray 55 (0, 0)) → K (a.put (some 100) (.slice (some ⟨gn, 0, none⟩) 1 1)) w') : (o21.toList.getD 10 default).wp Try.prog a w K Q := by
  have har : @AR row0 114 (fun _ => 0) (pickT [(99, .val q.agg)]) (fun _ => none) a := by
    letI := row0
    refine ar_of w hs hd (fun p hp => ?_) (fun p hp => ?_)
    · obtain rfl := List.mem_singleton.1 hp
      exact h99.trans (den_val _ _).symm
    · obtain rfl := List.mem_singleton.1 hp
      exact ok_val _ _
  refine build1 har (eo21n q) fun gn w' h1 h2 h3 => ?_
  rw [show (o21.toList.getD 10 default).dst = some 100 by kernel_rfl]
  exact hK gn w' h1 h2 h3
set_option maxRecDepth 100000 in
/-- A property more. -/
theorem put21 {id : Nat} (h : At v0 (bxP gb) (shP g k) i what a) (hO : OwnMo B w mo) (hB : B ≤ w.heap.size) (hk : k < mo.n) (hA : mo.A = some ⟨g, 0, none⟩) (hbx : Boxed w gb δ) (hgb : g < gb) (hlt : ∀ t b, (mo.g t).row.ownBlock = some b → b < gb)
    (hn : (mo.g k).n ≤ 2000000) (hQ : ∀ mo' a' w', Fin B v0 mo mo' w a' w' → mo'.ls = mo.ls.set k { (mo.g k).ls with ps := (mo.g k).ls.ps ++ [⟨δ.k, δ.d⟩] } → Q .normal a' w') : (Code.region id o21 true).wp Try.prog Q a w := by
  refine region_drawn (fun w' => Boxed w' gb δ) ?_
  rw [show o21.size = 15 by kernel_rfl]
  have hb1 := below_drew w.heap.size w
  have hO1 := hO.below hb1
  have hbx1 : Boxed { w with drawn := w.drawn + 1 } gb δ := hbx
  have hB1 : B ≤ ({ w with drawn := w.drawn + 1 } : World).heap.size := hB
  have hbB := below_drew B w
  generalize hw1 : ({ w with drawn := w.drawn + 1 } : World) = w1 at hO1 hbx1 hB1 hbB ⊢
  letI := rowsX (some ⟨gb, 0, none⟩) δ.cells (some ⟨gb, 0, none⟩) δ.cells
  show wpAnyH Try.prog .any o21 _ _ ([0, 1, 2, 3, 5, 6, 7, 8, 9].length + 6) #[false, false, false, false, false, false, false, false, false, false, false, false, false, false, false] a w1
  refine takes_cut (fun w h => Boxed.xok h) (by kernel_rfl) (eo21 (some ⟨gb, 0, none⟩) δ v0 ⟨g, k * 8, none⟩) (h.arX w1) hbx1 fun a1 t1 har1 e => ?_
  simp only [List.map_cons, List.map_nil, List.cons.injEq, and_true] at e
  obtain ⟨e0, e90, e93, e99⟩ := e
  rw [add_none] at e93
  have z1 := har1.size
  have z2 := har1.defers
  have p0 : a1.tmps.getD 0 undef = v0 := ar_eval har1 e0
  have p90 : a1.tmps.getD 90 undef = shP g k := ar_eval har1 e90
  have p93 : a1.tmps.getD 93 undef = .pointer (some ⟨g, k * 8 + 7, none⟩) := ar_eval har1 e93
  have p99 : a1.tmps.getD 99 undef = Pr.agg ⟨δ.k, δ.d⟩ := ar_eval har1 e99
  refine wpAnyH_all (rs := [4, 10]) (by kernel_rfl) (by simp) fun q hq => ?_
  simp only [List.mem_cons, List.not_mem_nil, or_false] at hq
  rcases hq with rfl | rfl
  · -- the load comes first
    refine wpOp_of (i21 4 (by decide)) (by kernel_rfl) ?_
    unfold Oper.wp
    rw [load21 hO1 hk hA hbx1 z1 z2 p93, Oper.upon_value, show (o21.toList.getD 4 default).dst = some 94 by kernel_rfl]
    refine ⟨hbx1, ?_⟩
    obtain ⟨s2, f2, x2, r2⟩ := put_all a1 114 94 (mo.g k).row z1 (by decide)
    generalize hA2 : a1.put (some 94) (mo.g k).row = a2 at s2 f2 x2 r2 ⊢
    refine wpAnyH_all (rs := [10]) (by kernel_rfl) (by simp) fun q hq => ?_
    obtain rfl : q = 10 := by simpa using hq
    refine wpOp_of (i21 10 (by decide)) (by kernel_rfl) ?_
    refine new21 s2 (f2.trans z2) ((r2 99 (by decide)).trans p99) fun gn w2 b1 b2 b3 => ?_
    have hbx2 := hbx1.kept b1 (Array.getElem?_eq_some_iff.1 hbx1).1
    refine ⟨hbx2, ?_⟩
    obtain ⟨s3, f3, x3, r3⟩ := put_all a2 114 100 (.slice (some ⟨gn, 0, none⟩) 1 1) s2 (by decide)
    exact tail21 (w0 := w) ⟨s3, f3.trans (f2.trans z2), (r3 0 (by decide)).trans ((r2 0 (by decide)).trans p0), (r3 90 (by decide)).trans ((r2 90 (by decide)).trans p90), (r3 94 (by decide)).trans x2, x3⟩ (hO1.below b1) (Nat.le_trans hB1 b1.size) hk hA hbx2 hgb hlt hn b3
      (hbB.trans (b1.mono hB1)) hQ
  · -- the new slice comes first
    refine wpOp_of (i21 10 (by decide)) (by kernel_rfl) ?_
    refine new21 z1 z2 p99 fun gn w2 b1 b2 b3 => ?_
    have hbx2 := hbx1.kept b1 (Array.getElem?_eq_some_iff.1 hbx1).1
    refine ⟨hbx2, ?_⟩
    obtain ⟨s2, f2, x2, r2⟩ := put_all a1 114 100 (.slice (some ⟨gn, 0, none⟩) 1 1) z1 (by decide)
    generalize hA2 : a1.put (some 100) (.slice (some ⟨gn, 0, none⟩) 1 1) = a2 at s2 f2 x2 r2 ⊢
    refine wpAnyH_all (rs := [4]) (by kernel_rfl) (by simp) fun q hq => ?_
    obtain rfl : q = 4 := by simpa using hq
    refine wpOp_of (i21 4 (by decide)) (by kernel_rfl) ?_
    unfold Oper.wp
    rw [load21 (hO1.below b1) hk hA hbx2 s2 (f2.trans z2) ((r2 93 (by decide)).trans p93), Oper.upon_value, show (o21.toList.getD 4 default).dst = some 94 by kernel_rfl]
    refine ⟨hbx2, ?_⟩
    obtain ⟨s3, f3, x3, r3⟩ := put_all a2 114 94 (mo.g k).row s2 (by decide)
    exact tail21 (w0 := w) ⟨s3, f3.trans (f2.trans z2), (r3 0 (by decide)).trans ((r2 0 (by decide)).trans p0), (r3 90 (by decide)).trans ((r2 90 (by decide)).trans p90), x3, (r3 100 (by decide)).trans x2⟩ (hO1.below b1) (Nat.le_trans hB1 b1.size) hk hA hbx2 hgb hlt hn b3
      (hbB.trans (b1.mono hB1)) hQ
end
end Ap
end Go.Proofs.Ytaojjpdlfnphiaa.PDescKinds
end
section
/- invariant.apply: its contract over own moments. -/
set_option linter.unusedSimpArgs false
set_option linter.unusedVariables false
set_option linter.unusedSectionVars false
namespace Go.Proofs.Ytaojjpdlfnphiaa.PDescKinds
open Go.RowKit Go.Ev
namespace Ap
/-- A new object. -/
def newS (δ : Dl) : Sh := ⟨δ.n, δ.v, δ.yes, none, 0, 0, fun _ => ⟨K0, S.D0⟩⟩
section
variable {v0 : Value} {i what : Int} {a : Act} {w : World} {Q : Exit → Act → World → Prop} {B : Nat} {mo : Mo} {δ : Dl} {k gb g : Nat}
theorem shVals_one (s : Sh) : ∀ u ∈ shVals s s.row, u.oneCell' = true := by
  intro u hu
  simp only [shVals, List.mem_cons, List.not_mem_nil, or_false] at hu
  rcases hu with rfl | rfl | rfl | rfl | rfl | rfl | rfl | rfl <;> rfl
set_option maxRecDepth 100000 in
/-- An object more. -/
theorem make2 {id : Nat} (hs : a.tmps.size = 114) (hd : a.defers = []) (t0 : a.tmps.getD 0 undef = .slice mo.A mo.n mo.c) (t3 : a.tmps.getD 3 undef = bxP gb) (hO : OwnMo B w mo) (hB : B ≤ w.heap.size) (hbx : Boxed w gb δ) (hgb : ∀ b, (Value.slice mo.A mo.n mo.c).ownBlock = some b → b < gb) (hn : mo.n ≤ 2000000)
    (hQ : ∀ v a' w', a'.tmps.size = 114 → a'.defers = [] → a'.tmps.getD 4 undef = v → a'.tmps.getD 5 undef = .bool (δ.o == IntKind.i64.wrap ((mo.n : Int) + 1)) → Below B w w' → v = .slice (slA v) (mo.n + 1) (slC v) → OwnMo B w' ⟨slA v, mo.n + 1, slC v, fput mo.g mo.n (newS δ)⟩ → Q .normal a' w') :
    (Code.region id o2 true).wp Try.prog Q a w := by
  refine region_drawn (fun w' => Boxed w' gb δ) ?_
  rw [show o2.size = 18 by kernel_rfl]
  have hb1 := below_drew w.heap.size w
  have hO1 := hO.below hb1
  have hbx1 : Boxed { w with drawn := w.drawn + 1 } gb δ := hbx
  have hB1 : B ≤ ({ w with drawn := w.drawn + 1 } : World).heap.size := hB
  have hbB := below_drew B w
  generalize hw1 : ({ w with drawn := w.drawn + 1 } : World) = w1 at hO1 hbx1 hB1 hbB ⊢
  have har0 : @AR (rowsX (some ⟨gb, 0, none⟩) δ.cells (some ⟨gb, 0, none⟩) δ.cells) 114 (fun _ => 0) (pickT [(0, .val (.slice mo.A mo.n mo.c)), (3, .xp [] 0 0)]) (fun _ => none) a := by
    letI := rowsX (some ⟨gb, 0, none⟩) δ.cells (some ⟨gb, 0, none⟩) δ.cells
    refine ar_of w hs hd (fun p hp => ?_) (fun p hp => ?_)
    · simp only [List.mem_cons, List.not_mem_nil, or_false] at hp
      rcases hp with rfl | rfl
      · exact t0.trans (den_val _ _).symm
      · refine t3.trans ?_
        rw [den_xp]
        rfl
    · simp only [List.mem_cons, List.not_mem_nil, or_false] at hp
      rcases hp with rfl | rfl
      · exact ok_val _ _
      · exact ok_xp.2 (by show 0 < 1; omega)
  show wpAnyH Try.prog .any o2 _ _ ([0, 1, 2, 3, 4, 5, 6, 7, 10, 11, 12, 13, 14, 15].length + 4) #[false, false, false, false, false, false, false, false, false, false, false, false, false, false, false, false, false, false] a w1
  refine @takes_cut (rowsX (some ⟨gb, 0, none⟩) δ.cells (some ⟨gb, 0, none⟩) δ.cells) _ _ _ _ _ _ (fun w h => Boxed.xok h) (by kernel_rfl) _ _ _ _ _ _ _ _ _ (eo2 (some ⟨gb, 0, none⟩) δ mo.A mo.n mo.c) har0 hbx1 fun a1 t1 har1 e => ?_
  simp only [List.map_cons, List.map_nil, List.cons.injEq, and_true] at e
  obtain ⟨e0, e11, e18, e26⟩ := e
  have z1 := @AR.size (rowsX (some ⟨gb, 0, none⟩) δ.cells (some ⟨gb, 0, none⟩) δ.cells) _ _ _ _ _ har1
  have z2 := @AR.defers (rowsX (some ⟨gb, 0, none⟩) δ.cells (some ⟨gb, 0, none⟩) δ.cells) _ _ _ _ _ har1
  have p11 : a1.tmps.getD 11 undef = .slice mo.A mo.n mo.c := @ar_eval (rowsX (some ⟨gb, 0, none⟩) δ.cells (some ⟨gb, 0, none⟩) δ.cells) _ _ _ _ _ har1 _ _ e11
  have p18 : a1.tmps.getD 18 undef = .agg (shVals (newS δ) (.slice none 0 0)).toArray := @ar_eval (rowsX (some ⟨gb, 0, none⟩) δ.cells (some ⟨gb, 0, none⟩) δ.cells) _ _ _ _ _ har1 _ _ e18
  have p26 : a1.tmps.getD 26 undef = .bool (δ.o == IntKind.i64.wrap ((mo.n : Int) + 1)) := @ar_eval (rowsX (some ⟨gb, 0, none⟩) δ.cells (some ⟨gb, 0, none⟩) δ.cells) _ _ _ _ _ har1 _ _ e26
  letI := row0
  refine wpAnyH_all (rs := [8]) (by kernel_rfl) (by simp) fun q hq => ?_
  obtain rfl : q = 8 := by simpa using hq
  refine wpOp_of (i2 8 (by decide)) (by kernel_rfl) ?_
  have har2 : AR 114 (fun _ => 0) (pickT [(18, .val (.agg (shVals (newS δ) (.slice none 0 0)).toArray))]) (fun _ => none) a1 := by
    refine ar_of w z1 z2 (fun p hp => ?_) (fun p hp => ?_)
    · obtain rfl := List.mem_singleton.1 hp
      exact p18.trans (den_val _ _).symm
    · obtain rfl := List.mem_singleton.1 hp
      exact ok_val _ _
  refine build1 har2 (eo2n (newS δ) (.slice none 0 0)) fun gn w2 b1 b2 b3 => ?_
  have hbx2 := hbx1.kept b1 (Array.getElem?_eq_some_iff.1 hbx1).1
  have hO2 := hO1.below b1
  have hB2 : B ≤ w2.heap.size := Nat.le_trans hB1 b1.size
  refine ⟨hbx2, ?_⟩
  rw [show (o2.toList.getD 8 default).dst = some 19 by kernel_rfl]
  obtain ⟨s2, f2, x2, r2⟩ := put_all a1 114 19 (.slice (some ⟨gn, 0, none⟩) 1 1) z1 (by decide)
  generalize hA2 : a1.put (some 19) (.slice (some ⟨gn, 0, none⟩) 1 1) = a2 at s2 f2 x2 r2 ⊢
  refine wpAnyH_all (rs := [9]) (by kernel_rfl) (by simp) fun q hq => ?_
  obtain rfl : q = 9 := by simpa using hq
  refine wpOp_of (i2 9 (by decide)) (by kernel_rfl) ?_
  obtain ⟨i60, z60, q1, q2, q3, q4, q5⟩ := Copy.info60
  have hM : maxLen = 9223372036854775807 := by decide +kernel
  refine wp_append_fresh (w := w2) (o := o2.toList.getD 9 default) (.tmp 11) (.tmp 19) 22 (by kernel_rfl) B 52 i60 z60 8 88 (by kernel_rfl) q1 q2 q3 q4 q5 (by decide) (.slice mo.A mo.n mo.c) mo.n _ ((r2 11 (by decide)).trans p11) hO2.row ⟨gn, 0, none⟩ 1 1 (shVals (newS δ) (newS δ).row) x2 (shVals_length _ _) (fun j u hu => ?_) (shVals_one _) (by omega) (by omega) hB2 fun v' w3 hown hgr hf => ?_
  · rw [add_none, cell_of_row w2 gn _ _ 52 (0, 0) b3]
    have hu : (shVals (newS δ) (.slice none 0 0))[j]? = some u := hu
    simpa using hu
  have hbx3 : Boxed w3 gb δ := by
    have h1 : gb < w2.heap.size := (Array.getElem?_eq_some_iff.1 hbx2).1
    exact (hgr.block gb h1 (fun e => by have := hgb gb e.symm; omega)).trans hbx2
  refine ⟨hbx3, ?_⟩
  rw [show (o2.toList.getD 9 default).dst = some 20 by kernel_rfl]
  obtain ⟨s3, f3, x3, r3⟩ := put_all a2 114 20 v' s2 (by decide)
  generalize hA3 : a2.put (some 20) v' = a3 at s3 f3 x3 r3 ⊢
  have har3 : AR 114 (fun _ => 0) (pickT [(20, .val v'), (26, .val (.bool (δ.o == IntKind.i64.wrap ((mo.n : Int) + 1))))]) (fun _ => none) a3 := by
    refine ar_of w s3 (f3.trans (f2.trans z2)) (fun p hp => ?_) (fun p hp => ?_)
    · simp only [List.mem_cons, List.not_mem_nil, or_false] at hp
      rcases hp with rfl | rfl
      · exact x3.trans (den_val _ _).symm
      · exact ((r3 26 (by decide)).trans ((r2 26 (by decide)).trans p26)).trans (den_val _ _).symm
    · simp only [List.mem_cons, List.not_mem_nil, or_false] at hp
      rcases hp with rfl | rfl <;> exact ok_val _ _
  show wpAnyH Try.prog .any o2 _ _ ([16, 17].length + 0) #[true, true, true, true, true, true, true, true, true, true, true, true, true, true, true, true, false, false] a3 w3
  refine takes_cut (fun w _ => xok_0 w) (by kernel_rfl) (eo2b v' (.bool (δ.o == IntKind.i64.wrap ((mo.n : Int) + 1)))) har3 hbx3 fun a4 t4 har4 e => ?_
  simp only [List.map_cons, List.map_nil, List.cons.injEq, and_true] at e
  obtain ⟨e4, e5⟩ := e
  obtain ⟨hv, hown'⟩ := hO2.more (s := newS δ) hgr rfl rfl rfl hown
  refine wpAnyH_done (by kernel_rfl) ?_ 0
  show Q .normal a4 w3
  exact hQ v' a4 w3 har4.size har4.defers (ar_eval har4 e4) (ar_eval har4 e5) ((hbB.trans (b1.mono hB1)).trans (below_own hB2 hO2.row hgr)) hv hown'
end
end Ap
end Go.Proofs.Ytaojjpdlfnphiaa.PDescKinds
end
section
/- invariant.apply runs. -/
set_option linter.unusedSimpArgs false
set_option linter.unusedVariables false
set_option linter.unusedSectionVars false
namespace Go.Proofs.Ytaojjpdlfnphiaa.PDescKinds
open Go.RowKit Go.Ev
namespace Ap
section
variable {v0 : Value} {a : Act} {w : World} {Q : Exit → Act → World → Prop} {B : Nat} {mo : Mo} {δ : Dl} {k gb g : Nat}
theorem apply_at (hk : k < mo.n) (ho : δ.o = (k : Int) + 1) (h1 : δ.what ≠ 1) : L.apply mo.ls δ = (L.shape (mo.g k).ls δ).map fun s' => mo.ls.set k s' := by
  unfold L.apply
  have e : (δ.o - 1).toNat = k := by rw [ho]; omega
  rw [if_neg h1, if_neg (by rw [ls_len]; omega), e, ls_at mo hk]
/-- What is behind the block. -/
structure Post (B : Nat) (v0 : Value) (mo : Mo) (δ : Dl) (w : World) (Q : Exit → Act → World → Prop) : Prop where
  fin : ∀ mo' a' w', Fin B v0 mo mo' w a' w' → L.apply mo.ls δ = some mo'.ls → Q .normal a' w'
  ret : ∀ a' w' m, a'.defers = [] → (results Try.f16 a'.tmps).run Try.prog w' = .ok ((@SV.den row0 m (.val (.tuple #[.slice none 0 0, .bool false])))) w' → Below w.heap.size w w' → L.apply mo.ls δ = none → Q .ret a' w'
theorem retPiece {l : List Code} (hev : @evK row0 _ Try.prog ext (tab []) 80 114 (seqL l) ((⟨[], []⟩ : Cut).st 0) (grab Try.prog Try.f16 [] [] 0) = some (.ret (.val (.tuple #[.slice none 0 0, .bool false])))) (hs : a.tmps.size = 114) (hd : a.defers = [])
    (h : ∀ a' w' m, a'.defers = [] → (results Try.f16 a'.tmps).run Try.prog w' = .ok ((@SV.den row0 m (.val (.tuple #[.slice none 0 0, .bool false])))) w' → Below w.heap.size w w' → Q .ret a' w') : wpL Try.prog l Q a w := by
  letI := row0
  refine piece ctx0.mix ctx0.hX ctx0.hs ctx0.hXO ctx0.hG hev (w0 := w) trivial (epoch hs hd [] (fun _ => 0) (fun p hp => by cases hp) fun p hp => by cases hp) (fun v hv m' a' w' g1 g2 g3 => ?_) (fun ex d hd => by cases hd)
  cases hv
  exact h a' w' m' g1 g2 g3
set_option maxRecDepth 100000 in
theorem block (h : At v0 (bxP gb) (shP g k) (S.find (mo.g k) δ.k) δ.what a) (hO : OwnMo B w mo) (hB : B ≤ w.heap.size) (hk : k < mo.n) (hA : mo.A = some ⟨g, 0, none⟩) (hbx : Boxed w gb δ) (hgb : g < gb) (hlt : ∀ t b, (mo.g t).row.ownBlock = some b → b < gb)
    (hn : (mo.g k).n ≤ 2000000) (ho : δ.o = (k : Int) + 1) (h1 : δ.what ≠ 1) (hQ : Post B v0 mo δ w Q) : wpL Try.prog l0 Q a w := by
  have hap := apply_at (δ := δ) hk ho h1
  have fin : ∀ {s' : LS}, L.shape (mo.g k).ls δ = some s' → ∀ mo' a' w', Fin B v0 mo mo' w a' w' → mo'.ls = mo.ls.set k s' → Q .normal a' w' := fun hs mo' a' w' hf hl => hQ.fin mo' a' w' hf (by rw [hap, hs, Option.map_some, hl])
  have ret : L.shape (mo.g k).ls δ = none → ∀ a' w' m, a'.defers = [] → (results Try.f16 a'.tmps).run Try.prog w' = .ok ((@SV.den row0 m (.val (.tuple #[.slice none 0 0, .bool false])))) w' → Below w.heap.size w w' → Q .ret a' w' := fun hs a' w' m h1 h2 h3 => hQ.ret a' w' m h1 h2 h3 (by rw [hap, hs]; rfl)
  refine level (rest := []) l0_eq h (eo9 v0 _ _ _ _) (fun hb a1 h' => ?_) (fun hb a1 h' => ?_)
  · rw [then_nil]
    have e2 : δ.what = 2 := by simpa using hb
    refine cellsR (ty := 3) (s' := { mo.g k with cl := δ.n }) h' hO hB hk hA hbx (eo10 _ δ v0 _) so10 (by kernel_rfl) (by kernel_rfl) (by kernel_rfl) (by kernel_rfl) (by show 0 + 1 ≤ 8; omega) (fun u hu => by
      simp only [Value.cells, List.mem_cons, List.not_mem_nil, or_false] at hu
      subst hu; rfl) (by rfl) rfl rfl rfl (fun mo' a' w' hf hl => fin (s' := { (mo.g k).ls with cl := δ.n }) (by unfold L.shape; rw [if_pos e2]) mo' a' w' hf hl)
  have n2 : δ.what ≠ 2 := by simpa using hb
  rw [then_nil]
  refine wpL_flat _ ?_
  show wpL Try.prog l1 Q a1 w
  refine level (rest := []) l1_eq h' (eo11 v0 _ _ _ _) (fun hb a2 h' => ?_) (fun hb a2 h' => ?_)
  · rw [then_nil]
    have e3 : δ.what = 3 := by simpa using hb
    refine cellsR (ty := 28) (s' := { mo.g k with p := δ.v }) h' hO hB hk hA hbx (eo12 _ δ v0 _) so12 (by kernel_rfl) (by kernel_rfl) (by kernel_rfl) (by kernel_rfl) (by show 1 + 5 ≤ 8; omega) (by
      rw [V.agg_cells]; exact V.list_one _) (by rw [V.agg_cells]; rfl) rfl rfl rfl (fun mo' a' w' hf hl => fin (s' := { (mo.g k).ls with p := δ.v }) (by unfold L.shape; rw [if_neg n2, if_pos e3]) mo' a' w' hf hl)
  have n3 : δ.what ≠ 3 := by simpa using hb
  rw [then_nil]
  refine wpL_flat _ ?_
  show wpL Try.prog l2 Q a2 w
  refine level (rest := []) l2_eq h' (eo13 v0 _ _ _ _) (fun hb a3 h' => ?_) (fun hb a3 h' => ?_)
  · rw [then_nil]
    have e4 : δ.what = 4 := by simpa using hb
    refine cellsR (ty := 4) (s' := { mo.g k with x := δ.yes }) h' hO hB hk hA hbx (eo14 _ δ v0 _) so14 (by kernel_rfl) (by kernel_rfl) (by kernel_rfl) (by kernel_rfl) (by show 6 + 1 ≤ 8; omega) (fun u hu => by
      simp only [Value.cells, List.mem_cons, List.not_mem_nil, or_false] at hu
      subst hu; rfl) (by rfl) rfl rfl rfl (fun mo' a' w' hf hl => fin (s' := { (mo.g k).ls with x := δ.yes }) (by unfold L.shape; rw [if_neg n2, if_neg n3, if_pos e4]) mo' a' w' hf hl)
  have n4 : δ.what ≠ 4 := by simpa using hb
  rw [then_nil]
  refine wpL_flat _ ?_
  show wpL Try.prog l3 Q a3 w
  refine level (rest := []) l3_eq h' (eo15 v0 _ _ _ _) (fun hb a4 h' => ?_) (fun hb a4 h' => ?_)
  · rw [then_nil]
    have e5 : δ.what = 5 := by simpa using hb
    have hsh : L.shape (mo.g k).ls δ = (L.at_ (mo.g k).ls.ps δ.k).map fun i => { (mo.g k).ls with ps := (mo.g k).ls.ps.eraseIdx i } := by unfold L.shape; rw [if_neg n2, if_neg n3, if_neg n4, if_pos e5]
    refine wpL_flat _ ?_
    show wpL Try.prog t3 Q a4 w
    refine level (rest := [.region 18 o18 false]) t3_eq h' (eo16 v0 _ _ _ _) (fun hb a5 h' => ?_) (fun hb a5 h' => ?_)
    · have hneg : S.find (mo.g k) δ.k < 0 := by simpa using hb
      rcases find_at (mo.g k) δ.k with ⟨f1, f2⟩ | ⟨j, f1, f2, f3⟩
      · refine wpL_flat _ ?_
        refine retPiece c17 h'.size h'.defers fun a' w' m h1 h2 h3 => ?_
        exact ret (by rw [hsh, f2]; rfl) a' w' m h1 h2 h3
      · omega
    · have hpos : ¬ S.find (mo.g k) δ.k < 0 := by simpa using hb
      rcases find_at (mo.g k) δ.k with ⟨f1, f2⟩ | ⟨j, f1, f2, f3⟩
      · omega
      · refine wp_skip ?_
        show wpL Try.prog [.region 18 o18 false] Q a5 w
        simp only [wpL]
        show (Code.region 18 o18 false).wp Try.prog (Exit.then (wpL Try.prog [] Q) Q) a5 w
        rw [then_nil]
        rw [f1] at h'
        exact gone h' hO hB hk hA hbx f2 (by omega) (fun mo' a' w' hf hl => fin (by rw [hsh, f3]; rfl) mo' a' w' hf hl)
  have n5 : δ.what ≠ 5 := by simpa using hb
  rw [then_nil]
  refine wpL_flat _ ?_
  show wpL Try.prog l4 Q a4 w
  refine level (rest := []) l4_eq h' (eo19 v0 _ _ _ _) (fun hb a5 h' => ?_) (fun hb a5 h' => ?_)
  · rw [then_nil]
    have e6 : δ.what = 6 := by simpa using hb
    refine wpL_flat _ ?_
    show wpL Try.prog t4 Q a5 w
    refine level (rest := []) t4_eq h' (eo20 v0 _ _ _ _) (fun hb a6 h' => ?_) (fun hb a6 h' => ?_)
    · rw [then_nil]
      have hneg : S.find (mo.g k) δ.k < 0 := by simpa using hb
      rcases find_at (mo.g k) δ.k with ⟨f1, f2⟩ | ⟨j, f1, f2, f3⟩
      · refine put21 h' hO hB hk hA hbx hgb hlt hn (fun mo' a' w' hf hl => fin ?_ mo' a' w' hf hl)
        unfold L.shape
        rw [if_neg n2, if_neg n3, if_neg n4, if_neg n5, if_pos e6, f2]
      · omega
    · rw [then_nil]
      have hpos : ¬ S.find (mo.g k) δ.k < 0 := by simpa using hb
      rcases find_at (mo.g k) δ.k with ⟨f1, f2⟩ | ⟨j, f1, f2, f3⟩
      · omega
      · rw [f1] at h'
        refine put22 h' hO hB hk hA hbx f2 hlt (fun mo' a' w' hf hl => fin ?_ mo' a' w' hf hl)
        unfold L.shape
        rw [if_neg n2, if_neg n3, if_neg n4, if_neg n5, if_pos e6, f3]
  have n6 : δ.what ≠ 6 := by simpa using hb
  rw [then_nil]
  refine wpL_flat _ ?_
  refine retPiece c8 h'.size h'.defers fun a' w' m h1 h2 h3 => ?_
  exact ret (by unfold L.shape; rw [if_neg n2, if_neg n3, if_neg n4, if_neg n5, if_neg n6]) a' w' m h1 h2 h3
/-- What apply answers. -/
def Out (B : Nat) (mo : Mo) (δ : Dl) (w : World) : Ending → World → Prop := fun e w' => Below B w w' ∧
  ((∃ mo', L.apply mo.ls δ = some mo'.ls ∧ e = .returned (.tuple #[.slice mo'.A mo'.n mo'.c, .bool true]) ∧ OwnMo B w' mo') ∨ L.apply mo.ls δ = none ∧ ∃ v, e = .returned (.tuple #[v, .bool false]))
theorem OwnMo.blocks (h : OwnMo B w mo) : (∀ b, (Value.slice mo.A mo.n mo.c).ownBlock = some b → b < w.heap.size) ∧ ∀ t b, (mo.g t).row.ownBlock = some b → b < w.heap.size :=
  ⟨fun b hb => (h.row.lt b hb).2, fun t b hb => ((h.props t).lt b hb).2⟩
theorem wrap_nat {k : Nat} (h : k < 4000000000) : IntKind.i64.wrap (k : Int) = (k : Int) := by
  cases k with
  | zero => rfl
  | succ k =>
    have := wr (n := 5000000000) (i := k) (by omega) (by omega)
    exact this
theorem fit1 (hn : mo.n ≤ 1000000) (hp : ∀ j, (mo.g j).n ≤ 1000000) : Fit (fun _ => mo) := fun k => ⟨by show (mo.n : Int) ≤ _; omega, fun j => by
  have := hp j
  show ((mo.g j).n : Int) ≤ _
  omega⟩
set_option maxRecDepth 100000 in
theorem headA (hI : Inv (fun _ => mo) noBox w) (hM : Fit (fun _ => mo))
    (k : ∀ a1 w1 gb, a1.tmps.size = 114 → a1.defers = [] → a1.tmps.getD 0 undef = .slice mo.A mo.n mo.c → a1.tmps.getD 3 undef = bxP gb → a1.eval (.tmp 10) = .bool (δ.what == 1) → Below w.heap.size w w1 → w.heap.size ≤ gb → Boxed w1 gb δ → Q .normal a1 w1) :
    wpL Try.prog (ap.take 2) Q { tmps := #[.slice mo.A mo.n mo.c, δ.agg] ++ Array.replicate (Try.f16.ntmps - (#[.slice mo.A mo.n mo.c, δ.agg] : Array Value).size) undef, defers := [] } w := by
  letI := rowsB (fun _ => mo) noBox
  have C0 := ctxB (fun _ => mo) noBox Bvents5 (entsS_cons (ent_idxA (fun _ => mo) noBox hM) entsS_nil)
  have hst := start_sound (fn := Try.f16) [.xs [0], .val δ.agg] (fun x hx => by
    simp only [List.mem_cons, List.not_mem_nil, or_false] at hx
    rcases hx with rfl | rfl
    · exact ok_xs
    · exact ok_val _ _) w (fun _ => 0)
  simp only [List.map_cons, List.map_nil, den_xs, den_val] at hst
  refine piece C0.mix C0.hX C0.hs C0.hXO C0.hG (pA (fun _ => mo) noBox δ) hI hst (fun v hv => by cases hv) (fun ex d hd m a1 w1 hr => ?_)
  cases hd
  have b := hr.mr.blk 0 ⟨35, δ.cells⟩ rfl
  refine k a1 w1 (m 0) hr.ar.size hr.ar.defers ((hr.ar.tm 0 rfl).trans (den_xs _ [0])) ((hr.ar.tm 3 rfl).trans (den_ptr _ _ _)) ((hr.ar.tm 10 rfl).trans (den_val _ _)) hr.mr.below b.1 ?_
  have := b.2.1
  simp only [Dl.cells, List.map_map] at this
  rw [show (SV.den m ∘ SV.val) = _root_.id from funext fun v => den_val m v, List.map_id] at this
  exact this
set_option maxRecDepth 100000 in
theorem headB (hI : Inv (fun _ => mo) noBox w) (hM : Fit (fun _ => mo)) (hn : mo.n ≤ 1000000) (hs : a.tmps.size = 114) (hd : a.defers = []) (t0 : a.tmps.getD 0 undef = .slice mo.A mo.n mo.c) (t3 : a.tmps.getD 3 undef = bxP gb) (hbx : Boxed w gb δ)
    (kr : ∀ a' w' m, a'.defers = [] → (results Try.f16 a'.tmps).run Try.prog w' = .ok ((@SV.den row0 m (.val (.tuple #[.slice none 0 0, .bool false])))) w' → Below w.heap.size w w' → (δ.o < 1 ∨ (mo.n : Int) < δ.o) → Q .ret a' w')
    (kn : ∀ a' w' k, At (.slice mo.A mo.n mo.c) (bxP gb) (.pointer (mo.A.map fun A => A.add (k * 8 + 0))) (S.find (mo.g k) δ.k) δ.what a' → Below w.heap.size w w' → k < mo.n → δ.o = (k : Int) + 1 → Q .normal a' w') : wpL Try.prog ((ap.drop 3).take 5) Q a w := by
  letI := rowsB (fun _ => mo) (bxD (some ⟨gb, 0, none⟩) δ)
  have hI2 : Inv (fun _ => mo) (bxD (some ⟨gb, 0, none⟩) δ) w := ⟨hI.1, xok_box hI.2 fun _ => hbx.row _⟩
  have C := ctxB (fun _ => mo) (bxD (some ⟨gb, 0, none⟩) δ) Bvents5 (entsS_cons (ent_idxA (fun _ => mo) (bxD (some ⟨gb, 0, none⟩) δ) hM) entsS_nil)
  have hsr : SR w 114 (fun _ => 0) ((⟨[(0, .xs [0]), (3, .xp [0, 0, 0] 0 0)], []⟩ : Cut).st 0) a w := by
    refine epoch hs hd _ _ (fun p hp => ?_) (fun p hp => ?_)
    · simp only [List.mem_cons, List.not_mem_nil, or_false] at hp
      rcases hp with rfl | rfl
      · exact t0.trans (den_xs _ [0]).symm
      · refine t3.trans ?_
        rw [den_xp]
        rfl
    · simp only [List.mem_cons, List.not_mem_nil, or_false] at hp
      rcases hp with rfl | rfl
      · exact ok_xs
      · exact ok_xp.2 (by show 0 < 1; omega)
  have e := pB (fun _ => mo) (some ⟨gb, 0, none⟩) δ
  have ret : ∀ (hc : δ.o < 1 ∨ (mo.n : Int) < δ.o) v, Res.ret (SV.val (Value.tuple #[Value.slice none 0 0, Value.bool false])) = .ret v → ∀ m' a' w', a'.defers = [] → (results Try.f16 a'.tmps).run Try.prog w' = .ok (v.den m') w' → Below w.heap.size w w' → Q .ret a' w' := by
    intro hc v hv m' a' w' g1 g2 g3
    cases hv
    rw [den_val] at g2
    exact kr a' w' m' g1 (by rw [@den_val row0]; exact g2) g3 hc
  by_cases h1 : δ.o < 1
  · rw [decide_eq_true h1] at e
    exact piece C.mix C.hX C.hs C.hXO C.hG e hI2 hsr (ret (.inl h1)) (fun ex d hd => by cases hd)
  by_cases h2 : δ.o > (mo.n : Int)
  · rw [decide_eq_false h1, decide_eq_true h2] at e
    exact piece C.mix C.hX C.hs C.hXO C.hG e hI2 hsr (ret (.inr h2)) (fun ex d hd => by cases hd)
  obtain ⟨k, hk⟩ : ∃ k : Nat, δ.o = (k : Int) + 1 := ⟨(δ.o - 1).toNat, by omega⟩
  have hkn : k < mo.n := by omega
  have hw : IntKind.i64.wrap (δ.o - 1) = (k : Int) := by rw [show δ.o - 1 = (k : Int) by omega]; exact wrap_nat (by omega)
  rw [decide_eq_false h1, decide_eq_false h2, hw, decide_eq_true (by omega : (0 : Int) ≤ (k : Int)), decide_eq_true (by omega : (k : Int) < (mo.n : Int)), Int.toNat_natCast] at e
  refine piece C.mix C.hX C.hs C.hXO C.hG e hI2 hsr (fun v hv => by cases hv) (fun ex d hd m a' w' hr => ?_)
  cases hd
  refine kn a' w' k ⟨hr.ar.size, hr.ar.defers, (hr.ar.tm 0 rfl).trans (den_xs _ [0]), (hr.ar.tm 3 rfl).trans ?_, (hr.ar.tm 6 rfl).trans ?_, (hr.ar.tm 7 rfl).trans (den_val _ _), (hr.ar.tm 49 rfl).trans (den_val _ _)⟩ hr.mr.below hkn hk
  · refine (den_xp _ _ _ _).trans ?_
    rfl
  · exact (den_xp _ _ _ _)
set_option maxRecDepth 100000 in
set_option maxHeartbeats 2000000 in
theorem calls (hT : Tabs w) (hB : B ≤ w.heap.size) (hO : OwnMo B w mo) (hn : mo.n ≤ 1000000) (hp : ∀ j, (mo.g j).n ≤ 1000000) : Calls Try.prog 16 #[.slice mo.A mo.n mo.c, δ.agg] w (Out B mo δ w) := by
  have hM := fit1 hn hp
  have hI : Inv (fun _ => mo) noBox w := ⟨hT, xok_raw fun _ => hO.raw⟩
  obtain ⟨hbt, hbr⟩ := OwnMo.blocks hO
  refine calls_of_wp Try.func16 (c := Try.f16.body.getD .skip) (by kernel_rfl) ?_
  refine wpL_flat _ ?_
  show wpL Try.prog ap _ _ _
  rw [ap_eq, wpL_app]
  refine headA hI hM fun a1 w1 gb s1 d1 t0 t3 t10 b1 hgb hbx => ?_
  have hO1 := hO.below b1
  have hB1 : B ≤ w1.heap.size := Nat.le_trans hB b1.size
  show wpL Try.prog (.cond (.tmp 10) (thenOf (ap.getD 2 .skip)) .skip :: ((ap.drop 3).take 5 ++ (.block 0 (inB (ap.getD 8 .skip)) :: ap.drop 9))) _ a1 w1
  simp only [wpL]
  by_cases hw : δ.what = 1
  · refine wp_cond_true (t10.trans (by simp [hw])) (wpL_flat _ ?_)
    rw [m_eq]
    show (Code.region 2 o2 true).wp Try.prog (Exit.then (wpL Try.prog [.ret] _) _) a1 w1
    refine make2 s1 d1 t0 t3 hO1 hB1 hbx (fun b hb => Nat.lt_of_lt_of_le (hbt b hb) hgb) (by omega) fun v a2 w2 s2 d2 t4 t5 b2 hv hO2 => ?_
    show wpL Try.prog [.ret] _ a2 w2
    letI := row0
    refine piece ctx0.mix ctx0.hX ctx0.hs ctx0.hXO ctx0.hG (eret v (.bool (δ.o == IntKind.i64.wrap ((mo.n : Int) + 1)))) (w0 := w2) trivial (epoch s2 d2 [(4, .val v), (5, .val (.bool (δ.o == IntKind.i64.wrap ((mo.n : Int) + 1))))] (fun _ => 0) (fun p hp => ?_) fun p hp => ?_) (fun u hu m' a' w' g1 g2 g3 => ?_) (fun ex d hd => by cases hd)
    · simp only [List.mem_cons, List.not_mem_nil, or_false] at hp
      rcases hp with rfl | rfl
      · exact t4.trans (den_val _ _).symm
      · exact t5.trans (den_val _ _).symm
    · simp only [List.mem_cons, List.not_mem_nil, or_false] at hp
      rcases hp with rfl | rfl <;> exact ok_val _ _
    cases hu
    rw [den_val] at g2
    have hwr : IntKind.i64.wrap ((mo.n : Int) + 1) = (mo.n : Int) + 1 := wr (n := 5000000000) (i := mo.n) (by omega) (by omega)
    refine ⟨g1, _, g2, ((b1.mono hB).trans b2).trans (g3.mono (Nat.le_trans hB1 b2.size)), ?_⟩
    by_cases ho : δ.o = (mo.n : Int) + 1
    · refine .inl ⟨⟨slA v, mo.n + 1, slC v, fput mo.g mo.n (newS δ)⟩, ?_, ?_, hO2.below g3⟩
      · unfold L.apply
        rw [if_pos hw, if_pos (by rw [ls_len]; exact ho)]
        congr 1
        show _ = (List.range (mo.n + 1)).map fun j => (fput mo.g mo.n (newS δ) j).ls
        rw [List.range_succ, List.map_append, List.map_congr_left (g := fun j => (mo.g j).ls) fun t ht => by
          have := List.mem_range.1 ht
          simp only [fput]
          rw [if_neg (by omega)]]
        simp [fput, Mo.ls, newS, Sh.ls]
      · rw [← hv, hwr, ho]
        simp
    · refine .inr ⟨?_, v, ?_⟩
      · unfold L.apply
        rw [if_pos hw, if_neg (by rw [ls_len]; exact ho)]
      · rw [hwr, show (δ.o == (mo.n : Int) + 1) = false by simpa using ho]
  refine wp_cond_false (t10.trans (by simp [hw])) (wp_skip ?_)
  show wpL Try.prog ((ap.drop 3).take 5 ++ (.block 0 (inB (ap.getD 8 .skip)) :: ap.drop 9)) _ a1 w1
  rw [wpL_app]
  have retQ : ∀ a' w' m, a'.defers = [] → (results Try.f16 a'.tmps).run Try.prog w' = .ok ((@SV.den row0 m (.val (.tuple #[.slice none 0 0, .bool false])))) w' → Below B w w' → L.apply mo.ls δ = none → bodyPost Try.prog Try.f16 (Out B mo δ w) .ret a' w' := by
    intro a' w' m g1 g2 g3 g4
    rw [@den_val row0] at g2
    exact ⟨g1, _, g2, g3, .inr ⟨g4, _, rfl⟩⟩
  refine headB ⟨tabs_stable _ _ hT b1, xok_raw fun _ => hO1.raw⟩ hM hn s1 d1 t0 t3 hbx (fun a' w' m g1 g2 g3 g4 => ?_) (fun a2 w2 k hAt b2 hk ho => ?_)
  · refine retQ a' w' m g1 g2 ((b1.mono hB).trans (g3.mono hB1)) ?_
    unfold L.apply
    rw [if_neg hw, if_pos (by rw [ls_len]; exact g4)]
  show wpL Try.prog (.block 0 (inB (ap.getD 8 .skip)) :: ap.drop 9) _ a2 w2
  simp only [wpL]
  refine wp_block (wpL_flat _ ?_)
  show wpL Try.prog l0 _ a2 w2
  have hO2 := hO1.below b2
  have hB2 : B ≤ w2.heap.size := Nat.le_trans hB1 b2.size
  have hbx2 := hbx.kept b2 (Array.getElem?_eq_some_iff.1 hbx).1
  rcases row_slice hO.row with ⟨_, h0, _⟩ | ⟨g, hA, _, hg⟩
  · omega
  rw [hA] at hAt
  simp only [Option.map_some, add_none, Nat.add_zero, Nat.zero_add] at hAt
  have hw2 : Below B w w2 := (b1.mono hB).trans (b2.mono hB1)
  refine block (v0 := .slice mo.A mo.n mo.c) (g := g) (gb := gb) (k := k) (by rw [hA]; exact hAt) hO2 hB2 hk hA hbx2 (by omega) (fun t b hb => Nat.lt_of_lt_of_le (hbr t b hb) hgb) (by have := hp k; omega) ho hw ⟨fun mo' a' w' hf hl => ?_, fun a' w' m g1 g2 g3 g4 => ?_⟩
  · show wpL Try.prog (ap.drop 9) _ a' w'
    letI := row0
    refine piece ctx0.mix ctx0.hX ctx0.hs ctx0.hXO ctx0.hG (pC (.slice mo.A mo.n mo.c)) (w0 := w') trivial (epoch hf.size hf.defers [(0, .val (.slice mo.A mo.n mo.c))] (fun _ => 0) (fun p hp => ?_) fun p hp => ?_) (fun u hu m' a'' w'' g1 g2 g3 => ?_) (fun ex d hd => by cases hd)
    · obtain rfl := List.mem_singleton.1 hp
      exact (hf.t0.trans (by rw [hA])).trans (den_val _ _).symm
    · obtain rfl := List.mem_singleton.1 hp
      exact ok_val _ _
    cases hu
    rw [den_val] at g2
    refine ⟨g1, _, g2, (hw2.trans hf.below).trans (g3.mono (Nat.le_trans hB2 hf.below.size)), .inl ⟨mo', hl, ?_, hf.own.below g3⟩⟩
    rw [hf.row]
  · exact retQ a' w' m g1 g2 (hw2.trans (g3.mono hB2)) g4
end
end Ap
end Go.Proofs.Ytaojjpdlfnphiaa.PDescKinds
end
section
/- slices.Clone of properties; an own shape more. -/
set_option linter.unusedSimpArgs false
set_option linter.unusedVariables false
set_option linter.unusedSectionVars false
namespace Go.Proofs.Ytaojjpdlfnphiaa.PDescKinds
open Go.RowKit Go.Ev
/-- An empty own slice. -/
theorem build0 {o : Oper} {a : Act} {w : World} {N : Nat} {K : Act → World → Prop} {Q : Exit → Act → World → Prop} {t : Nat → SV} {ty : TypeId} (har : @AR row0 N (fun _ => 0) t (fun _ => none) a)
    (hev : @evOp row0 Try.prog ext (fun _ _ _ _ => none) (Ev.look t) (fun _ => none) 0 o = some (.slc 0 0 0 0, .new ⟨ty, []⟩))
    (k : ∀ g w', Below w.heap.size w w' → w.heap.size ≤ g → w'.heap[g]? = some (.cells #[] ty (0, 0)) → K (a.put o.dst (.slice (some ⟨g, 0, none⟩) 0 0)) w') : o.wp Try.prog a w K Q := by
  letI := row0
  refine op_sound (I := fun _ => True) (w0 := w) ext_sound trivial (fun _ _ _ _ => trivial) (fun w _ => xok_0 w) (fun f args mem id v m' n hc => by cases hc) hev (fun _ => rfl) (fun ⟨m, n, he⟩ => by cases he) (fun x => har.look_ok x) (fun x hk => har.eval x hk) (MR.start w fun _ => 0) fun m' w' h1 h2 h3 h4 h5 => ?_
  obtain ⟨b1, b2, b3⟩ := h2.blk 0 ⟨ty, []⟩ (by simp [Eff.mem, upd])
  rw [den_slc]
  exact k (m' 0) w' h2.below b1 b2
/-- A shape more, with its own properties. -/
theorem OwnMo.snoc {B : Nat} {w w' : World} {mo : Mo} {v : Value} {s : Sh} (h : OwnMo B w mo) (hg : w.grownBy w' (Value.slice mo.A mo.n mo.c).ownBlock) (hs : w'.ownsRow B 55 20 s.row s.n (Copy.rowOf s)) (hf : ∀ t b c, s.row.ownBlock = some b → (mo.g t).row.ownBlock = some c → b ≠ c)
    (hown : w'.ownsRow B 52 8 v (mo.n + 1) (((List.range mo.n).flatMap fun j => shVals (mo.g j) (mo.g j).row) ++ shVals s s.row)) :
    v = .slice (slA v) (mo.n + 1) (slC v) ∧ OwnMo B w' ⟨slA v, mo.n + 1, slC v, fput mo.g mo.n s⟩ := by
  have hv := (own_slice hown).1
  refine ⟨hv, ?_, fun j => ?_, fun j l hjl => ?_, fun j hj => ?hrest⟩
  case hrest =>
    have hj : mo.n + 1 ≤ j := hj
    refine Eq.trans ?_ (h.rest j (by omega))
    simp only [fput]
    rw [if_neg (by omega)]
  · show w'.ownsRow B 52 8 (.slice (slA v) (mo.n + 1) (slC v)) (mo.n + 1) ((List.range (mo.n + 1)).flatMap fun j => shVals (fput mo.g mo.n s j) (fput mo.g mo.n s j).row)
    rw [← hv]
    have e : ((List.range (mo.n + 1)).flatMap fun j => shVals (fput mo.g mo.n s j) (fput mo.g mo.n s j).row) = ((List.range mo.n).flatMap fun j => shVals (mo.g j) (mo.g j).row) ++ shVals s s.row := by
      rw [List.range_succ, List.flatMap_append, flat_congr mo.n (g := fun j => shVals (mo.g j) (mo.g j).row) fun j hj => by simp only [fput]; rw [if_neg (by omega)]]
      simp [fput]
    rw [e]
    exact hown
  · show w'.ownsRow B 55 20 (fput mo.g mo.n s j).row (fput mo.g mo.n s j).n (Copy.rowOf (fput mo.g mo.n s j))
    unfold fput
    split
    · exact hs
    · exact (h.props j).kept hg (own_ne h.row (h.props j))
  · show (fput mo.g mo.n s j).row.ownBlock = none ∨ (fput mo.g mo.n s j).row.ownBlock ≠ (fput mo.g mo.n s l).row.ownBlock
    have key : ∀ t, s.row.ownBlock = none ∨ s.row.ownBlock ≠ (mo.g t).row.ownBlock := fun t => by
      cases hb : s.row.ownBlock with
      | none => exact .inl rfl
      | some b => exact .inr fun e => hf t b b hb e.symm rfl
    unfold fput
    by_cases ej : j = mo.n
    · rw [if_pos ej, if_neg (fun e => hjl (ej.trans e.symm))]; exact key l
    · rw [if_neg ej]
      by_cases el : l = mo.n
      · rw [if_pos el]
        rcases key j with e | e
        · rw [e]
          cases hb : (mo.g j).row.ownBlock with
          | none => exact .inl rfl
          | some b => exact .inr (by simp)
        · exact .inr (Ne.symm e)
      · rw [if_neg el]
        exact h.sep j l hjl
namespace Clone
noncomputable def cl : List Code := bodyOf Try.f15
noncomputable def o3 : Array Oper := opsOf (cl.getD 3 .skip)
set_option maxRecDepth 100000 in
theorem e0 (c : Nat) : letI := row0
    evK Try.prog ext (tab []) 80 8 (seqL cl) ⟨argS [.val (.slice none 0 c)], fun _ => none, 0⟩ (grab Try.prog Try.f15 [] [] 0) = some (.ret (.val (.slice none 0 0))) := by kernel_rfl
set_option maxRecDepth 100000 in
theorem e1 (A : Addr) (n c : Nat) : letI := row0
    evK Try.prog ext (tab []) 80 8 (seqL (cl.take 3)) ⟨argS [.val (.slice (some A) n c)], fun _ => none, 0⟩ (grab Try.prog Try.f15 [0] [] 0) = some (.cut .normal ⟨[(0, .val (.slice (some A) n c))], []⟩) := by kernel_rfl
set_option maxRecDepth 100000 in
theorem e2 : letI := row0
    evOp Try.prog ext (fun _ _ _ _ => none) (Ev.look (pickT [])) (fun _ => none) 0 (o3.toList.getD 0 default) = some (.slc 0 0 0 0, .new ⟨55, []⟩) := by kernel_rfl
set_option maxRecDepth 100000 in
theorem e3 (v u : Value) : letI := row0
    (reads Try.prog 8 [o3.toList.getD 1 default] (pickT [(0, .val v), (5, .val u)])).map (fun t => [5, 6].map t) = some [.val u, .val v] := by kernel_rfl
set_option maxRecDepth 100000 in
theorem e4 (v : Value) : letI := row0
    (reads Try.prog 8 [o3.toList.getD 3 default] (pickT [(7, .val v)])).map (fun t => [2].map t) = some [.val v] := by kernel_rfl
set_option maxRecDepth 100000 in
theorem e5_ (v : Value) : letI := row0
    evK Try.prog ext (tab []) 80 8 (seqL [.ret]) ((⟨[(2, .val v)], []⟩ : Cut).st 0) (grab Try.prog Try.f15 [] [] 0) = some (.ret (.val v)) := by kernel_rfl
theorem cl_eq : cl = cl.take 3 ++ [.region 3 o3 false, .ret] := by kernel_rfl
theorem o3_eq : o3.toList = o3.toList.getD 0 default :: ([o3.toList.getD 1 default] ++ (o3.toList.getD 2 default :: ([o3.toList.getD 3 default] ++ []))) := by kernel_rfl
set_option maxRecDepth 100000 in
theorem calls {w : World} {s : Sh} (hnil : s.A = none → s.n = 0 ∧ s.c = 0) (hcell : ∀ t, t < s.n → ∃ a, s.A = some a ∧ ∀ k u, ((s.g t).list)[k]? = some u → w.cell? (a.add (t * 20 + k)) = some u) (hlt : ∀ a, s.A = some a → 0 < s.n → a.block < w.heap.size) (hn : s.n ≤ 2000000) :
    Calls Try.prog 15 #[s.row] w fun e w' => ∃ v, e = .returned v ∧ Below w.heap.size w w' ∧ w'.ownsRow w.heap.size 55 20 v s.n (Copy.rowOf s) := by
  letI := row0
  refine calls_of_wp Try.func15 (c := Try.f15.body.getD .skip) (by kernel_rfl) ?_
  refine wpL_flat _ ?_
  show wpL Try.prog cl _ _ _
  have hst := start_sound (fn := Try.f15) [.val s.row] (fun x hx => by
    obtain rfl := List.mem_singleton.1 hx
    exact ok_val _ _) w (fun _ => 0)
  simp only [List.map_cons, List.map_nil, den_val] at hst
  cases hA : s.A with
  | none =>
    obtain ⟨h0, h1⟩ := hnil hA
    have hr : s.row = .slice none 0 0 := by unfold Sh.row; rw [hA, h0, h1]
    rw [hr] at hst ⊢
    refine piece Ap.ctx0.mix Ap.ctx0.hX Ap.ctx0.hs Ap.ctx0.hXO Ap.ctx0.hG (e0 0) (w0 := w) trivial hst (fun v hv m' a' w' g1 g2 g3 => ?_) (fun ex d hd => by cases hd)
    cases hv
    rw [den_val] at g2
    refine ⟨g1, _, g2, _, rfl, g3, ?_⟩
    have : Copy.rowOf s = [] := by unfold Copy.rowOf; rw [h0]; rfl
    rw [this, h0]
    exact World.ownsRow_nil _ _ _ _
  | some A =>
    have hr : s.row = .slice (some A) s.n s.c := by unfold Sh.row; rw [hA]
    rw [hr] at hst ⊢
    rw [cl_eq, wpL_app]
    refine piece Ap.ctx0.mix Ap.ctx0.hX Ap.ctx0.hs Ap.ctx0.hXO Ap.ctx0.hG (e1 A s.n s.c) (w0 := w) trivial hst (fun v hv => by cases hv) (fun ex d hd m a1 w1 hr1 => ?_)
    cases hd
    have b1 := hr1.mr.below
    have t0 : a1.tmps.getD 0 undef = .slice (some A) s.n s.c := (hr1.ar.tm 0 rfl).trans (den_val _ _)
    have z1 : a1.tmps.size = 8 := hr1.ar.size
    have z2 : a1.defers = [] := hr1.ar.defers
    show (Code.region 3 o3 false).wp Try.prog (Exit.then (wpL Try.prog [.ret] _) _) a1 w1
    refine wp_region_list ?_
    rw [o3_eq]
    refine wpList_plain (by kernel_rfl) fun K hK => ?_
    refine build0 (ar_of w1 z1 z2 (fun p hp => by cases hp) fun p hp => by cases hp) e2 fun g w2 b2 hg hh => hK _ _ ?_
    rw [show (o3.toList.getD 0 default).dst = some 5 by kernel_rfl]
    obtain ⟨s2, f2, x2, r2⟩ := put_all a1 8 5 (.slice (some ⟨g, 0, none⟩) 0 0) z1 (by decide)
    generalize hA2 : a1.put (some 5) (.slice (some ⟨g, 0, none⟩) 0 0) = a2 at s2 f2 x2 r2 ⊢
    refine wpList_reads (m := fun _ => 0) (xok_0 w2) (e3 (.slice (some A) s.n s.c) (.slice (some ⟨g, 0, none⟩) 0 0)) (ar_of w2 s2 (f2.trans z2) (fun p hp => ?_) fun p hp => ?_) fun a3 t3 har3 e => ?_
    · simp only [List.mem_cons, List.not_mem_nil, or_false] at hp
      rcases hp with rfl | rfl
      · exact ((r2 0 (by decide)).trans t0).trans (den_val _ _).symm
      · exact x2.trans (den_val _ _).symm
    · simp only [List.mem_cons, List.not_mem_nil, or_false] at hp
      rcases hp with rfl | rfl <;> exact ok_val _ _
    simp only [List.map_cons, List.map_nil, List.cons.injEq, and_true] at e
    obtain ⟨e5, e6⟩ := e
    have hB2 : w.heap.size ≤ w2.heap.size := Nat.le_trans b1.size b2.size
    have hlit : w2.ownsRow w.heap.size 55 20 (.slice (some ⟨g, 0, none⟩) 0 0) 0 [] := ⟨rfl, .inr ⟨g, 0, #[], rfl, Nat.le_trans b1.size hg, hh, Nat.le_refl _, Nat.zero_le _, rfl, rfl⟩⟩
    have hbw : Below w.heap.size w w2 := b1.trans (b2.mono b1.size)
    obtain ⟨i66, z66, hi1, hi2, hi3, hi4, hi5⟩ := Copy.info66
    have hM : maxLen = 9223372036854775807 := by decide +kernel
    refine wpList_append_own w2 (by kernel_rfl) (.tmp 5) (.tmp 6) 50 (by kernel_rfl) w.heap.size 55 i66 z66 20 192 Try.underlying50 hi1 hi2 hi3 hi4 hi5 (by decide) _ 0 [] (ar_eval har3 e5) hlit A s.n s.c (Copy.rowOf s) (ar_eval har3 e6) (flat_len (fun t => Pr.list_length _) _) (fun j u hu => ?_) (fun u hu => ?_) (by omega) (by omega) hB2 fun v' w4 hown hgr hnilv => ?_
    · obtain ⟨t, k, ht, rfl, hk⟩ := flat_out (fun t => Pr.list_length _) _ _ _ hu
      obtain ⟨A', hA', hc⟩ := hcell t ht
      rw [hA] at hA'
      cases hA'
      rw [← hc k u hk]
      exact hbw.cell (by rw [add_block]; exact hlt A hA (by omega))
    · obtain ⟨t, _, hu⟩ := List.mem_flatMap.1 hu
      exact Pr.list_one _ u hu
    rw [Nat.zero_add, List.nil_append] at hown
    rw [show (o3.toList.getD 2 default).dst = some 7 by kernel_rfl]
    obtain ⟨s4, f4, x4, r4⟩ := put_all a3 8 7 v' har3.size (by decide)
    generalize hA4 : a3.put (some 7) v' = a4 at s4 f4 x4 r4 ⊢
    refine wpList_reads (m := fun _ => 0) (xok_0 w4) (e4 v') (ar_of w4 s4 (f4.trans har3.defers) (fun p hp => ?_) fun p hp => ?_) fun a5 t5 har5 e => ?_
    · obtain rfl := List.mem_singleton.1 hp
      exact x4.trans (den_val _ _).symm
    · obtain rfl := List.mem_singleton.1 hp
      exact ok_val _ _
    simp only [List.map_cons, List.map_nil, List.cons.injEq, and_true] at e
    show wpL Try.prog [.ret] _ a5 w4
    have t2 : a5.tmps.getD 2 undef = v' := ar_eval har5 e
    have hbel : Below w.heap.size w w4 := hbw.trans (below_own hB2 hlit hgr)
    refine piece Ap.ctx0.mix Ap.ctx0.hX Ap.ctx0.hs Ap.ctx0.hXO Ap.ctx0.hG (e5_ v') (w0 := w4) trivial (epoch har5.size har5.defers [(2, .val v')] (fun _ => 0) (fun p hp => ?_) fun p hp => ?_) (fun u hu m' a' w' g1 g2 g3 => ?_) (fun ex d hd => by cases hd)
    · obtain rfl := List.mem_singleton.1 hp
      exact t2.trans (den_val _ _).symm
    · obtain rfl := List.mem_singleton.1 hp
      exact ok_val _ _
    cases hu
    rw [den_val] at g2
    exact ⟨g1, _, g2, v', rfl, hbel.trans (g3.mono hbel.size), hown.kept (grown_of g3 none) (by cases v'.ownBlock <;> simp)⟩
end Clone
end Go.Proofs.Ytaojjpdlfnphiaa.PDescKinds
end
section
/- invariant.Patch: its pieces, by computing. -/
set_option linter.unusedSimpArgs false
set_option linter.unusedVariables false
set_option linter.unusedSectionVars false
namespace Go.Proofs.Ytaojjpdlfnphiaa.PDescKinds
open Go.RowKit Go.Ev
/-- One row that came in. -/
@[instance_reducible] def rowL (A : Option Addr) (n c : Nat) (g : Nat → Dl) : XEnv := ⟨fun _ => ⟨A, 29, n, c, fun j => (g j).cells⟩⟩
namespace Pa
noncomputable def pt : List Code := bodyOf Try.f7
noncomputable def rd : List Code := flat (roundOf pt)
noncomputable def inn : List Code := flat (inB (rd.getD 2 .skip))
noncomputable def o5 : Array Oper := opsOf (inn.getD 1 .skip)
noncomputable def o6 : Array Oper := opsOf (inn.getD 2 .skip)
noncomputable def p2 : List Code := pt.drop 4
noncomputable def rd2 : List Code := flat (roundOf p2)
noncomputable def inn2 : List Code := flat (inB (rd2.getD 2 .skip))
noncomputable def o11 : Array Oper := opsOf (inn2.getD 1 .skip)
noncomputable def o12 : Array Oper := opsOf (inn2.getD 2 .skip)
noncomputable def o14 : Array Oper := opsOf (inn2.getD 4 .skip)
set_option maxRecDepth 100000
theorem pt_eq : pt = pt.take 3 ++ (.block 0 (.loop (roundOf pt)) :: p2) := by kernel_rfl
theorem rd_eq : rd = rd.take 2 ++ (.block 1 (inB (rd.getD 2 .skip)) :: rd.drop 3) := by kernel_rfl
theorem inn_eq : inn = inn.take 1 ++ [.region 5 o5 false, .region 6 o6 false] := by kernel_rfl
theorem p2_eq : p2 = p2.take 1 ++ (.block 2 (.loop (roundOf p2)) :: p2.drop 2) := by kernel_rfl
theorem rd2_eq : rd2 = rd2.take 2 ++ (.block 3 (inB (rd2.getD 2 .skip)) :: rd2.drop 3) := by kernel_rfl
theorem inn2_eq : inn2 = inn2.take 1 ++ [.region 11 o11 false, .region 12 o12 false, .cond (.tmp 41) (thenOf (inn2.getD 3 .skip)) .skip, .region 14 o14 false] := by kernel_rfl
theorem o5_eq : o5.toList = o5.toList.take 2 ++ (o5.toList.getD 2 default :: ([o5.toList.getD 3 default] ++ [o5.toList.getD 4 default])) := by kernel_rfl
theorem o6_eq : o6.toList = o6.toList.take 2 ++ (o6.toList.getD 2 default :: o6.toList.getD 3 default :: ([o6.toList.getD 4 default] ++ [])) := by kernel_rfl
theorem o11_eq : o11.toList = o11.toList.take 2 ++ (o11.toList.getD 2 default :: (o11.toList.drop 3 ++ [])) := by kernel_rfl
theorem op5 : (o5.toList.getD 2 default).op = .call { callee := .value (.func 15), args := #[.tmp 20], argTypes := #[50] } := by kernel_rfl
theorem op11 : (o11.toList.getD 2 default).op = .call { callee := .value (.func 16), args := #[.tmp 35, .tmp 36], argTypes := #[22, 35] } := by kernel_rfl
abbrev H1 (M : Nat → Mo) (lv v : Value) (i : Nat) : List (Nat × SV) := [(1, .val lv), (6, .val v), (13, .xs [0]), (14, .val (.int .i64 (M 0).n)), (15, .val (.int .i64 (i : Int)))]
abbrev H2 (v : Value) (n j : Nat) : List (Nat × SV) := [(6, .val v), (28, .xs []), (29, .val (.int .i64 n)), (30, .val (.int .i64 (j : Int)))]
theorem a0 (M : Nat → Mo) (lv : Value) : letI := rowsB M noBox
    evK Try.prog ext (tab []) 80 45 (seqL (pt.take 3)) (⟨argS [.xs [0], .val lv], fun _ => none, 0⟩) (grab Try.prog Try.f7 [1, 6, 13, 14, 15] [] 0) =
    some (.cut .normal ⟨H1 M lv (.slice none 0 0) 0, []⟩) := by kernel_rfl
theorem a1 (M : Nat → Mo) (lv v : Value) (i : Nat) : letI := rowsB M noBox
    evK Try.prog ext (tab []) 80 45 (seqL (rd.take 2)) ((⟨H1 M lv v i, []⟩ : Cut).st 0) (grab Try.prog Try.f7 [1, 6, 13, 14, 15] [] 0) =
    bif decide ((i : Int) < ((M 0).n : Int)) then some (.cut .normal ⟨H1 M lv v i, []⟩) else some (.cut (.exit 0) ⟨H1 M lv v i, []⟩) := by kernel_rfl
theorem a2 (M : Nat → Mo) (lv v : Value) (i : Nat) : letI := rowsB M noBox
    evK Try.prog ext (tab []) 80 45 (seqL (inn.take 1)) ((⟨H1 M lv v i, []⟩ : Cut).st 0) (grab Try.prog Try.f7 [1, 6, 13, 14, 15, 8] [0] 1) =
    bif decide (0 ≤ (i : Int)) && decide ((i : Int) < ((M 0).n : Int)) then some (.cut .normal ⟨[(1, .val lv), (6, .val v), (13, .xs [0]), (14, .val (.int .i64 (M 0).n)), (15, .val (.int .i64 (i : Int))), (8, .ptr 0 0)], [(0, ⟨52, shCells ((M 0).g i).cl ((M 0).g i).p ((M 0).g i).x [0, i]⟩)]⟩) else none := by kernel_rfl
theorem a3 (M : Nat → Mo) (lv v : Value) (i : Nat) : letI := rowsB M noBox
    evK Try.prog ext (tab []) 80 45 (seqL (rd.drop 3)) ((⟨H1 M lv v i, []⟩ : Cut).st 0) (grab Try.prog Try.f7 [1, 6, 13, 14, 15] [] 0) =
    some (.cut .normal ⟨[(1, .val lv), (6, .val v), (13, .xs [0]), (14, .val (.int .i64 (M 0).n)), (15, .val (.int .i64 (IntKind.i64.wrap ((i : Int) + 1))))], []⟩) := by kernel_rfl
theorem c5a (bA : Option Addr) (s : Sh) (A : Option Addr) (n c : Nat) : letI := rowsX bA ((shVals s (.slice A n c)).map SV.val) bA ((shVals s (.slice A n c)).map SV.val)
    (reads Try.prog 45 (o5.toList.take 2) (pickT [(8, .xp [] 0 0)])).map (fun t => [20].map t) = some [.val (.slice A n c)] := by kernel_rfl
theorem c5b (P : Addr) (v : Value) : letI := row0
    (reads Try.prog 45 [o5.toList.getD 3 default] (pickT [(8, .val (.pointer (some P))), (21, .val v)])).map (fun t => [21, 22].map t) = some [.val v, .val (.pointer (some (P.add 7)))] := by kernel_rfl
theorem c6a (bA : Option Addr) (s : Sh) (A : Option Addr) (n c : Nat) (v : Value) : letI := rowsX bA ((shVals s (.slice A n c)).map SV.val) bA ((shVals s (.slice A n c)).map SV.val)
    (reads Try.prog 45 (o6.toList.take 2) (pickT [(6, .val v), (8, .xp [] 0 0)])).map (fun t => [23, 24].map t) = some [.val v, .val (.agg (shVals s (.slice A n c)).toArray)] := by kernel_rfl
theorem c6n (s : Sh) (u : Value) : letI := row0
    evOp Try.prog ext (fun _ _ _ _ => none) (Ev.look (pickT [(24, .val (.agg (shVals s u).toArray))])) (fun _ => none) 0 (o6.toList.getD 2 default) = some (.slc 0 0 1 1, .new ⟨52, (shVals s u).map SV.val⟩) := by kernel_rfl
theorem c6b (v : Value) : letI := row0
    (reads Try.prog 45 [o6.toList.getD 4 default] (pickT [(26, .val v)])).map (fun t => [6].map t) = some [.val v] := by kernel_rfl
theorem b0 (A : Option Addr) (n c : Nat) (g : Nat → Dl) (v : Value) : letI := rowL A n c g
    evK Try.prog ext (tab []) 80 45 (seqL (p2.take 1)) ((⟨[(1, .xs []), (6, .val v)], []⟩ : Cut).st 0) (grab Try.prog Try.f7 [6, 28, 29, 30] [] 0) =
    some (.cut .normal ⟨H2 v n 0, []⟩) := by kernel_rfl
theorem b1 (A : Option Addr) (n c : Nat) (g : Nat → Dl) (v : Value) (j : Nat) : letI := rowL A n c g
    evK Try.prog ext (tab []) 80 45 (seqL (rd2.take 2)) ((⟨H2 v n j, []⟩ : Cut).st 0) (grab Try.prog Try.f7 [6, 28, 29, 30] [] 0) =
    bif decide ((j : Int) < (n : Int)) then some (.cut .normal ⟨H2 v n j, []⟩) else some (.cut (.exit 2) ⟨H2 v n j, []⟩) := by kernel_rfl
theorem b2 (A : Option Addr) (n c : Nat) (g : Nat → Dl) (v : Value) (j : Nat) : letI := rowL A n c g
    evK Try.prog ext (tab []) 80 45 (seqL (inn2.take 1)) ((⟨H2 v n j, []⟩ : Cut).st 0) (grab Try.prog Try.f7 [6, 28, 29, 30, 10] [0] 1) =
    bif decide (0 ≤ (j : Int)) && decide ((j : Int) < (n : Int)) then some (.cut .normal ⟨[(6, .val v), (28, .xs []), (29, .val (.int .i64 n)), (30, .val (.int .i64 (j : Int))), (10, .ptr 0 0)], [(0, ⟨35, (g j).cells⟩)]⟩) else none := by kernel_rfl
theorem b3 (A : Option Addr) (n c : Nat) (g : Nat → Dl) (v : Value) (j : Nat) : letI := rowL A n c g
    evK Try.prog ext (tab []) 80 45 (seqL (rd2.drop 3)) ((⟨H2 v n j, []⟩ : Cut).st 0) (grab Try.prog Try.f7 [6, 28, 29, 30] [] 0) =
    some (.cut .normal ⟨[(6, .val v), (28, .xs []), (29, .val (.int .i64 n)), (30, .val (.int .i64 (IntKind.i64.wrap ((j : Int) + 1))))], []⟩) := by kernel_rfl
theorem d11 (bA : Option Addr) (δ : Dl) (v : Value) : letI := rowsX bA δ.cells bA δ.cells
    (reads Try.prog 45 (o11.toList.take 2) (pickT [(6, .val v), (10, .xp [] 0 0)])).map (fun t => [35, 36].map t) = some [.val v, .val δ.agg] := by kernel_rfl
theorem d11b (v : Value) (b : Bool) : letI := row0
    (reads Try.prog 45 (o11.toList.drop 3) (pickT [(37, .val (.tuple #[v, .bool b]))])).map (fun t => [11, 12].map t) = some [.val v, .val (.bool b)] := by kernel_rfl
theorem d12 (v : Value) (b : Bool) : letI := row0
    (reads Try.prog 45 o12.toList (pickT [(11, .val v), (12, .val (.bool b))])).map (fun t => [11, 41].map t) = some [.val v, .val (.bool !b)] := by kernel_rfl
theorem d14 (v : Value) : letI := row0
    (reads Try.prog 45 o14.toList (pickT [(11, .val v)])).map (fun t => [6].map t) = some [.val v] := by kernel_rfl
theorem d13 : letI := row0
    evK Try.prog ext (tab []) 80 45 (seqL (flat (thenOf (inn2.getD 3 .skip)))) ((⟨[], []⟩ : Cut).st 0) (grab Try.prog Try.f7 [] [] 0) = some (.ret (.val (.tuple #[.slice none 0 0, .int .i64 7]))) := by kernel_rfl
theorem d16 (v : Value) : letI := row0
    evK Try.prog ext (tab []) 80 45 (seqL (p2.drop 2)) ((⟨[(6, .val v)], []⟩ : Cut).st 0) (grab Try.prog Try.f7 [] [] 0) = some (.ret (.val (.tuple #[v, .int .i64 0]))) := by kernel_rfl
end Pa
end Go.Proofs.Ytaojjpdlfnphiaa.PDescKinds
end
section
/- invariant.Patch: the copy. -/
set_option linter.unusedSimpArgs false
set_option linter.unusedVariables false
set_option linter.unusedSectionVars false
namespace Go.Ev
open Go.RowKit Go.Proofs.Ytaojjpdlfnphiaa.PDescKinds
/-- Is a temporary left alone? -/
def offD (l : List Oper) (t : Nat) : Bool := l.all fun o => match o.dst with
  | some d => !(Nat.beq d t)
  | none => true
def offDs (l : List Oper) (ts : List Nat) : Bool := ts.all (offD l)
section
variable [XEnv] {P : Program} {N : Nat} {m : Nat → Nat} {Q : Exit → Act → World → Prop}
theorem put_off {a : Act} {d : Option Nat} {v : Value} {t : Nat} (h : (match d with | some d => !(Nat.beq d t) | none => true) = true) : (a.put d v).tmps.getD t undef = a.tmps.getD t undef := by
  cases d with
  | none => rfl
  | some d =>
    refine Copy.put_ne a d t v fun e => ?_
    subst e
    simp only [Nat.beq_refl, Bool.not_true] at h
    cases h
theorem reads_off {os : Array Oper} {rest : List Oper} : ∀ (ops : List Oper) (t t' : Nat → SV) (a : Act) (w : World), XOk w → reads P N ops t = some t' → AR N m t (fun _ => none) a →
    (∀ a', AR N m t' (fun _ => none) a' → (∀ i, offD ops i = true → a'.tmps.getD i undef = a.tmps.getD i undef) → wpList P os Q rest a' w) → wpList P os Q (ops ++ rest) a w
  | [], t, t', a, w, _, h, har, k => by
    simp only [reads, Option.some.injEq] at h
    subst h
    exact k a har fun _ _ => rfl
  | o :: r, t, t', a, w, hX, h, har, k => by
    unfold reads at h
    cases hc : (o.guard.isNone && dstOk N o.dst) with
    | false => rw [hc] at h; cases h
    | true =>
      rw [hc] at h
      simp only [if_true] at h
      rw [Bool.and_eq_true] at hc
      obtain ⟨hg, hd⟩ := hc
      split at h
      · rename_i v hv
        obtain ⟨hr, hvok⟩ := evP_run (m := m) (w := w) hX (fun x => har.look_ok x) (fun x hk => har.eval x hk) hv
        show wpList P os Q (o :: (r ++ rest)) a w
        refine wpList_plain (by simpa using hg) fun K hK => ?_
        unfold Oper.wp
        rw [hr, Oper.upon_value]
        refine hK _ _ (reads_off r _ t' _ w hX h (har.put (Agree.refl _ _) (Grows.refl _) hd hvok) fun a' h1 h2 => k a' h1 fun i hi => ?_)
        simp only [offD, List.all_cons, Bool.and_eq_true] at hi
        exact (h2 i hi.2).trans (put_off hi.1)
      · cases h
theorem wpList_readsF {os : Array Oper} {l rest : List Oper} {ns : List Nat} {vs : List SV} {t : Nat → SV} {a : Act} {w : World} (keep : List Nat) (hX : XOk w) (hev : (reads P N l t).map (fun t => ns.map t) = some vs) (hk : offDs l keep = true) (har : AR N m t (fun _ => none) a)
    (k : ∀ a' t', AR N m t' (fun _ => none) a' → ns.map t' = vs → (∀ i ∈ keep, a'.tmps.getD i undef = a.tmps.getD i undef) → wpList P os Q rest a' w) : wpList P os Q (l ++ rest) a w := by
  obtain ⟨t', h1, h2⟩ := Option.map_eq_some_iff.1 hev
  exact reads_off l _ t' a w hX h1 har fun a' h h' => k a' t' h h2 fun i hi => h' i (List.all_eq_true.1 hk i hi)
theorem region_readsF {id : Nat} {ops : Array Oper} {ns : List Nat} {vs : List SV} {t : Nat → SV} {a : Act} {w : World} (keep : List Nat) (hX : XOk w) (hev : (reads P N ops.toList t).map (fun t => ns.map t) = some vs) (hk : offDs ops.toList keep = true) (har : AR N m t (fun _ => none) a)
    (k : ∀ a' t', AR N m t' (fun _ => none) a' → ns.map t' = vs → (∀ i ∈ keep, a'.tmps.getD i undef = a.tmps.getD i undef) → Q .normal a' w) : (Code.region id ops false).wp P Q a w := by
  refine wp_region_list ?_
  rw [← List.append_nil ops.toList]
  exact wpList_readsF keep hX hev hk har k
end
end Go.Ev
namespace Go.Proofs.Ytaojjpdlfnphiaa.PDescKinds
open Go.RowKit Go.Ev
namespace Pa
/-- A shape's box. -/
def BoxS (B : Nat) (w : World) (gb : Nat) (s : Sh) (u : Value) : Prop := w.ownsRow B 52 8 (.slice (some ⟨gb, 0, none⟩) 1 1) 1 ((List.range 1).flatMap fun _ => shVals s u)
theorem BoxS.of {B : Nat} {w : World} {gb : Nat} {s : Sh} {u : Value} (h : w.heap[gb]? = some (.cells (shVals s u).toArray 52 (0, 0))) (hB : B ≤ gb) : BoxS B w gb s u :=
  ⟨rfl, .inr ⟨gb, 1, _, rfl, hB, h, Nat.le_refl _, by decide, rfl, rfl⟩⟩
theorem BoxS.xok {B : Nat} {w : World} {gb : Nat} {s : Sh} {u : Value} (h : BoxS B w gb s u) : @XOk (rowsX (some ⟨gb, 0, none⟩) ((shVals s u).map SV.val) (some ⟨gb, 0, none⟩) ((shVals s u).map SV.val)) w := by
  have := fun e => xrow_val (l := shVals s u) (w := w) (A := ⟨gb, 0, none⟩) (h.lt gb rfl).2 (fun k v hk => by
    have := own_at (fun t => shVals_length _ _) h (t := 0) (by decide) k v hk
    rw [Nat.zero_mul, Nat.zero_add] at this
    exact this) e
  exact xok_X this this
theorem ar_box {N gb d : Nat} {s : Sh} {u : Value} {a : Act} {ts : List (Nat × Value)} (w : World) (hs : a.tmps.size = N) (hd : a.defers = []) (h8 : a.tmps.getD d undef = .pointer (some ⟨gb, 0, none⟩)) (h : ∀ p ∈ ts, a.tmps.getD p.1 undef = p.2) :
    @AR (rowsX (some ⟨gb, 0, none⟩) ((shVals s u).map SV.val) (some ⟨gb, 0, none⟩) ((shVals s u).map SV.val)) N (fun _ => 0) (pickT (ts.map (fun p => (p.1, .val p.2)) ++ [(d, .xp [] 0 0)])) (fun _ => none) a := by
  letI := rowsX (some ⟨gb, 0, none⟩) ((shVals s u).map SV.val) (some ⟨gb, 0, none⟩) ((shVals s u).map SV.val)
  refine ar_of w hs hd (fun p hp => ?_) (fun p hp => ?_)
  · rcases List.mem_append.1 hp with hp | hp
    · obtain ⟨q, hq, rfl⟩ := List.mem_map.1 hp
      exact (h q hq).trans (den_val _ _).symm
    · obtain rfl := List.mem_singleton.1 hp
      refine h8.trans ?_
      rw [den_xp]
      rfl
  · rcases List.mem_append.1 hp with hp | hp
    · obtain ⟨q, hq, rfl⟩ := List.mem_map.1 hp
      exact ok_val _ _
    · obtain rfl := List.mem_singleton.1 hp
      exact ok_xp.2 (by show 0 < 1; omega)
theorem ar_vals {N : Nat} {a : Act} {ts : List (Nat × Value)} (w : World) (hs : a.tmps.size = N) (hd : a.defers = []) (h : ∀ p ∈ ts, a.tmps.getD p.1 undef = p.2) : @AR row0 N (fun _ => 0) (pickT (ts.map fun p => (p.1, .val p.2))) (fun _ => none) a := by
  letI := row0
  refine ar_of w hs hd (fun p hp => ?_) (fun p hp => ?_)
  · obtain ⟨q, hq, rfl⟩ := List.mem_map.1 hp
    exact (h q hq).trans (den_val _ _).symm
  · obtain ⟨q, hq, rfl⟩ := List.mem_map.1 hp
    exact ok_val _ _
/-- What stays in a round of the copy. -/
structure Ts (x : Mo) (lv v : Value) (i : Nat) (a : Act) : Prop where
  size : a.tmps.size = 45
  defers : a.defers = []
  t1 : a.tmps.getD 1 undef = lv
  t6 : a.tmps.getD 6 undef = v
  t13 : a.tmps.getD 13 undef = .slice x.A x.n x.c
  t14 : a.tmps.getD 14 undef = .int .i64 x.n
  t15 : a.tmps.getD 15 undef = .int .i64 (i : Int)
section
variable {x : Mo} {lv v : Value} {i : Nat} {a : Act} {w w0 : World} {Q : Exit → Act → World → Prop}
theorem Ts.next {a' : Act} (h : Ts x lv v i a) (hs : a'.tmps.size = 45) (hd : a'.defers = []) (hk : ∀ t ∈ [1, 6, 13, 14, 15], a'.tmps.getD t undef = a.tmps.getD t undef) : Ts x lv v i a' :=
  ⟨hs, hd, (hk 1 (by simp)).trans h.t1, (hk 6 (by simp)).trans h.t6, (hk 13 (by simp)).trans h.t13, (hk 14 (by simp)).trans h.t14, (hk 15 (by simp)).trans h.t15⟩
theorem Ts.sr (h : Ts x lv v i a) (w : World) : @SR (rowsB (fun _ => x) noBox) w 45 (fun _ => 0) ((⟨H1 (fun _ => x) lv v i, []⟩ : Cut).st 0) a w := by
  letI := rowsB (fun _ => x) noBox
  refine epoch h.size h.defers _ _ (fun p hp => ?_) (fun p hp => ?_)
  · simp only [List.mem_cons, List.not_mem_nil, or_false] at hp
    rcases hp with rfl | rfl | rfl | rfl | rfl
    · exact h.t1.trans (den_val _ _).symm
    · exact h.t6.trans (den_val _ _).symm
    · exact h.t13.trans (den_xs _ [0]).symm
    · exact h.t14.trans (den_val _ _).symm
    · exact h.t15.trans (den_val _ _).symm
  · simp only [List.mem_cons, List.not_mem_nil, or_false] at hp
    rcases hp with rfl | rfl | rfl | rfl | rfl <;> first | exact ok_val _ _ | exact ok_xs
theorem Ts.back {m : Nat → Nat} {a' : Act} {bs : List (Nat × Blk)} {tl : List (Nat × SV)} {nx : Nat} {mem : Mem} (har : @AR (rowsB (fun _ => x) noBox) 45 m (pickT (H1 (fun _ => x) lv v i ++ tl)) mem a') : Ts x lv v i a' := by
  letI := rowsB (fun _ => x) noBox
  exact ⟨har.size, har.defers, (har.tm 1 rfl).trans (den_val _ _), (har.tm 6 rfl).trans (den_val _ _), (har.tm 13 rfl).trans (den_xs _ [0]), (har.tm 14 rfl).trans (den_val _ _), (har.tm 15 rfl).trans (den_val _ _)⟩
theorem sh_den (x : Mo) (i : Nat) (m : Nat → Nat) : (shCells (x.g i).cl (x.g i).p (x.g i).x [0, i]).map (@SV.den (rowsB (fun _ => x) noBox) m) = shVals (x.g i) (x.g i).row := by
  simp only [shCells, List.map_cons, List.map_nil, @den_val (rowsB (fun _ => x) noBox), @den_xs (rowsB (fun _ => x) noBox)]
  rfl
set_option maxRecDepth 100000 in
/-- The properties are cloned. -/
theorem reg5 {B gb : Nat} {s : Sh} (h : Ts x lv v i a) (h8 : a.tmps.getD 8 undef = .pointer (some ⟨gb, 0, none⟩)) (hbx : BoxS B w gb s s.row) (hB : B ≤ w.heap.size) (hnil : s.A = none → s.n = 0 ∧ s.c = 0) (hcell : ∀ t, t < s.n → ∃ a, s.A = some a ∧ ∀ k u, ((s.g t).list)[k]? = some u → w.cell? (a.add (t * 20 + k)) = some u)
    (hlt : ∀ a, s.A = some a → 0 < s.n → a.block < w.heap.size) (hn : s.n ≤ 2000000)
    (hQ : ∀ u a' w' w1, Ts x lv v i a' → a'.tmps.getD 8 undef = .pointer (some ⟨gb, 0, none⟩) → Below w.heap.size w w1 → w1.grownBy w' (some gb) → w'.ownsRow w.heap.size 55 20 u s.n (Copy.rowOf s) → BoxS B w' gb s u → Q .normal a' w') : (Code.region 5 o5 false).wp Try.prog Q a w := by
  refine wp_region_list ?_
  rw [o5_eq]
  have har := ar_box (s := s) (u := s.row) (ts := []) w h.size h.defers h8 (fun p hp => by cases hp)
  refine @wpList_readsF (rowsX (some ⟨gb, 0, none⟩) ((shVals s s.row).map SV.val) (some ⟨gb, 0, none⟩) ((shVals s s.row).map SV.val)) _ _ _ _ _ _ _ _ _ _ _ _ [1, 6, 8, 13, 14, 15] hbx.xok (c5a (some ⟨gb, 0, none⟩) s s.A s.n s.c) (by kernel_rfl) har fun a1 t1 har1 e hk1 => ?_
  simp only [List.map_cons, List.map_nil, List.cons.injEq, and_true] at e
  have q20 : a1.eval (.tmp 20) = s.row := @ar_eval (rowsX (some ⟨gb, 0, none⟩) ((shVals s s.row).map SV.val) (some ⟨gb, 0, none⟩) ((shVals s s.row).map SV.val)) _ _ _ _ _ har1 _ _ e
  have T1 := h.next (@AR.size (rowsX (some ⟨gb, 0, none⟩) ((shVals s s.row).map SV.val) (some ⟨gb, 0, none⟩) ((shVals s s.row).map SV.val)) _ _ _ _ _ har1) (@AR.defers (rowsX (some ⟨gb, 0, none⟩) ((shVals s s.row).map SV.val) (some ⟨gb, 0, none⟩) ((shVals s s.row).map SV.val)) _ _ _ _ _ har1) (fun t ht => hk1 t (by
    simp only [List.mem_cons, List.not_mem_nil, or_false] at ht ⊢
    omega))
  have p8 := (hk1 8 (by simp)).trans h8
  have hrun : (execOp a1.eval (o5.toList.getD 2 default)).run Try.prog w = .ok (.enter 15 #[s.row]) w := by
    rw [← run_enters (P := Try.prog) (f := 15) (by kernel_rfl)]
    have em : (#[Operand.tmp 20] : Array Operand).map a1.eval = #[s.row] := by
      simp only [List.map_toArray, List.map_cons, List.map_nil, q20]
    unfold execOp
    simp only [op5, resolve, em, Act.eval, Deferred.ofValue, Sem.run_bind, Sem.run_pure, Result.andThen_ok, invoke]
    simp
  refine wpList_plain (by kernel_rfl) fun K hK => ?_
  unfold Oper.wp
  rw [hrun, Oper.upon_enter]
  refine Calls.mono (Clone.calls hnil hcell hlt hn) fun e w1 ⟨u, he, hb1, hown⟩ => ?_
  subst he
  refine hK _ _ ?_
  rw [show (o5.toList.getD 2 default).dst = some 21 by kernel_rfl]
  obtain ⟨s2, f2, x2, r2⟩ := put_all a1 45 21 u T1.size (by decide)
  generalize hA2 : a1.put (some 21) u = a2 at s2 f2 x2 r2 ⊢
  have T2 := T1.next s2 (f2.trans T1.defers) (fun t ht => r2 t (by
    simp only [List.mem_cons, List.not_mem_nil, or_false] at ht
    omega))
  letI := row0
  refine wpList_readsF [1, 6, 8, 13, 14, 15] (xok_0 w1) (c5b ⟨gb, 0, none⟩ u) (by kernel_rfl) (ar_vals (ts := [(8, .pointer (some ⟨gb, 0, none⟩)), (21, u)]) w1 s2 T2.defers (fun p hp => ?_)) fun a3 t3 har3 e hk3 => ?_
  · simp only [List.mem_cons, List.not_mem_nil, or_false] at hp
    rcases hp with rfl | rfl
    · exact (r2 8 (by decide)).trans p8
    · exact x2
  simp only [List.map_cons, List.map_nil, List.cons.injEq, and_true] at e
  obtain ⟨e21, e22⟩ := e
  rw [add_none] at e22
  have T3 := T2.next har3.size har3.defers (fun t ht => hk3 t (by
    simp only [List.mem_cons, List.not_mem_nil, or_false] at ht ⊢
    omega))
  have hbx1 : BoxS B w1 gb s s.row := hbx.kept (grown_of hb1 none) (.inr (by simp [Value.ownBlock]))
  have hcs : u.cells.toList = [u] := by rw [(own_slice hown).1]; rfl
  have hcz : u.cells.size = 1 := by rw [← Array.length_toList, hcs]; rfl
  obtain ⟨w2, hst, hown2, hgr⟩ := own_splice (P := Try.prog) (ty := 50) (x := u) (t := 0) (o := 7) hbx1 (fun t => shVals_length _ _) (by decide) (by rw [hcz]; kernel_rfl) (by rw [hcz]; exact Nat.le_refl 8) (fun y hy => by
    rw [hcs] at hy
    obtain rfl := List.mem_singleton.1 hy
    rw [(own_slice hown).1]
    rfl)
  refine wpList_store (t := 50) (x := .tmp 22) (y := .tmp 21) (by kernel_rfl) (by kernel_rfl) (by kernel_rfl) (ar_eval har3 e22) (ar_eval har3 e21) hst (hQ u a3 w2 w1 T3 ((hk3 8 (by simp)).trans ((r2 8 (by decide)).trans p8)) hb1 hgr ?_ ?_)
  · refine hown.kept hgr ?_
    cases hu : u.ownBlock with
    | none => exact .inl rfl
    | some b =>
      refine .inr fun e => ?_
      have h1 := (hown.lt b hu).1
      have h2 := (hbx.lt gb rfl).2
      simp only [Option.some.injEq] at e
      omega
  · have : ((List.range 1).flatMap (fput (fun _ => shVals s s.row) 0 (splice (shVals s s.row) 7 u.cells.toList))) = ((List.range 1).flatMap fun _ => shVals s u) := by
      rw [hcs]
      rfl
    rw [this] at hown2
    exact hown2
end
end Pa
end Go.Proofs.Ytaojjpdlfnphiaa.PDescKinds
end
section
/- invariant.Patch: the copy's loop. -/
set_option linter.unusedSimpArgs false
set_option linter.unusedVariables false
set_option linter.unusedSectionVars false
namespace Go.Proofs.Ytaojjpdlfnphiaa.PDescKinds
open Go.RowKit Go.Ev
namespace Pa
section
variable {x mo : Mo} {lv v : Value} {i : Nat} {a : Act} {w w0 : World} {Q : Exit → Act → World → Prop}
theorem ar_box' {N gb d : Nat} {s : Sh} {u : Value} {a : Act} {p : Nat × Value} (w : World) (hs : a.tmps.size = N) (hd : a.defers = []) (h8 : a.tmps.getD d undef = .pointer (some ⟨gb, 0, none⟩)) (h : a.tmps.getD p.1 undef = p.2) :
    @AR (rowsX (some ⟨gb, 0, none⟩) ((shVals s u).map SV.val) (some ⟨gb, 0, none⟩) ((shVals s u).map SV.val)) N (fun _ => 0) (pickT [(p.1, .val p.2), (d, .xp [] 0 0)]) (fun _ => none) a :=
  ar_box (ts := [p]) w hs hd h8 fun q hq => by
    obtain rfl := List.mem_singleton.1 hq
    exact h
set_option maxRecDepth 100000 in
/-- The shape joins the copy. -/
theorem reg6 {B gb : Nat} {s : Sh} (h : Ts x lv v i a) (h8 : a.tmps.getD 8 undef = .pointer (some ⟨gb, 0, none⟩)) (hbx : BoxS B w gb s s.row) (hB : B ≤ w.heap.size) (hO : OwnMo w0.heap.size w mo) (hB0 : w0.heap.size ≤ w.heap.size) (hv : v = .slice mo.A mo.n mo.c) (hn : mo.n ≤ 2000000)
    (hrow : ∀ A n c, s.row = .slice A n c → s.A = A ∧ s.n = n ∧ s.c = c)
    (hown : w.ownsRow w0.heap.size 55 20 s.row s.n (Copy.rowOf s)) (hf : ∀ t b c, s.row.ownBlock = some b → (mo.g t).row.ownBlock = some c → b ≠ c)
    (hQ : ∀ v' a' w', Ts x lv v' i a' → Below w0.heap.size w w' → v' = .slice (slA v') (mo.n + 1) (slC v') → OwnMo w0.heap.size w' ⟨slA v', mo.n + 1, slC v', fput mo.g mo.n s⟩ → Q .normal a' w') : (Code.region 6 o6 false).wp Try.prog Q a w := by
  refine wp_region_list ?_
  rw [o6_eq]
  have har := ar_box' (s := s) (u := s.row) (p := (6, v)) w h.size h.defers h8 h.t6
  refine @wpList_readsF (rowsX (some ⟨gb, 0, none⟩) ((shVals s s.row).map SV.val) (some ⟨gb, 0, none⟩) ((shVals s s.row).map SV.val)) _ _ _ _ _ _ _ _ _ _ _ _ [1, 6, 13, 14, 15] hbx.xok (c6a (some ⟨gb, 0, none⟩) s s.A s.n s.c v) (by kernel_rfl) har fun a1 t1 har1 e hk1 => ?_
  simp only [List.map_cons, List.map_nil, List.cons.injEq, and_true] at e
  obtain ⟨e23, e24⟩ := e
  have p23 : a1.tmps.getD 23 undef = v := @ar_eval (rowsX (some ⟨gb, 0, none⟩) ((shVals s s.row).map SV.val) (some ⟨gb, 0, none⟩) ((shVals s s.row).map SV.val)) _ _ _ _ _ har1 _ _ e23
  have p24 : a1.tmps.getD 24 undef = .agg (shVals s s.row).toArray := @ar_eval (rowsX (some ⟨gb, 0, none⟩) ((shVals s s.row).map SV.val) (some ⟨gb, 0, none⟩) ((shVals s s.row).map SV.val)) _ _ _ _ _ har1 _ _ e24
  have T1 := h.next (@AR.size (rowsX (some ⟨gb, 0, none⟩) ((shVals s s.row).map SV.val) (some ⟨gb, 0, none⟩) ((shVals s s.row).map SV.val)) _ _ _ _ _ har1) (@AR.defers (rowsX (some ⟨gb, 0, none⟩) ((shVals s s.row).map SV.val) (some ⟨gb, 0, none⟩) ((shVals s s.row).map SV.val)) _ _ _ _ _ har1) hk1
  letI := row0
  refine wpList_plain (by kernel_rfl) fun K hK => ?_
  refine build1 (ar_vals (ts := [(24, .agg (shVals s s.row).toArray)]) w T1.size T1.defers (fun p hp => by
    obtain rfl := List.mem_singleton.1 hp
    exact p24)) (c6n s s.row) fun gn w1 b1 b2 b3 => hK _ _ ?_
  rw [show (o6.toList.getD 2 default).dst = some 25 by kernel_rfl]
  obtain ⟨s2, f2, x2, r2⟩ := put_all a1 45 25 (.slice (some ⟨gn, 0, none⟩) 1 1) T1.size (by decide)
  generalize hA2 : a1.put (some 25) (.slice (some ⟨gn, 0, none⟩) 1 1) = a2 at s2 f2 x2 r2 ⊢
  have T2 := T1.next s2 (f2.trans T1.defers) (fun t ht => r2 t (by
    simp only [List.mem_cons, List.not_mem_nil, or_false] at ht
    omega))
  have hO1 := hO.below b1
  have hB1 : w0.heap.size ≤ w1.heap.size := Nat.le_trans hB0 b1.size
  obtain ⟨i60, z60, q1, q2, q3, q4, q5⟩ := Copy.info60
  have hM : maxLen = 9223372036854775807 := by decide +kernel
  refine wpList_append_own w1 (by kernel_rfl) (.tmp 23) (.tmp 25) 22 (by kernel_rfl) w0.heap.size 52 i60 z60 8 88 (by kernel_rfl) q1 q2 q3 q4 q5 (by decide) (.slice mo.A mo.n mo.c) mo.n _ ((r2 23 (by decide)).trans (p23.trans hv)) hO1.row ⟨gn, 0, none⟩ 1 1 (shVals s s.row) x2 (shVals_length _ _) (fun j u hu => ?_) (Ap.shVals_one _) (by omega) (by omega) hB1 fun v' w2 hown2 hgr hnil => ?_
  · rw [add_none, cell_of_row w1 gn _ _ 52 (0, 0) b3]
    simpa using hu
  rw [show (o6.toList.getD 3 default).dst = some 26 by kernel_rfl]
  obtain ⟨s3, f3, x3, r3⟩ := put_all a2 45 26 v' s2 (by decide)
  generalize hA3 : a2.put (some 26) v' = a3 at s3 f3 x3 r3 ⊢
  have T3 := T2.next s3 (f3.trans T2.defers) (fun t ht => r3 t (by
    simp only [List.mem_cons, List.not_mem_nil, or_false] at ht
    omega))
  refine wpList_readsF [1, 13, 14, 15] (xok_0 w2) (c6b v') (by kernel_rfl) (ar_vals (ts := [(26, v')]) w2 s3 T3.defers (fun p hp => by
    obtain rfl := List.mem_singleton.1 hp
    exact x3)) fun a4 t4 har4 e hk4 => ?_
  simp only [List.map_cons, List.map_nil, List.cons.injEq, and_true] at e
  obtain ⟨hv', hmo⟩ := hO1.snoc (s := s) hgr ((hown.kept (grown_of b1 none) (by cases s.row.ownBlock <;> simp)).kept hgr (own_ne hO1.row (hown.kept (grown_of b1 none) (by cases s.row.ownBlock <;> simp)))) hf hown2
  exact hQ v' a4 w2 ⟨har4.size, har4.defers, (hk4 1 (by simp)).trans T3.t1, ar_eval har4 e, (hk4 13 (by simp)).trans T3.t13, (hk4 14 (by simp)).trans T3.t14, (hk4 15 (by simp)).trans T3.t15⟩ ((b1.mono hB0).trans (below_own hB1 hO1.row hgr)) hv' hmo
/-- At the copy's head. -/
structure L1 (x : Mo) (lv : Value) (w0 : World) (i : Nat) (mo : Mo) (a : Act) (w : World) : Prop where
  ts : Ts x lv (.slice mo.A mo.n mo.c) i a
  below : Below w0.heap.size w0 w
  own : OwnMo w0.heap.size w mo
  n : mo.n = i
  ls : mo.ls = x.ls.take i
theorem ls_fput_n (mo : Mo) (A : Option Addr) (c : Nat) (s : Sh) : (⟨A, mo.n + 1, c, fput mo.g mo.n s⟩ : Mo).ls = mo.ls ++ [s.ls] := by
  show (List.range (mo.n + 1)).map (fun j => (fput mo.g mo.n s j).ls) = _
  rw [List.range_succ, List.map_append, List.map_congr_left (g := fun j => (mo.g j).ls) fun t ht => by
    have := List.mem_range.1 ht
    simp only [fput]
    rw [if_neg (by omega)]]
  simp [fput, Mo.ls]
set_option maxRecDepth 100000 in
theorem round1 (hI : Inv (fun _ => x) noBox w0) (hx : RawMo w0 x) (hn : x.n ≤ 1000000) (hp : ∀ j, j < x.n → (x.g j).n ≤ 1000000) (h : L1 x lv w0 i mo a w) (hi : i < x.n) (hQ : ∀ mo' a' w', L1 x lv w0 (i + 1) mo' a' w' → Q .normal a' w') : wpL Try.prog rd Q a w := by
  letI := rowsB (fun _ => x) noBox
  have C := ctxB (fun _ => x) noBox entries_nil entsS_nil
  have C : Ctx Try.prog ext (tab []) (Inv (fun _ => x) noBox) := ⟨C.mix, C.hX, C.hs, C.hXO, tab_sound entries_nil⟩
  rw [rd_eq, wpL_app]
  have e1 := Pa.a1 (fun _ => x) lv (.slice mo.A mo.n mo.c) i
  rw [show decide ((i : Int) < (x.n : Int)) = true from decide_eq_true (by omega)] at e1
  refine piece C.mix C.hX C.hs C.hXO C.hG e1 (inv_stable _ _ _ _ hI h.below) (h.ts.sr w) (fun v hv => by cases hv) (fun ex d hd m a1 w1 hr1 => ?_)
  cases hd
  have T1 : Ts x lv (.slice mo.A mo.n mo.c) i a1 := Ts.back (bs := []) (tl := []) (nx := 0) hr1.ar
  have b1 : Below w0.heap.size w0 w1 := h.below.trans (hr1.mr.below.mono h.below.size)
  have hO1 := h.own.below hr1.mr.below
  show wpL Try.prog (.block 1 (inB (rd.getD 2 .skip)) :: rd.drop 3) Q a1 w1
  simp only [wpL]
  refine wp_block (wpL_flat _ ?_)
  show wpL Try.prog inn _ a1 w1
  rw [inn_eq, wpL_app]
  have e2 := Pa.a2 (fun _ => x) lv (.slice mo.A mo.n mo.c) i
  rw [show decide (0 ≤ (i : Int)) = true from decide_eq_true (by omega), show decide ((i : Int) < (x.n : Int)) = true from decide_eq_true (by omega)] at e2
  refine piece C.mix C.hX C.hs C.hXO C.hG e2 (inv_stable _ _ _ _ hI b1) (T1.sr w1) (fun v hv => by cases hv) (fun ex d hd m2 a2 w2 hr2 => ?_)
  cases hd
  have T2 : Ts x lv (.slice mo.A mo.n mo.c) i a2 := Ts.back (bs := []) (tl := [(8, .ptr 0 0)]) (nx := 1) hr2.ar
  have p8 : a2.tmps.getD 8 undef = .pointer (some ⟨m2 0, 0, none⟩) := (hr2.ar.tm 8 rfl).trans (den_ptr _ _ _)
  have b2 : Below w0.heap.size w0 w2 := b1.trans (hr2.mr.below.mono b1.size)
  have hO2 := hO1.below hr2.mr.below
  have hb := hr2.mr.blk 0 ⟨52, shCells (x.g i).cl (x.g i).p (x.g i).x [0, i]⟩ rfl
  have hbx : BoxS w1.heap.size w2 (m2 0) (x.g i) (x.g i).row := BoxS.of (by
    have := hb.2.1
    rw [sh_den] at this
    exact this) hb.1
  have hx2 := hx.below (b2.mono (Nat.le_refl _))
  show (Code.region 5 o5 false).wp Try.prog (Exit.then (wpL Try.prog [.region 6 o6 false] _) _) a2 w2
  refine reg5 (s := x.g i) T2 p8 hbx hr2.mr.below.size (hx2.nils i) (fun t ht => ?_) (fun ad hA h0 => ?_) (by have := hp i hi; omega) fun u a3 w3 w23 T3 q8 b3 hgr hown hbx3 => ?_
  · obtain ⟨ad, h1, h2, h3⟩ := hx2.row i t ht
    exact ⟨ad, h1, h3⟩
  · obtain ⟨ad', h1, h2, h3⟩ := hx2.row i 0 h0
    rw [hA] at h1
    cases h1
    exact h2
  show wpL Try.prog [.region 6 o6 false] _ a3 w3
  simp only [wpL]
  have hu := (own_slice hown).1
  obtain ⟨s', hs'⟩ : ∃ s' : Sh, s' = { x.g i with A := slA u, c := slC u } := ⟨_, rfl⟩
  have hrow' : s'.row = u := by rw [hs']; exact hu.symm
  have hg8 : w1.heap.size ≤ m2 0 := hb.1
  have b3' : Below w1.heap.size w2 w3 := (b3.mono hr2.mr.below.size).trans ⟨hgr.os, hgr.tape, hgr.output, hgr.size, fun k hk => hgr.block k (Nat.lt_of_lt_of_le (Nat.lt_of_lt_of_le hk hr2.mr.below.size) b3.size) (fun e => by
    simp only [Option.some.injEq] at e
    omega)⟩
  have hb13 : Below w1.heap.size w1 w3 := hr2.mr.below.trans b3'
  have hO3 := hO1.below hb13
  refine reg6 (w0 := w0) (mo := mo) (gb := m2 0) (B := w1.heap.size) (s := s') T3 q8 (by
    rw [hrow']
    have : shVals s' u = shVals (x.g i) u := by rw [hs']; rfl
    unfold BoxS
    rw [this]
    exact hbx3) hb13.size hO3 (Nat.le_trans b1.size hb13.size) rfl (by have := h.n; omega) (fun A n c hr => by
      unfold Sh.row at hr
      cases hr
      exact ⟨rfl, rfl, rfl⟩) ?_ ?_ fun v' a4 w4 T4 b4 hv' hmo => ?_
  · rw [hrow']
    have : Copy.rowOf s' = Copy.rowOf (x.g i) := by rw [hs']; rfl
    rw [this, show s'.n = (x.g i).n by rw [hs']]
    exact own_base hown (Nat.le_trans b1.size hr2.mr.below.size)
  · intro t b c h1 h2
    rw [hrow'] at h1
    have l1 := (hown.lt b h1).1
    have l2 := ((hO1.props t).lt c h2).2
    have := hr2.mr.below.size
    omega
  show wpL Try.prog (rd.drop 3) Q a4 w4
  have b04 : Below w0.heap.size w0 w4 := (b1.trans (hb13.mono b1.size)).trans b4
  have e3 := Pa.a3 (fun _ => x) lv v' i
  rw [wr hi (by omega)] at e3
  refine piece C.mix C.hX C.hs C.hXO C.hG e3 (inv_stable _ _ _ _ hI b04) (T4.sr w4) (fun v hv => by cases hv) (fun ex d hd m5 a5 w5 hr5 => ?_)
  cases hd
  refine hQ ⟨slA v', mo.n + 1, slC v', fput mo.g mo.n s'⟩ a5 w5 ⟨?_, b04.trans (hr5.mr.below.mono b04.size), hmo.below hr5.mr.below, by have := h.n; show mo.n + 1 = _; omega, ?_⟩
  · rw [← hv']
    exact ⟨hr5.ar.size, hr5.ar.defers, (hr5.ar.tm 1 rfl).trans (den_val _ _), (hr5.ar.tm 6 rfl).trans (den_val _ _), (hr5.ar.tm 13 rfl).trans (den_xs _ [0]), (hr5.ar.tm 14 rfl).trans (den_val _ _), (hr5.ar.tm 15 rfl).trans (den_val _ _)⟩
  · rw [ls_fput_n, h.ls, List.take_add_one, ls_at x hi]
    have : s'.ls = (x.g i).ls := by rw [hs']; rfl
    rw [this]
    rfl
end
end Pa
end Go.Proofs.Ytaojjpdlfnphiaa.PDescKinds
end
section
/- invariant.Patch runs. -/
set_option linter.unusedSimpArgs false
set_option linter.unusedVariables false
set_option linter.unusedSectionVars false
namespace Go.Proofs.Ytaojjpdlfnphiaa.PDescKinds
open Go.RowKit Go.Ev
namespace L
/-- Small moments. -/
def Bd (N : Nat) (l : List LS) : Prop := l.length ≤ N ∧ ∀ s ∈ l, s.ps.length ≤ N
theorem shape_bd {N : Nat} {s s' : LS} {δ : Dl} (h : s.ps.length ≤ N) (e : shape s δ = some s') : s'.ps.length ≤ N + 1 := by
  unfold shape at e
  split at e
  · cases e; exact Nat.le_succ_of_le h
  split at e
  · cases e; exact Nat.le_succ_of_le h
  split at e
  · cases e; exact Nat.le_succ_of_le h
  split at e
  · obtain ⟨i, _, rfl⟩ := Option.map_eq_some_iff.1 e
    show (s.ps.eraseIdx i).length ≤ _
    exact Nat.le_trans (List.length_eraseIdx_le _ _) (Nat.le_succ_of_le h)
  split at e
  · split at e
    · cases e
      show (s.ps ++ [_]).length ≤ _
      rw [List.length_append]
      simpa using h
    · cases e
      show (s.ps.modify _ _).length ≤ _
      rw [List.length_modify]
      exact Nat.le_succ_of_le h
  · cases e
theorem apply_bd {N : Nat} {l l' : List LS} {δ : Dl} (h : Bd N l) (e : apply l δ = some l') : Bd (N + 1) l' := by
  unfold apply at e
  split at e
  · split at e
    · cases e
      refine ⟨by rw [List.length_append]; have := h.1; simp; omega, fun s hs => ?_⟩
      rcases List.mem_append.1 hs with hs | hs
      · exact Nat.le_succ_of_le (h.2 s hs)
      · obtain rfl := List.mem_singleton.1 hs
        exact Nat.zero_le _
    · cases e
  split at e
  · cases e
  split at e
  · rename_i s hs
    obtain ⟨s', h1, rfl⟩ := Option.map_eq_some_iff.1 e
    refine ⟨by rw [List.length_set]; exact Nat.le_succ_of_le h.1, fun t ht => ?_⟩
    rcases List.mem_or_eq_of_mem_set ht with ht | rfl
    · exact Nat.le_succ_of_le (h.2 t ht)
    · exact shape_bd (h.2 s (List.mem_of_getElem? hs)) h1
  · cases e
/-- A list of deltas. -/
def patch (l : List LS) (ds : List Dl) : Option (List LS) := ds.foldlM apply l
end L
theorem Bd.mo {N : Nat} {B : Nat} {w : World} {mo : Mo} (h : L.Bd N mo.ls) (hO : OwnMo B w mo) : mo.n ≤ N ∧ ∀ j, (mo.g j).n ≤ N := by
  refine ⟨by rw [← ls_len]; exact h.1, fun j => ?_⟩
  by_cases hj : j < mo.n
  · have := h.2 (mo.g j).ls (List.mem_of_getElem? (ls_at mo hj))
    rw [ps_len] at this
    exact this
  · rw [hO.rest j (by omega)]
    exact Nat.zero_le _
namespace Pa
section
variable {x mo : Mo} {lv v : Value} {i j K n c : Nat} {A : Option Addr} {g : Nat → Dl} {a : Act} {w w0 : World} {Q : Exit → Act → World → Prop}
/-- What stays in a round of the deltas. -/
structure Us (A : Option Addr) (n c : Nat) (v : Value) (j : Nat) (a : Act) : Prop where
  size : a.tmps.size = 45
  defers : a.defers = []
  t6 : a.tmps.getD 6 undef = v
  t28 : a.tmps.getD 28 undef = .slice A n c
  t29 : a.tmps.getD 29 undef = .int .i64 n
  t30 : a.tmps.getD 30 undef = .int .i64 (j : Int)
theorem Us.sr (h : Us A n c v j a) (w : World) : @SR (rowL A n c g) w 45 (fun _ => 0) ((⟨H2 v n j, []⟩ : Cut).st 0) a w := by
  letI := rowL A n c g
  refine epoch h.size h.defers _ _ (fun p hp => ?_) (fun p hp => ?_)
  · simp only [List.mem_cons, List.not_mem_nil, or_false] at hp
    rcases hp with rfl | rfl | rfl | rfl
    · exact h.t6.trans (den_val _ _).symm
    · exact h.t28.trans (den_xs _ []).symm
    · exact h.t29.trans (den_val _ _).symm
    · exact h.t30.trans (den_val _ _).symm
  · simp only [List.mem_cons, List.not_mem_nil, or_false] at hp
    rcases hp with rfl | rfl | rfl | rfl <;> first | exact ok_val _ _ | exact ok_xs
theorem Us.back {m : Nat → Nat} {a' : Act} {tl : List (Nat × SV)} {mem : Mem} (har : @AR (rowL A n c g) 45 m (pickT (H2 v n j ++ tl)) mem a') : Us A n c v j a' := by
  letI := rowL A n c g
  exact ⟨har.size, har.defers, (har.tm 6 rfl).trans (den_val _ _), (har.tm 28 rfl).trans (den_xs _ []), (har.tm 29 rfl).trans (den_val _ _), (har.tm 30 rfl).trans (den_val _ _)⟩
/-- At the deltas' head. -/
structure L2 (x : Mo) (A : Option Addr) (n c : Nat) (g : Nat → Dl) (w0 : World) (K j : Nat) (mo : Mo) (a : Act) (w : World) : Prop where
  us : Us A n c (.slice mo.A mo.n mo.c) j a
  below : Below w0.heap.size w0 w
  own : OwnMo w0.heap.size w mo
  ls : L.patch x.ls ((List.range j).map g) = some mo.ls
  bd : L.Bd (K + j) mo.ls
theorem ctxL : @Ctx (rowL A n c g) Try.prog ext (tab []) (fun w => @XOk (rowL A n c g) w) := by
  letI := rowL A n c g
  exact ⟨mixed, ext_sound, fun w w' h hb => XOk.below h hb, fun w h => h, tab_sound entries_nil⟩
theorem patch_succ (l : List LS) (g : Nat → Dl) (j : Nat) : L.patch l ((List.range (j + 1)).map g) = (L.patch l ((List.range j).map g)).bind fun l' => L.apply l' (g j) := by
  unfold L.patch
  rw [List.range_succ, List.map_append, List.foldlM_append]
  simp
theorem patch_none {l : List LS} {g : Nat → Dl} {j n : Nat} (h : L.patch l ((List.range j).map g) = none) (hj : j ≤ n) : L.patch l ((List.range n).map g) = none := by
  induction n with
  | zero =>
    obtain rfl : j = 0 := by omega
    exact h
  | succ n ih =>
    by_cases e : j = n + 1
    · rw [← e]; exact h
    · rw [patch_succ, ih (by omega)]; rfl
theorem Us.next {a' : Act} (h : Us A n c v j a) (hs : a'.tmps.size = 45) (hd : a'.defers = []) (hk : ∀ t ∈ [6, 28, 29, 30], a'.tmps.getD t undef = a.tmps.getD t undef) : Us A n c v j a' :=
  ⟨hs, hd, (hk 6 (by simp)).trans h.t6, (hk 28 (by simp)).trans h.t28, (hk 29 (by simp)).trans h.t29, (hk 30 (by simp)).trans h.t30⟩
set_option maxRecDepth 100000 in
theorem piece1 (hX : @XOk (rowL A n c g) w) (h : Us A n c v j a) (hj : j < n) (hQ : ∀ a' w', Us A n c v j a' → Below w.heap.size w w' → Q .normal a' w') : wpL Try.prog (rd2.take 2) Q a w := by
  letI := rowL A n c g
  have C := ctxL (A := A) (n := n) (c := c) (g := g)
  have e1 := Pa.b1 A n c g v j
  rw [show decide ((j : Int) < (n : Int)) = true from decide_eq_true (by omega)] at e1
  refine piece C.mix C.hX C.hs C.hXO C.hG e1 hX (h.sr w) (fun v hv => by cases hv) (fun ex d hd m a1 w1 hr1 => ?_)
  cases hd
  exact hQ a1 w1 (Us.back (g := g) (tl := []) hr1.ar) hr1.mr.below
set_option maxRecDepth 100000 in
theorem pieceE (hX : @XOk (rowL A n c g) w) (h : Us A n c v n a) (hQ : ∀ a' w', Us A n c v n a' → Below w.heap.size w w' → Q (.exit 2) a' w') : wpL Try.prog (rd2.take 2) Q a w := by
  letI := rowL A n c g
  have C := ctxL (A := A) (n := n) (c := c) (g := g)
  have e1 := Pa.b1 A n c g v n
  rw [show decide ((n : Int) < (n : Int)) = false from decide_eq_false (by omega)] at e1
  refine piece C.mix C.hX C.hs C.hXO C.hG e1 hX (h.sr w) (fun v hv => by cases hv) (fun ex d hd m a1 w1 hr1 => ?_)
  cases hd
  exact hQ a1 w1 (Us.back (g := g) (tl := []) hr1.ar) hr1.mr.below
set_option maxRecDepth 100000 in
theorem piece2 (hX : @XOk (rowL A n c g) w) (h : Us A n c v j a) (hj : j < n) (hQ : ∀ a' w' gb, Us A n c v j a' → a'.tmps.getD 10 undef = .pointer (some ⟨gb, 0, none⟩) → Below w.heap.size w w' → w.heap.size ≤ gb → Boxed w' gb (g j) → Q .normal a' w') : wpL Try.prog (inn2.take 1) Q a w := by
  letI := rowL A n c g
  have C := ctxL (A := A) (n := n) (c := c) (g := g)
  have e2 := Pa.b2 A n c g v j
  rw [show decide (0 ≤ (j : Int)) = true from decide_eq_true (by omega), show decide ((j : Int) < (n : Int)) = true from decide_eq_true (by omega)] at e2
  refine piece C.mix C.hX C.hs C.hXO C.hG e2 hX (h.sr w) (fun v hv => by cases hv) (fun ex d hd m a1 w1 hr1 => ?_)
  cases hd
  have hb := hr1.mr.blk 0 ⟨35, (g j).cells⟩ rfl
  refine hQ a1 w1 (m 0) (Us.back (g := g) (tl := [(10, .ptr 0 0)]) hr1.ar) ((hr1.ar.tm 10 rfl).trans (den_ptr _ _ _)) hr1.mr.below hb.1 ?_
  have := hb.2.1
  simp only [Dl.cells, List.map_map] at this
  rw [show (SV.den m ∘ SV.val) = _root_.id from funext fun v => den_val m v, List.map_id] at this
  exact this
set_option maxRecDepth 100000 in
theorem piece3 (hX : @XOk (rowL A n c g) w) (h : Us A n c v j a) (hj : j < n) (hn : n ≤ 500000) (hQ : ∀ a' w', Us A n c v (j + 1) a' → Below w.heap.size w w' → Q .normal a' w') : wpL Try.prog (rd2.drop 3) Q a w := by
  letI := rowL A n c g
  have C := ctxL (A := A) (n := n) (c := c) (g := g)
  have e3 := Pa.b3 A n c g v j
  rw [wr hj (by omega)] at e3
  refine piece C.mix C.hX C.hs C.hXO C.hG e3 hX (h.sr w) (fun v hv => by cases hv) (fun ex d hd m a1 w1 hr1 => ?_)
  cases hd
  exact hQ a1 w1 ⟨hr1.ar.size, hr1.ar.defers, (hr1.ar.tm 6 rfl).trans (den_val _ _), (hr1.ar.tm 28 rfl).trans (den_xs _ []), (hr1.ar.tm 29 rfl).trans (den_val _ _), (hr1.ar.tm 30 rfl).trans (den_val _ _)⟩ hr1.mr.below
set_option maxRecDepth 100000 in
theorem reg11 {gb : Nat} {δ : Dl} {R : Ending → World → Prop} (h : Us A n c v j a) (h10 : a.tmps.getD 10 undef = .pointer (some ⟨gb, 0, none⟩)) (hbx : Boxed w gb δ) (hc : Calls Try.prog 16 #[v, δ.agg] w R)
    (hQ : ∀ e w', R e w' → ∃ u b, e = .returned (.tuple #[u, .bool b]) ∧ ∀ a', Us A n c v j a' → a'.tmps.getD 11 undef = u → a'.tmps.getD 12 undef = .bool b → Q .normal a' w') : (Code.region 11 o11 false).wp Try.prog Q a w := by
  refine wp_region_list ?_
  rw [o11_eq]
  have har : @AR (rowsX (some ⟨gb, 0, none⟩) δ.cells (some ⟨gb, 0, none⟩) δ.cells) 45 (fun _ => 0) (pickT [(6, .val v), (10, .xp [] 0 0)]) (fun _ => none) a := by
    letI := rowsX (some ⟨gb, 0, none⟩) δ.cells (some ⟨gb, 0, none⟩) δ.cells
    refine ar_of w h.size h.defers (fun p hp => ?_) (fun p hp => ?_)
    · simp only [List.mem_cons, List.not_mem_nil, or_false] at hp
      rcases hp with rfl | rfl
      · exact h.t6.trans (den_val _ _).symm
      · refine h10.trans ?_
        rw [den_xp]
        rfl
    · simp only [List.mem_cons, List.not_mem_nil, or_false] at hp
      rcases hp with rfl | rfl
      · exact ok_val _ _
      · exact ok_xp.2 (by show 0 < 1; omega)
  refine @wpList_readsF (rowsX (some ⟨gb, 0, none⟩) δ.cells (some ⟨gb, 0, none⟩) δ.cells) _ _ _ _ _ _ _ _ _ _ _ _ [6, 28, 29, 30] hbx.xok (d11 (some ⟨gb, 0, none⟩) δ v) (by kernel_rfl) har fun a3 t3 har3 e hk3 => ?_
  simp only [List.map_cons, List.map_nil, List.cons.injEq, and_true] at e
  obtain ⟨e35, e36⟩ := e
  have q35 : a3.eval (.tmp 35) = v := @ar_eval (rowsX (some ⟨gb, 0, none⟩) δ.cells (some ⟨gb, 0, none⟩) δ.cells) _ _ _ _ _ har3 _ _ e35
  have q36 : a3.eval (.tmp 36) = δ.agg := @ar_eval (rowsX (some ⟨gb, 0, none⟩) δ.cells (some ⟨gb, 0, none⟩) δ.cells) _ _ _ _ _ har3 _ _ e36
  have U3 := h.next (@AR.size (rowsX (some ⟨gb, 0, none⟩) δ.cells (some ⟨gb, 0, none⟩) δ.cells) _ _ _ _ _ har3) (@AR.defers (rowsX (some ⟨gb, 0, none⟩) δ.cells (some ⟨gb, 0, none⟩) δ.cells) _ _ _ _ _ har3) hk3
  have hrun : (execOp a3.eval (o11.toList.getD 2 default)).run Try.prog w = .ok (.enter 16 #[v, δ.agg]) w := by
    rw [← run_enters (P := Try.prog) (f := 16) (by kernel_rfl)]
    have em : (#[Operand.tmp 35, .tmp 36] : Array Operand).map a3.eval = #[v, δ.agg] := by
      simp only [List.map_toArray, List.map_cons, List.map_nil, q35, q36]
    unfold execOp
    simp only [op11, resolve, em, Act.eval, Deferred.ofValue, Sem.run_bind, Sem.run_pure, Result.andThen_ok, invoke]
    simp
  refine wpList_plain (by kernel_rfl) fun K hK => ?_
  unfold Oper.wp
  rw [hrun, Oper.upon_enter]
  refine Calls.mono hc fun e w4 hR => ?_
  obtain ⟨u, b, he, hq⟩ := hQ e w4 hR
  subst he
  refine hK _ _ ?_
  rw [show (o11.toList.getD 2 default).dst = some 37 by kernel_rfl]
  obtain ⟨s4, f4, x4, r4⟩ := put_all a3 45 37 (.tuple #[u, .bool b]) U3.size (by decide)
  generalize hA4 : a3.put (some 37) (.tuple #[u, .bool b]) = a4 at s4 f4 x4 r4 ⊢
  have U4 := U3.next s4 (f4.trans U3.defers) (fun t ht => r4 t (by
    simp only [List.mem_cons, List.not_mem_nil, or_false] at ht
    omega))
  letI := row0
  refine wpList_readsF [6, 28, 29, 30] (xok_0 w4) (d11b u b) (by kernel_rfl) (ar_vals (ts := [(37, .tuple #[u, .bool b])]) w4 s4 U4.defers (fun p hp => by
    obtain rfl := List.mem_singleton.1 hp
    exact x4)) fun a5 t5 har5 e hk5 => ?_
  simp only [List.map_cons, List.map_nil, List.cons.injEq, and_true] at e
  obtain ⟨e11, e12⟩ := e
  exact hq a5 (U4.next har5.size har5.defers hk5) (ar_eval har5 e11) (ar_eval har5 e12)
set_option maxRecDepth 100000 in
theorem tail12 {u : Value} {b : Bool} (h : Us A n c v j a) (h11 : a.tmps.getD 11 undef = u) (h12 : a.tmps.getD 12 undef = .bool b)
    (hT : b = true → ∀ a', Us A n c u j a' → Q .normal a' w) (hF : b = false → ∀ a' w' m, a'.defers = [] → (results Try.f7 a'.tmps).run Try.prog w' = .ok (@SV.den row0 m (.val (.tuple #[.slice none 0 0, .int .i64 7]))) w' → Below w.heap.size w w' → Q .ret a' w') :
    wpL Try.prog [.region 12 o12 false, .cond (.tmp 41) (thenOf (inn2.getD 3 .skip)) .skip, .region 14 o14 false] Q a w := by
  letI := row0
  show (Code.region 12 o12 false).wp Try.prog (Exit.then (wpL Try.prog [.cond (.tmp 41) (thenOf (inn2.getD 3 .skip)) .skip, .region 14 o14 false] Q) Q) a w
  refine region_readsF [6, 28, 29, 30] (xok_0 w) (d12 u b) (by kernel_rfl) (ar_vals (ts := [(11, u), (12, .bool b)]) w h.size h.defers (fun p hp => ?_)) fun a1 t1 har1 e hk1 => ?_
  · simp only [List.mem_cons, List.not_mem_nil, or_false] at hp
    rcases hp with rfl | rfl
    · exact h11
    · exact h12
  simp only [List.map_cons, List.map_nil, List.cons.injEq, and_true] at e
  obtain ⟨e11, e41⟩ := e
  have U1 := h.next har1.size har1.defers hk1
  have p41 : a1.eval (.tmp 41) = .bool !b := ar_eval har1 e41
  have p11 : a1.tmps.getD 11 undef = u := ar_eval har1 e11
  show (Code.cond (.tmp 41) (thenOf (inn2.getD 3 .skip)) .skip).wp Try.prog (Exit.then (wpL Try.prog [.region 14 o14 false] Q) Q) a1 w
  cases b with
  | true =>
    refine wp_cond_false p41 (wp_skip ?_)
    show (Code.region 14 o14 false).wp Try.prog (Exit.then (wpL Try.prog [] Q) Q) a1 w
    rw [then_nil]
    refine region_readsF [28, 29, 30] (xok_0 w) (d14 u) (by kernel_rfl) (ar_vals (ts := [(11, u)]) w U1.size U1.defers (fun p hp => by
      obtain rfl := List.mem_singleton.1 hp
      exact p11)) fun a2 t2 har2 e hk2 => ?_
    simp only [List.map_cons, List.map_nil, List.cons.injEq, and_true] at e
    exact hT rfl a2 ⟨har2.size, har2.defers, ar_eval har2 e, (hk2 28 (by simp)).trans U1.t28, (hk2 29 (by simp)).trans U1.t29, (hk2 30 (by simp)).trans U1.t30⟩
  | false =>
    refine wp_cond_true p41 (wpL_flat _ ?_)
    refine piece Ap.ctx0.mix Ap.ctx0.hX Ap.ctx0.hs Ap.ctx0.hXO Ap.ctx0.hG d13 (w0 := w) trivial (epoch U1.size U1.defers [] (fun _ => 0) (fun p hp => by cases hp) fun p hp => by cases hp) (fun v hv m' a' w' g1 g2 g3 => ?_) (fun ex d hd => by cases hd)
    cases hv
    exact hF rfl a' w' m' g1 g2 g3
set_option maxRecDepth 100000 in
theorem round2 (hT : Tabs w0) (hX : @XOk (rowL A n c g) w0) (hn : n ≤ 500000) (hK : K ≤ 400000) (h : L2 x A n c g w0 K j mo a w) (hj : j < n)
    (hQ : ∀ mo' a' w', L2 x A n c g w0 K (j + 1) mo' a' w' → Q .normal a' w')
    (hR : ∀ a' w' m, a'.defers = [] → (results Try.f7 a'.tmps).run Try.prog w' = .ok (@SV.den row0 m (.val (.tuple #[.slice none 0 0, .int .i64 7]))) w' → Below w0.heap.size w0 w' → L.patch x.ls ((List.range (j + 1)).map g) = none → Q .ret a' w') : wpL Try.prog rd2 Q a w := by
  have hx : ∀ w', Below w0.heap.size w0 w' → @XOk (rowL A n c g) w' := fun w' hb => @XOk.below (rowL A n c g) _ _ hX hb
  rw [rd2_eq, wpL_app]
  refine piece1 (g := g) (hx w h.below) h.us hj fun a1 w1 U1 d1 => ?_
  have b1 : Below w0.heap.size w0 w1 := h.below.trans (d1.mono h.below.size)
  have hO1 := h.own.below d1
  show wpL Try.prog (.block 3 (inB (rd2.getD 2 .skip)) :: rd2.drop 3) Q a1 w1
  simp only [wpL]
  refine wp_block (wpL_flat _ ?_)
  show wpL Try.prog inn2 _ a1 w1
  rw [inn2_eq, wpL_app]
  refine piece2 (g := g) (hx w1 b1) U1 hj fun a2 w2 gb U2 p10 d2 hgb hbx => ?_
  have b2 : Below w0.heap.size w0 w2 := b1.trans (d2.mono b1.size)
  have hO2 := hO1.below d2
  obtain ⟨hm1, hm2⟩ := Bd.mo h.bd h.own
  show (Code.region 11 o11 false).wp Try.prog (Exit.then (wpL Try.prog [.region 12 o12 false, .cond (.tmp 41) (thenOf (inn2.getD 3 .skip)) .skip, .region 14 o14 false] _) _) a2 w2
  refine reg11 U2 p10 hbx (Ap.calls (δ := g j) (tabs_stable _ _ hT b2) b2.size hO2 (by omega) (fun t => by have := hm2 t; omega)) fun e w3 ⟨d3, hout⟩ => ?_
  have b3 : Below w0.heap.size w0 w3 := b2.trans d3
  rcases hout with ⟨mo', h1, rfl, hO3⟩ | ⟨h1, u, rfl⟩
  · refine ⟨_, true, rfl, fun a4 U4 p11 p12 => ?_⟩
    show wpL Try.prog [.region 12 o12 false, .cond (.tmp 41) (thenOf (inn2.getD 3 .skip)) .skip, .region 14 o14 false] _ a4 w3
    refine tail12 U4 p11 p12 (fun _ a5 U5 => ?_) (fun hb => by cases hb)
    show wpL Try.prog (rd2.drop 3) Q a5 w3
    refine piece3 (g := g) (hx w3 b3) U5 hj hn fun a6 w6 U6 d6 => ?_
    refine hQ mo' a6 w6 ⟨U6, b3.trans (d6.mono b3.size), hO3.below d6, ?_, L.apply_bd h.bd h1⟩
    rw [patch_succ, h.ls]
    exact h1
  · refine ⟨u, false, rfl, fun a4 U4 p11 p12 => ?_⟩
    show wpL Try.prog [.region 12 o12 false, .cond (.tmp 41) (thenOf (inn2.getD 3 .skip)) .skip, .region 14 o14 false] _ a4 w3
    refine tail12 U4 p11 p12 (fun hb => by cases hb) (fun _ a5 w5 m g1 g2 g3 => ?_)
    show Q .ret a5 w5
    refine hR a5 w5 m g1 g2 (b3.trans (g3.mono b3.size)) ?_
    rw [patch_succ, h.ls]
    exact h1
end
end Pa
end Go.Proofs.Ytaojjpdlfnphiaa.PDescKinds
end
section
/- invariant.Patch: its contract. -/
set_option linter.unusedSimpArgs false
set_option linter.unusedVariables false
set_option linter.unusedSectionVars false
namespace Go.Proofs.Ytaojjpdlfnphiaa.PDescKinds
open Go.RowKit Go.Ev
theorem ownMo0 (B : Nat) (w : World) : OwnMo B w Mo0 := by
  have h0 : ∀ j, (Mo0.g j).row = .slice none 0 0 := fun _ => rfl
  refine ⟨World.ownsRow_nil _ _ _ _, fun j => ?_, fun j l _ => .inl rfl, fun j _ => rfl⟩
  exact World.ownsRow_nil _ _ _ _
namespace Pa
section
variable {x mo : Mo} {lv v : Value} {i j K n c : Nat} {A : Option Addr} {g : Nat → Dl} {a : Act} {w w0 : World} {Q : Exit → Act → World → Prop}
set_option maxRecDepth 100000 in
theorem start (hI : Inv (fun _ => x) noBox w0) (hQ : ∀ a' w', L1 x lv w0 0 Mo0 a' w' → Q .normal a' w') :
    wpL Try.prog (pt.take 3) Q { tmps := #[.slice x.A x.n x.c, lv] ++ Array.replicate (Try.f7.ntmps - (#[.slice x.A x.n x.c, lv] : Array Value).size) undef, defers := [] } w0 := by
  letI := rowsB (fun _ => x) noBox
  have C := ctxB (fun _ => x) noBox entries_nil entsS_nil
  have C : Ctx Try.prog ext (tab []) (Inv (fun _ => x) noBox) := ⟨C.mix, C.hX, C.hs, C.hXO, tab_sound entries_nil⟩
  have hst := start_sound (fn := Try.f7) [.xs [0], .val lv] (fun x hx => by
    simp only [List.mem_cons, List.not_mem_nil, or_false] at hx
    rcases hx with rfl | rfl
    · exact ok_xs
    · exact ok_val _ _) w0 (fun _ => 0)
  simp only [List.map_cons, List.map_nil, den_xs, den_val] at hst
  refine piece C.mix C.hX C.hs C.hXO C.hG (a0 (fun _ => x) lv) hI hst (fun v hv => by cases hv) (fun ex d hd m a1 w1 hr => ?_)
  cases hd
  exact hQ a1 w1 ⟨Ts.back (bs := []) (tl := []) (nx := 0) hr.ar, hr.mr.below, ownMo0 _ _, rfl, by simp [Mo.ls, Mo0]⟩
set_option maxRecDepth 100000 in
theorem end1 (hI : Inv (fun _ => x) noBox w0) (h : L1 x lv w0 x.n mo a w) (hQ : ∀ a' w', L1 x lv w0 x.n mo a' w' → Q (.exit 0) a' w') : wpL Try.prog rd Q a w := by
  letI := rowsB (fun _ => x) noBox
  have C := ctxB (fun _ => x) noBox entries_nil entsS_nil
  have C : Ctx Try.prog ext (tab []) (Inv (fun _ => x) noBox) := ⟨C.mix, C.hX, C.hs, C.hXO, tab_sound entries_nil⟩
  rw [rd_eq, wpL_app]
  have e1 := Pa.a1 (fun _ => x) lv (.slice mo.A mo.n mo.c) x.n
  rw [show decide ((x.n : Int) < (x.n : Int)) = false from decide_eq_false (by omega)] at e1
  refine piece C.mix C.hX C.hs C.hXO C.hG e1 (inv_stable _ _ _ _ hI h.below) (h.ts.sr w) (fun v hv => by cases hv) (fun ex d hd m a1 w1 hr => ?_)
  cases hd
  exact hQ a1 w1 ⟨Ts.back (bs := []) (tl := []) (nx := 0) hr.ar, h.below.trans (hr.mr.below.mono h.below.size), h.own.below hr.mr.below, h.n, h.ls⟩
set_option maxRecDepth 100000 in
theorem mid (hX : @XOk (rowL A n c g) w0) (h : L1 x (.slice A n c) w0 x.n mo a w) (hbd : L.Bd K x.ls) (hQ : ∀ a' w', L2 x A n c g w0 K 0 mo a' w' → Q .normal a' w') : wpL Try.prog (p2.take 1) Q a w := by
  letI := rowL A n c g
  have C := ctxL (A := A) (n := n) (c := c) (g := g)
  have hsr : SR w 45 (fun _ => 0) ((⟨[(1, .xs []), (6, .val (.slice mo.A mo.n mo.c))], []⟩ : Cut).st 0) a w := by
    refine epoch h.ts.size h.ts.defers _ _ (fun p hp => ?_) (fun p hp => ?_)
    · simp only [List.mem_cons, List.not_mem_nil, or_false] at hp
      rcases hp with rfl | rfl
      · exact h.ts.t1.trans (den_xs _ []).symm
      · exact h.ts.t6.trans (den_val _ _).symm
    · simp only [List.mem_cons, List.not_mem_nil, or_false] at hp
      rcases hp with rfl | rfl <;> first | exact ok_val _ _ | exact ok_xs
  refine piece C.mix C.hX C.hs C.hXO C.hG (b0 A n c g (.slice mo.A mo.n mo.c)) (XOk.below hX h.below) hsr (fun v hv => by cases hv) (fun ex d hd m a1 w1 hr => ?_)
  cases hd
  have e : mo.ls = x.ls := by rw [h.ls, ← ls_len x, List.take_length]
  exact hQ a1 w1 ⟨Us.back (g := g) (tl := []) hr.ar, h.below.trans (hr.mr.below.mono h.below.size), h.own.below hr.mr.below, by rw [e]; rfl, by rw [e]; exact hbd⟩
/-- What Patch answers. -/
def Out (x : Mo) (ds : List Dl) (w0 : World) : Ending → World → Prop := fun e w' => Below w0.heap.size w0 w' ∧
  ((∃ mo, L.patch x.ls ds = some mo.ls ∧ e = .returned (.tuple #[.slice mo.A mo.n mo.c, .int .i64 0]) ∧ OwnMo w0.heap.size w' mo) ∨ L.patch x.ls ds = none ∧ e = .returned (.tuple #[.slice none 0 0, .int .i64 7]))
set_option maxRecDepth 100000 in
theorem calls (hT : Tabs w0) (hx : RawMo w0 x) (hxn : x.n ≤ 400000) (hxp : ∀ j, j < x.n → (x.g j).n ≤ 400000) (hX : @XOk (rowL A n c g) w0) (hn : n ≤ 500000) : Calls Try.prog 7 #[.slice x.A x.n x.c, .slice A n c] w0 (Out x ((List.range n).map g) w0) := by
  have hI : Inv (fun _ => x) noBox w0 := ⟨hT, xok_raw fun _ => hx⟩
  have hbd : L.Bd 400000 x.ls := by
    refine ⟨by rw [ls_len]; exact hxn, fun s hs => ?_⟩
    obtain ⟨j, hj, rfl⟩ := List.mem_map.1 hs
    rw [ps_len]
    exact hxp j (List.mem_range.1 hj)
  refine calls_of_wp Try.func7 (c := Try.f7.body.getD .skip) (by kernel_rfl) ?_
  refine wpL_flat _ ?_
  show wpL Try.prog pt _ _ _
  rw [pt_eq, wpL_app]
  refine start hI fun a1 w1 h1 => ?_
  show wpL Try.prog (.block 0 (.loop (roundOf pt)) :: p2) _ a1 w1
  simp only [wpL]
  refine wp_block (wp_loop_rounds (x.n + 1) ?_)
  have loop2 : ∀ (k j : Nat) (mo : Mo) (a : Act) (w : World), L2 x A n c g w0 400000 j mo a w → j ≤ n → n - j < k →
      Code.rounds Try.prog (roundOf p2) (Exit.inBlock 2 (Exit.then (wpL Try.prog (p2.drop 2) (bodyPost Try.prog Try.f7 (Out x ((List.range n).map g) w0))) (bodyPost Try.prog Try.f7 (Out x ((List.range n).map g) w0)))) k a w := by
    intro k
    induction k with
    | zero => intro j mo a w h h1 h2; omega
    | succ k ih =>
      intro j mo a w h h1 h2
      rw [rounds_succ]
      refine wpL_flat _ ?_
      show wpL Try.prog rd2 _ a w
      by_cases hj : j < n
      · refine round2 hT hX hn (Nat.le_refl _) h hj (fun mo' a' w' h' => ih (j + 1) mo' a' w' h' (by omega) (by omega)) (fun a' w' m g1 g2 g3 g4 => ?_)
        rw [@den_val row0] at g2
        exact ⟨g1, _, g2, g3, .inr ⟨patch_none g4 (by omega), rfl⟩⟩
      · obtain rfl : j = n := by omega
        rw [rd2_eq, wpL_app]
        refine pieceE (g := g) (@XOk.below (rowL A j c g) _ _ hX h.below) h.us fun a2 w2 U2 d2 => ?_
        have b2 : Below w0.heap.size w0 w2 := h.below.trans (d2.mono h.below.size)
        show wpL Try.prog (p2.drop 2) _ a2 w2
        letI := row0
        refine piece Ap.ctx0.mix Ap.ctx0.hX Ap.ctx0.hs Ap.ctx0.hXO Ap.ctx0.hG (d16 (.slice mo.A mo.n mo.c)) (w0 := w2) trivial (epoch U2.size U2.defers [(6, .val (.slice mo.A mo.n mo.c))] (fun _ => 0) (fun p hp => ?_) fun p hp => ?_) (fun v hv m' a' w' g1 g2 g3 => ?_) (fun ex d hd => by cases hd)
        · obtain rfl := List.mem_singleton.1 hp
          exact U2.t6.trans (den_val _ _).symm
        · obtain rfl := List.mem_singleton.1 hp
          exact ok_val _ _
        cases hv
        rw [den_val] at g2
        exact ⟨g1, _, g2, b2.trans (g3.mono b2.size), .inl ⟨mo, h.ls, rfl, (h.own.below d2).below g3⟩⟩
  have loop1 : ∀ (k i : Nat) (mo : Mo) (a : Act) (w : World), L1 x (.slice A n c) w0 i mo a w → i ≤ x.n → x.n - i < k →
      Code.rounds Try.prog (roundOf pt) (Exit.inBlock 0 (Exit.then (wpL Try.prog p2 (bodyPost Try.prog Try.f7 (Out x ((List.range n).map g) w0))) (bodyPost Try.prog Try.f7 (Out x ((List.range n).map g) w0)))) k a w := by
    intro k
    induction k with
    | zero => intro i mo a w h h1 h2; omega
    | succ k ih =>
      intro i mo a w h h1 h2
      rw [rounds_succ]
      refine wpL_flat _ ?_
      show wpL Try.prog rd _ a w
      by_cases hi : i < x.n
      · exact round1 hI hx (by omega) (fun j hj => by have := hxp j hj; omega) h hi (fun mo' a' w' h' => ih (i + 1) mo' a' w' h' (by omega) (by omega))
      · obtain rfl : i = x.n := by omega
        refine end1 hI h fun a2 w2 h2 => ?_
        show wpL Try.prog p2 _ a2 w2
        rw [p2_eq, wpL_app]
        refine mid hX h2 hbd fun a3 w3 h3 => ?_
        show wpL Try.prog (.block 2 (.loop (roundOf p2)) :: p2.drop 2) _ a3 w3
        simp only [wpL]
        exact wp_block (wp_loop_rounds (n + 1) (loop2 (n + 1) 0 mo a3 w3 h3 (Nat.zero_le _) (by omega)))
  exact loop1 (x.n + 1) 0 Mo0 a1 w1 h1 (Nat.zero_le _) (by omega)
end
end Pa
end Go.Proofs.Ytaojjpdlfnphiaa.PDescKinds
end
section
/- There and back, in plain lists: what Diff tells makes the one moment of the other. -/
set_option linter.unusedSimpArgs false
set_option linter.unusedVariables false
set_option linter.unusedSectionVars false
namespace Go.Proofs.Ytaojjpdlfnphiaa.PDescKinds
open Go.RowKit Go.Ev
/-! Sublists -/
/-! Keys -/
theorem at_none {l : List Pr} {k : K} (h : ∀ q ∈ l, q.k ≠ k) : L.at_ l k = none := by
  unfold L.at_
  rw [List.findIdx?_eq_none_iff]
  intro q hq
  cases hb : S.keq q.k k with
  | false => rfl
  | true => exact absurd (keq_iff.1 hb) (h q hq)
theorem at_some {l r : List Pr} {q : Pr} {k : K} (h : ∀ q ∈ l, q.k ≠ k) (hq : q.k = k) : L.at_ (l ++ q :: r) k = some l.length := by
  unfold L.at_
  rw [List.findIdx?_eq_some_iff_getElem]
  refine ⟨by simp, ?_, fun j hj => ?_⟩
  · simp only [List.getElem_append_right (Nat.le_refl _), Nat.sub_self, List.getElem_cons_zero]
    exact keq_iff.2 hq
  · rw [List.getElem_append_left hj]
    cases hb : S.keq (l[j]).k k with
    | false => decide
    | true => exact absurd (keq_iff.1 hb) (h _ (List.getElem_mem hj))
namespace L
end L
/-! What was kept -/
section
variable {b a : Sh} {o : Int} {m : Nat}
end
end Go.Proofs.Ytaojjpdlfnphiaa.PDescKinds
end
section
/- There and back: moments. -/
set_option linter.unusedSimpArgs false
set_option linter.unusedVariables false
set_option linter.unusedSectionVars false
namespace Go.Proofs.Ytaojjpdlfnphiaa.PDescKinds
open Go.RowKit Go.Ev
/-! Keys that stand once -/
namespace L
end L
section
variable {b a : Mo}
end
/-! How much there is -/
theorem few_acc (s : Mo) (hs : Small s) : ∀ (k i : Nat) (x : Int), 0 ≤ x → x + (k : Int) * 1048576 ≤ 4000000000 → x ≤ S.fewAcc s k i x ∧ ∀ j, i ≤ j → j < i + k → j < s.n → j ≤ 60 → ((s.g j).n : Int) ≤ S.fewAcc s k i x
  | 0, i, x, _, _ => ⟨Int.le_refl _, fun j h1 h2 => by omega⟩
  | k + 1, i, x, hx, hk => by
    simp only [S.fewAcc]
    have h1 := hs.2 i
    have hm : ((k + 1 : Nat) : Int) * 1048576 = (k : Int) * 1048576 + 1048576 := by
      rw [Int.natCast_add, Int.add_mul]
      rfl
    rw [hm] at hk
    have hk0 : 0 ≤ (k : Int) * 1048576 := by omega
    have hw : IntKind.i64.wrap (x + ((s.g i).n : Int)) = x + ((s.g i).n : Int) := by
      rw [IntKind.wrap_i64]
      omega
    rw [hw]
    cases hc : (decide ((i : Int) < (s.n : Int)) && decide ((i : Int) ≤ 60)) with
    | false =>
      simp only [cond_false]
      refine ⟨Int.le_refl _, fun j h1 h2 h3 h4 => ?_⟩
      rw [Bool.and_eq_false_iff, decide_eq_false_iff_not, decide_eq_false_iff_not] at hc
      omega
    | true =>
      simp only [cond_true]
      obtain ⟨g1, g2⟩ := few_acc s hs k (i + 1) (x + ((s.g i).n : Int)) (by omega) (by omega)
      refine ⟨by omega, fun j h1 h2 h3 h4 => ?_⟩
      by_cases e : j = i
      · subst e; omega
      · exact g2 j (by omega) (by omega) h3 h4
theorem few_spec {s : Mo} (hs : Small s) (h : S.few s = true) : s.n ≤ 60 ∧ ∀ j, j < s.n → (s.g j).n ≤ 400 := by
  unfold S.few at h
  rw [Bool.and_eq_true, decide_eq_true_eq, decide_eq_true_eq] at h
  obtain ⟨_, g2⟩ := few_acc s hs 62 0 0 (Int.le_refl _) (by decide)
  refine ⟨by omega, fun j hj => ?_⟩
  have := g2 j (Nat.zero_le _) (by omega) hj (by omega)
  omega
end Go.Proofs.Ytaojjpdlfnphiaa.PDescKinds
end
section
/- InvariantBack: the law runs. -/
set_option linter.unusedSimpArgs false
set_option linter.unusedVariables false
set_option linter.unusedSectionVars false
namespace Go.Proofs.Ytaojjpdlfnphiaa.PDescKinds
open Go.RowKit Go.Ev
def FitM (m : Mo) : Prop := (m.n : Int) ≤ 9223372036854775807 ∧ ∀ j, ((m.g j).n : Int) ≤ 9223372036854775807
theorem own_fit {w : World} {b e z n : Nat} {v : Value} {xs : List Value} (h : w.ownsRow b e z v n xs) : (n : Int) ≤ 9223372036854775807 := by
  have hM : maxLen = 9223372036854775807 := by decide +kernel
  rcases h.2 with ⟨_, h0⟩ | ⟨g', cap, cur, e, h2, h3, h4, h5, h6, h7⟩
  · omega
  · omega
theorem OwnMo.fit {B : Nat} {w : World} {mo : Mo} (h : OwnMo B w mo) : FitM mo := ⟨own_fit h.row, fun j => own_fit (h.props j)⟩
/-- A call of two arguments, of which two results are taken. -/
theorem pairR {id N f m1 m2 tp d1 d2 : Nat} {ops : Array Oper} {ats : Array TypeId} {ts : List (Nat × Value)} {v1 v2 : Value} {a : Act} {w : World} {R : Ending → World → Prop} {Q : Exit → Act → World → Prop} (keep : List Nat)
    (hsp : ops.toList = ops.toList.take 2 ++ (ops.toList.getD 2 default :: (ops.toList.drop 3 ++ []))) (hop : (ops.toList.getD 2 default).op = .call { callee := .value (.func f), args := #[.tmp m1, .tmp m2], argTypes := ats })
    (hgd : (ops.toList.getD 2 default).guard = none) (hdst : (ops.toList.getD 2 default).dst = some tp) (hen : enters Try.prog f = true) (htp : tp < N) (htk : ∀ t ∈ keep, tp ≠ t)
    (hr1 : letI := row0; (reads Try.prog N (ops.toList.take 2) (pickT (ts.map fun p => (p.1, .val p.2)))).map (fun t => [m1, m2].map t) = some [.val v1, .val v2])
    (hr2 : ∀ x y, letI := row0; (reads Try.prog N (ops.toList.drop 3) (pickT [(tp, .val (.tuple #[x, y]))])).map (fun t => [d1, d2].map t) = some [.val x, .val y])
    (ho1 : offDs (ops.toList.take 2) keep = true) (ho2 : offDs (ops.toList.drop 3) keep = true)
    (hs : a.tmps.size = N) (hd : a.defers = []) (hts : ∀ p ∈ ts, a.tmps.getD p.1 undef = p.2) (hc : Calls Try.prog f #[v1, v2] w R)
    (hQ : ∀ e w', R e w' → ∃ x y, e = .returned (.tuple #[x, y]) ∧ ∀ a', a'.tmps.size = N → a'.defers = [] → (∀ t ∈ keep, a'.tmps.getD t undef = a.tmps.getD t undef) → a'.tmps.getD d1 undef = x → a'.tmps.getD d2 undef = y → Q .normal a' w') :
    (Code.region id ops false).wp Try.prog Q a w := by
  letI := row0
  refine wp_region_list ?_
  rw [hsp]
  refine wpList_readsF keep (xok_0 w) hr1 ho1 (Pa.ar_vals w hs hd hts) fun a1 t1 har1 e hk1 => ?_
  simp only [List.map_cons, List.map_nil, List.cons.injEq, and_true] at e
  obtain ⟨e1, e2⟩ := e
  have q1 : a1.eval (.tmp m1) = v1 := ar_eval har1 e1
  have q2 : a1.eval (.tmp m2) = v2 := ar_eval har1 e2
  have hrun : (execOp a1.eval (ops.toList.getD 2 default)).run Try.prog w = .ok (.enter f #[v1, v2]) w := by
    rw [← run_enters (P := Try.prog) (f := f) hen]
    have em : (#[Operand.tmp m1, .tmp m2] : Array Operand).map a1.eval = #[v1, v2] := by
      simp only [List.map_toArray, List.map_cons, List.map_nil, q1, q2]
    unfold execOp
    simp only [hop, resolve, em, Act.eval, Deferred.ofValue, Sem.run_bind, Sem.run_pure, Result.andThen_ok, invoke]
    simp
  refine wpList_plain hgd fun K hK => ?_
  unfold Oper.wp
  rw [hrun, Oper.upon_enter]
  refine Calls.mono hc fun e w4 hR => ?_
  obtain ⟨x, y, he, hq⟩ := hQ e w4 hR
  subst he
  refine hK _ _ ?_
  rw [hdst]
  obtain ⟨s4, f4, x4, r4⟩ := put_all a1 N tp (.tuple #[x, y]) har1.size htp
  generalize hA4 : a1.put (some tp) (.tuple #[x, y]) = a4 at s4 f4 x4 r4 ⊢
  refine wpList_readsF keep (xok_0 w4) (hr2 x y) ho2 (Pa.ar_vals (ts := [(tp, .tuple #[x, y])]) w4 s4 (f4.trans har1.defers) (fun p hp => by
    obtain rfl := List.mem_singleton.1 hp
    exact x4)) fun a5 t5 har5 e hk5 => ?_
  simp only [List.map_cons, List.map_nil, List.cons.injEq, and_true] at e
  obtain ⟨e5, e6⟩ := e
  exact hq a5 har5.size har5.defers (fun t ht => ((hk5 t ht).trans (r4 t (htk t ht))).trans (hk1 t ht)) (ar_eval har5 e5) (ar_eval har5 e6)
namespace Bk
set_option maxRecDepth 100000
section
variable {m0 m1 : Mo} {a : Act} {w w0 : World} {Q : Exit → Act → World → Prop}
end
end Bk
end Go.Proofs.Ytaojjpdlfnphiaa.PDescKinds
end
