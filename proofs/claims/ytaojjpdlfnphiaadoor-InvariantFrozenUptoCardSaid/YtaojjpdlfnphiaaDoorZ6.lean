/- Parts of the proof, joined (6). -/
import Derived.Test.YtaojjpdlfnphiaaDoorZ5
section
/- The chapter's first example works. -/
set_option linter.unusedSimpArgs false
set_option linter.unusedVariables false
set_option linter.unusedSectionVars false
namespace Go.Proofs.YtaojjpdlfnphiaaDoor.PDescKinds
open Go.RowKit Go.Ev
namespace Wk
noncomputable def wk : List Code := bodyOf Tryd.f45
noncomputable def ops (k : Nat) : Array Oper := opsOf (wk.getD k .skip)
noncomputable def oo (k j : Nat) : Oper := (ops k).toList.getD j default
def dB : D := ⟨⟨4, false, 4607182418800017408, ⟨#[]⟩, 0⟩, S.V0, S.V0, 1, 1, 1⟩
def dA : D := ⟨⟨4, false, 4611686018427387904, ⟨#[]⟩, 0⟩, S.V0, S.V0, 1, 1, 1⟩
def kA : K := ⟨⟨#[97]⟩, 0⟩
def vN : V := ⟨2, false, 0, ⟨#[]⟩, 0⟩
def shp (A : Option Addr) (d : D) : Sh := ⟨1, vN, false, A, 1, 1, fun _ => ⟨kA, d⟩⟩
def mo (A A' : Option Addr) (d : D) : Mo := ⟨A, 1, 1, fun j => bif Nat.beq j 0 then shp A' d else Sh0⟩
def row (g : Nat) : Value := .slice (some ⟨g, 0, none⟩) 1 1
def agg (g : Nat) (d : D) : Value := .agg (shVals (shp none d) (row g)).toArray
abbrev CL : GFn := tab2 BvL5 []
abbrev HL (M : Nat → Mo) : GFn := tab2 BvL5 [(37, noMem (onMM fun a b => LII (S.brokenO (M a) (M b)))), (110, idxC M)]
set_option maxRecDepth 100000 in
theorem w1 (M : Nat → Mo) : letI := rowsB M noBox
    evK Tryd.prog ext CL 80 85 (seqL (wk.take 4)) (⟨argS [], fun _ => none, 0⟩) (grab Tryd.prog Tryd.f45 [1, 2] [0, 1] 2) =
    some (.cut .normal ⟨[(1, .ptr 0 0), (2, .ptr 1 0)], [(0, ⟨27, dB.cells⟩), (1, ⟨27, dA.cells⟩)]⟩) := by kernel_rfl
set_option maxRecDepth 100000 in
theorem w2 (M : Nat → Mo) : letI := rowsB M noBox
    (evOps Tryd.prog ext (callWith Tryd.prog CL (ev Tryd.prog ext CL 20)) (ops 4) 85 ((ops 4).toList.take 5) ((⟨[(1, .ptr 0 0), (2, .ptr 1 0)], [(0, ⟨27, dB.cells⟩), (1, ⟨27, dA.cells⟩)]⟩ : Cut).st 2)).bind (cutS [1, 2, 16, 20] [0, 1, 2] 3) =
    some ⟨[(1, .ptr 0 0), (2, .ptr 1 0), (16, .val vN.agg), (20, .slc 2 0 1 1)], [(0, ⟨27, dB.cells⟩), (1, ⟨27, dA.cells⟩), (2, ⟨66, (Pr.mk kA dB).cells⟩)]⟩ := by kernel_rfl
set_option maxRecDepth 100000 in
theorem w3 (M : Nat → Mo) (g : Nat) : letI := rowsB M noBox
    (evOps Tryd.prog ext (callWith Tryd.prog CL (ev Tryd.prog ext CL 20)) (ops 4) 85 ((ops 4).toList.drop 6) (⟨putS (pickT [(1, .ptr 0 0), (2, .ptr 1 0), (16, .val vN.agg), (20, .slc 2 0 1 1)]) (some 21) (.val (agg g dB)), pickM [(0, ⟨27, dB.cells⟩), (1, ⟨27, dA.cells⟩), (2, ⟨66, (Pr.mk kA dB).cells⟩)], 3⟩)).bind (cutS [1, 2, 3] [0, 1, 2, 3] 4) =
    some ⟨[(1, .ptr 0 0), (2, .ptr 1 0), (3, .slc 3 0 1 1)], [(0, ⟨27, dB.cells⟩), (1, ⟨27, dA.cells⟩), (2, ⟨66, (Pr.mk kA dB).cells⟩), (3, ⟨60, (shVals (shp none dB) (row g)).map SV.val⟩)]⟩ := by kernel_rfl
set_option maxRecDepth 100000 in
theorem w4 (M : Nat → Mo) (g : Nat) : letI := rowsB M noBox
    (evOps Tryd.prog ext (callWith Tryd.prog CL (ev Tryd.prog ext CL 20)) (ops 5) 85 ((ops 5).toList.take 5) ((⟨[(1, .ptr 0 0), (2, .ptr 1 0), (3, .slc 3 0 1 1)], [(0, ⟨27, dB.cells⟩), (1, ⟨27, dA.cells⟩), (2, ⟨66, (Pr.mk kA dB).cells⟩), (3, ⟨60, (shVals (shp none dB) (row g)).map SV.val⟩)]⟩ : Cut).st 4)).bind (cutS [3, 23, 27] [2, 3, 4] 5) =
    some ⟨[(3, .slc 3 0 1 1), (23, .val vN.agg), (27, .slc 4 0 1 1)], [(2, ⟨66, (Pr.mk kA dB).cells⟩), (3, ⟨60, (shVals (shp none dB) (row g)).map SV.val⟩), (4, ⟨66, (Pr.mk kA dA).cells⟩)]⟩ := by kernel_rfl
set_option maxRecDepth 100000 in
theorem w5 (M : Nat → Mo) (g h : Nat) : letI := rowsB M noBox
    (evOps Tryd.prog ext (callWith Tryd.prog CL (ev Tryd.prog ext CL 20)) (ops 5) 85 ((ops 5).toList.drop 6) (⟨putS (pickT [(3, .slc 3 0 1 1), (23, .val vN.agg), (27, .slc 4 0 1 1)]) (some 28) (.val (agg h dA)), pickM [(2, ⟨66, (Pr.mk kA dB).cells⟩), (3, ⟨60, (shVals (shp none dB) (row g)).map SV.val⟩), (4, ⟨66, (Pr.mk kA dA).cells⟩)], 5⟩)).bind (cutS [3, 4] [2, 3, 4, 5] 6) =
    some ⟨[(3, .slc 3 0 1 1), (4, .slc 5 0 1 1)], [(2, ⟨66, (Pr.mk kA dB).cells⟩), (3, ⟨60, (shVals (shp none dB) (row g)).map SV.val⟩), (4, ⟨66, (Pr.mk kA dA).cells⟩), (5, ⟨60, (shVals (shp none dA) (row h)).map SV.val⟩)]⟩ := by kernel_rfl
set_option maxRecDepth 100000 in
theorem w6 (M : Nat → Mo) (bx : Nat → XR) : letI := rowsB M bx
    evK Tryd.prog ext (HL M) 80 85 (seqL [wk.getD 6 .skip, wk.getD 7 .skip]) ((⟨[(3, .xs [0]), (4, .xs [1])], []⟩ : Cut).st 0) (grab Tryd.prog Tryd.f45 [3, 4, 5, 6, 7, 8] [] 0) =
    some (.cut .normal ⟨[(3, .xs [0]), (4, .xs [1]), (5, .val (.int .i64 (S.brokenO (M 0) (M 1)).1)), (6, .val (.int .i64 (S.brokenO (M 0) (M 1)).2)), (7, .val (.int .i64 (S.brokenO (M 0) (M 0)).1)), (8, .val (.int .i64 (S.brokenO (M 0) (M 0)).2))], []⟩) := by kernel_rfl
set_option maxRecDepth 100000 in
theorem w7 (M : Nat → Mo) (bx : Nat → XR) : letI := rowsB M bx
    (evOps Tryd.prog ext (callWith Tryd.prog (HL M) (ev Tryd.prog ext (HL M) 20)) (ops 8) 85 ((ops 8).toList.take 2) ((⟨[(3, .xs [0]), (4, .xs [1]), (5, .val (.int .i64 1)), (6, .val (.int .i64 6)), (7, .val (.int .i64 0)), (8, .val (.int .i64 0))], []⟩ : Cut).st 0)).bind (cutS [3, 4, 5, 6, 7, 8, 43, 44] [] 0) =
    some ⟨[(3, .xs [0]), (4, .xs [1]), (5, .val (.int .i64 1)), (6, .val (.int .i64 6)), (7, .val (.int .i64 0)), (8, .val (.int .i64 0)), (43, .xs [0]), (44, .xs [1])], []⟩ := by kernel_rfl
set_option maxRecDepth 100000 in
theorem w8 (M : Nat → Mo) (bx : Nat → XR) (v : Value) : letI := rowsB M bx
    (evOps Tryd.prog ext (callWith Tryd.prog (HL M) (ev Tryd.prog ext (HL M) 20)) (ops 8) 85 ((ops 8).toList.drop 3) ((⟨[(3, .xs [0]), (4, .xs [1]), (5, .val (.int .i64 1)), (6, .val (.int .i64 6)), (7, .val (.int .i64 0)), (8, .val (.int .i64 0)), (45, .val (.tuple #[v, .int .i64 0]))], []⟩ : Cut).st 0)).bind (cutS [3, 4, 5, 6, 7, 8, 9, 10] [] 0) =
    some ⟨[(3, .xs [0]), (4, .xs [1]), (5, .val (.int .i64 1)), (6, .val (.int .i64 6)), (7, .val (.int .i64 0)), (8, .val (.int .i64 0)), (9, .val v), (10, .val (.int .i64 0))], []⟩ := by kernel_rfl
abbrev M4 (A3 A2 A5 A4 : Option Addr) : Nat → Mo := moments (mo A3 A2 dB) (mo A5 A4 dA) Mo0 Mo0
set_option maxRecDepth 100000 in
theorem w9 (A3 A2 A5 A4 : Option Addr) (g c : Nat) : letI := rowsB (M4 A3 A2 A5 A4) (fun _ => ⟨some ⟨g, 0, none⟩, 29, 1, c, fun _ => (S.dPut 1 ⟨kA, dA⟩).cells⟩)
    evK Tryd.prog ext (HL (M4 A3 A2 A5 A4)) 80 85 (seqL (wk.drop 9)) ((⟨[(3, .xs [0]), (4, .xs [1]), (5, .val (.int .i64 1)), (6, .val (.int .i64 6)), (7, .val (.int .i64 0)), (8, .val (.int .i64 0)), (9, .xs [0, 0, 0]), (10, .val (.int .i64 0))], []⟩ : Cut).st 0) (grab Tryd.prog Tryd.f45 [] [] 0) =
    some (.ret (.val (.bool true))) := by kernel_rfl
set_option maxRecDepth 100000 in
theorem brk_ba (A3 A2 A5 A4 : Option Addr) : S.brokenO (mo A3 A2 dB) (mo A5 A4 dA) = (1, 6) := by kernel_rfl
set_option maxRecDepth 100000 in
theorem brk_bb (A3 A2 : Option Addr) : S.brokenO (mo A3 A2 dB) (mo A3 A2 dB) = (0, 0) := by kernel_rfl
set_option maxRecDepth 100000 in
theorem twice_mo (A3 A2 : Option Addr) (d : D) : S.twice (mo A3 A2 d) = false := by kernel_rfl
set_option maxRecDepth 100000 in
theorem diff_ba (A3 A2 A5 A4 : Option Addr) : S.diff (mo A3 A2 dB) (mo A5 A4 dA) = [S.dPut 1 ⟨kA, dA⟩] := by kernel_rfl
theorem wk_eq : wk = wk.take 4 ++ (.region 4 (ops 4) false :: .region 5 (ops 5) false :: ([wk.getD 6 .skip, wk.getD 7 .skip] ++ (.region 8 (ops 8) false :: wk.drop 9))) := by kernel_rfl
theorem ops4_eq : (ops 4).toList = (ops 4).toList.take 5 ++ (oo 4 5 :: (ops 4).toList.drop 6) := by kernel_rfl
theorem ops5_eq : (ops 5).toList = (ops 5).toList.take 5 ++ (oo 5 5 :: (ops 5).toList.drop 6) := by kernel_rfl
theorem ops8_eq : (ops 8).toList = (ops 8).toList.take 2 ++ (oo 8 2 :: (ops 8).toList.drop 3) := by kernel_rfl
theorem op4 : (oo 4 5).op = .build 60 #[(0, .const (.int .i64 1)), (1, .tmp 16), (3, .tmp 20)] := by kernel_rfl
theorem dst4 : (oo 4 5).dst = some 21 := by kernel_rfl
theorem grd4 : (oo 4 5).guard = none := by kernel_rfl
theorem op5 : (oo 5 5).op = .build 60 #[(0, .const (.int .i64 1)), (1, .tmp 23), (3, .tmp 27)] := by kernel_rfl
theorem dst5 : (oo 5 5).dst = some 28 := by kernel_rfl
theorem grd5 : (oo 5 5).guard = none := by kernel_rfl
theorem op8 : (oo 8 2).op = .call { callee := .value (.func 50), args := #[.tmp 43, .tmp 44], argTypes := #[51, 51] } := by kernel_rfl
theorem dst8 : (oo 8 2).dst = some 45 := by kernel_rfl
theorem grd8 : (oo 8 2).guard = none := by kernel_rfl
set_option maxRecDepth 100000 in
theorem built (g : Nat) (d : D) : pureRun Tryd.prog (Instr.build 60 #[(0, .int .i64 1), (1, vN.agg), (3, row g)]) = some (agg g d) := by kernel_rfl
end Wk
end Go.Proofs.YtaojjpdlfnphiaaDoor.PDescKinds
end
section
/- works runs: true. -/
set_option linter.unusedSimpArgs false
set_option linter.unusedVariables false
set_option linter.unusedSectionVars false
namespace Go.Proofs.YtaojjpdlfnphiaaDoor.PDescKinds
open Go.RowKit Go.Ev
namespace Wk
/-- One operation that is no event of memory, its value known. -/
theorem step_build {P : Program} {opsx : Array Oper} {o : Oper} {rest : List Oper} {a : Act} {w : World} {Q : Exit → Act → World → Prop} {v : Value} (hg : o.guard = none) (hx : (execOp a.eval o).run P w = .ok (.value v) w)
    (h : wpList P opsx Q rest (a.put o.dst v) w) : wpList P opsx Q (o :: rest) a w := by
  refine wpList_plain hg fun K hK => ?_
  unfold Oper.wp
  rw [hx, Oper.upon_value]
  exact hK _ _ h
set_option maxRecDepth 100000 in
theorem raw_mo {w : World} {g h : Nat} {d : D} (h1 : w.heap[g]? = some (.cells (shVals (shp none d) (row h)).toArray 60 (0, 0))) (h2 : w.heap[h]? = some (.cells (Pr.mk kA d).list.toArray 66 (0, 0))) :
    RawMo w (mo (some ⟨g, 0, none⟩) (some ⟨h, 0, none⟩) d) := by
  have e0 : (mo (some ⟨g, 0, none⟩) (some ⟨h, 0, none⟩) d).g 0 = shp (some ⟨h, 0, none⟩) d := rfl
  have es : ∀ j, j ≠ 0 → (mo (some ⟨g, 0, none⟩) (some ⟨h, 0, none⟩) d).g j = Sh0 := fun j hj => by
    show (bif Nat.beq j 0 then _ else _) = _
    cases hb : Nat.beq j 0 with
    | true => exact absurd (Nat.eq_of_beq_eq_true hb) hj
    | false => rfl
  refine ⟨fun j hj => ?_, fun j hj => ?_, fun j i hi => ?_⟩
  · by_cases e : j = 0
    · subst e; rw [e0] at hj; cases hj
    · rw [es j e]; exact ⟨rfl, rfl⟩
  · have hj : j < 1 := hj
    obtain rfl : j = 0 := by omega
    refine ⟨⟨g, 0, none⟩, rfl, (Array.getElem?_eq_some_iff.1 h1).1, fun t v ht => ?_⟩
    rw [e0] at ht
    rw [add_none, cell_of_row w g _ _ 60 (0, 0) h1]
    have : (shVals (shp none d) (row h))[t]? = some v := ht
    simpa using this
  · by_cases e : j = 0
    · subst e
      rw [e0] at hi ⊢
      have hi : i < 1 := hi
      obtain rfl : i = 0 := by omega
      refine ⟨⟨h, 0, none⟩, rfl, (Array.getElem?_eq_some_iff.1 h2).1, fun t v ht => ?_⟩
      rw [add_none, cell_of_row w h _ _ 66 (0, 0) h2]
      have : (Pr.mk kA d).list[t]? = some v := ht
      simpa using this
    · rw [es j e] at hi; exact absurd hi (Nat.not_lt_zero _)
theorem small_mo (A A' : Option Addr) (d : D) : Small (mo A A' d) := by
  refine ⟨by show 1 ≤ _; omega, fun j => ?_⟩
  show (bif Nat.beq j 0 then shp A' d else Sh0).n ≤ _
  cases Nat.beq j 0
  · show 0 ≤ _; omega
  · show 1 ≤ _; omega
theorem small4 (A3 A2 A5 A4 : Option Addr) : ∀ k, Small (M4 A3 A2 A5 A4 k)
  | 0 => small_mo _ _ _
  | 1 => small_mo _ _ _
  | 2 => small0
  | 3 => small0
  | _ + 4 => small0
theorem wfE : wfK ⟨⟨#[]⟩, 0⟩ = true := by decide +kernel
theorem wfA : wfK kA = true := by decide +kernel
theorem keys_mo (A A' : Option Addr) (d : D) (i j : Nat) : wfK (((mo A A' d).g i).g j).k = true := by
  show wfK ((bif Nat.beq i 0 then shp A' d else Sh0).g j).k = true
  cases Nat.beq i 0
  · exact wfE
  · exact wfA
theorem keys4 (A3 A2 A5 A4 : Option Addr) : KeysOk (M4 A3 A2 A5 A4)
  | 0, i, j => keys_mo _ _ _ i j
  | 1, i, j => keys_mo _ _ _ i j
  | 2, i, j => wfE
  | 3, i, j => wfE
  | _ + 4, i, j => wfE
set_option maxRecDepth 100000 in
theorem fin9 {A3 A2 A5 A4 : Option Addr} {g c : Nat} (hM : Fit (M4 A3 A2 A5 A4)) {w0 w4 : World} {a4 : Act} (hI : Inv (M4 A3 A2 A5 A4) (fun _ => ⟨some ⟨g, 0, none⟩, 29, 1, c, fun _ => (S.dPut 1 ⟨kA, dA⟩).cells⟩) w4)
    (hr : @SR (rowsB (M4 A3 A2 A5 A4) (fun _ => ⟨some ⟨g, 0, none⟩, 29, 1, c, fun _ => (S.dPut 1 ⟨kA, dA⟩).cells⟩)) w4 85 (fun _ => 0) ((⟨[(3, .xs [0]), (4, .xs [1]), (5, .val (.int .i64 1)), (6, .val (.int .i64 6)), (7, .val (.int .i64 0)), (8, .val (.int .i64 0)), (9, .xs [0, 0, 0]), (10, .val (.int .i64 0))], []⟩ : Cut).st 0) a4 w4)
    (hb : Below w0.heap.size w0 w4) : wpL Tryd.prog (wk.drop 9) (bodyPost Tryd.prog Tryd.f45 (fun e w' => e = .returned (.bool true) ∧ Below w0.heap.size w0 w')) a4 w4 := by
  letI := rowsB (M4 A3 A2 A5 A4) (fun _ => ⟨some ⟨g, 0, none⟩, 29, 1, c, fun _ => (S.dPut 1 ⟨kA, dA⟩).cells⟩)
  have C := ctxB (M4 A3 A2 A5 A4) (fun _ => ⟨some ⟨g, 0, none⟩, 29, 1, c, fun _ => (S.dPut 1 ⟨kA, dA⟩).cells⟩) Bvents5 (LS := [(37, noMem (onMM fun a b => LII (S.brokenO (M4 A3 A2 A5 A4 a) (M4 A3 A2 A5 A4 b)))), (110, idxC (M4 A3 A2 A5 A4))]) (entsS_cons (ent_broken37 _ _ hM) (entsS_cons (ent_idxC _ _ hM) entsS_nil))
  refine piece C.mix C.hX C.hs C.hXO C.hG (w9 A3 A2 A5 A4 g c) hI hr (fun v hv m' a' w' g1 g2 g3 => ?_) (fun ex d hd => by cases hd)
  cases hv
  rw [den_val] at g2
  exact ⟨g1, _, g2, rfl, hb.trans (g3.mono hb.size)⟩
set_option maxRecDepth 100000 in
/-- From where both moments stand. -/
theorem rest {w0 w : World} {a : Act} {A3 A2 A5 A4 : Option Addr} (hb : Below w0.heap.size w0 w) (ht : Tabs w) (r0 : RawMo w (mo A3 A2 dB)) (r1 : RawMo w (mo A5 A4 dA)) (hs : a.tmps.size = 85) (hd : a.defers = [])
    (t3 : a.tmps.getD 3 undef = .slice A3 1 1) (t4 : a.tmps.getD 4 undef = .slice A5 1 1) :
    wpL Tryd.prog ([wk.getD 6 .skip, wk.getD 7 .skip] ++ (.region 8 (ops 8) false :: wk.drop 9)) (bodyPost Tryd.prog Tryd.f45 (fun e w' => e = .returned (.bool true) ∧ Below w0.heap.size w0 w')) a w := by
  have hM := fit_moments (small_mo A3 A2 dB) (small_mo A5 A4 dA) small0 small0
  have hI : Inv (M4 A3 A2 A5 A4) noBox w := ⟨ht, xok_raw (raw_moments r0 r1 (raw0 w) (raw0 w))⟩
  letI := rowsB (M4 A3 A2 A5 A4) noBox
  have ents : ∀ bx, ∀ p ∈ ([(37, noMem (onMM fun a b => LII (S.brokenO (M4 A3 A2 A5 A4 a) (M4 A3 A2 A5 A4 b)))), (110, idxC (M4 A3 A2 A5 A4))] : TabS), Ent (M4 A3 A2 A5 A4) bx p := fun bx => entsS_cons (ent_broken37 _ bx hM) (entsS_cons (ent_idxC _ bx hM) entsS_nil)
  have C := ctxB (M4 A3 A2 A5 A4) noBox Bvents5 (ents noBox)
  have hc : CallSound Tryd.prog (Inv (M4 A3 A2 A5 A4) noBox) (callWith Tryd.prog (HL (M4 A3 A2 A5 A4)) (ev Tryd.prog ext (HL (M4 A3 A2 A5 A4)) 20)) := call_sound C.hs C.hG (ev_sound mixed ext_sound C.hs C.hXO C.hG 20).1
  have hsr : SR w 85 (fun _ => 0) ((⟨[(3, .xs [0]), (4, .xs [1])], []⟩ : Cut).st 0) a w := by
    refine epoch hs hd _ _ (fun p hp => ?_) (fun p hp => ?_)
    · simp only [List.mem_cons, List.not_mem_nil, or_false] at hp
      rcases hp with rfl | rfl
      · exact t3.trans (den_xs _ [0]).symm
      · exact t4.trans (den_xs _ [1]).symm
    · simp only [List.mem_cons, List.not_mem_nil, or_false] at hp
      rcases hp with rfl | rfl <;> exact ok_xs
  rw [wpL_app]
  have e6 := w6 (M4 A3 A2 A5 A4) noBox
  have b1 : S.brokenO (M4 A3 A2 A5 A4 0) (M4 A3 A2 A5 A4 1) = (1, 6) := brk_ba _ _ _ _
  have b2 : S.brokenO (M4 A3 A2 A5 A4 0) (M4 A3 A2 A5 A4 0) = (0, 0) := brk_bb _ _
  rw [b1, b2] at e6
  refine piece C.mix C.hX C.hs C.hXO C.hG e6 hI hsr (fun v hv => by cases hv) (fun ex d hd m1 a1 w1 hr1 => ?_)
  cases hd
  show wpL Tryd.prog (.region 8 (ops 8) false :: wk.drop 9) _ a1 w1
  rw [wpL]
  refine wp_region_list ?_
  rw [ops8_eq]
  obtain ⟨st7, hst7, hcut7⟩ := Option.bind_eq_some_iff.1 (w7 (M4 A3 A2 A5 A4) noBox)
  refine ops_sound_tail ext_sound hI C.hs C.hXO hc _ _ _ _ m1 a1 w1 hst7 hr1 ?_
  intro m2 a2 w2 _ hr2
  have hr2 := cut_sound hcut7 hr2
  have b02 := hr2.mr.below
  have hI2 : Inv (M4 A3 A2 A5 A4) noBox w2 := inv_stable _ _ _ _ hI b02
  have e43 : a2.eval (.tmp 43) = .slice A3 1 1 := (hr2.ar.tm 43 rfl).trans (den_xs _ [0])
  have e44 : a2.eval (.tmp 44) = .slice A5 1 1 := (hr2.ar.tm 44 rfl).trans (den_xs _ [1])
  have hx8 : (execOp a2.eval (oo 8 2)).run Tryd.prog w2 = .ok (.enter 50 #[.slice A3 1 1, .slice A5 1 1]) w2 := by
    rw [← run_enters (P := Tryd.prog) (f := 50) (by kernel_rfl)]
    have em : (#[Operand.tmp 43, .tmp 44] : Array Operand).map a2.eval = #[.slice A3 1 1, .slice A5 1 1] := by simp [e43, e44]
    unfold execOp
    simp only [op8, resolve, em, Act.eval, Deferred.ofValue, Sem.run_bind, Sem.run_pure, Result.andThen_ok, invoke]
    simp
  have hdiff : S.diff (M4 A3 A2 A5 A4 0) (M4 A3 A2 A5 A4 1) = [S.dPut 1 ⟨kA, dA⟩] := diff_ba _ _ _ _
  have hcall := Df.calls (M := M4 A3 A2 A5 A4) hM (small4 _ _ _ _) (keys4 _ _ _ _) (x := 0) (y := 1) rfl hI2 (by rw [hdiff]; decide)
  refine wpList_plain grd8 fun K hK => ?_
  unfold Oper.wp
  rw [hx8, Oper.upon_enter]
  refine Calls.mono hcall fun e w3 ⟨hb3, ho⟩ => ?_
  have t0 : S.twice (M4 A3 A2 A5 A4 0) = false := twice_mo _ _ _
  have t1 : S.twice (M4 A3 A2 A5 A4 1) = false := twice_mo _ _ _
  rw [t0, t1] at ho
  rcases ho with ⟨h, _⟩ | ⟨_, v, he, hb3', hown⟩
  · cases h
  subst he
  rw [dst8]
  refine hK _ _ ?_
  rw [hdiff] at hown
  have b03 : Below w.heap.size w w3 := b02.trans (hb3.mono b02.size)
  have hI3 : Inv (M4 A3 A2 A5 A4) noBox w3 := inv_stable _ _ _ _ hI b03
  rcases hown.2 with ⟨_, h0⟩ | ⟨g, c, cur, rfl, hge, hg, _, hcm, hcs, hct⟩
  · cases h0
  obtain ⟨s3, f3, p3, q3⟩ := put_all a2 85 45 (.tuple #[.slice (some ⟨g, 0, none⟩) [S.dPut 1 ⟨kA, dA⟩].length c, .int .i64 0]) hr2.ar.size (by decide)
  generalize hB3 : a2.put (some 45) (.tuple #[.slice (some ⟨g, 0, none⟩) [S.dPut 1 ⟨kA, dA⟩].length c, .int .i64 0]) = a3 at s3 f3 p3 q3 ⊢
  have hsr3 : SR w3 85 (fun _ => 0) ((⟨[(3, .xs [0]), (4, .xs [1]), (5, .val (.int .i64 1)), (6, .val (.int .i64 6)), (7, .val (.int .i64 0)), (8, .val (.int .i64 0)), (45, .val (.tuple #[.slice (some ⟨g, 0, none⟩) 1 c, .int .i64 0]))], []⟩ : Cut).st 0) a3 w3 := by
    refine epoch s3 (f3.trans hr2.ar.defers) _ _ (fun p hp => ?_) (fun p hp => ?_)
    · simp only [List.mem_cons, List.not_mem_nil, or_false] at hp
      rcases hp with rfl | rfl | rfl | rfl | rfl | rfl | rfl
      · exact (q3 3 (by decide)).trans ((hr2.ar.tm 3 rfl).trans ((den_xs _ [0]).trans (den_xs _ [0]).symm))
      · exact (q3 4 (by decide)).trans ((hr2.ar.tm 4 rfl).trans ((den_xs _ [1]).trans (den_xs _ [1]).symm))
      · exact (q3 5 (by decide)).trans ((hr2.ar.tm 5 rfl).trans ((den_val _ _).trans (den_val _ _).symm))
      · exact (q3 6 (by decide)).trans ((hr2.ar.tm 6 rfl).trans ((den_val _ _).trans (den_val _ _).symm))
      · exact (q3 7 (by decide)).trans ((hr2.ar.tm 7 rfl).trans ((den_val _ _).trans (den_val _ _).symm))
      · exact (q3 8 (by decide)).trans ((hr2.ar.tm 8 rfl).trans ((den_val _ _).trans (den_val _ _).symm))
      · exact p3.trans (den_val _ _).symm
    · simp only [List.mem_cons, List.not_mem_nil, or_false] at hp
      rcases hp with rfl | rfl | rfl | rfl | rfl | rfl | rfl <;> first | exact ok_xs | exact ok_val _ _
  obtain ⟨st8, hst8, hcut8⟩ := Option.bind_eq_some_iff.1 (w8 (M4 A3 A2 A5 A4) noBox (.slice (some ⟨g, 0, none⟩) 1 c))
  rw [← List.append_nil ((ops 8).toList.drop 3)]
  refine ops_sound_tail ext_sound hI3 C.hs C.hXO hc [] _ _ _ _ _ _ hst8 hsr3 ?_
  intro m4 a4 w4 _ hr4
  have hr4 := cut_sound hcut8 hr4
  have b34 := hr4.mr.below
  have hI4 : Inv (M4 A3 A2 A5 A4) noBox w4 := inv_stable _ _ _ _ hI3 b34
  have hown4 := hown.kept (grown_of b34 none) (by simp [Value.ownBlock])
  show wpL Tryd.prog (wk.drop 9) _ a4 w4
  have hcell := own_cell (f := fun _ => (S.dPut 1 ⟨kA, dA⟩).list) (n := 1) (fun t => Dl.list_length _) (by
    have := hown4
    exact this) 0 (by decide)
  obtain ⟨ad, hA, hlt, hcell⟩ := hcell
  cases hA
  have hID : Inv (M4 A3 A2 A5 A4) (fun _ => ⟨some ⟨g, 0, none⟩, 29, 1, c, fun _ => (S.dPut 1 ⟨kA, dA⟩).cells⟩) w4 := ⟨hI4.1, xok_box hI4.2 (fun _ => fun j hj => by
    have hj : j < 1 := hj
    obtain rfl : j = 0 := by omega
    refine ⟨rfl, fun s hs mem => ?_, _, rfl, hlt, fun k s hk m => ?_⟩
    · obtain ⟨u, _, rfl⟩ := List.mem_map.1 (show s ∈ (S.dPut 1 ⟨kA, dA⟩).list.map SV.val from hs)
      exact @ok_val (rowsB _ _) _ _
    · have hk : ((S.dPut 1 ⟨kA, dA⟩).list.map SV.val)[k]? = some s := hk
      rw [List.getElem?_map, Option.map_eq_some_iff] at hk
      obtain ⟨u, hu, rfl⟩ := hk
      rw [@den_val (rowsB _ _)]
      exact hcell k u hu)⟩
  have hw1 : Below w0.heap.size w0 w4 := hb.trans ((b03.trans (b34.mono b03.size)).mono hb.size)
  have hsr5 : @SR (rowsB (M4 A3 A2 A5 A4) (fun _ => ⟨some ⟨g, 0, none⟩, 29, 1, c, fun _ => (S.dPut 1 ⟨kA, dA⟩).cells⟩)) w4 85 (fun _ => 0) ((⟨[(3, .xs [0]), (4, .xs [1]), (5, .val (.int .i64 1)), (6, .val (.int .i64 6)), (7, .val (.int .i64 0)), (8, .val (.int .i64 0)), (9, .xs [0, 0, 0]), (10, .val (.int .i64 0))], []⟩ : Cut).st 0) a4 w4 := by
    refine @epoch (rowsB (M4 A3 A2 A5 A4) (fun _ => ⟨some ⟨g, 0, none⟩, 29, 1, c, fun _ => (S.dPut 1 ⟨kA, dA⟩).cells⟩)) _ _ _ hr4.ar.size hr4.ar.defers _ _ (fun p hp => ?_) (fun p hp => ?_)
    · simp only [List.mem_cons, List.not_mem_nil, or_false] at hp
      rcases hp with rfl | rfl | rfl | rfl | rfl | rfl | rfl | rfl
      · exact (hr4.ar.tm 3 rfl).trans (Eq.trans (den_xs _ [0]) (@den_xs (rowsB (M4 A3 A2 A5 A4) (fun _ => ⟨some ⟨g, 0, none⟩, 29, 1, c, fun _ => (S.dPut 1 ⟨kA, dA⟩).cells⟩)) (fun _ => 0) [0]).symm)
      · exact (hr4.ar.tm 4 rfl).trans (Eq.trans (den_xs _ [1]) (@den_xs (rowsB (M4 A3 A2 A5 A4) (fun _ => ⟨some ⟨g, 0, none⟩, 29, 1, c, fun _ => (S.dPut 1 ⟨kA, dA⟩).cells⟩)) (fun _ => 0) [1]).symm)
      · exact (hr4.ar.tm 5 rfl).trans (Eq.trans (den_val _ _) (@den_val (rowsB (M4 A3 A2 A5 A4) (fun _ => ⟨some ⟨g, 0, none⟩, 29, 1, c, fun _ => (S.dPut 1 ⟨kA, dA⟩).cells⟩)) (fun _ => 0) _).symm)
      · exact (hr4.ar.tm 6 rfl).trans (Eq.trans (den_val _ _) (@den_val (rowsB (M4 A3 A2 A5 A4) (fun _ => ⟨some ⟨g, 0, none⟩, 29, 1, c, fun _ => (S.dPut 1 ⟨kA, dA⟩).cells⟩)) (fun _ => 0) _).symm)
      · exact (hr4.ar.tm 7 rfl).trans (Eq.trans (den_val _ _) (@den_val (rowsB (M4 A3 A2 A5 A4) (fun _ => ⟨some ⟨g, 0, none⟩, 29, 1, c, fun _ => (S.dPut 1 ⟨kA, dA⟩).cells⟩)) (fun _ => 0) _).symm)
      · exact (hr4.ar.tm 8 rfl).trans (Eq.trans (den_val _ _) (@den_val (rowsB (M4 A3 A2 A5 A4) (fun _ => ⟨some ⟨g, 0, none⟩, 29, 1, c, fun _ => (S.dPut 1 ⟨kA, dA⟩).cells⟩)) (fun _ => 0) _).symm)
      · exact (hr4.ar.tm 9 rfl).trans (Eq.trans (den_val _ _) (@den_xs (rowsB (M4 A3 A2 A5 A4) (fun _ => ⟨some ⟨g, 0, none⟩, 29, 1, c, fun _ => (S.dPut 1 ⟨kA, dA⟩).cells⟩)) (fun _ => 0) [0, 0, 0]).symm)
      · exact (hr4.ar.tm 10 rfl).trans (Eq.trans (den_val _ _) (@den_val (rowsB (M4 A3 A2 A5 A4) (fun _ => ⟨some ⟨g, 0, none⟩, 29, 1, c, fun _ => (S.dPut 1 ⟨kA, dA⟩).cells⟩)) (fun _ => 0) _).symm)
    · simp only [List.mem_cons, List.not_mem_nil, or_false] at hp
      rcases hp with rfl | rfl | rfl | rfl | rfl | rfl | rfl | rfl <;> first | exact @ok_xs (rowsB _ _) _ _ | exact @ok_val (rowsB _ _) _ _
  exact fin9 hM hID hsr5 hw1
end Wk
end Go.Proofs.YtaojjpdlfnphiaaDoor.PDescKinds
end
section
/- works, from its beginning; its contract. -/
set_option linter.unusedSimpArgs false
set_option linter.unusedVariables false
set_option linter.unusedSectionVars false
namespace Go.Proofs.YtaojjpdlfnphiaaDoor.PDescKinds
open Go.RowKit Go.Ev
namespace Wk
abbrev MN : Nat → Mo := fun _ => Mo0
set_option maxRecDepth 100000 in
theorem calls {w0 : World} (ht : Tabs w0) : Calls Tryd.prog 45 #[] w0 (fun e w' => e = .returned (.bool true) ∧ Below w0.heap.size w0 w') := by
  letI := rowsB MN noBox
  have hI : Inv MN noBox w0 := ⟨ht, xok_raw fun k => raw0 w0⟩
  have C := ctxB MN noBox Bvents5 entsS_nil
  have hc : CallSound Tryd.prog (Inv MN noBox) (callWith Tryd.prog CL (ev Tryd.prog ext CL 20)) := call_sound C.hs C.hG (ev_sound mixed ext_sound C.hs C.hXO C.hG 20).1
  refine calls_of_wp Tryd.func45 (c := Tryd.f45.body.getD .skip) (by kernel_rfl) ?_
  refine wpL_flat _ ?_
  show wpL Tryd.prog wk _ _ _
  rw [wk_eq, wpL_app]
  have hst := start_sound (fn := Tryd.f45) [] (fun x hx => by cases hx) w0 (fun _ => 0)
  refine piece C.mix C.hX C.hs C.hXO C.hG (w1 MN) hI hst (fun v hv => by cases hv) (fun ex d hd m1 a1 w1' hr1 => ?_)
  cases hd
  show wpL Tryd.prog (.region 4 (ops 4) false :: .region 5 (ops 5) false :: ([wk.getD 6 .skip, wk.getD 7 .skip] ++ (.region 8 (ops 8) false :: wk.drop 9))) _ a1 w1'
  rw [wpL]
  refine wp_region_list ?_
  rw [ops4_eq]
  obtain ⟨st2, hst2, hcut2⟩ := Option.bind_eq_some_iff.1 (w2 MN)
  refine ops_sound_tail ext_sound hI C.hs C.hXO hc _ _ _ _ m1 a1 w1' hst2 hr1 ?_
  intro m2 a2 w2' _ hr2
  have hr2 := cut_sound hcut2 hr2
  have e16 : a2.eval (.tmp 16) = vN.agg := (hr2.ar.tm 16 rfl).trans (den_val _ _)
  have e20 : a2.eval (.tmp 20) = row (m2 2) := (hr2.ar.tm 20 rfl).trans (den_slc _ _ _ _ _)
  refine step_build (v := agg (m2 2) dB) grd4 (by
    unfold execOp
    have em : ((#[(0, .const (.int .i64 1)), (1, .tmp 16), (3, .tmp 20)] : Array (Nat × Operand)).map fun p => (p.1, a2.eval p.2)) = #[(0, .int .i64 1), (1, vN.agg), (3, row (m2 2))] := by
      simp [e16, e20]
      rfl
    simp only [op4, em]
    rw [Sem.run_bind, pureRun_run _ (built (m2 2) dB) w2']
    rfl) ?_
  rw [dst4]
  have hr3 : SR w0 85 m2 ⟨putS (pickT [(1, .ptr 0 0), (2, .ptr 1 0), (16, .val vN.agg), (20, .slc 2 0 1 1)]) (some 21) (.val (agg (m2 2) dB)), pickM [(0, ⟨27, dB.cells⟩), (1, ⟨27, dA.cells⟩), (2, ⟨66, (Pr.mk kA dB).cells⟩)], 3⟩ (a2.put (some 21) (agg (m2 2) dB)) w2' := by
    have := hr2.ar.put (d := some 21) (v := .val (agg (m2 2) dB)) (m' := m2) (Agree.refl _ _) (Grows.refl _) (by rfl) (ok_val _ _)
    rw [den_val] at this
    exact ⟨hr2.mr, this, hr2.fresh⟩
  obtain ⟨st3, hst3, hcut3⟩ := Option.bind_eq_some_iff.1 (w3 MN (m2 2))
  rw [← List.append_nil ((ops 4).toList.drop 6)]
  refine ops_sound_tail ext_sound hI C.hs C.hXO hc [] _ _ _ _ _ _ hst3 hr3 ?_
  intro m3 a3 w3' hl3 hr4
  have hr4 := cut_sound hcut3 hr4
  have hm2 : m3 2 = m2 2 := hl3.agree 2 rfl
  show wpL Tryd.prog (.region 5 (ops 5) false :: ([wk.getD 6 .skip, wk.getD 7 .skip] ++ (.region 8 (ops 8) false :: wk.drop 9))) _ a3 w3'
  rw [wpL]
  refine wp_region_list ?_
  rw [ops5_eq]
  obtain ⟨st4, hst4, hcut4⟩ := Option.bind_eq_some_iff.1 (w4 MN (m2 2))
  refine ops_sound_tail ext_sound hI C.hs C.hXO hc _ _ _ _ m3 a3 w3' hst4 hr4 ?_
  intro m4 a4 w4' hl4 hr5
  have hr5 := cut_sound hcut4 hr5
  have e23 : a4.eval (.tmp 23) = vN.agg := (hr5.ar.tm 23 rfl).trans (den_val _ _)
  have e27 : a4.eval (.tmp 27) = row (m4 4) := (hr5.ar.tm 27 rfl).trans (den_slc _ _ _ _ _)
  refine step_build (v := agg (m4 4) dA) grd5 (by
    unfold execOp
    have em : ((#[(0, .const (.int .i64 1)), (1, .tmp 23), (3, .tmp 27)] : Array (Nat × Operand)).map fun p => (p.1, a4.eval p.2)) = #[(0, .int .i64 1), (1, vN.agg), (3, row (m4 4))] := by
      simp [e23, e27]
      rfl
    simp only [op5, em]
    rw [Sem.run_bind, pureRun_run _ (built (m4 4) dA) w4']
    rfl) ?_
  rw [dst5]
  have hr6 : SR w0 85 m4 ⟨putS (pickT [(3, .slc 3 0 1 1), (23, .val vN.agg), (27, .slc 4 0 1 1)]) (some 28) (.val (agg (m4 4) dA)), pickM [(2, ⟨66, (Pr.mk kA dB).cells⟩), (3, ⟨60, (shVals (shp none dB) (row (m2 2))).map SV.val⟩), (4, ⟨66, (Pr.mk kA dA).cells⟩)], 5⟩ (a4.put (some 28) (agg (m4 4) dA)) w4' := by
    have := hr5.ar.put (d := some 28) (v := .val (agg (m4 4) dA)) (m' := m4) (Agree.refl _ _) (Grows.refl _) (by rfl) (ok_val _ _)
    rw [den_val] at this
    exact ⟨hr5.mr, this, hr5.fresh⟩
  obtain ⟨st5, hst5, hcut5⟩ := Option.bind_eq_some_iff.1 (w5 MN (m2 2) (m4 4))
  rw [← List.append_nil ((ops 5).toList.drop 6)]
  refine ops_sound_tail ext_sound hI C.hs C.hXO hc [] _ _ _ _ _ _ hst5 hr6 ?_
  intro m5 a5 w5' hl5 hr7
  have hr7 := cut_sound hcut5 hr7
  have b5 := hr7.mr.below
  have k2 := hr7.mr.blk 2 ⟨66, (Pr.mk kA dB).cells⟩ rfl
  have k3 := hr7.mr.blk 3 ⟨60, (shVals (shp none dB) (row (m2 2))).map SV.val⟩ rfl
  have k4 := hr7.mr.blk 4 ⟨66, (Pr.mk kA dA).cells⟩ rfl
  have k5 := hr7.mr.blk 5 ⟨60, (shVals (shp none dA) (row (m4 4))).map SV.val⟩ rfl
  have n2 : m5 2 = m2 2 := (hl5.agree 2 rfl).trans ((hl4.agree 2 rfl).trans hm2)
  have n4 : m5 4 = m4 4 := hl5.agree 4 rfl
  have vd : ∀ l : List Value, ((l.map SV.val).map (SV.den m5)).toArray = l.toArray := fun l => by
    rw [List.map_map, show (SV.den m5 ∘ SV.val) = _root_.id from funext fun v => den_val m5 v, List.map_id]
  have h2 : w5'.heap[m2 2]? = some (.cells (Pr.mk kA dB).list.toArray 66 (0, 0)) := by
    have := k2.2.1
    rw [n2, Pr.cells_list, vd] at this
    exact this
  have h3 : w5'.heap[m5 3]? = some (.cells (shVals (shp none dB) (row (m2 2))).toArray 60 (0, 0)) := by
    have := k3.2.1
    rw [vd] at this
    exact this
  have h4 : w5'.heap[m4 4]? = some (.cells (Pr.mk kA dA).list.toArray 66 (0, 0)) := by
    have := k4.2.1
    rw [n4, Pr.cells_list, vd] at this
    exact this
  have h5 : w5'.heap[m5 5]? = some (.cells (shVals (shp none dA) (row (m4 4))).toArray 60 (0, 0)) := by
    have := k5.2.1
    rw [vd] at this
    exact this
  exact rest (A3 := some ⟨m5 3, 0, none⟩) (A2 := some ⟨m2 2, 0, none⟩) (A5 := some ⟨m5 5, 0, none⟩) (A4 := some ⟨m4 4, 0, none⟩) b5 (tabs_stable _ _ ht b5) (raw_mo h3 h2) (raw_mo h5 h4) hr7.ar.size hr7.ar.defers
    ((hr7.ar.tm 3 rfl).trans (den_slc _ _ _ _ _)) ((hr7.ar.tm 4 rfl).trans (den_slc _ _ _ _ _))
end Wk
def onNone (t : DT SV) : List SV → Option (DT SV)
  | [] => some t
  | _ => none
theorem ent_works45 (M : Nat → Mo) (bx : Nat → XR) : Ent M bx (45, noMem (onNone (LB true))) := by
  letI := rowsB M bx
  refine EntryS.of (fun args t v h1 h2 => ?_) (inv_stable M bx)
  cases args with
  | cons x r => cases h1
  | nil =>
    cases h1
    cases h2
    refine ⟨ok_val _ _, fun x hx => (by cases hx), fun w m hI => ?_⟩
    refine Calls.mono (Wk.calls hI.1) fun e w' ⟨he, hb⟩ => ⟨⟨m, ?_⟩, hb⟩
    rw [he, den_val]
end Go.Proofs.YtaojjpdlfnphiaaDoor.PDescKinds
end
section
/- Loops within loops that search. -/
set_option linter.unusedSimpArgs false
set_option linter.unusedVariables false
set_option linter.unusedSectionVars false
namespace Go.Ev
section
variable [XEnv]
variable {P : Program} {X : ExtFn} {G : GFn} {I : World → Prop} {N : Nat} {fn : Func} {fs : List Fr} {l : List Code} {k : Nat} {ts bs ts2 bs2 : List Nat} {next : Nat}
def nest {α : Type} (p : Nat → Nat → Option α) (m : Nat → Nat) (z : α) : Nat → Nat → α
  | 0, _ => z
  | k + 1, i => (Ev.seek (p i) (m i) 0).getD (nest p m z k (i + 1))
theorem Runs.nestFn {α : Type} (C : Ctx P X G I) (hl : hasLoop l = true) {st : St} {n : Nat} {m : Nat → Nat} {p : Nat → Nat → Option α} {f : α → SV} {z : α} {hd : Nat → Cut} {hd2 : Nat → Nat → Cut} {b : Nat} {c1 : Code} {pre post3 : List Code}
    (hsplit : flat (roundOf l) = pre ++ (.block b c1 :: post3)) (hl2 : hasLoop (flat c1) = true) (hnil : postOf (flat c1) = [])
    (hpre0 : evK P X G k N (seqL (preOf l)) st (grab P fn ts bs next) = some (.cut .normal (hd 0)))
    (hin : ∀ i, i < n → evK P X G k N (seqL pre) ((hd i).st next) (grab P fn ts bs next) = some (.cut .normal (hd i)))
    (hout : evK P X G k N (seqL pre) ((hd n).st next) (grab P fn ts bs next) = some (.cut (.exit (idOf l)) (hd n)))
    (h2pre : ∀ i, i < n → evK P X G k N (seqL (preOf (flat c1))) ((hd i).st next) (grab P fn ts2 bs2 next) = some (.cut .normal (hd2 i 0)))
    (h2round : ∀ i j, i < n → j < m i → evK P X G k N (seqL (flat (roundOf (flat c1)))) ((hd2 i j).st next) (grab P fn ts2 bs2 next) = some (toR (hd2 i (j + 1)) ((p i j).map f)))
    (h2end : ∀ i, i < n → evK P X G k N (seqL (flat (roundOf (flat c1)))) ((hd2 i (m i)).st next) (grab P fn ts2 bs2 next) = some (.cut (.exit (idOf (flat c1))) (hd2 i (m i))))
    (h3 : ∀ i, i < n → evK P X G k N (seqL post3) ((hd2 i (m i)).st next) (grab P fn ts bs next) = some (.cut .normal (hd (i + 1))))
    (hpost : Runs P I N fn (f z) fs (postOf l) ((hd n).st next)) : Runs P I N fn (f (nest p m z n 0)) fs l st := by
  refine Runs.looped C hl n hpre0 ?_
  have loop : ∀ (j i : Nat), i + j = n → Runs P I N fn (f (nest p m z j i)) (.loop (idOf l) (roundOf l) j :: .rest (postOf l) :: fs) (flat (roundOf l)) ((hd i).st next) := by
    intro j
    induction j with
    | zero =>
      intro i hi
      obtain rfl : i = n := by omega
      rw [hsplit]
      exact Runs.app (Runs.step C hout (RunsX.exit_rest (RunsX.out (RunsX.rest hpost))))
    | succ j ih =>
      intro i hi
      have hin' : i < n := by omega
      rw [hsplit]
      refine Runs.app (Runs.step C (hin i hin') (RunsX.rest (Runs.block ?_)))
      simp only [nest]
      refine Runs.seekFn C hl2 (n := m i) (hd := hd2 i) (c' := hd2 i (m i)) (h2pre i hin') (fun j hj => h2round i j hin' hj) (h2end i hin') (fun _ => ?_)
      rw [hnil]
      exact Runs.nil (RunsX.blk_normal (RunsX.rest (Runs.step C (h3 i hin') (RunsX.again (ih (i + 1) (by omega))))))
  exact loop n 0 (by omega)
end
end Go.Ev
end
section
/- cameoref10.Twice, cameolaw10.plain. -/
set_option linter.unusedSimpArgs false
set_option linter.unusedVariables false
set_option linter.unusedSectionVars false
namespace Go.Proofs.YtaojjpdlfnphiaaDoor.PDescKinds
open Go.RowKit Go.Ev
namespace R
/-- cameoref10.Twice. -/
def twice (m : Mo) : Bool := nest (fun i j => bif S.find (m.g i) ((m.g i).g j).k != (j : Int) then some true else none) (fun i => (m.g i).n) false m.n 0
/-- cameolaw10.plain. -/
def plain (m : Mo) : Bool := nest (fun i j => bif S.err (S.check ((m.g i).g j).d) != 0 || !S.whole ((m.g i).g j).d then some false else none) (fun i => (m.g i).n) (!twice m) m.n 0
end R
set_option maxRecDepth 100000 in
theorem tw85_pre (M : Nat → Mo) (bx : Nat → XR) (a i j : Nat) : letI := rowsB M bx
    evK Tryd.prog ext (tab2 BvL5 [(48, noMem (onPK fun a b k => LI (S.find ((M a).g b) k)))]) 80 38 (seqL (preOf (bodyOf Tryd.f85))) (⟨argS [.xs [a]], fun _ => none, 0⟩) (grab Tryd.prog Tryd.f85 [0, 3] [] 0) =
    some (Res.cut Ex.normal (Cut.mk [(0, SV.xs [a]), (3, SV.val (Value.int IntKind.i64 0))] [])) := by kernel_rfl
set_option maxRecDepth 100000 in
theorem tw85_in (M : Nat → Mo) (bx : Nat → XR) (a i j : Nat) : letI := rowsB M bx
    evK Tryd.prog ext (tab2 BvL5 [(48, noMem (onPK fun a b k => LI (S.find ((M a).g b) k)))]) 80 38 (seqL ((flat (roundOf (bodyOf Tryd.f85))).take 2)) ((⟨[(0, .xs [a]), (3, (.val (.int .i64 (i : Int))))], []⟩ : Cut).st 0) (grab Tryd.prog Tryd.f85 [0, 3] [] 0) =
    (bif decide ((↑i : Int) < (↑(M a).n : Int)) then some (Res.cut Ex.normal (Cut.mk [(0, SV.xs [a]), (3, SV.val (Value.int IntKind.i64 (↑i : Int)))] [])) else some (Res.cut (Ex.exit 0) (Cut.mk [(0, SV.xs [a]), (3, SV.val (Value.int IntKind.i64 (↑i : Int)))] []))) := by kernel_rfl
set_option maxRecDepth 100000 in
theorem tw85_pre2 (M : Nat → Mo) (bx : Nat → XR) (a i j : Nat) : letI := rowsB M bx
    evK Tryd.prog ext (tab2 BvL5 [(48, noMem (onPK fun a b k => LI (S.find ((M a).g b) k)))]) 80 38 (seqL (preOf (flat (inB ((flat (roundOf (bodyOf Tryd.f85))).getD 2 .skip))))) ((⟨[(0, .xs [a]), (3, (.val (.int .i64 (i : Int))))], []⟩ : Cut).st 0) (grab Tryd.prog Tryd.f85 [0, 3, 4] [] 0) =
    some (Res.cut Ex.normal (Cut.mk [(0, SV.xs [a]), (3, SV.val (Value.int IntKind.i64 (↑i : Int))), (4, SV.val (Value.int IntKind.i64 0))] [])) := by kernel_rfl
set_option maxRecDepth 100000 in
theorem tw85_round (M : Nat → Mo) (bx : Nat → XR) (a i j : Nat) : letI := rowsB M bx
    evK Tryd.prog ext (tab2 BvL5 [(48, noMem (onPK fun a b k => LI (S.find ((M a).g b) k)))]) 80 38 (seqL (flat (roundOf (flat (inB ((flat (roundOf (bodyOf Tryd.f85))).getD 2 .skip)))))) ((⟨[(0, .xs [a]), (3, (.val (.int .i64 (i : Int)))), (4, (.val (.int .i64 (j : Int))))], []⟩ : Cut).st 0) (grab Tryd.prog Tryd.f85 [0, 3, 4] [] 0) =
    (bif decide (0 ≤ (↑i : Int)) && decide ((↑i : Int) < (↑(M a).n : Int)) then 
     (bif decide ((↑j : Int) < (↑((M a).g i).n : Int)) then 
      (bif decide (0 ≤ (↑i : Int)) && decide ((↑i : Int) < (↑(M a).n : Int)) then 
       (bif decide (0 ≤ (↑i : Int)) && decide ((↑i : Int) < (↑(M a).n : Int)) then 
        (bif decide (0 ≤ (↑j : Int)) && decide ((↑j : Int) < (↑((M a).g i).n : Int)) then 
         (bif S.find ((M a).g i) (K.mk (((M a).g i).g j).k.s (((M a).g i).g j).k.n) != (↑j : Int) then some (Res.ret (SV.val (Value.bool true))) else some (Res.cut Ex.normal (Cut.mk [(0, SV.xs [a]), (3, SV.val (Value.int IntKind.i64 (↑i : Int))), (4, SV.val (Value.int IntKind.i64 (IntKind.i64.wrap ((↑j : Int) + 1))))] []))) else none) else none) else none) else some (Res.cut (Ex.exit 2) (Cut.mk [(0, SV.xs [a]), (3, SV.val (Value.int IntKind.i64 (↑i : Int))), (4, SV.val (Value.int IntKind.i64 (↑j : Int)))] []))) else none) := by kernel_rfl
set_option maxRecDepth 100000 in
theorem tw85_p3 (M : Nat → Mo) (bx : Nat → XR) (a i j : Nat) : letI := rowsB M bx
    evK Tryd.prog ext (tab2 BvL5 [(48, noMem (onPK fun a b k => LI (S.find ((M a).g b) k)))]) 80 38 (seqL ((flat (roundOf (bodyOf Tryd.f85))).drop 3)) ((⟨[(0, .xs [a]), (3, (.val (.int .i64 (i : Int)))), (4, (.val (.int .i64 (j : Int))))], []⟩ : Cut).st 0) (grab Tryd.prog Tryd.f85 [0, 3] [] 0) =
    some (Res.cut Ex.normal (Cut.mk [(0, SV.xs [a]), (3, SV.val (Value.int IntKind.i64 (IntKind.i64.wrap ((↑i : Int) + 1))))] [])) := by kernel_rfl
set_option maxRecDepth 100000 in
theorem tw85_post (M : Nat → Mo) (bx : Nat → XR) (a i j : Nat) : letI := rowsB M bx
    evK Tryd.prog ext (tab2 BvL5 [(48, noMem (onPK fun a b k => LI (S.find ((M a).g b) k)))]) 80 38 (seqL (postOf (bodyOf Tryd.f85))) ((⟨[(0, .xs [a]), (3, (.val (.int .i64 (i : Int))))], []⟩ : Cut).st 0) (grab Tryd.prog Tryd.f85 [0, 3] [] 0) =
    some (Res.ret (SV.val (Value.bool false))) := by kernel_rfl
set_option maxRecDepth 100000 in
theorem run_tw85 (M : Nat → Mo) (bx : Nat → XR) (hM : Fit M) (a : Nat) : letI := rowsB M bx
    Runs Tryd.prog (Inv M bx) 38 Tryd.f85 (.val (.bool (R.twice (M a)))) [] (bodyOf Tryd.f85) ⟨argS [.xs [a]], fun _ => none, 0⟩ := by
  letI := rowsB M bx
  have C := ctxB M bx Bvents5 (entsS_cons (ent_find48 M bx hM) entsS_nil)
  refine Runs.nestFn C (by kernel_rfl) (n := (M a).n) (m := fun i => ((M a).g i).n) (p := fun i j => bif S.find ((M a).g i) (((M a).g i).g j).k != (j : Int) then some true else none) (f := fun x : Bool => SV.val (.bool x)) (z := false) (hd := fun i => (⟨[(0, .xs [a]), (3, (.val (.int .i64 (i : Int))))], []⟩ : Cut)) (hd2 := fun i j => (⟨[(0, .xs [a]), (3, (.val (.int .i64 (i : Int)))), (4, (.val (.int .i64 (j : Int))))], []⟩ : Cut))
    (b := 1) (c1 := inB ((flat (roundOf (bodyOf Tryd.f85))).getD 2 .skip)) (pre := (flat (roundOf (bodyOf Tryd.f85))).take 2) (post3 := (flat (roundOf (bodyOf Tryd.f85))).drop 3) (by kernel_rfl) (by kernel_rfl) (by kernel_rfl) (tw85_pre M bx a 0 0) (fun i hi => ?_) ?_ (fun i hi => tw85_pre2 M bx a i 0) (fun i j hi hj => ?_) (fun i hi => ?_) (fun i hi => ?_) (Runs.ret C (tw85_post M bx a (M a).n 0))
  · refine (tw85_in M bx a i 0).trans ?_
    rw [dlt hi]
    rfl
  · refine (tw85_in M bx a (M a).n 0).trans ?_
    rw [dnl]
    rfl
  · refine (tw85_round M bx a i j).trans ?_
    simp only [dlt hi, dge, dlt hj, wr hj ((hM a).2 i), cond_true, cond_false, Bool.and_self, Bool.true_and, map_cond, toR_cond, some_cond, Option.map_some, Option.map_none, toR_some, toR_none, cnd_or, cnd_not]
    first | done | rfl
  · refine (tw85_round M bx a i ((M a).g i).n).trans ?_
    simp only [dlt hi, dge, dnl, cond_true, cond_false, Bool.and_self, Bool.true_and]
    first | done | rfl
  · refine (tw85_p3 M bx a i ((M a).g i).n).trans ?_
    rw [wr hi (hM a).1]
theorem ent_tw85 (M : Nat → Mo) (bx : Nat → XR) (hM : Fit M) : Ent M bx (85, noMem (onM fun a => LB (R.twice (M a)))) := by
  letI := rowsB M bx
  refine EntryS.of (fun args t v h1 h2 => ?_) (inv_stable M bx)
  obtain ⟨a, rfl, rfl⟩ := onM_eq h1
  cases h2
  refine ⟨ok_val _ _, ?_, fun w m hI => Runs.calls (body := Tryd.f85.body.getD .skip) Tryd.func85 (by kernel_rfl) (by kernel_rfl) ?_ (run_tw85 M bx hM a) w hI m⟩ <;>
  · intro x hx
    simp only [List.mem_cons, List.not_mem_nil, or_false] at hx
    rcases hx with rfl; exact ok_xs
set_option maxRecDepth 100000 in
theorem pl46_pre (M : Nat → Mo) (bx : Nat → XR) (a i j : Nat) : letI := rowsB M bx
    evK Tryd.prog ext (tab2 BvL5 [(85, noMem (onM fun a => LB (R.twice (M a))))]) 80 49 (seqL (preOf (bodyOf Tryd.f46))) (⟨argS [.xs [a]], fun _ => none, 0⟩) (grab Tryd.prog Tryd.f46 [0, 3] [] 0) =
    some (Res.cut Ex.normal (Cut.mk [(0, SV.xs [a]), (3, SV.val (Value.int IntKind.i64 0))] [])) := by kernel_rfl
set_option maxRecDepth 100000 in
theorem pl46_in (M : Nat → Mo) (bx : Nat → XR) (a i j : Nat) : letI := rowsB M bx
    evK Tryd.prog ext (tab2 BvL5 [(85, noMem (onM fun a => LB (R.twice (M a))))]) 80 49 (seqL ((flat (roundOf (bodyOf Tryd.f46))).take 2)) ((⟨[(0, .xs [a]), (3, (.val (.int .i64 (i : Int))))], []⟩ : Cut).st 0) (grab Tryd.prog Tryd.f46 [0, 3] [] 0) =
    (bif decide ((↑i : Int) < (↑(M a).n : Int)) then some (Res.cut Ex.normal (Cut.mk [(0, SV.xs [a]), (3, SV.val (Value.int IntKind.i64 (↑i : Int)))] [])) else some (Res.cut (Ex.exit 0) (Cut.mk [(0, SV.xs [a]), (3, SV.val (Value.int IntKind.i64 (↑i : Int)))] []))) := by kernel_rfl
set_option maxRecDepth 100000 in
theorem pl46_pre2 (M : Nat → Mo) (bx : Nat → XR) (a i j : Nat) : letI := rowsB M bx
    evK Tryd.prog ext (tab2 BvL5 [(85, noMem (onM fun a => LB (R.twice (M a))))]) 80 49 (seqL (preOf (flat (inB ((flat (roundOf (bodyOf Tryd.f46))).getD 2 .skip))))) ((⟨[(0, .xs [a]), (3, (.val (.int .i64 (i : Int))))], []⟩ : Cut).st 0) (grab Tryd.prog Tryd.f46 [0, 3, 4] [] 0) =
    some (Res.cut Ex.normal (Cut.mk [(0, SV.xs [a]), (3, SV.val (Value.int IntKind.i64 (↑i : Int))), (4, SV.val (Value.int IntKind.i64 0))] [])) := by kernel_rfl
set_option maxRecDepth 100000 in
theorem pl46_round (M : Nat → Mo) (bx : Nat → XR) (a i j : Nat) : letI := rowsB M bx
    evK Tryd.prog ext (tab2 BvL5 [(85, noMem (onM fun a => LB (R.twice (M a))))]) 80 49 (seqL (flat (roundOf (flat (inB ((flat (roundOf (bodyOf Tryd.f46))).getD 2 .skip)))))) ((⟨[(0, .xs [a]), (3, (.val (.int .i64 (i : Int)))), (4, (.val (.int .i64 (j : Int))))], []⟩ : Cut).st 0) (grab Tryd.prog Tryd.f46 [0, 3, 4] [] 0) =
    (bif decide (0 ≤ (↑i : Int)) && decide ((↑i : Int) < (↑(M a).n : Int)) then 
     (bif decide ((↑j : Int) < (↑((M a).g i).n : Int)) then 
      (bif decide (0 ≤ (↑i : Int)) && decide ((↑i : Int) < (↑(M a).n : Int)) then 
       (bif decide (0 ≤ (↑j : Int)) && decide ((↑j : Int) < (↑((M a).g i).n : Int)) then 
        (bif S.err (S.check (((M a).g i).g j).d) != 0 then some (Res.ret (SV.val (Value.bool false))) else 
         (bif decide (0 ≤ (↑i : Int)) && decide ((↑i : Int) < (↑(M a).n : Int)) then 
          (bif decide (0 ≤ (↑j : Int)) && decide ((↑j : Int) < (↑((M a).g i).n : Int)) then 
           (bif !S.whole (((M a).g i).g j).d then some (Res.ret (SV.val (Value.bool false))) else some (Res.cut Ex.normal (Cut.mk [(0, SV.xs [a]), (3, SV.val (Value.int IntKind.i64 (↑i : Int))), (4, SV.val (Value.int IntKind.i64 (IntKind.i64.wrap ((↑j : Int) + 1))))] []))) else none) else none)) else none) else none) else some (Res.cut (Ex.exit 2) (Cut.mk [(0, SV.xs [a]), (3, SV.val (Value.int IntKind.i64 (↑i : Int))), (4, SV.val (Value.int IntKind.i64 (↑j : Int)))] []))) else none) := by kernel_rfl
set_option maxRecDepth 100000 in
theorem pl46_p3 (M : Nat → Mo) (bx : Nat → XR) (a i j : Nat) : letI := rowsB M bx
    evK Tryd.prog ext (tab2 BvL5 [(85, noMem (onM fun a => LB (R.twice (M a))))]) 80 49 (seqL ((flat (roundOf (bodyOf Tryd.f46))).drop 3)) ((⟨[(0, .xs [a]), (3, (.val (.int .i64 (i : Int)))), (4, (.val (.int .i64 (j : Int))))], []⟩ : Cut).st 0) (grab Tryd.prog Tryd.f46 [0, 3] [] 0) =
    some (Res.cut Ex.normal (Cut.mk [(0, SV.xs [a]), (3, SV.val (Value.int IntKind.i64 (IntKind.i64.wrap ((↑i : Int) + 1))))] [])) := by kernel_rfl
set_option maxRecDepth 100000 in
theorem pl46_post (M : Nat → Mo) (bx : Nat → XR) (a i j : Nat) : letI := rowsB M bx
    evK Tryd.prog ext (tab2 BvL5 [(85, noMem (onM fun a => LB (R.twice (M a))))]) 80 49 (seqL (postOf (bodyOf Tryd.f46))) ((⟨[(0, .xs [a]), (3, (.val (.int .i64 (i : Int))))], []⟩ : Cut).st 0) (grab Tryd.prog Tryd.f46 [0, 3] [] 0) =
    some (Res.ret (SV.val (Value.bool !R.twice (M a)))) := by kernel_rfl
set_option maxRecDepth 100000 in
theorem run_pl46 (M : Nat → Mo) (bx : Nat → XR) (hM : Fit M) (a : Nat) : letI := rowsB M bx
    Runs Tryd.prog (Inv M bx) 49 Tryd.f46 (.val (.bool (R.plain (M a)))) [] (bodyOf Tryd.f46) ⟨argS [.xs [a]], fun _ => none, 0⟩ := by
  letI := rowsB M bx
  have C := ctxB M bx Bvents5 (entsS_cons (ent_tw85 M bx hM) entsS_nil)
  refine Runs.nestFn C (by kernel_rfl) (n := (M a).n) (m := fun i => ((M a).g i).n) (p := fun i j => bif S.err (S.check (((M a).g i).g j).d) != 0 || !S.whole (((M a).g i).g j).d then some false else none) (f := fun x : Bool => SV.val (.bool x)) (z := (!R.twice (M a))) (hd := fun i => (⟨[(0, .xs [a]), (3, (.val (.int .i64 (i : Int))))], []⟩ : Cut)) (hd2 := fun i j => (⟨[(0, .xs [a]), (3, (.val (.int .i64 (i : Int)))), (4, (.val (.int .i64 (j : Int))))], []⟩ : Cut))
    (b := 1) (c1 := inB ((flat (roundOf (bodyOf Tryd.f46))).getD 2 .skip)) (pre := (flat (roundOf (bodyOf Tryd.f46))).take 2) (post3 := (flat (roundOf (bodyOf Tryd.f46))).drop 3) (by kernel_rfl) (by kernel_rfl) (by kernel_rfl) (pl46_pre M bx a 0 0) (fun i hi => ?_) ?_ (fun i hi => pl46_pre2 M bx a i 0) (fun i j hi hj => ?_) (fun i hi => ?_) (fun i hi => ?_) (Runs.ret C (pl46_post M bx a (M a).n 0))
  · refine (pl46_in M bx a i 0).trans ?_
    rw [dlt hi]
    rfl
  · refine (pl46_in M bx a (M a).n 0).trans ?_
    rw [dnl]
    rfl
  · refine (pl46_round M bx a i j).trans ?_
    simp only [dlt hi, dge, dlt hj, wr hj ((hM a).2 i), cond_true, cond_false, Bool.and_self, Bool.true_and, map_cond, toR_cond, some_cond, Option.map_some, Option.map_none, toR_some, toR_none, cnd_or, cnd_not]
    first | done | rfl
  · refine (pl46_round M bx a i ((M a).g i).n).trans ?_
    simp only [dlt hi, dge, dnl, cond_true, cond_false, Bool.and_self, Bool.true_and]
    first | done | rfl
  · refine (pl46_p3 M bx a i ((M a).g i).n).trans ?_
    rw [wr hi (hM a).1]
theorem ent_pl46 (M : Nat → Mo) (bx : Nat → XR) (hM : Fit M) : Ent M bx (46, noMem (onM fun a => LB (R.plain (M a)))) := by
  letI := rowsB M bx
  refine EntryS.of (fun args t v h1 h2 => ?_) (inv_stable M bx)
  obtain ⟨a, rfl, rfl⟩ := onM_eq h1
  cases h2
  refine ⟨ok_val _ _, ?_, fun w m hI => Runs.calls (body := Tryd.f46.body.getD .skip) Tryd.func46 (by kernel_rfl) (by kernel_rfl) ?_ (run_pl46 M bx hM a) w hI m⟩ <;>
  · intro x hx
    simp only [List.mem_cons, List.not_mem_nil, or_false] at hx
    rcases hx with rfl; exact ok_xs
end Go.Proofs.YtaojjpdlfnphiaaDoor.PDescKinds
end
section
/- InvariantBroken, plain: what the program answers of two moments is what the document says. -/
set_option linter.unusedSimpArgs false
set_option linter.unusedVariables false
set_option linter.unusedSectionVars false
namespace Go.Proofs.YtaojjpdlfnphiaaDoor.PDescKinds
open Go.RowKit Go.Ev FloatEq
namespace R
theorem big_eq {a : Nat} (h : a < 18446744073709551616) : big a = decide (infR < rung a) := by
  have e : IntKind.u64.wrap (↑(BitVec.ofInt IntKind.u64.bits (a : Int) &&& ~~~BitVec.ofInt IntKind.u64.bits 9223372036854775808).toNat : Int) = ((a &&& (18446744073709551615 - 9223372036854775808) : Nat) : Int) := by
    have := u64_andNot (a : Int) 9223372036854775808 (by omega) (by omega) (by omega) (by omega)
    exact this
  unfold big
  rw [e, show 18446744073709551615 - 9223372036854775808 = 2 ^ 63 - 1 by decide, Nat.and_two_pow_sub_one_eq_mod]
  refine decide_eq_decide.2 ?_
  unfold infR rung
  omega
theorem bits_eq {a b : Nat} (ha : a < 18446744073709551616) (hb : b < 18446744073709551616) : (a = b) ↔ (sgn a = sgn b ∧ rung a = rung b) := by
  unfold sgn rung
  constructor
  · rintro rfl; exact ⟨rfl, rfl⟩
  · rintro ⟨h1, h2⟩
    have e1 : a / 9223372036854775808 % 2 = b / 9223372036854775808 % 2 := by
      have k1 : a / 9223372036854775808 % 2 = 0 ∨ a / 9223372036854775808 % 2 = 1 := by omega
      have k2 : b / 9223372036854775808 % 2 = 0 ∨ b / 9223372036854775808 % 2 = 1 := by omega
      rcases k1 with k1 | k1 <;> rcases k2 with k2 | k2 <;> rw [k1, k2] at h1 <;> first | (rw [k1, k2]; done) | (exact absurd h1 (by decide))
    omega
theorem nan_big {a : Nat} (h : a < 18446744073709551616) : S.nan a = big a := by
  rw [big_eq h, ← nan_iff]
  rfl
theorem ieq (a b : Nat) : (((a : Nat) : Int) == ((b : Nat) : Int)) = decide (a = b) := by
  by_cases h : a = b
  · subst h; simp
  · have : ¬ (a : Int) = b := by omega
    simp [h, this]
theorem num_eq {a b : Nat} (ha : a < 18446744073709551616) (hb : b < 18446744073709551616) : S.numSame a b = num2 a b := by
  unfold S.numSame num2
  rw [nan_big ha, nan_big hb, ieq, big_eq ha, big_eq hb]
  by_cases h : infR < rung a <;> by_cases h2 : infR < rung b
  · simp [h, h2]
  · have : ¬ a = b := by rintro rfl; exact h2 h
    simp [h, h2, this]
  · have : ¬ a = b := by rintro rfl; exact h h2
    simp [h, h2, this]
  · simp only [decide_eq_false h, decide_eq_false h2, Bool.or_self, cond_false, Bool.and_self, Bool.false_or]
    rw [neg_sgn, neg_sgn]
    by_cases hs : sgn a = sgn b
    · have hf : S.feq a b = decide (rung a = rung b) := feq_same h h2 hs
      rw [hf]
      by_cases hr : rung a = rung b
      · have : a = b := (bits_eq ha hb).2 ⟨hs, hr⟩
        subst this; simp
      · have : ¬ a = b := fun e => hr ((bits_eq ha hb).1 e).2
        simp [hr, this]
    · have : ¬ a = b := fun e => hs ((bits_eq ha hb).1 e).1
      have hs' : (sgn a == sgn b) = false := by simpa using hs
      rw [hs']
      simp [this]
end R
/-! Moments whose numbers are numbers -/
def WfMo (m : Mo) : Prop := ∀ j, (m.g j).p.wf ∧ ∀ i, ((m.g j).g i).d.wf
theorem eqV_eq {a b : V} (ha : a.wf) (hb : b.wf) : S.eqC a b = R.eqR a b := by
  unfold S.eqC R.eqR
  rw [R.num_eq ha hb]
theorem eqD_eq {a b : D} (ha : a.wf) (hb : b.wf) : S.alikeC a b = R.eqDR a b := by
  unfold S.alikeC R.eqDR
  rw [eqV_eq ha.1 hb.1, eqV_eq ha.2.1 hb.2.1, eqV_eq ha.2.2 hb.2.2]
theorem eqR_symm (a b : V) : R.eqR a b = R.eqR b a := by
  unfold R.eqR R.num2
  rw [Bool.beq_comm (a := a.k), Bool.beq_comm (a := a.b), Bool.beq_comm (a := a.s.toList), Bool.beq_comm (a := a.id), Bool.and_comm (R.big a.n), Bool.beq_comm (a := (a.n : Int))]
theorem num2_refl (a : Nat) : R.num2 a a = true := by unfold R.num2; simp
theorem eqR_refl (a : V) : R.eqR a a = true := by unfold R.eqR; simp [num2_refl]
theorem eqDR_refl (a : D) : R.eqDR a a = true := by unfold R.eqDR; simp [eqR_refl]
theorem bytes_refl (a : ByteArray) : (a == a) = true := by
  cases a with | mk d =>
  show ByteArray.beq ⟨d⟩ ⟨d⟩ = true
  unfold ByteArray.beq
  simp
theorem keq_refl (a : K) : S.keq a a = true := by
  unfold S.keq
  rw [bytes_refl]
  simp
/-- A search of which but the finding counts. -/
theorem seek_bool {α : Type} (q : Nat → Bool) (x : α) (n : Nat) : seek (fun i => bif q i then some x else none) n 0 = bif decide (S.idx q n ≥ 0) then some x else none := by
  by_cases h : S.idx q n ≥ 0
  · obtain ⟨j, _, h2, h3⟩ := S.idx_some h
    rw [decide_eq_true h]
    cases hs : seek (fun i => bif q i then some x else none) n 0 with
    | none =>
      have := (S.seek_none n 0).1 hs j (Nat.zero_le _) (by omega)
      rw [h3] at this
      cases this
    | some v =>
      obtain ⟨k, _, _, h4⟩ := S.seek_some n 0 hs
      cases hq : q k with
      | false => rw [hq] at h4; cases h4
      | true => rw [hq] at h4; cases h4; rfl
  · rw [decide_eq_false h]
    have := S.idx_none (p := q) (n := n) (by omega)
    refine (S.seek_none n 0).2 fun j _ hj => ?_
    rw [this j (by omega)]
    rfl
theorem seek_map {α β : Type} (f : α → β) (p : Nat → Option α) : ∀ k i, seek (fun i => (p i).map f) k i = (seek p k i).map f
  | 0, _ => rfl
  | k + 1, i => by
    simp only [seek]
    cases p i with
    | some u => rfl
    | none => exact seek_map f p k (i + 1)
theorem lost_eq {b a : Sh} (hb : ∀ i, (b.g i).d.wf) (ha : ∀ i, (a.g i).d.wf) : R.rule2 b a = bif S.lost b a then some 6 else none := by
  have e : R.rule2 b a = (seek (fun i => bif (b.g i).d.c != 1 || S.find b (b.g i).k != (i : Int) then none else
      bif decide (S.find a (b.g i).k < 0) then some true else
      bif S.okK (b.g i).d (a.g (S.find a (b.g i).k).toNat).d then (bif S.keeps (b.g i).d (a.g (S.find a (b.g i).k).toNat).d then none else some true) else some true) b.n 0).map fun _ => 6 := by
    unfold R.rule2
    rw [← seek_map]
    refine S.seek_congr _ _ fun i _ _ => ?_
    rw [Bool.or_comm]
    cases ((b.g i).d.c != 1 || S.find b (b.g i).k != (i : Int)) with
    | true => rfl
    | false =>
      simp only [cond_false]
      cases decide (S.find a (b.g i).k < 0) with
      | true => rfl
      | false =>
        simp only [cond_false]
        have w1 := hb i
        have w2 := ha (S.find a (b.g i).k).toNat
        rw [R.okK_eq w1 w2]
        cases ho : S.okK (b.g i).d (a.g (S.find a (b.g i).k).toNat).d with
        | false => rfl
        | true =>
          simp only [cond_true]
          rw [R.keeps_eq w1 w2 ho]
          cases R.keeps (b.g i).d (a.g (S.find a (b.g i).k).toNat).d <;> rfl
  rw [e]
  unfold S.lost
  cases hs : seek _ b.n 0 with
  | none => rfl
  | some u =>
    obtain ⟨j, _, _, h3⟩ := S.seek_some b.n 0 hs
    have hu : u = true := by
      revert h3
      cases ((b.g j).d.c != 1 || S.find b (b.g j).k != (j : Int)) <;> cases decide (S.find a (b.g j).k < 0) <;> cases S.okK (b.g j).d (a.g (S.find a (b.g j).k).toNat).d <;> cases S.keeps (b.g j).d (a.g (S.find a (b.g j).k).toNat).d <;>
        simp only [cond_true, cond_false] <;> intro h <;> cases h <;> rfl
    subst hu
    rfl
theorem rule_eq {b a : Sh} (hb : b.p.wf) (ha : a.p.wf) (hbd : ∀ i, (b.g i).d.wf) (had : ∀ i, (a.g i).d.wf) : R.rule b a = (S.ruleO b a).getD 0 := by
  unfold R.rule S.ruleO
  rw [lost_eq hbd had, seek_bool (fun i => decide (S.find b (a.g i).k < 0)) (5 : Int) a.n, eqV_eq ha hb, eqR_symm a.p b.p, bne_comm (a := a.cl)]
  have hf : S.idx (fun i => decide (S.find b (a.g i).k < 0)) a.n = S.freshAt b a := rfl
  rw [hf]
  cases b.cl != a.cl <;> cases b.x <;> cases a.x <;> cases R.eqR b.p a.p <;> cases decide (S.freshAt b a ≥ 0) <;> cases S.lost b a <;> rfl
theorem ruleO_ne {b a : Sh} {r : Int} (h : S.ruleO b a = some r) : (r != 0) = true := by
  revert h
  unfold S.ruleO
  cases a.cl != b.cl <;> cases !b.x && a.x <;> cases !b.x && !S.eqC a.p b.p <;> cases !b.x && decide (S.freshAt b a ≥ 0) <;> cases S.lost b a <;> simp only [cond_true, cond_false] <;> intro h <;> cases h <;> rfl
theorem broken_eq {b a : Mo} (hb : WfMo b) (ha : WfMo a) : S.brokenO b a = R.broken b a := by
  unfold S.brokenO R.broken
  congr 1
  refine S.seek_congr _ _ fun i _ _ => ?_
  cases decide ((i : Int) ≥ (a.n : Int)) with
  | true => rfl
  | false =>
    simp only [cond_false]
    rw [rule_eq (hb i).1 (ha i).1 (hb i).2 (ha i).2]
    cases hr : S.ruleO (b.g i) (a.g i) with
    | none => rfl
    | some r =>
      simp only [Option.map_some, Option.getD_some, ruleO_ne hr, cond_true]
theorem sameSh_eq {a b : Sh} (ha : a.p.wf) (hb : b.p.wf) (had : ∀ i, (a.g i).d.wf) (hbd : ∀ i, (b.g i).d.wf) : S.sameSh a b = R.sameSh a b := by
  unfold S.sameSh R.sameSh S.sameP
  rw [eqV_eq ha hb]
  have e : seek (fun i => bif S.keq (a.g i).k (b.g i).k && S.alikeC (a.g i).d (b.g i).d then none else some false) a.n 0 = seek (fun i => bif !S.keq (a.g i).k (b.g i).k || !R.eqDR (a.g i).d (b.g i).d then some false else none) a.n 0 := by
    refine S.seek_congr _ _ fun i _ _ => ?_
    rw [eqD_eq (had i) (hbd i)]
    cases S.keq (a.g i).k (b.g i).k <;> cases R.eqDR (a.g i).d (b.g i).d <;> rfl
  rw [e]
  have h1 : (a.cl != b.cl) = !(a.cl == b.cl) := rfl
  rw [h1]
  cases a.cl == b.cl <;> cases R.eqR a.p b.p <;> cases a.x == b.x <;> cases (a.n : Int) != (b.n : Int) <;> simp
theorem same_eq {a b : Mo} (ha : WfMo a) (hb : WfMo b) : S.sameC a b = R.sameM a b := by
  unfold S.sameC R.sameM
  have e : seek (fun i => bif S.sameSh (a.g i) (b.g i) then none else some false) a.n 0 = seek (fun i => bif !R.sameSh (a.g i) (b.g i) then some false else none) a.n 0 := by
    refine S.seek_congr _ _ fun i _ _ => ?_
    rw [sameSh_eq (ha i).1 (hb i).1 (ha i).2 (hb i).2]
    cases R.sameSh (a.g i) (b.g i) <;> rfl
  rw [e]
theorem sealed_eq (s : Sh) : S.sealedC s = R.sealed s := by
  unfold S.sealedC R.sealed
  rw [seek_bool (fun i => (s.g i).d.c != 1) false s.n]
  have : S.idx (fun i => (s.g i).d.c != 1) s.n = S.confAt s := rfl
  rw [this]
  cases s.x <;> cases decide (S.confAt s ≥ 0) <;> rfl
theorem frozen_eq (s : Sh) : S.frozenC s = R.frozen s := by
  unfold S.frozenC R.frozen
  rw [seek_bool (fun i => !S.there (s.g i).d.g && (!S.there (s.g i).d.t && (s.g i).d.w != 1)) false s.n, sealed_eq]
  have : S.idx (fun i => !S.there (s.g i).d.g && (!S.there (s.g i).d.t && (s.g i).d.w != 1)) s.n = S.thawAt s := by
    unfold S.thawAt
    refine S.idx_congr fun i _ => ?_
    unfold S.there
    simp only [bne, Bool.not_not]
  rw [this]
  cases R.sealed s <;> cases decide (S.thawAt s ≥ 0) <;> rfl
theorem sameSh_refl (s : Sh) : R.sameSh s s = true := by
  unfold R.sameSh
  have e : seek (fun i => bif !S.keq (s.g i).k (s.g i).k || !R.eqDR (s.g i).d (s.g i).d then some false else none) s.n 0 = none := by
    refine (S.seek_none _ _).2 fun j _ _ => ?_
    rw [keq_refl, eqDR_refl]
    rfl
  rw [e, eqR_refl]
  simp
theorem sameM_refl (m : Mo) : R.sameM m m = true := by
  unfold R.sameM
  have e : seek (fun i => bif !R.sameSh (m.g i) (m.g i) then some false else none) m.n 0 = none := by
    refine (S.seek_none _ _).2 fun j _ _ => ?_
    rw [sameSh_refl]
    rfl
  rw [e]
  simp
theorem plain {m0 m1 m2 m3 : Mo} (w0 : WfMo m0) (w1 : WfMo m1) (t2 : Twin m2 m0) (t3 : Twin m3 m1) : Brk.Plain m0 m1 m2 m3 := by
  obtain ⟨A2, n2, c2, g2⟩ := m2
  obtain ⟨A3, n3, c3, g3⟩ := m3
  obtain ⟨h2, f2, e2⟩ := t2
  obtain ⟨h3, f3, e3⟩ := t3
  simp only at h2 e2 h3 e3
  subst h2 e2 h3 e3
  exact ⟨broken_eq (b := m0) (a := m1) w0 w1, same_eq (a := m0) (b := m1) w0 w1, fun i _ => sealed_eq (m0.g i), fun i _ => frozen_eq (m0.g i), sameM_refl m0, sameM_refl m1⟩
end Go.Proofs.YtaojjpdlfnphiaaDoor.PDescKinds
end
section
/- Loops within loops that end in one way. -/
set_option linter.unusedSimpArgs false
set_option linter.unusedVariables false
set_option linter.unusedSectionVars false
namespace Go.Ev
section
variable [XEnv]
variable {P : Program} {X : ExtFn} {G : GFn} {I : World → Prop} {N : Nat} {fn : Func} {fs : List Fr} {l : List Code} {k : Nat} {ts bs ts2 bs2 ts3 bs3 : List Nat} {next next2 next3 : Nat}
/-- Every round goes its way: past the inner loop, or through it. -/
theorem Runs.nestAll (C : Ctx P X G I) (hl : hasLoop l = true) {st : St} {n : Nat} {m : Nat → Nat} {v : SV} {hd hs : Nat → Cut} {hd2 : Nat → Nat → Cut} {b : Nat} {c1 : Code} {pre post3 : List Code}
    (hsplit : flat (roundOf l) = pre ++ (.block b c1 :: post3)) (hl2 : hasLoop (flat c1) = true) (hnil : postOf (flat c1) = [])
    (hpre0 : evK P X G k N (seqL (preOf l)) st (grab P fn ts bs next) = some (.cut .normal (hd 0)))
    (hin : ∀ i, i < n → evK P X G k N (seqL pre) ((hd i).st next) (grab P fn ts bs next) = some (.cut .normal (hd i)))
    (hout : evK P X G k N (seqL pre) ((hd n).st next) (grab P fn ts bs next) = some (.cut (.exit (idOf l)) (hd n)))
    (h2 : ∀ i, i < n → (evK P X G k N (seqL (preOf (flat c1))) ((hd i).st next) (grab P fn ts3 bs3 next3) = some (.cut (.exit b) (hs i)) ∧ evK P X G k N (seqL post3) ((hs i).st next3) (grab P fn ts bs next) = some (.cut .normal (hd (i + 1)))) ∨
      (evK P X G k N (seqL (preOf (flat c1))) ((hd i).st next) (grab P fn ts2 bs2 next2) = some (.cut .normal (hd2 i 0)) ∧
        (∀ j, j < m i → evK P X G k N (seqL (flat (roundOf (flat c1)))) ((hd2 i j).st next2) (grab P fn ts2 bs2 next2) = some (.cut .normal (hd2 i (j + 1)))) ∧
        evK P X G k N (seqL (flat (roundOf (flat c1)))) ((hd2 i (m i)).st next2) (grab P fn ts2 bs2 next2) = some (.cut (.exit (idOf (flat c1))) (hd2 i (m i))) ∧
        evK P X G k N (seqL post3) ((hd2 i (m i)).st next2) (grab P fn ts bs next) = some (.cut .normal (hd (i + 1)))))
    (hpost : Runs P I N fn v fs (postOf l) ((hd n).st next)) : Runs P I N fn v fs l st := by
  refine Runs.looped C hl n hpre0 ?_
  have loop : ∀ (j i : Nat), i + j = n → Runs P I N fn v (.loop (idOf l) (roundOf l) j :: .rest (postOf l) :: fs) (flat (roundOf l)) ((hd i).st next) := by
    intro j
    induction j with
    | zero =>
      intro i hi
      obtain rfl : i = n := by omega
      rw [hsplit]
      exact Runs.app (Runs.step C hout (RunsX.exit_rest (RunsX.out (RunsX.rest hpost))))
    | succ j ih =>
      intro i hi
      have hin' : i < n := by omega
      rw [hsplit]
      refine Runs.app (Runs.step C (hin i hin') (RunsX.rest (Runs.block ?_)))
      rcases h2 i hin' with ⟨q1, q2⟩ | ⟨q1, q2, q3, q4⟩
      · rw [split_loop (flat c1) hl2]
        exact Runs.app (Runs.step C q1 (RunsX.exit_rest (RunsX.blk_exit (RunsX.rest (Runs.step C q2 (RunsX.again (ih (i + 1) (by omega))))))))
      · have := Runs.seekFn (fs := .blk b :: .rest post3 :: .loop (idOf l) (roundOf l) (j + 1) :: .rest (postOf l) :: fs) (l := flat c1) C hl2 (n := m i) (p := fun _ => (none : Option Unit)) (f := fun _ => v) (z := ()) (hd := hd2 i) (c' := hd2 i (m i)) q1 (fun j hj => (q2 j hj).trans rfl) q3 (fun _ => by
          rw [hnil]
          exact Runs.nil (RunsX.blk_normal (RunsX.rest (Runs.step C q4 (RunsX.again (ih (i + 1) (by omega)))))))
        exact this
  exact loop n 0 (by omega)
end
end Go.Ev
namespace Go.Proofs.YtaojjpdlfnphiaaDoor.PDescKinds
open Go.RowKit Go.Ev
/-! invariant.Sealed, invariant.Frozen -/
set_option maxRecDepth 100000 in
theorem seal41 (M : Nat → Mo) (bx : Nat → XR) (q : SA) : letI := rowsB M bx
    evK Tryd.prog ext (tab2 BvL5 [(110, idxC M)]) 80 12 (seqL (bodyOf Tryd.f41)) ⟨argS [q.sv], fun _ => none, 0⟩ (grab Tryd.prog Tryd.f41 [] [] 0) =
    (bif !q.x then some (Res.ret (SV.val (Value.bool !decide (S.confAt ((M q.a).g q.b) ≥ 0)))) else some (Res.ret (SV.val (Value.bool false)))) := by kernel_rfl
set_option maxRecDepth 100000 in
theorem ent_sealed41 (M : Nat → Mo) (bx : Nat → XR) (hM : Fit M) : Ent M bx (41, noMem (onSh fun q => LB (S.sealedC (q.sh M)))) := by
  letI := rowsB M bx
  refine EntryS.of (fun args t v h1 h2 => ?_) (inv_stable M bx)
  obtain ⟨q, rfl, rfl⟩ := onSh_eq h1
  cases h2
  have C := ctxB M bx Bvents5 (entsS_cons (ent_idxC M bx hM) entsS_nil)
  have run : Runs Tryd.prog (Inv M bx) 12 Tryd.f41 (.val (.bool (S.sealedC (q.sh M)))) [] (bodyOf Tryd.f41) ⟨argS [q.sv], fun _ => none, 0⟩ := by
    refine Runs.ret C ((seal41 M bx q).trans ?_)
    have e : S.confAt (q.sh M) = S.confAt ((M q.a).g q.b) := rfl
    unfold S.sealedC
    rw [e]
    show _ = some (Res.ret (SV.val (Value.bool (!q.x && !decide (S.confAt ((M q.a).g q.b) ≥ 0)))))
    cases q.x <;> rfl
  refine ⟨ok_val _ _, ?_, fun w m hI => Runs.calls (body := Tryd.f41.body.getD .skip) Tryd.func41 (by kernel_rfl) (by kernel_rfl) ?_ run w hI m⟩ <;>
  · intro x hx
    simp only [List.mem_cons, List.not_mem_nil, or_false] at hx
    rcases hx with rfl; exact ok_sa _ _
set_option maxRecDepth 100000 in
theorem froz43 (M : Nat → Mo) (bx : Nat → XR) (q : SA) : letI := rowsB M bx
    evK Tryd.prog ext (tab2 BvL5 [(110, idxC M), (41, noMem (onSh fun q => LB (S.sealedC (q.sh M))))]) 80 11 (seqL (bodyOf Tryd.f43)) ⟨argS [q.sv], fun _ => none, 0⟩ (grab Tryd.prog Tryd.f43 [] [] 0) =
    (bif S.sealedC (SA.sh M (SA.mk q.cl q.p q.x q.a q.b)) then some (Res.ret (SV.val (Value.bool !decide (S.thawAt ((M q.a).g q.b) ≥ 0)))) else some (Res.ret (SV.val (Value.bool false)))) := by kernel_rfl
set_option maxRecDepth 100000 in
theorem ent_frozen43 (M : Nat → Mo) (bx : Nat → XR) (hM : Fit M) : Ent M bx (43, noMem (onSh fun q => LB (S.frozenC (q.sh M)))) := by
  letI := rowsB M bx
  refine EntryS.of (fun args t v h1 h2 => ?_) (inv_stable M bx)
  obtain ⟨q, rfl, rfl⟩ := onSh_eq h1
  cases h2
  have C := ctxB M bx Bvents5 (entsS_cons (ent_idxC M bx hM) (entsS_cons (ent_sealed41 M bx hM) entsS_nil))
  have run : Runs Tryd.prog (Inv M bx) 11 Tryd.f43 (.val (.bool (S.frozenC (q.sh M)))) [] (bodyOf Tryd.f43) ⟨argS [q.sv], fun _ => none, 0⟩ := by
    refine Runs.ret C ((froz43 M bx q).trans ?_)
    have e : S.thawAt (q.sh M) = S.thawAt ((M q.a).g q.b) := rfl
    show _ = some (Res.ret (SV.val (Value.bool (S.sealedC (q.sh M) && !decide (S.thawAt (q.sh M) ≥ 0)))))
    rw [e]
    have ea : SA.sh M (SA.mk q.cl q.p q.x q.a q.b) = q.sh M := rfl
    simp only [ea]
    cases S.sealedC (q.sh M) <;> rfl
  refine ⟨ok_val _ _, ?_, fun w m hI => Runs.calls (body := Tryd.f43.body.getD .skip) Tryd.func43 (by kernel_rfl) (by kernel_rfl) ?_ run w hI m⟩ <;>
  · intro x hx
    simp only [List.mem_cons, List.not_mem_nil, or_false] at hx
    rcases hx with rfl; exact ok_sa _ _
end Go.Proofs.YtaojjpdlfnphiaaDoor.PDescKinds
end
section
/- InvariantFrozen: the law runs; what is left is plain. -/
set_option linter.unusedSimpArgs false
set_option linter.unusedVariables false
set_option linter.unusedSectionVars false
namespace Go.Proofs.YtaojjpdlfnphiaaDoor.PDescKinds
open Go.RowKit Go.Ev
namespace Frz
abbrev LF (M : Nat → Mo) : GFn := tab2 BvL5 [(45, noMem (onNone (LB true))), (35, noMem (onM fun a => LB (S.few (M a)))), (37, noMem (onMM fun a b => LII (S.brokenO (M a) (M b)))), (46, noMem (onM fun a => LB (R.plain (M a)))), (48, noMem (onPK fun a b k => LI (S.find ((M a).g b) k))), (41, noMem (onSh fun q => LB (S.sealedC (q.sh M)))), (43, noMem (onSh fun q => LB (S.frozenC (q.sh M))))]
set_option maxRecDepth 100000 in
theorem fz_pre (M : Nat → Mo) (bx : Nat → XR) (o r : Int) (i j : Nat) : letI := rowsB M bx
    evK Tryd.prog ext (LF M) 80 142 (seqL (preOf (bodyOf Tryd.f10))) (⟨argS [.xs [0], .xs [1]], fun _ => none, 0⟩) (grab Tryd.prog Tryd.f10 [0, 1, 5, 7] [] 0) =
    (bif !S.few (M 0) then some (Res.ret (SV.val (Value.bool true))) else 
     (bif !S.few (M 1) then some (Res.ret (SV.val (Value.bool true))) else 
      (bif !R.plain (M 0) then some (Res.ret (SV.val (Value.bool true))) else 
       (bif !R.plain (M 1) then some (Res.ret (SV.val (Value.bool true))) else some (Res.cut Ex.normal (Cut.mk [(0, SV.xs [0]), (1, SV.xs [1]), (5, SV.val (Value.int IntKind.i64 (S.brokenO (M 0) (M 1)).fst)), (7, SV.val (Value.int IntKind.i64 0))] [])))))) := by kernel_rfl
set_option maxRecDepth 100000 in
theorem fz_in (M : Nat → Mo) (bx : Nat → XR) (o r : Int) (i j : Nat) : letI := rowsB M bx
    evK Tryd.prog ext (LF M) 80 142 (seqL ((flat (roundOf (bodyOf Tryd.f10))).take 2)) ((⟨[(0, .xs [0]), (1, .xs [1]), (5, .val (.int .i64 o)), (7, .val (.int .i64 (i : Int)))], []⟩ : Cut).st 0) (grab Tryd.prog Tryd.f10 [0, 1, 5, 7] [] 0) =
    (bif decide ((↑i : Int) < (↑(M 0).n : Int)) then some (Res.cut Ex.normal (Cut.mk [(0, SV.xs [0]), (1, SV.xs [1]), (5, SV.val (Value.int IntKind.i64 o)), (7, SV.val (Value.int IntKind.i64 (↑i : Int)))] [])) else some (Res.cut (Ex.exit 0) (Cut.mk [(0, SV.xs [0]), (1, SV.xs [1]), (5, SV.val (Value.int IntKind.i64 o)), (7, SV.val (Value.int IntKind.i64 (↑i : Int)))] []))) := by kernel_rfl
set_option maxRecDepth 100000 in
theorem fz_pre2 (M : Nat → Mo) (bx : Nat → XR) (o r : Int) (i j : Nat) : letI := rowsB M bx
    evK Tryd.prog ext (LF M) 80 142 (seqL (preOf (flat (inB ((flat (roundOf (bodyOf Tryd.f10))).getD 2 .skip))))) ((⟨[(0, .xs [0]), (1, .xs [1]), (5, .val (.int .i64 o)), (7, .val (.int .i64 (i : Int)))], []⟩ : Cut).st 0) (grab Tryd.prog Tryd.f10 [0, 1, 5, 7, 8, 9, 10] [0, 1] 2) =
    (bif decide (0 ≤ (↑i : Int)) && decide ((↑i : Int) < (↑(M 0).n : Int)) then 
     (bif S.frozenC ((M 0).g i) then 
      (bif !S.sealedC ((M 0).g i) then some (Res.ret (SV.val (Value.bool false))) else 
       (bif o != 0 then none else 
        (bif !S.sealedC ((M 0).g i) then none else 
         (bif decide (0 ≤ (↑i : Int)) && decide ((↑i : Int) < (↑(M 1).n : Int)) then 
          (bif !S.sealedC ((M 1).g i) then some (Res.ret (SV.val (Value.bool false))) else 
           (bif S.frozenC ((M 0).g i) then 
            (bif !S.frozenC ((M 1).g i) then some (Res.ret (SV.val (Value.bool false))) else 
             (bif (↑((M 1).g i).n : Int) != (↑((M 0).g i).n : Int) then some (Res.ret (SV.val (Value.bool false))) else 
              (bif !R.eqR ((M 1).g i).p ((M 0).g i).p then some (Res.ret (SV.val (Value.bool false))) else some (Res.cut Ex.normal (Cut.mk [(0, SV.xs [0]), (1, SV.xs [1]), (5, SV.val (Value.int IntKind.i64 o)), (7, SV.val (Value.int IntKind.i64 (↑i : Int))), (8, SV.ptr 0 0), (9, SV.ptr 1 0), (10, SV.val (Value.int IntKind.i64 0))] [(0, Blk.mk 60 (shCells ((M 0).g i).cl ((M 0).g i).p ((M 0).g i).x [0, i])), (1, Blk.mk 60 (shCells ((M 1).g i).cl ((M 1).g i).p ((M 1).g i).x [1, i]))]))))) else 
            (bif (↑((M 1).g i).n : Int) != (↑((M 0).g i).n : Int) then some (Res.ret (SV.val (Value.bool false))) else 
             (bif !R.eqR ((M 1).g i).p ((M 0).g i).p then some (Res.ret (SV.val (Value.bool false))) else some (Res.cut Ex.normal (Cut.mk [(0, SV.xs [0]), (1, SV.xs [1]), (5, SV.val (Value.int IntKind.i64 o)), (7, SV.val (Value.int IntKind.i64 (↑i : Int))), (8, SV.ptr 0 0), (9, SV.ptr 1 0), (10, SV.val (Value.int IntKind.i64 0))] [(0, Blk.mk 60 (shCells ((M 0).g i).cl ((M 0).g i).p ((M 0).g i).x [0, i])), (1, Blk.mk 60 (shCells ((M 1).g i).cl ((M 1).g i).p ((M 1).g i).x [1, i]))])))))) else none)))) else 
      (bif o != 0 then none else 
       (bif !S.sealedC ((M 0).g i) then none else 
        (bif decide (0 ≤ (↑i : Int)) && decide ((↑i : Int) < (↑(M 1).n : Int)) then 
         (bif !S.sealedC ((M 1).g i) then some (Res.ret (SV.val (Value.bool false))) else 
          (bif S.frozenC ((M 0).g i) then 
           (bif !S.frozenC ((M 1).g i) then some (Res.ret (SV.val (Value.bool false))) else 
            (bif (↑((M 1).g i).n : Int) != (↑((M 0).g i).n : Int) then some (Res.ret (SV.val (Value.bool false))) else 
             (bif !R.eqR ((M 1).g i).p ((M 0).g i).p then some (Res.ret (SV.val (Value.bool false))) else some (Res.cut Ex.normal (Cut.mk [(0, SV.xs [0]), (1, SV.xs [1]), (5, SV.val (Value.int IntKind.i64 o)), (7, SV.val (Value.int IntKind.i64 (↑i : Int))), (8, SV.ptr 0 0), (9, SV.ptr 1 0), (10, SV.val (Value.int IntKind.i64 0))] [(0, Blk.mk 60 (shCells ((M 0).g i).cl ((M 0).g i).p ((M 0).g i).x [0, i])), (1, Blk.mk 60 (shCells ((M 1).g i).cl ((M 1).g i).p ((M 1).g i).x [1, i]))]))))) else 
           (bif (↑((M 1).g i).n : Int) != (↑((M 0).g i).n : Int) then some (Res.ret (SV.val (Value.bool false))) else 
            (bif !R.eqR ((M 1).g i).p ((M 0).g i).p then some (Res.ret (SV.val (Value.bool false))) else some (Res.cut Ex.normal (Cut.mk [(0, SV.xs [0]), (1, SV.xs [1]), (5, SV.val (Value.int IntKind.i64 o)), (7, SV.val (Value.int IntKind.i64 (↑i : Int))), (8, SV.ptr 0 0), (9, SV.ptr 1 0), (10, SV.val (Value.int IntKind.i64 0))] [(0, Blk.mk 60 (shCells ((M 0).g i).cl ((M 0).g i).p ((M 0).g i).x [0, i])), (1, Blk.mk 60 (shCells ((M 1).g i).cl ((M 1).g i).p ((M 1).g i).x [1, i]))])))))) else none)))) else none) := by kernel_rfl
set_option maxRecDepth 100000 in
theorem fz_skip (M : Nat → Mo) (bx : Nat → XR) (o r : Int) (i j : Nat) : letI := rowsB M bx
    evK Tryd.prog ext (LF M) 80 142 (seqL (preOf (flat (inB ((flat (roundOf (bodyOf Tryd.f10))).getD 2 .skip))))) ((⟨[(0, .xs [0]), (1, .xs [1]), (5, .val (.int .i64 o)), (7, .val (.int .i64 (i : Int)))], []⟩ : Cut).st 0) (grab Tryd.prog Tryd.f10 [0, 1, 5, 7] [] 0) =
    (bif decide (0 ≤ (↑i : Int)) && decide ((↑i : Int) < (↑(M 0).n : Int)) then 
     (bif S.frozenC ((M 0).g i) then 
      (bif !S.sealedC ((M 0).g i) then some (Res.ret (SV.val (Value.bool false))) else 
       (bif o != 0 then some (Res.cut (Ex.exit 1) (Cut.mk [(0, SV.xs [0]), (1, SV.xs [1]), (5, SV.val (Value.int IntKind.i64 o)), (7, SV.val (Value.int IntKind.i64 (↑i : Int)))] [])) else 
        (bif !S.sealedC ((M 0).g i) then some (Res.cut (Ex.exit 1) (Cut.mk [(0, SV.xs [0]), (1, SV.xs [1]), (5, SV.val (Value.int IntKind.i64 o)), (7, SV.val (Value.int IntKind.i64 (↑i : Int)))] [])) else 
         (bif decide (0 ≤ (↑i : Int)) && decide ((↑i : Int) < (↑(M 1).n : Int)) then 
          (bif !S.sealedC ((M 1).g i) then some (Res.ret (SV.val (Value.bool false))) else 
           (bif S.frozenC ((M 0).g i) then 
            (bif !S.frozenC ((M 1).g i) then some (Res.ret (SV.val (Value.bool false))) else 
             (bif (↑((M 1).g i).n : Int) != (↑((M 0).g i).n : Int) then some (Res.ret (SV.val (Value.bool false))) else 
              (bif !R.eqR ((M 1).g i).p ((M 0).g i).p then some (Res.ret (SV.val (Value.bool false))) else some (Res.cut Ex.normal (Cut.mk [(0, SV.xs [0]), (1, SV.xs [1]), (5, SV.val (Value.int IntKind.i64 o)), (7, SV.val (Value.int IntKind.i64 (↑i : Int)))] []))))) else 
            (bif (↑((M 1).g i).n : Int) != (↑((M 0).g i).n : Int) then some (Res.ret (SV.val (Value.bool false))) else 
             (bif !R.eqR ((M 1).g i).p ((M 0).g i).p then some (Res.ret (SV.val (Value.bool false))) else some (Res.cut Ex.normal (Cut.mk [(0, SV.xs [0]), (1, SV.xs [1]), (5, SV.val (Value.int IntKind.i64 o)), (7, SV.val (Value.int IntKind.i64 (↑i : Int)))] [])))))) else none)))) else 
      (bif o != 0 then some (Res.cut (Ex.exit 1) (Cut.mk [(0, SV.xs [0]), (1, SV.xs [1]), (5, SV.val (Value.int IntKind.i64 o)), (7, SV.val (Value.int IntKind.i64 (↑i : Int)))] [])) else 
       (bif !S.sealedC ((M 0).g i) then some (Res.cut (Ex.exit 1) (Cut.mk [(0, SV.xs [0]), (1, SV.xs [1]), (5, SV.val (Value.int IntKind.i64 o)), (7, SV.val (Value.int IntKind.i64 (↑i : Int)))] [])) else 
        (bif decide (0 ≤ (↑i : Int)) && decide ((↑i : Int) < (↑(M 1).n : Int)) then 
         (bif !S.sealedC ((M 1).g i) then some (Res.ret (SV.val (Value.bool false))) else 
          (bif S.frozenC ((M 0).g i) then 
           (bif !S.frozenC ((M 1).g i) then some (Res.ret (SV.val (Value.bool false))) else 
            (bif (↑((M 1).g i).n : Int) != (↑((M 0).g i).n : Int) then some (Res.ret (SV.val (Value.bool false))) else 
             (bif !R.eqR ((M 1).g i).p ((M 0).g i).p then some (Res.ret (SV.val (Value.bool false))) else some (Res.cut Ex.normal (Cut.mk [(0, SV.xs [0]), (1, SV.xs [1]), (5, SV.val (Value.int IntKind.i64 o)), (7, SV.val (Value.int IntKind.i64 (↑i : Int)))] []))))) else 
           (bif (↑((M 1).g i).n : Int) != (↑((M 0).g i).n : Int) then some (Res.ret (SV.val (Value.bool false))) else 
            (bif !R.eqR ((M 1).g i).p ((M 0).g i).p then some (Res.ret (SV.val (Value.bool false))) else some (Res.cut Ex.normal (Cut.mk [(0, SV.xs [0]), (1, SV.xs [1]), (5, SV.val (Value.int IntKind.i64 o)), (7, SV.val (Value.int IntKind.i64 (↑i : Int)))] [])))))) else none)))) else none) := by kernel_rfl
set_option maxRecDepth 100000 in
theorem fz_round (M : Nat → Mo) (bx : Nat → XR) (o r : Int) (i j : Nat) : letI := rowsB M bx
    evK Tryd.prog ext (LF M) 80 142 (seqL (flat (roundOf (flat (inB ((flat (roundOf (bodyOf Tryd.f10))).getD 2 .skip)))))) ((⟨[(0, .xs [0]), (1, .xs [1]), (5, .val (.int .i64 o)), (7, .val (.int .i64 (i : Int))), (8, .ptr 0 0), (9, .ptr 1 0), (10, .val (.int .i64 (j : Int)))], [(0, ⟨60, shCells ((M 0).g i).cl ((M 0).g i).p ((M 0).g i).x [0, i]⟩), (1, ⟨60, shCells ((M 1).g i).cl ((M 1).g i).p ((M 1).g i).x [1, i]⟩)]⟩ : Cut).st 2) (grab Tryd.prog Tryd.f10 [0, 1, 5, 7, 8, 9, 10] [0, 1] 2) =
    (bif decide ((↑j : Int) < (↑((M 0).g i).n : Int)) then 
     (bif decide (0 ≤ (↑j : Int)) && decide ((↑j : Int) < (↑((M 0).g i).n : Int)) then 
      (bif decide (S.find ((M 1).g i) ((((M 0).g i).g j).k) < 0) then some (Res.ret (SV.val (Value.bool false))) else 
       (bif decide (0 ≤ S.find ((M 1).g i) ((((M 0).g i).g j).k)) && decide (S.find ((M 1).g i) ((((M 0).g i).g j).k) < (↑((M 1).g i).n : Int)) then 
        (bif decide (0 ≤ (↑j : Int)) && decide ((↑j : Int) < (↑((M 0).g i).n : Int)) then 
         (bif S.check (((M 1).g i).g (S.find ((M 1).g i) ((((M 0).g i).g j).k)).toNat).d && S.check (((M 0).g i).g j).d then 
          (bif S.frozenC ((M 0).g i) then 
           (bif !S.equal (((M 1).g i).g (S.find ((M 1).g i) ((((M 0).g i).g j).k)).toNat).d (((M 0).g i).g j).d then some (Res.ret (SV.val (Value.bool false))) else some (Res.cut Ex.normal (Cut.mk [(0, SV.xs [0]), (1, SV.xs [1]), (5, SV.val (Value.int IntKind.i64 o)), (7, SV.val (Value.int IntKind.i64 (↑i : Int))), (8, SV.ptr 0 0), (9, SV.ptr 1 0), (10, SV.val (Value.int IntKind.i64 (IntKind.i64.wrap ((↑j : Int) + 1))))] [(0, Blk.mk 60 (shCells ((M 0).g i).cl ((M 0).g i).p ((M 0).g i).x [0, i])), (1, Blk.mk 60 (shCells ((M 1).g i).cl ((M 1).g i).p ((M 1).g i).x [1, i]))]))) else some (Res.cut Ex.normal (Cut.mk [(0, SV.xs [0]), (1, SV.xs [1]), (5, SV.val (Value.int IntKind.i64 o)), (7, SV.val (Value.int IntKind.i64 (↑i : Int))), (8, SV.ptr 0 0), (9, SV.ptr 1 0), (10, SV.val (Value.int IntKind.i64 (IntKind.i64.wrap ((↑j : Int) + 1))))] [(0, Blk.mk 60 (shCells ((M 0).g i).cl ((M 0).g i).p ((M 0).g i).x [0, i])), (1, Blk.mk 60 (shCells ((M 1).g i).cl ((M 1).g i).p ((M 1).g i).x [1, i]))]))) else 
          (bif S.frozenC ((M 0).g i) then some (Res.ret (SV.val (Value.bool false))) else some (Res.cut Ex.normal (Cut.mk [(0, SV.xs [0]), (1, SV.xs [1]), (5, SV.val (Value.int IntKind.i64 o)), (7, SV.val (Value.int IntKind.i64 (↑i : Int))), (8, SV.ptr 0 0), (9, SV.ptr 1 0), (10, SV.val (Value.int IntKind.i64 (IntKind.i64.wrap ((↑j : Int) + 1))))] [(0, Blk.mk 60 (shCells ((M 0).g i).cl ((M 0).g i).p ((M 0).g i).x [0, i])), (1, Blk.mk 60 (shCells ((M 1).g i).cl ((M 1).g i).p ((M 1).g i).x [1, i]))])))) else none) else none)) else none) else some (Res.cut (Ex.exit 2) (Cut.mk [(0, SV.xs [0]), (1, SV.xs [1]), (5, SV.val (Value.int IntKind.i64 o)), (7, SV.val (Value.int IntKind.i64 (↑i : Int))), (8, SV.ptr 0 0), (9, SV.ptr 1 0), (10, SV.val (Value.int IntKind.i64 (↑j : Int)))] [(0, Blk.mk 60 (shCells ((M 0).g i).cl ((M 0).g i).p ((M 0).g i).x [0, i])), (1, Blk.mk 60 (shCells ((M 1).g i).cl ((M 1).g i).p ((M 1).g i).x [1, i]))]))) := by kernel_rfl
set_option maxRecDepth 100000 in
theorem fz_p3 (M : Nat → Mo) (bx : Nat → XR) (o r : Int) (i j : Nat) : letI := rowsB M bx
    evK Tryd.prog ext (LF M) 80 142 (seqL ((flat (roundOf (bodyOf Tryd.f10))).drop 3)) ((⟨[(0, .xs [0]), (1, .xs [1]), (5, .val (.int .i64 o)), (7, .val (.int .i64 (i : Int))), (8, .ptr 0 0), (9, .ptr 1 0), (10, .val (.int .i64 (j : Int)))], [(0, ⟨60, shCells ((M 0).g i).cl ((M 0).g i).p ((M 0).g i).x [0, i]⟩), (1, ⟨60, shCells ((M 1).g i).cl ((M 1).g i).p ((M 1).g i).x [1, i]⟩)]⟩ : Cut).st 2) (grab Tryd.prog Tryd.f10 [0, 1, 5, 7] [] 0) =
    some (Res.cut Ex.normal (Cut.mk [(0, SV.xs [0]), (1, SV.xs [1]), (5, SV.val (Value.int IntKind.i64 o)), (7, SV.val (Value.int IntKind.i64 (IntKind.i64.wrap ((↑i : Int) + 1))))] [])) := by kernel_rfl
set_option maxRecDepth 100000 in
theorem fz_p3s (M : Nat → Mo) (bx : Nat → XR) (o r : Int) (i j : Nat) : letI := rowsB M bx
    evK Tryd.prog ext (LF M) 80 142 (seqL ((flat (roundOf (bodyOf Tryd.f10))).drop 3)) ((⟨[(0, .xs [0]), (1, .xs [1]), (5, .val (.int .i64 o)), (7, .val (.int .i64 (i : Int)))], []⟩ : Cut).st 0) (grab Tryd.prog Tryd.f10 [0, 1, 5, 7] [] 0) =
    some (Res.cut Ex.normal (Cut.mk [(0, SV.xs [0]), (1, SV.xs [1]), (5, SV.val (Value.int IntKind.i64 o)), (7, SV.val (Value.int IntKind.i64 (IntKind.i64.wrap ((↑i : Int) + 1))))] [])) := by kernel_rfl
set_option maxRecDepth 100000 in
theorem fz_post (M : Nat → Mo) (bx : Nat → XR) (o r : Int) (i j : Nat) : letI := rowsB M bx
    evK Tryd.prog ext (LF M) 80 142 (seqL (postOf (bodyOf Tryd.f10))) ((⟨[(0, .xs [0]), (1, .xs [1]), (5, .val (.int .i64 o)), (7, .val (.int .i64 (i : Int)))], []⟩ : Cut).st 0) (grab Tryd.prog Tryd.f10 [0, 1, 5, 7] [] 0) =
    some (Res.ret (SV.val (Value.bool true))) := by kernel_rfl
/-- What the plain law must give of two shapes. -/
structure Site (b a : Sh) : Prop where
  sealed : S.sealedC a = true
  frozen : S.frozenC b = true → S.frozenC a = true
  n : a.n = b.n
  proto : R.eqR a.p b.p = true
  key : ∀ j, j < b.n → ∃ q : Nat, q < a.n ∧ S.find a (b.g j).k = (q : Int) ∧ S.check (a.g q).d = true ∧ S.check (b.g j).d = true ∧ (S.frozenC b = true → S.equal (a.g q).d (b.g j).d = true)
def Plain (b a : Mo) : Prop := R.plain b = true → R.plain a = true → (S.brokenO b a).1 = 0 → ∀ i, i < b.n → S.sealedC (b.g i) = true → i < a.n ∧ Site (b.g i) (a.g i)
theorem froz_seal {s : Sh} (h : S.sealedC s = false) : S.frozenC s = false := by unfold S.frozenC; rw [h]; rfl
set_option maxRecDepth 100000 in
theorem run (M : Nat → Mo) (bx : Nat → XR) (hM : Fit M) (hp : Plain (M 0) (M 1)) : letI := rowsB M bx
    Runs Tryd.prog (Inv M bx) 142 Tryd.f10 (.val (.bool true)) [] (bodyOf Tryd.f10) ⟨argS [.xs [0], .xs [1]], fun _ => none, 0⟩ := by
  letI := rowsB M bx
  have C : Ctx Tryd.prog ext (LF M) (Inv M bx) := ctxB M bx Bvents5 (entsS_cons (ent_works45 M bx) (entsS_cons (ent_few35 M bx hM) (entsS_cons (ent_broken37 M bx hM) (entsS_cons (ent_pl46 M bx hM) (entsS_cons (ent_find48 M bx hM) (entsS_cons (ent_sealed41 M bx hM) (entsS_cons (ent_frozen43 M bx hM) entsS_nil)))))))
  have hpre := fz_pre M bx 0 0 0 0
  have early : ∀ (h : ∀ v, some (Res.ret (.val (.bool true))) = v → evK Tryd.prog ext (LF M) 80 142 (seqL (preOf (bodyOf Tryd.f10))) ⟨argS [.xs [0], .xs [1]], fun _ => none, 0⟩ (grab Tryd.prog Tryd.f10 [0, 1, 5, 7] [] 0) = v), Runs Tryd.prog (Inv M bx) 142 Tryd.f10 (.val (.bool true)) [] (bodyOf Tryd.f10) ⟨argS [.xs [0], .xs [1]], fun _ => none, 0⟩ := fun h => retPre C (by kernel_rfl) (h _ rfl)
  cases f0 : S.few (M 0)
  · rw [f0] at hpre; exact early fun v e => e ▸ hpre
  cases f1 : S.few (M 1)
  · rw [f0, f1] at hpre; exact early fun v e => e ▸ hpre
  cases p0 : R.plain (M 0)
  · rw [f0, f1, p0] at hpre; exact early fun v e => e ▸ hpre
  cases p1 : R.plain (M 1)
  · rw [f0, f1, p0, p1] at hpre; exact early fun v e => e ▸ hpre
  rw [f0, f1, p0, p1] at hpre
  clear early
  have hp := hp p0 p1
  generalize (S.brokenO (M 0) (M 1)).fst = o at hp hpre
  refine Runs.nestAll (ts2 := [0, 1, 5, 7, 8, 9, 10]) (bs2 := [0, 1]) (next2 := 2) (ts3 := [0, 1, 5, 7]) (bs3 := []) (next3 := 0) C (by kernel_rfl) (n := (M 0).n) (m := fun i => ((M 0).g i).n) (v := .val (.bool true)) (hd := fun i => (⟨[(0, .xs [0]), (1, .xs [1]), (5, .val (.int .i64 o)), (7, .val (.int .i64 (i : Int)))], []⟩ : Cut)) (hs := fun i => (⟨[(0, .xs [0]), (1, .xs [1]), (5, .val (.int .i64 o)), (7, .val (.int .i64 (i : Int)))], []⟩ : Cut)) (hd2 := fun i j => (⟨[(0, .xs [0]), (1, .xs [1]), (5, .val (.int .i64 o)), (7, .val (.int .i64 (i : Int))), (8, .ptr 0 0), (9, .ptr 1 0), (10, .val (.int .i64 (j : Int)))], [(0, ⟨60, shCells ((M 0).g i).cl ((M 0).g i).p ((M 0).g i).x [0, i]⟩), (1, ⟨60, shCells ((M 1).g i).cl ((M 1).g i).p ((M 1).g i).x [1, i]⟩)]⟩ : Cut))
    (b := 1) (c1 := inB ((flat (roundOf (bodyOf Tryd.f10))).getD 2 .skip)) (pre := (flat (roundOf (bodyOf Tryd.f10))).take 2) (post3 := (flat (roundOf (bodyOf Tryd.f10))).drop 3) (by kernel_rfl) (by kernel_rfl) (by kernel_rfl) hpre (fun i hi => ?_) ?_ (fun i hi => ?_) (Runs.ret C (fz_post M bx o 0 (M 0).n 0))
  · refine (fz_in M bx o 0 i 0).trans ?_
    rw [dlt hi]
    rfl
  · refine (fz_in M bx o 0 (M 0).n 0).trans ?_
    rw [dnl]
    rfl
  · by_cases h : S.sealedC ((M 0).g i) = false ∨ o ≠ 0
    · refine Or.inl ⟨(fz_skip M bx o 0 i 0).trans (by
        simp only [dlt hi, dge, Bool.and_self, cond_true]
        cases hs : S.sealedC ((M 0).g i)
        · rw [froz_seal hs]
          cases o != 0 <;> rfl
        · have ho : (o != 0) = true := by
            rcases h with h | h
            · rw [hs] at h; cases h
            · simpa using h
          rw [ho]
          cases S.frozenC ((M 0).g i) <;> rfl), (fz_p3s M bx o 0 i 0).trans (by rw [wr hi (hM 0).1])⟩
    have ho : o = 0 := by
      by_cases ho : o = 0
      · exact ho
      · exact absurd (Or.inr ho) h
    have hs : S.sealedC ((M 0).g i) = true := by
      cases hs : S.sealedC ((M 0).g i)
      · exact absurd (Or.inl hs) h
      · rfl
    clear h
    subst ho
    obtain ⟨ha, st⟩ := hp rfl i hi hs
    refine Or.inr ⟨(fz_pre2 M bx 0 0 i 0).trans ?_, fun j hj => (fz_round M bx 0 0 i j).trans ?_, (fz_round M bx 0 0 i ((M 0).g i).n).trans ?_, (fz_p3 M bx 0 0 i ((M 0).g i).n).trans (by rw [wr hi (hM 0).1])⟩
    · have en : ((((M 1).g i).n : Int) != (((M 0).g i).n : Int)) = false := by rw [st.n]; simp
      simp only [dlt hi, dlt ha, dge, Bool.and_self, cond_true, hs, st.sealed, en, st.proto, Bool.not_true, cond_false, bne_self_eq_false]
      cases hf : S.frozenC ((M 0).g i)
      · rfl
      · rw [st.frozen hf]; rfl
    · obtain ⟨q, q1, q2, q3, q4, q5⟩ := st.key j hj
      have d1 : decide ((q : Int) < 0) = false := decide_eq_false (by omega)
      simp only [dlt hj, dge, Bool.and_self, cond_true, q2, d1, dlt q1, cond_false, Int.toNat_natCast, q3, q4, wr hj ((hM 0).2 i)]
      cases hf : S.frozenC ((M 0).g i)
      · rfl
      · rw [q5 hf]; rfl
    · simp only [dnl, cond_false]
      rfl
set_option maxRecDepth 100000 in
theorem calls {m0 m1 : Mo} {w : World} (ht : Tabs w) (h0 : RawMo w m0) (h1 : RawMo w m1) (s0 : Small m0) (s1 : Small m1) (hp : Plain m0 m1) :
    Calls Tryd.prog 10 #[.slice m0.A m0.n m0.c, .slice m1.A m1.n m1.c] w (fun e w' => e = .returned (.bool true) ∧ Below w.heap.size w w') := by
  have hI : Inv (moments m0 m1 Mo0 Mo0) noBox w := ⟨ht, xok_raw (raw_moments h0 h1 (raw0 w) (raw0 w))⟩
  have hM := fit_moments s0 s1 small0 small0
  letI := rowsB (moments m0 m1 Mo0 Mo0) noBox
  have := Runs.calls (body := Tryd.f10.body.getD .skip) Tryd.func10 (by kernel_rfl) (by kernel_rfl) (fun x hx => by
    simp only [List.mem_cons, List.not_mem_nil, or_false] at hx
    rcases hx with rfl | rfl <;> exact ok_xs) (run (moments m0 m1 Mo0 Mo0) noBox hM hp) w hI (fun _ => 0)
  have ea : ([SV.xs [0], SV.xs [1]].map (SV.den (fun _ => 0))).toArray = #[.slice m0.A m0.n m0.c, .slice m1.A m1.n m1.c] := by
    simp only [List.map, den_xs]
    rfl
  rw [ea] at this
  refine Calls.mono this fun e w' ⟨⟨m, he⟩, hb⟩ => ?_
  rw [den_val] at he
  exact ⟨he, hb⟩
end Frz
end Go.Proofs.YtaojjpdlfnphiaaDoor.PDescKinds
end
section
/- Plain laws: what is frozen stays. -/
set_option linter.unusedSimpArgs false
set_option linter.unusedVariables false
set_option linter.unusedSectionVars false
namespace Go.Proofs.YtaojjpdlfnphiaaDoor.PDescKinds.S
open Ieee FloatEq
theorem cmp_symm (x y : Int) : (compare x y == Ordering.eq) = (compare y x == Ordering.eq) := by
  rw [compare_eq_int, compare_eq_int]
  exact decide_eq_decide.2 eq_comm
theorem order_symm (x y : Datum) : (Datum.order x y == some Ordering.eq) = (Datum.order y x == some Ordering.eq) := by
  cases x <;> cases y <;> simp only [Datum.order]
  case number.number s m i t n j =>
    rw [Int.min_comm j i]
    exact cmp_symm _ _
  case number.infinity => split <;> rfl
  case infinity.number => split <;> rfl
  case infinity.infinity s t => cases s <;> cases t <;> rfl
theorem feq_symm (a b : Nat) : feq a b = feq b a := order_symm _ _
theorem numSame_symm (a b : Nat) : numSame a b = numSame b a := by
  unfold numSame
  rw [feq_symm a b, Bool.or_comm, Bool.and_comm (nan a), Bool.beq_comm (a := neg a)]
theorem same_symm (a b : V) : same a b = same b a := by
  unfold same
  have h1 : (a.k == b.k) = (b.k == a.k) := BEq.comm
  have h2 : (a.b == b.b) = (b.b == a.b) := BEq.comm
  have h3 : (a.s.toList == b.s.toList) = (b.s.toList == a.s.toList) := BEq.comm
  have h4 : (a.id == b.id) = (b.id == a.id) := BEq.comm
  rw [numSame_symm a.n b.n, Bool.and_comm (a.k == 4), h1, h2, h3, h4]
theorem alike_symm (a b : V) : alike a b = alike b a := by
  unfold alike
  rw [same_symm a b, Bool.and_comm (there a), Bool.and_comm (good a), Bool.beq_comm (a := there a)]
end Go.Proofs.YtaojjpdlfnphiaaDoor.PDescKinds.S
end
section
/- Plain laws: what never changes, over any steps. -/
set_option linter.unusedSimpArgs false
set_option linter.unusedVariables false
set_option linter.unusedSectionVars false
namespace Go.Proofs.YtaojjpdlfnphiaaDoor.PDescKinds.S
open Ieee FloatEq
theorem isA_whole {a : D} (h : whole a = true) : isA a = !hasD a := by
  have hc := check_whole h
  unfold isA
  rw [hc]
  rw [whole_eq] at h
  simp only [Bool.and_eq_true] at h
  have := h.2.1
  revert this
  unfold hasD hasA
  cases there a.v <;> cases a.w != 0 <;> cases there a.g <;> cases there a.t <;> simp
end Go.Proofs.YtaojjpdlfnphiaaDoor.PDescKinds.S
end
section
/- InvariantGoes, plain: Broken of two moments is transitive. -/
set_option linter.unusedSimpArgs false
set_option linter.unusedVariables false
set_option linter.unusedSectionVars false
namespace Go.Proofs.YtaojjpdlfnphiaaDoor.PDescKinds
open Go.RowKit Go.Ev FloatEq
/-! Two loops, one within the other -/
/-- All that is found is x, and x is not what comes out: nothing was found, and z comes out. -/
theorem nest_none {α : Type} {p : Nat → Nat → Option α} {m : Nat → Nat} {z x : α} (hx : ∀ i j v, p i j = some v → v = x) : ∀ (k i : Nat), nest p m z k i ≠ x → (∀ i' j, i ≤ i' → i' < i + k → j < m i' → p i' j = none) ∧ z ≠ x
  | 0, i, h => ⟨fun i' j h1 h2 => by omega, h⟩
  | k + 1, i, h => by
    simp only [nest] at h
    cases hs : Ev.seek (p i) (m i) 0 with
    | some v =>
      obtain ⟨j, _, _, h3⟩ := S.seek_some (m i) 0 hs
      rw [hs] at h
      exact absurd (hx i j v h3) h
    | none =>
      rw [hs] at h
      obtain ⟨a1, a2⟩ := nest_none hx k (i + 1) h
      refine ⟨fun i' j h1 h2 h3 => ?_, a2⟩
      by_cases e : i' = i
      · subst e
        exact (S.seek_none (m i') 0).1 hs j (Nat.zero_le _) (by omega)
      · exact a1 i' j (by omega) (by omega) h3
/-- A plain moment: every key stands where it is found, every descriptor is whole. -/
structure Sound (m : Mo) : Prop where
  keys : ∀ i j, i < m.n → j < (m.g i).n → S.find (m.g i) ((m.g i).g j).k = j
  whole : ∀ i j, i < m.n → j < (m.g i).n → S.whole ((m.g i).g j).d = true
theorem plain_sound {m : Mo} (h : R.plain m = true) : Sound m := by
  unfold R.plain at h
  have hne := fun e => (Bool.noConfusion (h.symm.trans e : true = false) : False)
  obtain ⟨h1, h2⟩ := nest_none (x := false) (z := !R.twice m) (m := fun i => (m.g i).n) (p := fun i j => bif S.err (S.check ((m.g i).g j).d) != 0 || !S.whole ((m.g i).g j).d then some false else none) (fun i j v hv => by
    revert hv
    cases (S.err (S.check ((m.g i).g j).d) != 0 || !S.whole ((m.g i).g j).d) <;> intro hv <;> cases hv
    rfl) m.n 0 hne
  have h2 : R.twice m ≠ true := fun e => by rw [e] at h2; exact h2 rfl
  unfold R.twice at h2
  obtain ⟨h3, _⟩ := nest_none (x := true) (z := false) (m := fun i => (m.g i).n) (p := fun i j => bif S.find (m.g i) ((m.g i).g j).k != (j : Int) then some true else none) (fun i j v hv => by
    revert hv
    cases (S.find (m.g i) ((m.g i).g j).k != (j : Int)) <;> intro hv <;> cases hv
    rfl) m.n 0 h2
  refine ⟨fun i j hi hj => ?_, fun i j hi hj => ?_⟩
  · have := h3 i j (Nat.zero_le _) (by omega) hj
    cases hq : S.find (m.g i) ((m.g i).g j).k != (j : Int)
    · simpa using hq
    · rw [hq] at this; cases this
  · have := h1 i j (Nat.zero_le _) (by omega) hj
    cases hq : S.whole ((m.g i).g j).d
    · rw [hq, Bool.not_false, Bool.or_true] at this; cases this
    · rfl
/-! Keys -/
theorem bytes_eq {a b : ByteArray} (h : (a == b) = true) : a = b := by
  cases a with | mk x =>
  cases b with | mk y =>
  have h : ByteArray.beq ⟨x⟩ ⟨y⟩ = true := h
  unfold ByteArray.beq at h
  simp at h
  rw [h]
theorem keq_iff {a b : K} : S.keq a b = true ↔ a = b := by
  constructor
  · intro h
    unfold S.keq at h
    simp only [Bool.and_eq_true, Bool.and_true, beq_iff_eq] at h
    obtain ⟨h1, h2⟩ := h
    cases a; cases b
    simp only at h1 h2
    rw [bytes_eq h1, h2]
  · rintro rfl; exact keq_refl a
theorem find_of {s : Sh} {k : K} (h : 0 ≤ S.find s k) : ∃ j : Nat, S.find s k = j ∧ j < s.n ∧ (s.g j).k = k := by
  obtain ⟨j, h1, h2, h3⟩ := S.idx_some (p := fun i => S.keq (s.g i).k k) (n := s.n) h
  exact ⟨j, h1, h2, keq_iff.1 h3⟩
/-! Values -/
/-! Descriptors -/
/-! Shapes -/
/-- What rule 6 asks of one property. -/
theorem lost_iff {b a : Sh} : S.lost b a = false ↔ ∀ i, i < b.n → (b.g i).d.c = 1 → S.find b (b.g i).k = i → 0 ≤ S.find a (b.g i).k ∧ S.okK (b.g i).d (a.g (S.find a (b.g i).k).toNat).d = true ∧ S.keeps (b.g i).d (a.g (S.find a (b.g i).k).toNat).d = true := by
  have key : S.lost b a = false ↔ seek (fun i => bif (b.g i).d.c != 1 || S.find b (b.g i).k != (i : Int) then none else
    bif decide (S.find a (b.g i).k < 0) then some true else
    bif S.okK (b.g i).d (a.g (S.find a (b.g i).k).toNat).d then (bif S.keeps (b.g i).d (a.g (S.find a (b.g i).k).toNat).d then none else some true) else some true) b.n 0 = none := by
    unfold S.lost
    constructor
    · intro h
      cases hs : seek _ b.n 0 with
      | none => rfl
      | some v =>
        rw [hs] at h
        obtain ⟨j, _, _, h3⟩ := S.seek_some b.n 0 hs
        have hv : v = false := h
        subst hv
        revert h3
        cases ((b.g j).d.c != 1 || S.find b (b.g j).k != (j : Int)) <;> cases decide (S.find a (b.g j).k < 0) <;> cases S.okK (b.g j).d (a.g (S.find a (b.g j).k).toNat).d <;> cases S.keeps (b.g j).d (a.g (S.find a (b.g j).k).toNat).d <;> intro h <;> cases h
    · intro h; rw [h]; rfl
  rw [key, S.seek_none]
  constructor
  · intro h i hi hc hf
    have := h i (Nat.zero_le _) (by omega)
    have c1 : ((b.g i).d.c != 1) = false := by rw [hc]; rfl
    have c2 : (S.find b (b.g i).k != (i : Int)) = false := by rw [hf]; simp
    rw [c1, c2] at this
    simp only [Bool.or_self, cond_false] at this
    by_cases hn : S.find a (b.g i).k < 0
    · rw [decide_eq_true hn] at this; cases this
    · rw [decide_eq_false hn] at this
      refine ⟨by omega, ?_⟩
      revert this
      cases S.okK (b.g i).d (a.g (S.find a (b.g i).k).toNat).d <;> cases S.keeps (b.g i).d (a.g (S.find a (b.g i).k).toNat).d <;> intro h <;> first | exact ⟨rfl, rfl⟩ | cases h
  · intro h i _ hi
    cases c1 : (b.g i).d.c != 1
    · cases c2 : S.find b (b.g i).k != (i : Int)
      · obtain ⟨h1, h2, h3⟩ := h i (by omega) (by simpa using c1) (by simpa using c2)
        have hn : ¬ S.find a (b.g i).k < 0 := by omega
        rw [decide_eq_false hn, h2, h3]
        rfl
      · simp
    · simp
theorem fresh_iff {b a : Sh} : S.freshAt b a < 0 ↔ ∀ i, i < a.n → 0 ≤ S.find b (a.g i).k := by
  constructor
  · intro h i hi
    have := S.idx_none h i hi
    simpa using this
  · intro h
    by_cases hf : 0 ≤ S.freshAt b a
    · obtain ⟨j, _, h2, h3⟩ := S.idx_some hf
      have := h j h2
      simp only [decide_eq_true_eq] at h3
      omega
    · omega
/-- No rule broken between two shapes. -/
structure Kept (b a : Sh) : Prop where
  cl : a.cl = b.cl
  ext : b.x = false → a.x = false
  proto : b.x = false → S.eqC a.p b.p = true
  fresh : b.x = false → S.freshAt b a < 0
  lost : S.lost b a = false
theorem ruleO_none {b a : Sh} : S.ruleO b a = none ↔ Kept b a := by
  unfold S.ruleO
  constructor
  · intro h
    cases c1 : a.cl != b.cl
    case true => rw [c1] at h; cases h
    cases c2 : (!b.x && a.x)
    case true => rw [c1, c2] at h; cases h
    cases c3 : (!b.x && !S.eqC a.p b.p)
    case true => rw [c1, c2, c3] at h; cases h
    cases c4 : (!b.x && decide (S.freshAt b a ≥ 0))
    case true => rw [c1, c2, c3, c4] at h; cases h
    cases c5 : S.lost b a
    case true => rw [c1, c2, c3, c4, c5] at h; cases h
    refine ⟨by simpa using c1, fun hx => ?_, fun hx => ?_, fun hx => ?_, c5⟩
    · rw [hx] at c2; simpa using c2
    · rw [hx] at c3; simpa using c3
    · rw [hx] at c4
      simp only [Bool.not_false, Bool.true_and, decide_eq_false_iff_not] at c4
      omega
  · rintro ⟨h1, h2, h3, h4, h5⟩
    have c1 : (a.cl != b.cl) = false := by rw [h1]; simp
    rw [c1, h5]
    cases hx : b.x
    · rw [h2 hx, h3 hx]
      have : ¬ S.freshAt b a ≥ 0 := by have := h4 hx; omega
      rw [decide_eq_false this]
      rfl
    · rfl
/-- No rule broken between two moments. -/
theorem broken_iff {b a : Mo} : (S.brokenO b a).1 = 0 ↔ ∀ i, i < b.n → i < a.n ∧ Kept (b.g i) (a.g i) := by
  have key : (S.brokenO b a).1 = 0 ↔ seek (fun i => bif decide ((i : Int) ≥ (a.n : Int)) then some ((i : Int) + 1, (1 : Int)) else (S.ruleO (b.g i) (a.g i)).map fun r => ((i : Int) + 1, r)) b.n 0 = none := by
    unfold S.brokenO
    constructor
    · intro h
      cases hs : seek _ b.n 0 with
      | none => rfl
      | some v =>
        rw [hs] at h
        obtain ⟨j, _, _, h3⟩ := S.seek_some b.n 0 hs
        have hv : v.1 = (j : Int) + 1 := by
          revert h3
          cases decide ((j : Int) ≥ (a.n : Int))
          · cases S.ruleO (b.g j) (a.g j) <;> intro h <;> cases h
            rfl
          · intro h; cases h; rfl
        have h : v.1 = 0 := h
        omega
    · intro h; rw [h]; rfl
  rw [key, S.seek_none]
  constructor
  · intro h i hi
    have := h i (Nat.zero_le _) (by omega)
    by_cases hn : (i : Int) ≥ (a.n : Int)
    · rw [decide_eq_true hn] at this; cases this
    · rw [decide_eq_false hn] at this
      simp only [cond_false, Option.map_eq_none_iff] at this
      exact ⟨by omega, ruleO_none.1 this⟩
  · intro h i _ hi
    obtain ⟨h1, h2⟩ := h i (by omega)
    have hn : ¬ (i : Int) ≥ (a.n : Int) := by omega
    rw [decide_eq_false hn, ruleO_none.2 h2]
    rfl
end Go.Proofs.YtaojjpdlfnphiaaDoor.PDescKinds
end
section
/- InvariantFrozen, plain: what is sealed keeps its keys, what is frozen its properties. -/
set_option linter.unusedSimpArgs false
set_option linter.unusedVariables false
set_option linter.unusedSectionVars false
namespace Go.Proofs.YtaojjpdlfnphiaaDoor.PDescKinds
open Go.RowKit Go.Ev FloatEq
theorem pigeon : ∀ (n m : Nat) (f : Nat → Nat), (∀ i, i < n → f i < m) → (∀ i j, i < n → j < n → f i = f j → i = j) → n ≤ m
  | 0, m, f, _, _ => Nat.zero_le _
  | n + 1, m, f, h1, h2 => by
    have hm := h1 n (by omega)
    have := pigeon n (m - 1) (fun i => if f i > f n then f i - 1 else f i) (fun i hi => by
      have a := h1 i (by omega)
      have b : f i ≠ f n := fun e => by have := h2 i n (by omega) (by omega) e; omega
      split <;> omega) (fun i j hi hj e => by
      have b : f i ≠ f n := fun e => by have := h2 i n (by omega) (by omega) e; omega
      have c : f j ≠ f n := fun e => by have := h2 j n (by omega) (by omega) e; omega
      refine h2 i j (by omega) (by omega) ?_
      split at e <;> split at e <;> omega)
    omega
/-- The two kinds of what is whole. -/
theorem whole_kind {d : D} (h : S.whole d = true) : (S.there d.v = true ∧ d.w ≠ 0 ∧ S.there d.g = false ∧ S.there d.t = false ∧ S.isA d = false) ∨ (S.there d.g = true ∧ S.there d.t = true ∧ S.there d.v = false ∧ d.w = 0 ∧ S.isA d = true) := by
  have hi := S.isA_whole h
  rw [hi]
  rw [S.whole_eq] at h
  simp only [Bool.and_eq_true] at h
  obtain ⟨_, hk, _⟩ := h
  revert hk
  unfold S.hasD S.hasA
  by_cases hw : d.w = 0
  · rw [hw]
    cases S.there d.v <;> cases S.there d.g <;> cases S.there d.t <;> simp
  · have : (d.w != 0) = true := by simpa using hw
    rw [this]
    cases S.there d.v <;> cases S.there d.g <;> cases S.there d.t <;> simp [hw]
theorem kept_of {b a : D} (wb : S.whole b = true) (wa : S.whole a = true) (hc : b.c = 1) (h : S.keeps b a = true) :
    a.c = 1 ∧ a.e = b.e ∧ S.isA b = S.isA a ∧ (S.isA b = true → S.alike b.g a.g = true ∧ S.alike b.t a.t = true) ∧ (S.isA b = false → b.w = 2 ∨ (a.w = 1 ∧ S.alike b.v a.v = true)) := by
  unfold S.keeps at h
  have cb : (b.c == 2) = false := by rw [hc]; rfl
  rw [S.whole_zero wb, S.whole_zero wa, cb] at h
  simp only [Bool.or_self, cond_false, Bool.false_or] at h
  cases hq : (a.c != 1 || (a.e != b.e || S.isA b != S.isA a))
  case true => rw [hq] at h; cases h
  rw [hq] at h
  simp only [cond_false] at h
  simp only [Bool.or_eq_false_iff] at hq
  obtain ⟨q1, q2, q3⟩ := hq
  refine ⟨by simpa using q1, by simpa using q2, by simpa using q3, fun hk => ?_, fun hk => ?_⟩
  · rw [hk] at h
    simpa using h
  · rw [hk] at h
    simpa using h
theorem alike_no {a b : V} (ha : S.there a = false) (hb : S.there b = false) : S.alike a b = true := by unfold S.alike; rw [ha, hb]; rfl
/-- Frozen, one property. -/
theorem frozen_kept {b a : D} (wb : S.whole b = true) (wa : S.whole a = true) (hc : b.c = 1) (h : S.keeps b a = true) (hf : (b.g.k == 0 && (b.t.k == 0 && b.w != 1)) = false) :
    (a.g.k == 0 && (a.t.k == 0 && a.w != 1)) = false ∧ S.equal a b = true := by
  obtain ⟨k1, k2, k3, k4, k5⟩ := kept_of wb wa hc h
  rcases whole_kind wb with ⟨b1, b2, b3, b4, b5⟩ | ⟨b1, b2, b3, b4, b5⟩
  · rcases whole_kind wa with ⟨a1, a2, a3, a4, a5⟩ | ⟨a1, a2, a3, a4, a5⟩
    case inr => rw [b5, a5] at k3; cases k3
    have g0 : (b.g.k == 0) = true := by have := b3; unfold S.there at this; simpa using this
    have t0 : (b.t.k == 0) = true := by have := b4; unfold S.there at this; simpa using this
    rw [g0, t0] at hf
    have bw : b.w = 1 := by simpa using hf
    rcases k5 b5 with e | ⟨aw, av⟩
    · rw [bw] at e; cases e
    refine ⟨by rw [aw]; simp, ?_⟩
    unfold S.equal
    rw [aw, bw, k1, hc, k2, S.alike_symm, av, alike_no a3 b3, alike_no a4 b4]
    simp
  · rcases whole_kind wa with ⟨a1, a2, a3, a4, a5⟩ | ⟨a1, a2, a3, a4, a5⟩
    case inl => rw [b5, a5] at k3; cases k3
    obtain ⟨e1, e2⟩ := k4 b5
    refine ⟨?_, ?_⟩
    · have : (a.g.k == 0) = false := by have := a1; unfold S.there at this; simpa using this
      rw [this]; rfl
    unfold S.equal
    rw [a4, b4, k1, hc, k2, S.alike_symm a.g, e1, S.alike_symm a.t, e2, alike_no a3 b3]
    simp
theorem sealed_iff {s : Sh} : S.sealedC s = true ↔ s.x = false ∧ ∀ j, j < s.n → (s.g j).d.c = 1 := by
  unfold S.sealedC
  constructor
  · intro h
    simp only [Bool.and_eq_true, Bool.not_eq_true', decide_eq_false_iff_not] at h
    refine ⟨h.1, fun j hj => ?_⟩
    have := S.idx_none (p := fun i => (s.g i).d.c != 1) (n := s.n) (by have := h.2; unfold S.confAt at this; omega) j hj
    simpa using this
  · rintro ⟨h1, h2⟩
    simp only [Bool.and_eq_true, Bool.not_eq_true', decide_eq_false_iff_not]
    refine ⟨h1, fun h => ?_⟩
    obtain ⟨j, _, h3, h4⟩ := S.idx_some (p := fun i => (s.g i).d.c != 1) (n := s.n) h
    rw [h2 j h3] at h4
    cases h4
theorem frozen_iff {s : Sh} : S.frozenC s = true ↔ S.sealedC s = true ∧ ∀ j, j < s.n → ((s.g j).d.g.k == 0 && ((s.g j).d.t.k == 0 && (s.g j).d.w != 1)) = false := by
  unfold S.frozenC
  constructor
  · intro h
    simp only [Bool.and_eq_true, Bool.not_eq_true', decide_eq_false_iff_not] at h
    refine ⟨h.1, fun j hj => ?_⟩
    exact S.idx_none (p := fun i => (s.g i).d.g.k == 0 && ((s.g i).d.t.k == 0 && (s.g i).d.w != 1)) (n := s.n) (by have := h.2; unfold S.thawAt at this; omega) j hj
  · rintro ⟨h1, h2⟩
    simp only [Bool.and_eq_true, Bool.not_eq_true', decide_eq_false_iff_not]
    refine ⟨h1, fun h => ?_⟩
    obtain ⟨j, _, h3, h4⟩ := S.idx_some (p := fun i => (s.g i).d.g.k == 0 && ((s.g i).d.t.k == 0 && (s.g i).d.w != 1)) (n := s.n) h
    rw [h2 j h3] at h4
    cases h4
theorem frozen_plain {b a : Mo} (wb : WfMo b) (wa : WfMo a) : Frz.Plain b a := by
  intro pb pa h0 i hi hs
  have sb := plain_sound pb
  have sa := plain_sound pa
  obtain ⟨i1, k⟩ := broken_iff.1 h0 i hi
  obtain ⟨x0, cs⟩ := sealed_iff.1 hs
  refine ⟨i1, ?_⟩
  -- each property of before, found behind
  have fwd : ∀ j, j < (b.g i).n → ∃ q : Nat, q < (a.g i).n ∧ S.find (a.g i) ((b.g i).g j).k = (q : Int) ∧ ((a.g i).g q).k = ((b.g i).g j).k ∧ S.keeps ((b.g i).g j).d ((a.g i).g q).d = true := by
    intro j hj
    obtain ⟨y1, y2, y3⟩ := lost_iff.1 k.lost j hj (cs j hj) (sb.keys i j hi hj)
    obtain ⟨q, q1, q2, q3⟩ := find_of y1
    rw [q1, Int.toNat_natCast] at y3
    exact ⟨q, q2, q1, q3, y3⟩
  -- each property behind, found before
  have bwd : ∀ q, q < (a.g i).n → ∃ j : Nat, j < (b.g i).n ∧ ((b.g i).g j).k = ((a.g i).g q).k := by
    intro q hq
    obtain ⟨j, _, j2, j3⟩ := find_of (fresh_iff.1 (k.fresh x0) q hq)
    exact ⟨j, j2, j3⟩
  have back : ∀ q, q < (a.g i).n → ∃ j : Nat, j < (b.g i).n ∧ S.keeps ((b.g i).g j).d ((a.g i).g q).d = true := by
    intro q hq
    obtain ⟨j, j1, j2⟩ := bwd q hq
    obtain ⟨r, r1, r2, r3, r4⟩ := fwd j j1
    have : r = q := by
      have e1 := sa.keys i r i1 r1
      have e2 := sa.keys i q i1 hq
      rw [r3, j2, e2] at e1
      omega
    subst this
    exact ⟨j, j1, r4⟩
  have hn : (a.g i).n = (b.g i).n := by
    have l1 : (b.g i).n ≤ (a.g i).n := by
      refine pigeon _ _ (fun j => (S.find (a.g i) ((b.g i).g j).k).toNat) (fun j hj => ?_) (fun j l hj hl e => ?_)
      · obtain ⟨q, q1, q2, _, _⟩ := fwd j hj
        simp only [q2, Int.toNat_natCast]
        exact q1
      · obtain ⟨q, q1, q2, q3, _⟩ := fwd j hj
        obtain ⟨r, r1, r2, r3, _⟩ := fwd l hl
        simp only [q2, r2, Int.toNat_natCast] at e
        subst e
        have e1 := sb.keys i j hi hj
        have e2 := sb.keys i l hi hl
        rw [← q3, r3, e2] at e1
        omega
    have l2 : (a.g i).n ≤ (b.g i).n := by
      refine pigeon _ _ (fun q => (S.find (b.g i) ((a.g i).g q).k).toNat) (fun q hq => ?_) (fun q r hq hr e => ?_)
      · obtain ⟨j, j1, j2, j3⟩ := find_of (fresh_iff.1 (k.fresh x0) q hq)
        simp only [j1, Int.toNat_natCast]
        exact j2
      · obtain ⟨j, j1, j2, j3⟩ := find_of (fresh_iff.1 (k.fresh x0) q hq)
        obtain ⟨l, l1, l2, l3⟩ := find_of (fresh_iff.1 (k.fresh x0) r hr)
        simp only [j1, l1, Int.toNat_natCast] at e
        subst e
        have e1 := sa.keys i q i1 hq
        have e2 := sa.keys i r i1 hr
        rw [← j3, l3, e2] at e1
        omega
    omega
  have hsa : S.sealedC (a.g i) = true := sealed_iff.2 ⟨k.ext x0, fun q hq => by
    obtain ⟨j, j1, j2⟩ := back q hq
    exact (kept_of (sb.whole i j hi j1) (sa.whole i q i1 hq) (cs j j1) j2).1⟩
  refine ⟨hsa, fun hf => ?_, hn, ?_, fun j hj => ?_⟩
  · obtain ⟨_, f2⟩ := frozen_iff.1 hf
    refine frozen_iff.2 ⟨hsa, fun q hq => ?_⟩
    obtain ⟨j, j1, j2⟩ := back q hq
    exact (frozen_kept (sb.whole i j hi j1) (sa.whole i q i1 hq) (cs j j1) j2 (f2 j j1)).1
  · rw [← eqV_eq (wa i).1 (wb i).1]
    exact k.proto x0
  · obtain ⟨q, q1, q2, q3, q4⟩ := fwd j hj
    refine ⟨q, q1, q2, S.check_whole (sa.whole i q i1 q1), S.check_whole (sb.whole i j hi hj), fun hf => ?_⟩
    obtain ⟨_, f2⟩ := frozen_iff.1 hf
    exact (frozen_kept (sb.whole i j hi hj) (sa.whole i q i1 q1) (cs j hj) q4 (f2 j hj)).2
end Go.Proofs.YtaojjpdlfnphiaaDoor.PDescKinds
end
section
/- Moments that come in: what they read as. -/
set_option linter.unusedSimpArgs false
set_option linter.unusedVariables false
set_option linter.unusedSectionVars false
namespace Go.Proofs.YtaojjpdlfnphiaaDoor.PDescKinds
open Go.ChangeShapes Go.WideShapes Go.ChangeAt Go.RowKit
section
variable {H : Type}
theorem bulk_pos (d : DataW H) : 1 ≤ Rows.uptoBulk d := by
  cases d with
  | lit l => cases l <;> simp [Rows.uptoBulk]
  | _ => simp [Rows.uptoBulk]
theorem bulk_mem {d : DataW H} : ∀ {l : List (DataW H)}, d ∈ l → Rows.uptoBulk d ≤ Rows.uptoBulkAll l
  | x :: r, h => by
    simp only [Rows.uptoBulkAll]
    rcases List.mem_cons.1 h with rfl | h
    · omega
    · have := bulk_mem h
      omega
theorem bulk_len : ∀ (l : List (DataW H)), l.length ≤ Rows.uptoBulkAll l
  | [] => Nat.zero_le _
  | x :: r => by
    simp only [Rows.uptoBulkAll, List.length_cons]
    have := bulk_len r
    have := bulk_pos x
    omega
end
theorem cells58 : Tryd.prog.cellsOf 58 = 1 := by kernel_rfl
theorem cells60 : Tryd.prog.cellsOf 60 = 8 := by kernel_rfl
theorem cells64 : Tryd.prog.cellsOf 64 = 2 := by kernel_rfl
theorem cells66 : Tryd.prog.cellsOf 66 = 20 := by kernel_rfl
def Pr0 : Pr := ⟨⟨⟨#[]⟩, 0⟩, S.D0⟩
theorem wf0 : S.D0.wf := ⟨by show 0 < _; omega, by show 0 < _; omega, by show 0 < _; omega⟩
section
variable {H : Type} {enc : TypeId × Value → H} {w : World} {base : Nat} {spare : Nat → Bool} {held : Bool} {fuel : Nat} {cs : List Value} {x : DataW H × List MemPlace}
set_option maxRecDepth 100000 in
theorem read_K (h : DataW.trod enc Tryd.prog w base spare held fuel 64 cs = some x) : ∃ k : K, cs = [.string k.s, .int .i64 k.n] := by
  obtain ⟨xs, n, _, _, hl, hn, hf⟩ := DataW.trod_struct Tryd.underlying64 h
  rw [cells64] at hl
  match cs, hl, xs, hn with
  | [c0, c1], _, [y0, y1], _ =>
    have h0 := hf 0 ⟨"Str", 9, 0, false, "", "", 0⟩ rfl
    have h1 := hf 1 ⟨"Sym", 3, 1, false, "", "", 16⟩ rfl
    simp only [cells3, cells9, List.drop_succ_cons, List.drop_zero, List.take_succ_cons, List.take_zero] at h0 h1
    obtain ⟨v0, e0, _⟩ := read_string Tryd.underlying9 h0
    obtain ⟨v1, e1⟩ := read_int Tryd.underlying3 h1
    cases e0; cases e1
    exact ⟨⟨v0, v1⟩, rfl⟩
set_option maxRecDepth 100000 in
theorem read_Pr (h : DataW.trod enc Tryd.prog w base spare held fuel 66 cs = some x) : ∃ q : Pr, cs = q.list ∧ q.d.wf := by
  obtain ⟨xs, n, _, _, hl, hn, hf⟩ := DataW.trod_struct Tryd.underlying66 h
  rw [cells66] at hl
  match cs, hl, xs, hn with
  | c0 :: c1 :: r, hl, [y0, y1], _ =>
    have h0 := hf 0 ⟨"Key", 64, 0, false, "", "", 0⟩ rfl
    have h1 := hf 1 ⟨"Desc", 27, 2, false, "", "", 24⟩ rfl
    simp only [cells64, cells27, List.drop_succ_cons, List.drop_zero, List.take_succ_cons, List.take_zero] at h0 h1
    have hr : r.length = 18 := by simpa using hl
    rw [List.take_of_length_le (by omega)] at h1
    obtain ⟨k, e0⟩ := read_K h0
    obtain ⟨d, e1, w1⟩ := read_D h1
    cases e0; subst e1
    exact ⟨⟨k, d⟩, rfl, w1⟩
/-- The properties of a shape, as the world has them. -/
def RawPs (w : World) (A : Option Addr) (n : Nat) (g : Nat → Pr) : Prop := ∀ i, i < n → ∃ a, A = some a ∧ a.block < w.heap.size ∧ ∀ t v, (g i).list[t]? = some v → w.cell? (a.add (i * 20 + t)) = some v
set_option maxRecDepth 100000 in
theorem read_Ps (h : DataW.trod enc Tryd.prog w base spare held fuel 58 cs = some x) :
    ∃ (A : Option Addr) (n c : Nat) (g : Nat → Pr), cs = [.slice A n c] ∧ n ≤ Rows.uptoBulk x.1 ∧ (A = none → n = 0 ∧ c = 0) ∧ RawPs w A n g ∧ ∀ i, (g i).d.wf := by
  rcases DataW.trod_slice Tryd.underlying58 h with ⟨rfl, _⟩ | ⟨a', len, cap, elems, rest, n, rfl, rfl, rfl, hb, hlc, hcm, hel, hall, _, _⟩
  · exact ⟨none, 0, 0, fun _ => Pr0, rfl, Nat.zero_le _, fun _ => ⟨rfl, rfl⟩, fun i hi => absurd hi (Nat.not_lt_zero _), fun _ => wf0⟩
  · have key : ∀ j, ∃ z : Pr, z.d.wf ∧ (j < len → a'.block < w.heap.size ∧ ∀ k v, z.list[k]? = some v → w.cell? (a'.add (j * 20 + k)) = some v) := by
      intro j
      by_cases hj : j < len
      · have h1 := hall j hj
        have hj' : j < elems.length := by rw [hel]; exact hj
        obtain ⟨e, he⟩ : ∃ e, elems[j]? = some e := ⟨elems[j]'hj', List.getElem?_eq_getElem hj'⟩
        rw [he, cells66] at h1
        obtain ⟨cs, hcs, htr⟩ := Option.bind_eq_some_iff.1 h1
        obtain ⟨z, rfl, hz⟩ := read_Pr htr
        refine ⟨z, hz, fun _ => ⟨add_block a' (j * 20) ▸ World.cells?_block hcs (Nat.zero_lt_succ 19), fun k v hk => ?_⟩⟩
        obtain ⟨_, hl, hce⟩ := World.cells?_some hcs
        have hk20 : k < 20 := by
          rw [← hl]
          exact (List.getElem?_eq_some_iff.1 hk).1
        have := hce k hk20
        rw [hk, Go.Ev.add_add] at this
        exact this
      · exact ⟨Pr0, wf0, fun h => absurd h hj⟩
    obtain ⟨g, hg⟩ := Classical.axiomOfChoice key
    refine ⟨some a', len, cap, g, rfl, ?_, fun h => (by cases h), fun i hi => ?_, fun i => (hg i).1⟩
    · simp only [Rows.uptoBulk]
      have := bulk_len (elems.map (·.1))
      rw [List.length_map, hel] at this
      omega
    · obtain ⟨hbl, hgc⟩ := (hg i).2 hi
      exact ⟨a', rfl, hbl, hgc⟩
/-- A shape as the world has it. -/
structure RawSh (w : World) (s : Sh) : Prop where
  nils : s.A = none → s.n = 0 ∧ s.c = 0
  row : RawPs w s.A s.n s.g
  wfp : s.p.wf
  wfd : ∀ i, (s.g i).d.wf
set_option maxRecDepth 100000 in
theorem read_Sh (h : DataW.trod enc Tryd.prog w base spare held fuel 60 cs = some x) : ∃ s : Sh, cs = shVals s s.row ∧ s.n ≤ Rows.uptoBulk x.1 ∧ RawSh w s := by
  obtain ⟨xs, n, _, hx, hl, hn, hf⟩ := DataW.trod_struct Tryd.underlying60 h
  rw [cells60] at hl
  match cs, hl, xs, hn with
  | [c0, c1, c2, c3, c4, c5, c6, c7], _, [y0, y1, y2, y3], _ =>
    have h0 := hf 0 ⟨"Class", 3, 0, false, "", "", 0⟩ rfl
    have h1 := hf 1 ⟨"Proto", 24, 1, false, "", "", 8⟩ rfl
    have h2 := hf 2 ⟨"Extensible", 4, 6, false, "", "", 56⟩ rfl
    have h3 := hf 3 ⟨"Props", 58, 7, false, "", "", 64⟩ rfl
    simp only [cells3, cells4, cells24, cells58, List.drop_succ_cons, List.drop_zero, List.take_succ_cons, List.take_zero] at h0 h1 h2 h3
    obtain ⟨v0, e0⟩ := read_int Tryd.underlying3 h0
    obtain ⟨v1, e1, w1⟩ := read_V h1
    obtain ⟨v2, e2⟩ := read_bool Tryd.underlying4 h2
    obtain ⟨A, m, c, g, e3, hb, hnil, hrow, hwf⟩ := read_Ps (x := y3) h3
    unfold V.list at e1
    cases e0; cases e1; cases e2; cases e3
    refine ⟨⟨v0, v1, v2, A, m, c, g⟩, rfl, ?_, hnil, hrow, w1, hwf⟩
    subst hx
    simp only [Rows.uptoBulk, List.map_cons, List.map_nil, Rows.uptoBulkAll]
    omega
theorem rawSh0 : RawSh w Sh0 := ⟨fun _ => ⟨rfl, rfl⟩, fun i hi => absurd hi (Nat.not_lt_zero _), by show 0 < _; omega, fun _ => wf0⟩
set_option maxRecDepth 100000 in
/-- A moment that came in. -/
theorem open_M {v : Value} {base' : Nat} {d : DataW H} {p : List MemPlace} (hv : Value.okWide Tryd.prog w .any base' 51 v) (h : DataW.Trod enc Tryd.prog w base spare held 51 v d p) (hs : Rows.uptoBulk d ≤ 1048576) :
    ∃ m : Mo, v = .slice m.A m.n m.c ∧ RawMo w m ∧ Small m ∧ WfMo m := by
  obtain ⟨a, len, cap, rfl⟩ := okWide_slice Tryd.underlying51 hv
  obtain ⟨f, hf⟩ := h
  rcases DataW.trod_slice Tryd.underlying51 hf with ⟨hc, _⟩ | ⟨a', len', cap', elems, rest, n, rfl, hc, hd, hb, hlc, hcm, hel, hall, _, _⟩
  · simp only [Value.cells, List.cons.injEq, Value.slice.injEq, and_true] at hc
    obtain ⟨rfl, rfl, rfl⟩ := hc
    exact ⟨Mo0, rfl, raw0 w, small0, fun j => ⟨rawSh0 (w := w).wfp, fun _ => wf0⟩⟩
  · simp only [Value.cells, List.cons.injEq, Value.slice.injEq, and_true] at hc
    obtain ⟨rfl, rfl, rfl⟩ := hc
    have hd1 : d = .slice (elems.map (·.1)) (rest.map (·.1)) := congrArg Prod.fst hd
    have hbulk : Rows.uptoBulkAll (elems.map (·.1)) ≤ 1048576 := by
      rw [hd1] at hs
      simp only [Rows.uptoBulk] at hs
      omega
    have key : ∀ j, ∃ z : Sh, (RawSh w z ∧ z.n ≤ 1048576) ∧ (j < len → a'.block < w.heap.size ∧ ∀ k v, (shVals z z.row)[k]? = some v → w.cell? (a'.add (j * 8 + k)) = some v) := by
      intro j
      by_cases hj : j < len
      · have h1 := hall j hj
        have hj' : j < elems.length := by rw [hel]; exact hj
        obtain ⟨e, he⟩ : ∃ e, elems[j]? = some e := ⟨elems[j]'hj', List.getElem?_eq_getElem hj'⟩
        rw [he, cells60] at h1
        obtain ⟨cs, hcs, htr⟩ := Option.bind_eq_some_iff.1 h1
        obtain ⟨z, rfl, hzn, hz⟩ := read_Sh htr
        have hm : Rows.uptoBulk e.1 ≤ Rows.uptoBulkAll (elems.map (·.1)) := bulk_mem (List.mem_map.2 ⟨e, List.mem_of_getElem? he, rfl⟩)
        refine ⟨z, ⟨hz, by omega⟩, fun _ => ⟨add_block a' (j * 8) ▸ World.cells?_block hcs (Nat.zero_lt_succ 7), fun k v hk => ?_⟩⟩
        obtain ⟨_, hl, hce⟩ := World.cells?_some hcs
        have hk8 : k < 8 := by
          rw [← hl]
          exact (List.getElem?_eq_some_iff.1 hk).1
        have := hce k hk8
        rw [hk, Go.Ev.add_add] at this
        exact this
      · exact ⟨Sh0, ⟨rawSh0, by decide⟩, fun h => absurd h hj⟩
    obtain ⟨g, hg⟩ := Classical.axiomOfChoice key
    refine ⟨⟨some a', len, cap, g⟩, rfl, ⟨fun j => (hg j).1.1.nils, fun j hj => ?_, fun j i hi => (hg j).1.1.row i hi⟩, ⟨?_, fun j => (hg j).1.2⟩, fun j => ⟨(hg j).1.1.wfp, (hg j).1.1.wfd⟩⟩
    · obtain ⟨hbl, hgc⟩ := (hg j).2 hj
      exact ⟨a', rfl, hbl, hgc⟩
    · have := bulk_len (elems.map (·.1))
      rw [List.length_map, hel] at this
      show len ≤ _
      omega
end
end Go.Proofs.YtaojjpdlfnphiaaDoor.PDescKinds
end
