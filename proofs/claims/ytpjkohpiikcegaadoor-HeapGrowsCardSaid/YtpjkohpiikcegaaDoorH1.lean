/- Heaps: New, Make. Trees by computing. -/
import Derived.Test.YtpjkohpiikcegaaDoorH0
import Derived.Stop.Asserts
set_option linter.unusedSimpArgs false
set_option linter.unusedVariables false
set_option linter.unusedSectionVars false
namespace Go.Proofs.YtpjkohpiikcegaaDoor.PDescKinds
open Go.RowKit Go.Ev
set_option maxRecDepth 100000
theorem onV_eq {g : V → DT Value} {l : List Value} {t : DT Value} (h : onV g l = some t) : ∃ v, l = [v.agg] ∧ t = g v := by
  unfold onV at h
  split at h
  · split at h
    · rename_i v hv
      simp only [Option.some.injEq] at h
      exact ⟨v, by rw [getV_agg hv], h.symm⟩
    · cases h
  · cases h
theorem ck_entry : ∀ p ∈ L25 ck, Entry Tryd.prog Tabs p := by
  intro p hp
  obtain rfl := List.mem_singleton.1 hp
  intro args t v h1 h2 w hw
  obtain ⟨u, rfl, rfl⟩ := onV_eq h1
  cases h2
  refine PHeapGrows.value_Check.calls u.k u.b u.n u.s u.id (ck u) w hw ?_
  unfold PHeapGrows.value_Check.f
  rfl
noncomputable def nw : List Code := bodyOf Tryd.f5
noncomputable def mk : List Code := bodyOf Tryd.f6
noncomputable def ad : List Code := bodyOf Tryd.f15
noncomputable def a4 : Array Oper := opsOf (ad.getD 4 .skip)
noncomputable def m4 : Array Oper := opsOf (mk.getD 4 .skip)
theorem nw_eq : nw = nw.take 4 ++ nw.drop 4 := by kernel_rfl
theorem mk_eq : mk = mk.take 4 ++ (.region 4 m4 false :: mk.drop 5) := by kernel_rfl
theorem ad_eq : ad = ad.take 4 ++ (.region 4 a4 true :: ad.drop 5) := by kernel_rfl
theorem m4_eq : m4.toList = m4.toList.take 4 ++ (m4.toList.getD 4 default :: (m4.toList.drop 5 ++ [])) := by kernel_rfl
theorem t_new (cap fuel depth : Int) : letI := row0
    evK Tryd.prog ext (tab []) 80 31 (seqL (nw.take 4)) (⟨argS [.val (.int .i64 cap), .val (.int .i64 fuel), .val (.int .i64 depth)], fun _ => none, 0⟩) (grab Tryd.prog Tryd.f5 [6, 7] [0] 1) =
    bif decide (cap < 0) then some (.ret (.val (.tuple #[.pointer none, .int .i64 7]))) else bif decide (cap > 65536) then some (.ret (.val (.tuple #[.pointer none, .int .i64 7]))) else bif decide (fuel < 0) then some (.ret (.val (.tuple #[.pointer none, .int .i64 7]))) else bif decide (depth < 1) then some (.ret (.val (.tuple #[.pointer none, .int .i64 7]))) else bif decide (depth > 256) then some (.ret (.val (.tuple #[.pointer none, .int .i64 7]))) else
      some (.cut .normal ⟨[(6, .ptr 0 0), (7, .val (.int .i64 0))], [(0, ⟨51, [.val (.int .i64 cap), .val (.int .i64 fuel), .val (.int .i64 depth), .val (.int .i64 0), .val (.slice none 0 0)]⟩)]⟩) := by kernel_rfl
theorem t_newr (v u : Value) : letI := row0
    evK Tryd.prog ext (tab []) 80 31 (seqL (nw.drop 4)) ((⟨[(6, .val v), (7, .val u)], []⟩ : Cut).st 0) (grab Tryd.prog Tryd.f5 [] [] 0) = some (.ret (.val (.tuple #[v, u]))) := by kernel_rfl
theorem t_make (h : HD) (v : V) (ck : V → Int) : letI := rowsH h noX1
    evK Tryd.prog ext (tab (L25 ck)) 80 21 (seqL (mk.take 4)) (⟨argS [.xp [] 0 0, .val v.agg], fun _ => none, 0⟩) (grab Tryd.prog Tryd.f6 [0, 3] [0] 1) =
    ( 
     (bif ck v != 0 then 
      (bif ck v != 0 then 
       (bif ck v != 0 then some (Res.ret (SV.val (Value.tuple #[Value.int IntKind.i64 0, Value.iface 25 (Value.int IntKind.i64 (ck v))]))) else some (Res.cut Ex.normal (Cut.mk [(0, SV.xp [] 0 0), (3, SV.ptr 0 0)] [(0, Blk.mk 35 [SV.val (Value.int IntKind.i64 v.k), SV.val (Value.bool v.b), SV.val (Value.float FloatKind.f64 v.n), SV.val (Value.string v.s), SV.val (Value.int IntKind.i64 v.id)])]))) else 
       (bif v.k != 2 then 
        (bif v.k != 7 then some (Res.ret (SV.val (Value.tuple #[Value.int IntKind.i64 0, Value.iface 25 (Value.int IntKind.i64 5)]))) else some (Res.cut Ex.normal (Cut.mk [(0, SV.xp [] 0 0), (3, SV.ptr 0 0)] [(0, Blk.mk 35 [SV.val (Value.int IntKind.i64 v.k), SV.val (Value.bool v.b), SV.val (Value.float FloatKind.f64 v.n), SV.val (Value.string v.s), SV.val (Value.int IntKind.i64 v.id)])]))) else some (Res.cut Ex.normal (Cut.mk [(0, SV.xp [] 0 0), (3, SV.ptr 0 0)] [(0, Blk.mk 35 [SV.val (Value.int IntKind.i64 v.k), SV.val (Value.bool v.b), SV.val (Value.float FloatKind.f64 v.n), SV.val (Value.string v.s), SV.val (Value.int IntKind.i64 v.id)])])))) else 
      (bif v.k == 7 then 
       (bif decide (v.id ≥ 1) then 
        (bif !decide (v.id ≤ (h.n : Int)) then some (Res.ret (SV.val (Value.tuple #[Value.int IntKind.i64 0, Value.iface 25 (Value.int IntKind.i64 4)]))) else 
         (bif v.k != 2 then 
          (bif v.k != 7 then some (Res.ret (SV.val (Value.tuple #[Value.int IntKind.i64 0, Value.iface 25 (Value.int IntKind.i64 5)]))) else some (Res.cut Ex.normal (Cut.mk [(0, SV.xp [] 0 0), (3, SV.ptr 0 0)] [(0, Blk.mk 35 [SV.val (Value.int IntKind.i64 v.k), SV.val (Value.bool v.b), SV.val (Value.float FloatKind.f64 v.n), SV.val (Value.string v.s), SV.val (Value.int IntKind.i64 v.id)])]))) else some (Res.cut Ex.normal (Cut.mk [(0, SV.xp [] 0 0), (3, SV.ptr 0 0)] [(0, Blk.mk 35 [SV.val (Value.int IntKind.i64 v.k), SV.val (Value.bool v.b), SV.val (Value.float FloatKind.f64 v.n), SV.val (Value.string v.s), SV.val (Value.int IntKind.i64 v.id)])])))) else some (Res.ret (SV.val (Value.tuple #[Value.int IntKind.i64 0, Value.iface 25 (Value.int IntKind.i64 4)])))) else 
       (bif v.k != 2 then 
        (bif v.k != 7 then some (Res.ret (SV.val (Value.tuple #[Value.int IntKind.i64 0, Value.iface 25 (Value.int IntKind.i64 5)]))) else some (Res.cut Ex.normal (Cut.mk [(0, SV.xp [] 0 0), (3, SV.ptr 0 0)] [(0, Blk.mk 35 [SV.val (Value.int IntKind.i64 v.k), SV.val (Value.bool v.b), SV.val (Value.float FloatKind.f64 v.n), SV.val (Value.string v.s), SV.val (Value.int IntKind.i64 v.id)])]))) else some (Res.cut Ex.normal (Cut.mk [(0, SV.xp [] 0 0), (3, SV.ptr 0 0)] [(0, Blk.mk 35 [SV.val (Value.int IntKind.i64 v.k), SV.val (Value.bool v.b), SV.val (Value.float FloatKind.f64 v.n), SV.val (Value.string v.s), SV.val (Value.int IntKind.i64 v.id)])])))))) := by kernel_rfl
theorem t_make4 (h : HD) (v : V) : letI := rowsH h noX1
    evOpsK Tryd.prog ext (callWithK Tryd.prog (tab (L25 ck)) (evK Tryd.prog ext (tab (L25 ck)) 80)) m4 21 (m4.toList.take 4) ((⟨[(0, .xp [] 0 0), (3, .ptr 0 0)], [(0, ⟨35, v.cellsV⟩)]⟩ : Cut).st 1) (fun st => cutS [14, 15, 17] [] 0 st) = some ⟨[(14, .xp [] 0 0), (15, .val v.agg), (17, .val (.iface 55 (.agg #[])))], []⟩ := by kernel_rfl
theorem t_make5 (u v : Value) : letI := row0
    (reads Tryd.prog 21 (m4.toList.drop 5) (pickT [(18, .val (.tuple #[u, v]))])).map (fun t => [4, 5].map t) = some [.val u, .val v] := by kernel_rfl
theorem t_maker (v u : Value) : letI := row0
    evK Tryd.prog ext (tab []) 80 21 (seqL (mk.drop 5)) ((⟨[(4, .val v), (5, .val u)], []⟩ : Cut).st 0) (grab Tryd.prog Tryd.f6 [] [] 0) = some (.ret (.val (.tuple #[v, u]))) := by kernel_rfl
theorem t_add (h : HD) (v : V) : letI := rowsH h noX1
    evK Tryd.prog ext (tab (L25 ck)) 80 39 (seqL (ad.take 4)) (⟨argS [.xp [] 0 0, .val (.int .i64 1), .val v.agg, .val (.iface 55 (.agg #[])), .val .nilIface], fun _ => none, 0⟩) (grab Tryd.prog Tryd.f15 [0, 1, 3, 4, 7] [0] 1) =
    bif decide ((h.n : Int) ≥ h.cap) then some (.ret (.val (.tuple #[.int .i64 0, .iface 25 (.int .i64 3)]))) else some (.cut .normal ⟨[(0, .xp [] 0 0), (1, .val (.int .i64 1)), (3, .val (.iface 55 (.agg #[]))), (4, .val .nilIface), (7, .ptr 0 0)], [(0, ⟨35, v.cellsV⟩)]⟩) := by kernel_rfl
theorem t_add0 (h : HD) (bx : XR) : letI := rowsH h bx
    evP Tryd.prog (Ev.look (pickT [(0, .xp [] 0 0)])) (a4.toList.getD 0 default) = some (.xp [] 0 0) := by kernel_rfl
theorem t_add4 (h : HD) (v : V) (g7 : Nat) : letI := rowsH h (bxV g7 v)
    (takesL Tryd.prog a4 [12, 15] 39 [1, 2, 3, 4, 5, 6, 7, 8, 9] (pickT [(0, .xp [] 0 0), (1, .val (.int .i64 1)), (3, .val (.iface 55 (.agg #[]))), (4, .val .nilIface), (7, .xp [0, 0] 0 0), (19, .xp [] 0 0)]) #[true, false, false, false, false, false, false, false, false, false, false, false, false, false, false, false]).map (fun p => ([0, 19, 23, 28].map p.1, p.2)) =
    some ([.xp [] 0 0, .xp [] 0 0, .xs [0], .val (.agg (objV v).toArray)], #[true, true, true, true, true, true, true, true, true, true, false, false, false, false, false, false]) := by kernel_rfl
theorem t_addb (v : V) : letI := row0
    evOp Tryd.prog ext (fun _ _ _ _ => none) (Ev.look (pickT [(28, .val (.agg (objV v).toArray))])) (fun _ => none) 0 (a4.toList.getD 10 default) = some (.ptr 0 0, .new ⟨74, (objV v).map SV.val⟩) := by kernel_rfl
theorem t_addn (g : Addr) : letI := row0
    evOp Tryd.prog ext (fun _ _ _ _ => none) (Ev.look (pickT [(29, .val (.pointer (some g)))])) (fun _ => none) 0 (a4.toList.getD 11 default) = some (.slc 0 0 1 1, .new ⟨66, [.val (.pointer (some g))]⟩) := by kernel_rfl
theorem t_addf (g : Addr) : letI := row0
    (reads Tryd.prog 39 ((a4.toList.drop 13).take 2) (pickT [(19, .val (.pointer (some g)))])).map (fun t => [32, 33].map t) = some [.val (.pointer (some g)), .val (.pointer (some (g.add 4)))] := by kernel_rfl
theorem t_addr (h : HD) : letI := rowsH h noX1
    evK Tryd.prog ext (tab (L25 ck)) 80 39 (seqL (ad.drop 5)) ((⟨[(0, .xp [] 0 0)], []⟩ : Cut).st 0) (grab Tryd.prog Tryd.f15 [] [] 0) = some (.ret (.val (.tuple #[.int .i64 (h.n : Int), .nilIface]))) := by kernel_rfl
end Go.Proofs.YtpjkohpiikcegaaDoor.PDescKinds
