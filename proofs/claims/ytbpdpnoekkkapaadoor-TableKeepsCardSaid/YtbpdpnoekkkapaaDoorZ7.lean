/- Parts of the proof, joined (7). -/
import Derived.Test.YtbpdpnoekkkapaaDoorZ6
set_option linter.unusedSectionVars false
set_option linter.unusedSimpArgs false
set_option linter.unusedVariables false
section
namespace Go.Proofs.YtbpdpnoekkkapaaDoor.PDescKinds
open Go.RowKit Go.Ev Go.Proofs.YtbpdpnoekkkapaaDoorV.PrintLast
set_option maxRecDepth 100000
noncomputable def lw : List Code := bodyOf Tryd.f7
noncomputable def lw1 : Array Oper := opsOf (lw.getD 1 .skip)
noncomputable def lw2 : Array Oper := opsOf (lw.getD 2 .skip)
theorem lw_eq : lw = [lw.getD 0 .skip] ++ [.region 1 lw1 false, .region 2 lw2 false, .ret] := by kernel_rfl
theorem lw1_eq : lw1.toList = [lw1.toList.getD 0 default, lw1.toList.getD 1 default] := by kernel_rfl
theorem lw0 (k : K) (d : D) (o : K) : letI := row0
    evK Tryd.prog ext (tab []) 60 44 (seqL [lw.getD 0 .skip]) (⟨argS ([k.agg, d.agg, o.agg].map SV.val), fun _ => none, 0⟩) (grab Tryd.prog Tryd.f7 [3, 4, 5] [0, 1, 2] 3) = some (Res.cut Ex.normal ⟨[(3, .ptr 0 0), (4, .ptr 1 0), (5, .ptr 2 0)], [(0, ⟨34, k.list.map SV.val⟩), (1, ⟨40, d.list.map SV.val⟩), (2, ⟨34, o.list.map SV.val⟩)]⟩) := by kernel_rfl
theorem lw1_1 (v : Value) : letI := row0; evP Tryd.prog (Ev.look (pickT [(8, .val v)])) (lw1.toList.getD 1 default) = some (.val v) := by kernel_rfl
abbrev sg (l : List Oper) (i n : Nat) : List Oper := (l.drop i).take n
theorem lw2_eq : lw2.toList = sg lw2.toList 0 3 ++ (lw2.toList.getD 3 default :: (sg lw2.toList 4 7 ++ (lw2.toList.getD 11 default :: (sg lw2.toList 12 5 ++ (lw2.toList.getD 17 default :: (sg lw2.toList 18 5 ++ (lw2.toList.getD 23 default :: (sg lw2.toList 24 5 ++ (lw2.toList.getD 29 default :: (sg lw2.toList 30 3 ++ (lw2.toList.getD 33 default :: (sg lw2.toList 34 2 ++ [])))))))))))) := by kernel_rfl
abbrev X3 (kb db ob : Nat) (k : K) (d : D) (o : K) : Nat → XR := nth [bxR kb k.list, bxR db d.list, bxR ob o.list]
abbrev X4 (kb db ob pb : Nat) (k : K) (d : D) (o : K) (l : List Value) : Nat → XR := nth [bxR kb k.list, bxR db d.list, bxR ob o.list, bxR pb l]
abbrev B3 : List (Nat × SV) := [(3, .xp [0] 0 0), (4, .xp [1] 0 0), (5, .xp [2] 0 0)]
section
variable (kb db ob pb ga gb gc gd : Nat) (k : K) (d : D) (o : K) (v7 : Value)
theorem sgA : letI := rowsN (X4 kb db ob pb k d o (plst ga gb gc gd))
    (reads Tryd.prog 44 (sg lw2.toList 0 3) (pickT (B3 ++ [(7, .xp [3] 0 0)]))).map (fun t => [3, 4, 5, 7, 11].map t) = some [.xp [0] 0 0, .xp [1] 0 0, .xp [2] 0 0, .xp [3] 0 0, .xp [3] 0 0] := by kernel_rfl
theorem sgB : letI := rowsN (X4 kb db ob pb k d o (plst ga gb gc gd))
    evOpsK Tryd.prog ext (callWithK Tryd.prog (tab []) (evK Tryd.prog ext (tab []) 60)) lw2 44 (sg lw2.toList 4 7) ((⟨B3 ++ [(7, .xp [3] 0 0), (12, .xp [3] 0 0)], []⟩ : Cut).st 0) (fun st => cutS [3, 4, 5, 7, 15, 16, 19] [] 0 st) = some ⟨B3 ++ [(7, .xp [3] 0 0), (15, .val (.bool true)), (16, .xp [3] 0 0), (19, .val (.agg (alist 1 k d).toArray))], []⟩ := by kernel_rfl
theorem sgC : letI := rowsN (X3 kb db ob k d o)
    evOpsK Tryd.prog ext (callWithK Tryd.prog (tab []) (evK Tryd.prog ext (tab []) 60)) lw2 44 (sg lw2.toList 12 5) ((⟨B3 ++ [(7, .val v7), (15, .val (.bool true)), (20, .val (.bool true))], []⟩ : Cut).st 0) (fun st => cutS [3, 4, 5, 7, 22, 23, 25] [] 0 st) = some ⟨B3 ++ [(7, .val v7), (22, .val (.bool true)), (23, .val v7), (25, .val (.agg (alist 1 o d0).toArray))], []⟩ := by kernel_rfl
theorem sgD : letI := rowsN (X3 kb db ob k d o)
    evOpsK Tryd.prog ext (callWithK Tryd.prog (tab []) (evK Tryd.prog ext (tab []) 60)) lw2 44 (sg lw2.toList 18 5) ((⟨B3 ++ [(7, .val v7), (22, .val (.bool true)), (26, .val (.bool true))], []⟩ : Cut).st 0) (fun st => cutS [3, 4, 5, 7, 28, 29, 31] [] 0 st) = some ⟨B3 ++ [(7, .val v7), (28, .val (.bool true)), (29, .val v7), (31, .val (.agg (alist 5 k d0).toArray))], []⟩ := by kernel_rfl
theorem sgE : letI := rowsN (X3 kb db ob k d o)
    evOpsK Tryd.prog ext (callWithK Tryd.prog (tab []) (evK Tryd.prog ext (tab []) 60)) lw2 44 (sg lw2.toList 24 5) ((⟨B3 ++ [(7, .val v7), (28, .val (.bool true)), (32, .val (.bool true))], []⟩ : Cut).st 0) (fun st => cutS [7, 34, 35, 37] [] 0 st) = some ⟨[(7, .val v7), (34, .val (.bool true)), (35, .val v7), (37, .val (.agg (alist 5 o d0).toArray))], []⟩ := by kernel_rfl
theorem sgF : letI := rowsN (X3 kb db ob k d o)
    evOpsK Tryd.prog ext (callWithK Tryd.prog (tab []) (evK Tryd.prog ext (tab []) 60)) lw2 44 (sg lw2.toList 30 3) ((⟨[(7, .val v7), (34, .val (.bool true)), (38, .val (.bool true))], []⟩ : Cut).st 0) (fun st => cutS [40, 41] [] 0 st) = some ⟨[(40, .val (.bool true)), (41, .val v7)], []⟩ := by kernel_rfl
theorem sgG : letI := rowsN (X3 kb db ob k d o)
    evOpsK Tryd.prog ext (callWithK Tryd.prog (tab []) (evK Tryd.prog ext (tab []) 60)) lw2 44 (sg lw2.toList 34 2) ((⟨[(40, .val (.bool true)), (42, .val (.bool true))], []⟩ : Cut).st 0) (fun st => cutS [6] [] 0 st) = some ⟨[(6, .val (.bool true))], []⟩ := by kernel_rfl
theorem lwR : letI := row0
    evK Tryd.prog ext (tab []) 60 44 (seqL [.ret]) ((⟨[(6, .val (.bool true))], []⟩ : Cut).st 0) (grab Tryd.prog Tryd.f7 [] [] 0) = some (Res.ret (.val (.bool true))) := by kernel_rfl
end
end Go.Proofs.YtbpdpnoekkkapaaDoor.PDescKinds
end
section
namespace Go.Proofs.YtbpdpnoekkkapaaDoor.PDescKinds
open Go.RowKit Go.Ev Go.Proofs.YtbpdpnoekkkapaaDoorV.PrintLast
set_option maxRecDepth 100000
structure Bx3 (w : World) (kb db ob : Nat) (k : K) (d : D) (o : K) : Prop where
  k : w.heap[kb]? = some (.cells k.list.toArray 34 (0, 0))
  d : w.heap[db]? = some (.cells d.list.toArray 40 (0, 0))
  o : w.heap[ob]? = some (.cells o.list.toArray 34 (0, 0))
section
variable {w w' : World} {kb db ob : Nat} {k : K} {d : D} {o : K}
theorem Bx3.bel (h : Bx3 w kb db ob k d o) (hb : Below w.heap.size w w') : Bx3 w' kb db ob k d o := ⟨(hb.block _ (lt' h.k)).trans h.k, (hb.block _ (lt' h.d)).trans h.d, (hb.block _ (lt' h.o)).trans h.o⟩
theorem Bx3.fr {B n : Nat} {x : Tk} {r : Rf} (h : Bx3 w kb db ob k d o) (hO : OwnT B w (x.tb n)) (hR : OwnR B w r n x.f) (hf : Fr (fun b => (x.tb n).blk b ∨ r.blk n b) w w') : Bx3 w' kb db ob k d o :=
  ⟨hf.at h.k fun hb => hb.elim (blk_t hO h.k (by decide) (by decide)) (blk_r hR h.k (by decide) (by decide)), hf.at h.d fun hb => hb.elim (blk_t hO h.d (by decide) (by decide)) (blk_r hR h.d (by decide) (by decide)), hf.at h.o fun hb => hb.elim (blk_t hO h.o (by decide) (by decide)) (blk_r hR h.o (by decide) (by decide))⟩
theorem Bx3.xok (h : Bx3 w kb db ob k d o) : @XOk (rowsN (X3 kb db ob k d o)) w := xokN fun y hy e => by
  simp only [List.mem_cons, List.not_mem_nil, or_false] at hy
  rcases hy with rfl | rfl | rfl
  · exact box_heap (t := 34) h.k
  · exact box_heap (t := 40) h.d
  · exact box_heap (t := 34) h.o
theorem Bx3.xok4 {pb : Nat} {l : List Value} (h : Bx3 w kb db ob k d o) (hp : w.heap[pb]? = some (.cells l.toArray 71 (0, 0))) : @XOk (rowsN (X4 kb db ob pb k d o l)) w := xokN fun y hy e => by
  simp only [List.mem_cons, List.not_mem_nil, or_false] at hy
  rcases hy with rfl | rfl | rfl | rfl
  · exact box_heap (t := 34) h.k
  · exact box_heap (t := 40) h.d
  · exact box_heap (t := 34) h.o
  · exact box_heap (t := 71) hp
end
theorem seg_run {X : Nat → XR} {l rest : List Oper} {ss os : List (Nat × SV)} {ks : List Nat} {ts us : List (Nat × Value)} {a : Act} {w : World} {Q : Exit → Act → World → Prop}
    (ev : letI := rowsN X; evOpsK Tryd.prog ext (callWithK Tryd.prog (tab []) (evK Tryd.prog ext (tab []) 60)) lw2 44 l ((⟨ss, []⟩ : Cut).st 0) (fun st => cutS ks [] 0 st) = some ⟨os, []⟩) (hX : @XOk (rowsN X) w) (hk : Kp 44 ts a)
    (hs : ∀ p ∈ ss, (p.1, @SV.den (rowsN X) (fun _ => 0) p.2) ∈ ts ∧ @SV.ok (rowsN X) (fun _ => none) p.2) (ho : ∀ m, ∀ p ∈ us, (pickT os p.1).known = true ∧ @SV.den (rowsN X) m (pickT os p.1) = p.2)
    (K : ∀ a' w', Kp 44 us a' → Below w.heap.size w w' → wpList Tryd.prog lw2 Q rest a' w') : wpList Tryd.prog lw2 Q (l ++ rest) a w := by
  refine opsE (rowsN X) (ctxN X) ev hX (epochE (rowsN X) hk hs) fun m a1 w1 hr => ?_
  exact K a1 w1 (SR.kp hr (ho m)) (SR.bel hr)
theorem den3 {kb db ob : Nat} {k : K} {d : D} {o : K} (m : Nat → Nat) : @SV.den (rowsN (X3 kb db ob k d o)) m (.xp [0] 0 0) = pt kb ∧ @SV.den (rowsN (X3 kb db ob k d o)) m (.xp [1] 0 0) = pt db ∧ @SV.den (rowsN (X3 kb db ob k d o)) m (.xp [2] 0 0) = pt ob := ⟨den_n _ kb 0 _ rfl m, den_n _ db 1 _ rfl m, den_n _ ob 2 _ rfl m⟩
theorem den4 {kb db ob pb : Nat} {k : K} {d : D} {o : K} {l : List Value} (m : Nat → Nat) : @SV.den (rowsN (X4 kb db ob pb k d o l)) m (.xp [0] 0 0) = pt kb ∧ @SV.den (rowsN (X4 kb db ob pb k d o l)) m (.xp [1] 0 0) = pt db ∧ @SV.den (rowsN (X4 kb db ob pb k d o l)) m (.xp [2] 0 0) = pt ob ∧ @SV.den (rowsN (X4 kb db ob pb k d o l)) m (.xp [3] 0 0) = pt pb := ⟨den_n _ kb 0 _ rfl m, den_n _ db 1 _ rfl m, den_n _ ob 2 _ rfl m, den_n _ pb 3 _ rfl m⟩
set_option maxHeartbeats 2000000 in
theorem Keeps.calls {w : World} (hT : Tabs w) (k : K) (d : D) (o : K) : Calls Tryd.prog 7 #[k.agg, d.agg, o.agg] w fun e w' => e = .returned (.bool true) ∧ Below w.heap.size w w' := by
  refine enter_vals (vs := [k.agg, d.agg, o.agg]) (N := 44) Tryd.func7 (by kernel_rfl) (by kernel_rfl) (show 3 ≤ 44 by decide) fun a0 h0 => ?_
  show wpL Tryd.prog lw _ _ _
  rw [lw_eq, wpL_app]
  refine pieceZ (lw0 k d o) h0 (fun v hv => by cases hv) (fun ex c hc m a1 w1 hr => ?_)
  cases hc
  have b1 := SR.bel hr
  have ⟨_, hkb⟩ := SR.own (b := 0) (l := k.list) (ty := 34) hr rfl
  have ⟨_, hdb⟩ := SR.own (b := 1) (l := d.list) (ty := 40) hr rfl
  have ⟨_, hob⟩ := SR.own (b := 2) (l := o.list) (ty := 34) hr rfl
  have K1 : Kp 44 [(3, pt (m 0)), (4, pt (m 1)), (5, pt (m 2))] a1 := SR.kp hr fun p hp => by
    simp only [List.mem_cons, List.not_mem_nil, or_false] at hp
    rcases hp with rfl | rfl | rfl <;> exact ⟨rfl, @den_ptr row0 _ _ _⟩
  generalize m 0 = kb at hkb K1
  generalize m 1 = db at hdb K1
  generalize m 2 = ob at hob K1
  have X1 : Bx3 w1 kb db ob k d o := ⟨hkb, hdb, hob⟩
  have s1 := b1.size
  show wpL Tryd.prog [_, _, _] _ a1 w1
  refine wp_region_list ?_
  rw [lw1_eq]
  refine wpList_plain (by kernel_rfl) fun J hJ => ?_
  have hc1 : Calls Tryd.prog 28 #[] w1 fun e w' => ∃ pb x r, e = .returned (pt pb) ∧ Below w1.heap.size w1 w' ∧ w1.heap.size ≤ pb ∧ Pst w1.heap.size w' pb x r 0 := NewPair.calls fun _ => (k, d)
  refine call_op (f := 28) (ats := #[]) (xs := #[]) (by kernel_rfl) (by kernel_rfl) (show (#[] : Array Operand).map a1.eval = #[] from Array.map_empty) hc1 (fun e w' he => by obtain ⟨pb, x, r, rfl, _⟩ := he; exact ⟨_, rfl⟩) fun v w2 he => hJ _ _ ?_
  obtain ⟨pb, x, r, hv, bb2, hpb, P2⟩ := he
  cases hv
  rw [show (lw1.toList.getD 0 default).dst = some 8 by kernel_rfl]
  have K2 := K1.put (d := 8) (v := pt pb) rfl
  refine one_evL (e := row0) (by kernel_rfl) (xok_0 _) K2 (ss := [(8, .val (pt pb))]) (fun q hq => ?_) (lw1_1 (pt pb)) (d := 7) (by kernel_rfl) (by rfl) fun a2 K2' => ?_
  · obtain rfl := List.mem_singleton.1 hq
    exact ⟨by rw [@den_val row0]; simp, @ok_val row0 _ _⟩
  rw [@den_val row0] at K2'
  have L2 : Kp 44 [(3, pt kb), (4, pt db), (5, pt ob), (7, pt pb)] a2 := K2'.sub (by simp)
  have X2 := X1.bel bb2
  have hT1 : Tabs w1 := tabs_stable _ _ hT b1
  show wpL Tryd.prog [_, _] _ a2 w2
  refine wp_region_list ?_
  rw [lw2_eq]
  obtain ⟨gb1, gd1, hpair⟩ := P2.pair
  have hpair : w2.heap[pb]? = some (.cells (plst x.gb gb1 r.rb gd1).toArray 71 (0, 0)) := hpair
  refine read_kp (e := rowsN (X4 kb db ob pb k d o (plst x.gb gb1 r.rb gd1))) (us := [pt kb, pt db, pt ob, pt pb, pt pb]) (X2.xok4 hpair) (sgA kb db ob pb x.gb gb1 r.rb gd1 k d o) L2 (fun p hp => ?_) ?_ (by kernel_rfl) fun a3 L3 => ?_
  · simp only [B3, List.cons_append, List.nil_append, List.mem_cons, List.not_mem_nil, or_false] at hp
    rcases hp with rfl | rfl | rfl | rfl
    · exact ⟨by rw [(den4 _).1]; simp, ok_n _ kb 0 _ rfl _⟩
    · exact ⟨by rw [(den4 _).2.1]; simp, ok_n _ db 1 _ rfl _⟩
    · exact ⟨by rw [(den4 _).2.2.1]; simp, ok_n _ ob 2 _ rfl _⟩
    · exact ⟨by rw [(den4 _).2.2.2]; simp, ok_n _ pb 3 _ rfl _⟩
  · simp only [List.map_cons, List.map_nil, (den4 _).1, (den4 _).2.1, (den4 _).2.2.1, (den4 _).2.2.2]
  have L3 : Kp 44 [(3, pt kb), (4, pt db), (5, pt ob), (7, pt pb), (11, pt pb)] a3 := L3
  refine wpList_val (by kernel_rfl) (arr_run (g := pb) (off := 0) (t := 67) (x := .tmp 11) (y := .const (.int .i64 0)) (by simp) (by kernel_rfl) (L3.get (d := 11) (by simp)) rfl) ?_
  rw [show (lw2.toList.getD 3 default).dst = some 12 by kernel_rfl]
  have L4 := L3.put (d := 12) (v := .pointer (some ⟨pb, 0, none⟩)) rfl
  generalize a3.put (some 12) (.pointer (some ⟨pb, 0, none⟩)) = a4 at L4 ⊢
  refine seg_run (sgB kb db ob pb x.gb gb1 r.rb gd1 k d o) (us := [(3, pt kb), (4, pt db), (5, pt ob), (7, pt pb), (15, .bool true), (16, pt pb), (19, .agg (alist 1 k d).toArray)]) (X2.xok4 hpair) L4 (fun p hp => ?_) (fun m p hp => ?_) fun a5 w5 L5 bb5 => ?_
  · simp only [B3, List.cons_append, List.nil_append, List.mem_cons, List.not_mem_nil, or_false] at hp
    rcases hp with rfl | rfl | rfl | rfl | rfl
    · exact ⟨by rw [(den4 _).1]; simp, ok_n _ kb 0 _ rfl _⟩
    · exact ⟨by rw [(den4 _).2.1]; simp, ok_n _ db 1 _ rfl _⟩
    · exact ⟨by rw [(den4 _).2.2.1]; simp, ok_n _ ob 2 _ rfl _⟩
    · exact ⟨by rw [(den4 _).2.2.2]; simp, ok_n _ pb 3 _ rfl _⟩
    · exact ⟨by rw [(den4 _).2.2.2]; simp, ok_n _ pb 3 _ rfl _⟩
  · simp only [List.mem_cons, List.not_mem_nil, or_false] at hp
    rcases hp with rfl | rfl | rfl | rfl | rfl | rfl | rfl
    · exact ⟨rfl, (den4 _).1⟩
    · exact ⟨rfl, (den4 _).2.1⟩
    · exact ⟨rfl, (den4 _).2.2.1⟩
    · exact ⟨rfl, (den4 _).2.2.2⟩
    · exact ⟨rfl, @den_val (rowsN (X4 kb db ob pb k d o (plst x.gb gb1 r.rb gd1))) _ _⟩
    · exact ⟨rfl, (den4 _).2.2.2⟩
    · exact ⟨rfl, @den_val (rowsN (X4 kb db ob pb k d o (plst x.gb gb1 r.rb gd1))) _ _⟩
  have P5 : Pst w1.heap.size w5 pb x r 0 := ⟨⟨gb1, gd1, (bb5.block pb (lt' hpair)).trans hpair⟩, P2.own.bel bb5, P2.ref.bel bb5, P2.maps, P2.good⟩
  have X5 := X2.bel bb5
  have b5 : Below w1.heap.size w1 w5 := bb2.trans (bb5.mono bb2.size)
  have hv5 : (#[.tmp 16, .tmp 19, .const (.int .i64 0)] : Array Operand).map a5.eval = #[pt pb, .agg (alist 1 k d).toArray, .int .i64 0] := by
    have e1 : a5.eval (.tmp 16) = pt pb := L5.get (by simp)
    have e2 : a5.eval (.tmp 19) = .agg (alist 1 k d).toArray := L5.get (by simp)
    have e3 : a5.eval (.const (.int .i64 0)) = .int .i64 0 := rfl
    simp only [List.map_toArray, List.map_cons, List.map_nil, e1, e2, e3]
  refine Lw.wpList_wanted (wanted_true (j := 6) (t := 15) (by kernel_rfl) (by kernel_rfl) (by rw [L5.size]; decide) (L5.get (by simp))) fun J hJ => ?_
  have hc5 := PlayPut.calls (k := k) (d := d) hT1 b5 P5 (by omega)
  refine call_op (f := 29) (ats := #[65, 42, 3]) (by kernel_rfl) (by kernel_rfl) hv5 hc5 (fun e w' he => ⟨_, he.1⟩) fun v w6 he => hJ _ _ ?_
  obtain ⟨hv, b6, x6, r6, n6, hn6, _, _, P6, f6⟩ := he
  cases hv
  rw [show (lw2.toList.getD 11 default).dst = some 20 by kernel_rfl]
  have X6 := X5.fr P5.own P5.ref f6
  have L6 := L5.put (d := 20) (v := .bool true) rfl
  generalize a5.put (some 20) (.bool true) = a6 at L6 ⊢
  refine seg_run (sgC kb db ob k d o (pt pb)) (us := [(3, pt kb), (4, pt db), (5, pt ob), (7, pt pb), (22, .bool true), (23, pt pb), (25, .agg (alist 1 o d0).toArray)]) X6.xok L6 (fun p hp => ?_) (fun m p hp => ?_) fun a7 w7 L7 bb7 => ?_
  · simp only [B3, List.cons_append, List.nil_append, List.mem_cons, List.not_mem_nil, or_false] at hp
    rcases hp with rfl | rfl | rfl | rfl | rfl | rfl
    · exact ⟨by rw [(den3 _).1]; simp, ok_n _ kb 0 _ rfl _⟩
    · exact ⟨by rw [(den3 _).2.1]; simp, ok_n _ db 1 _ rfl _⟩
    · exact ⟨by rw [(den3 _).2.2]; simp, ok_n _ ob 2 _ rfl _⟩
    · exact ⟨by rw [@den_val (rowsN (X3 kb db ob k d o))]; simp, @ok_val (rowsN (X3 kb db ob k d o)) _ _⟩
    · exact ⟨by rw [@den_val (rowsN (X3 kb db ob k d o))]; simp, @ok_val (rowsN (X3 kb db ob k d o)) _ _⟩
    · exact ⟨by rw [@den_val (rowsN (X3 kb db ob k d o))]; simp, @ok_val (rowsN (X3 kb db ob k d o)) _ _⟩
  · simp only [List.mem_cons, List.not_mem_nil, or_false] at hp
    rcases hp with rfl | rfl | rfl | rfl | rfl | rfl | rfl
    · exact ⟨rfl, (den3 _).1⟩
    · exact ⟨rfl, (den3 _).2.1⟩
    · exact ⟨rfl, (den3 _).2.2⟩
    · exact ⟨rfl, @den_val (rowsN (X3 kb db ob k d o)) _ _⟩
    · exact ⟨rfl, @den_val (rowsN (X3 kb db ob k d o)) _ _⟩
    · exact ⟨rfl, @den_val (rowsN (X3 kb db ob k d o)) _ _⟩
    · exact ⟨rfl, @den_val (rowsN (X3 kb db ob k d o)) _ _⟩
  have P7 : Pst w1.heap.size w7 pb x6 r6 n6 := by
    obtain ⟨g1, g2, hp⟩ := P6.pair
    exact ⟨⟨g1, g2, (bb7.block pb (lt' hp)).trans hp⟩, P6.own.bel bb7, P6.ref.bel bb7, P6.maps, P6.good⟩
  have X7 := X6.bel bb7
  have b7 : Below w1.heap.size w1 w7 := b6.trans (bb7.mono b6.size)
  have hv7 : (#[.tmp 23, .tmp 25, .const (.int .i64 0)] : Array Operand).map a7.eval = #[pt pb, .agg (alist 1 o d0).toArray, .int .i64 0] := by
    have e1 : a7.eval (.tmp 23) = pt pb := L7.get (by simp)
    have e2 : a7.eval (.tmp 25) = .agg (alist 1 o d0).toArray := L7.get (by simp)
    have e3 : a7.eval (.const (.int .i64 0)) = .int .i64 0 := rfl
    simp only [List.map_toArray, List.map_cons, List.map_nil, e1, e2, e3]
  refine Lw.wpList_wanted (wanted_true (j := 13) (t := 22) (by kernel_rfl) (by kernel_rfl) (by rw [L7.size]; decide) (L7.get (by simp))) fun J hJ => ?_
  have hc7 := PlayPut.calls (k := o) (d := d0) hT1 b7 P7 (by omega)
  refine call_op (f := 29) (ats := #[65, 42, 3]) (by kernel_rfl) (by kernel_rfl) hv7 hc7 (fun e w' he => ⟨_, he.1⟩) fun v w8 he => hJ _ _ ?_
  obtain ⟨hv, b8, x8, r8, n8, hn8, _, _, P8, f8⟩ := he
  cases hv
  rw [show (lw2.toList.getD 17 default).dst = some 26 by kernel_rfl]
  have X8 := X7.fr P7.own P7.ref f8
  have L8 := L7.put (d := 26) (v := .bool true) rfl
  generalize a7.put (some 26) (.bool true) = a8 at L8 ⊢
  have hn8 : n8 ≤ 2 := by omega
  refine seg_run (sgD kb db ob k d o (pt pb)) (us := [(3, pt kb), (4, pt db), (5, pt ob), (7, pt pb), (28, .bool true), (29, pt pb), (31, .agg (alist 5 k d0).toArray)]) X8.xok L8 (fun p hp => ?_) (fun m p hp => ?_) fun a9 w9 L9 bb9 => ?_
  · simp only [B3, List.cons_append, List.nil_append, List.mem_cons, List.not_mem_nil, or_false] at hp
    rcases hp with rfl | rfl | rfl | rfl | rfl | rfl
    · exact ⟨by rw [(den3 _).1]; simp, ok_n _ kb 0 _ rfl _⟩
    · exact ⟨by rw [(den3 _).2.1]; simp, ok_n _ db 1 _ rfl _⟩
    · exact ⟨by rw [(den3 _).2.2]; simp, ok_n _ ob 2 _ rfl _⟩
    · exact ⟨by rw [@den_val (rowsN (X3 kb db ob k d o))]; simp, @ok_val (rowsN (X3 kb db ob k d o)) _ _⟩
    · exact ⟨by rw [@den_val (rowsN (X3 kb db ob k d o))]; simp, @ok_val (rowsN (X3 kb db ob k d o)) _ _⟩
    · exact ⟨by rw [@den_val (rowsN (X3 kb db ob k d o))]; simp, @ok_val (rowsN (X3 kb db ob k d o)) _ _⟩
  · simp only [List.mem_cons, List.not_mem_nil, or_false] at hp
    rcases hp with rfl | rfl | rfl | rfl | rfl | rfl | rfl
    · exact ⟨rfl, (den3 _).1⟩
    · exact ⟨rfl, (den3 _).2.1⟩
    · exact ⟨rfl, (den3 _).2.2⟩
    · exact ⟨rfl, @den_val (rowsN (X3 kb db ob k d o)) _ _⟩
    · exact ⟨rfl, @den_val (rowsN (X3 kb db ob k d o)) _ _⟩
    · exact ⟨rfl, @den_val (rowsN (X3 kb db ob k d o)) _ _⟩
    · exact ⟨rfl, @den_val (rowsN (X3 kb db ob k d o)) _ _⟩
  have mv : ∀ {u u' : World}, Below u.heap.size u u' → Pst w1.heap.size u pb x8 r8 n8 → Pst w1.heap.size u' pb x8 r8 n8 := fun hb P => by
    obtain ⟨g1, g2, hp⟩ := P.pair
    exact ⟨⟨g1, g2, (hb.block pb (lt' hp)).trans hp⟩, P.own.bel hb, P.ref.bel hb, P.maps, P.good⟩
  have P9 := mv bb9 P8
  have X9 := X8.bel bb9
  have b9 : Below w1.heap.size w1 w9 := b8.trans (bb9.mono b8.size)
  have hv9 : (#[.tmp 29, .tmp 31, .const (.int .i64 0)] : Array Operand).map a9.eval = #[pt pb, .agg (alist 5 k d0).toArray, .int .i64 0] := by
    have e1 : a9.eval (.tmp 29) = pt pb := L9.get (by simp)
    have e2 : a9.eval (.tmp 31) = .agg (alist 5 k d0).toArray := L9.get (by simp)
    have e3 : a9.eval (.const (.int .i64 0)) = .int .i64 0 := rfl
    simp only [List.map_toArray, List.map_cons, List.map_nil, e1, e2, e3]
  refine Lw.wpList_wanted (wanted_true (j := 19) (t := 28) (by kernel_rfl) (by kernel_rfl) (by rw [L9.size]; decide) (L9.get (by simp))) fun J hJ => ?_
  have hc9 := PlayGet.calls (k := k) (d := d0) (tabs_stable _ _ hT1 b9) P9 hn8
  refine call_op (f := 29) (ats := #[65, 42, 3]) (by kernel_rfl) (by kernel_rfl) hv9 hc9 (fun e w' he => ⟨_, he.1⟩) fun v wa he => hJ _ _ ?_
  obtain ⟨hv, bba⟩ := he
  cases hv
  rw [show (lw2.toList.getD 23 default).dst = some 32 by kernel_rfl]
  have Pa := mv bba P9
  have Xa := X9.bel bba
  have ba : Below w1.heap.size w1 wa := b9.trans (bba.mono b9.size)
  have La := L9.put (d := 32) (v := .bool true) rfl
  generalize a9.put (some 32) (.bool true) = aa at La ⊢
  refine seg_run (sgE kb db ob k d o (pt pb)) (us := [(7, pt pb), (34, .bool true), (35, pt pb), (37, .agg (alist 5 o d0).toArray)]) Xa.xok La (fun p hp => ?_) (fun m p hp => ?_) fun ab wb Lb bbb => ?_
  · simp only [B3, List.cons_append, List.nil_append, List.mem_cons, List.not_mem_nil, or_false] at hp
    rcases hp with rfl | rfl | rfl | rfl | rfl | rfl
    · exact ⟨by rw [(den3 _).1]; simp, ok_n _ kb 0 _ rfl _⟩
    · exact ⟨by rw [(den3 _).2.1]; simp, ok_n _ db 1 _ rfl _⟩
    · exact ⟨by rw [(den3 _).2.2]; simp, ok_n _ ob 2 _ rfl _⟩
    · exact ⟨by rw [@den_val (rowsN (X3 kb db ob k d o))]; simp, @ok_val (rowsN (X3 kb db ob k d o)) _ _⟩
    · exact ⟨by rw [@den_val (rowsN (X3 kb db ob k d o))]; simp, @ok_val (rowsN (X3 kb db ob k d o)) _ _⟩
    · exact ⟨by rw [@den_val (rowsN (X3 kb db ob k d o))]; simp, @ok_val (rowsN (X3 kb db ob k d o)) _ _⟩
  · simp only [List.mem_cons, List.not_mem_nil, or_false] at hp
    rcases hp with rfl | rfl | rfl | rfl
    · exact ⟨rfl, @den_val (rowsN (X3 kb db ob k d o)) _ _⟩
    · exact ⟨rfl, @den_val (rowsN (X3 kb db ob k d o)) _ _⟩
    · exact ⟨rfl, @den_val (rowsN (X3 kb db ob k d o)) _ _⟩
    · exact ⟨rfl, @den_val (rowsN (X3 kb db ob k d o)) _ _⟩
  have Pb := mv bbb Pa
  have Xb := Xa.bel bbb
  have hbb : Below w1.heap.size w1 wb := ba.trans (bbb.mono ba.size)
  have hvb : (#[.tmp 35, .tmp 37, .const (.int .i64 0)] : Array Operand).map ab.eval = #[pt pb, .agg (alist 5 o d0).toArray, .int .i64 0] := by
    have e1 : ab.eval (.tmp 35) = pt pb := Lb.get (by simp)
    have e2 : ab.eval (.tmp 37) = .agg (alist 5 o d0).toArray := Lb.get (by simp)
    have e3 : ab.eval (.const (.int .i64 0)) = .int .i64 0 := rfl
    simp only [List.map_toArray, List.map_cons, List.map_nil, e1, e2, e3]
  refine Lw.wpList_wanted (wanted_true (j := 25) (t := 34) (by kernel_rfl) (by kernel_rfl) (by rw [Lb.size]; decide) (Lb.get (by simp))) fun J hJ => ?_
  have hcb := PlayGet.calls (k := o) (d := d0) (tabs_stable _ _ hT1 hbb) Pb hn8
  refine call_op (f := 29) (ats := #[65, 42, 3]) (by kernel_rfl) (by kernel_rfl) hvb hcb (fun e w' he => ⟨_, he.1⟩) fun v wc he => hJ _ _ ?_
  obtain ⟨hv, bbc⟩ := he
  cases hv
  rw [show (lw2.toList.getD 29 default).dst = some 38 by kernel_rfl]
  have Pc := mv bbc Pb
  have Xc := Xb.bel bbc
  have bc : Below w1.heap.size w1 wc := hbb.trans (bbc.mono hbb.size)
  have Lc := Lb.put (d := 38) (v := .bool true) rfl
  generalize ab.put (some 38) (.bool true) = ac at Lc ⊢
  refine seg_run (sgF kb db ob k d o (pt pb)) (us := [(40, .bool true), (41, pt pb)]) Xc.xok Lc (fun p hp => ?_) (fun m p hp => ?_) fun ad wd Ld bbd => ?_
  · simp only [B3, List.cons_append, List.nil_append, List.mem_cons, List.not_mem_nil, or_false] at hp
    rcases hp with rfl | rfl | rfl
    · exact ⟨by rw [@den_val (rowsN (X3 kb db ob k d o))]; simp, @ok_val (rowsN (X3 kb db ob k d o)) _ _⟩
    · exact ⟨by rw [@den_val (rowsN (X3 kb db ob k d o))]; simp, @ok_val (rowsN (X3 kb db ob k d o)) _ _⟩
    · exact ⟨by rw [@den_val (rowsN (X3 kb db ob k d o))]; simp, @ok_val (rowsN (X3 kb db ob k d o)) _ _⟩
  · simp only [List.mem_cons, List.not_mem_nil, or_false] at hp
    rcases hp with rfl | rfl
    · exact ⟨rfl, @den_val (rowsN (X3 kb db ob k d o)) _ _⟩
    · exact ⟨rfl, @den_val (rowsN (X3 kb db ob k d o)) _ _⟩
  have Pd := mv bbd Pc
  have Xd := Xc.bel bbd
  have bd : Below w1.heap.size w1 wd := bc.trans (bbd.mono bc.size)
  have hvd : (#[.tmp 41, .const (.int .i64 0)] : Array Operand).map ad.eval = #[pt pb, .int .i64 0] := by
    have e1 : ad.eval (.tmp 41) = pt pb := Ld.get (by simp)
    have e2 : ad.eval (.const (.int .i64 0)) = .int .i64 0 := rfl
    simp only [List.map_toArray, List.map_cons, List.map_nil, e1, e2]
  refine Lw.wpList_wanted (wanted_true (j := 31) (t := 40) (by kernel_rfl) (by kernel_rfl) (by rw [Ld.size]; decide) (Ld.get (by simp))) fun J hJ => ?_
  have hcd := Tells.calls (tabs_stable _ _ hT1 bd) Pd hn8
  refine call_op (f := 30) (ats := #[65, 3]) (by kernel_rfl) (by kernel_rfl) hvd hcd (fun e w' he => ⟨_, he.1⟩) fun v we he => hJ _ _ ?_
  obtain ⟨hv, bbe⟩ := he
  cases hv
  rw [show (lw2.toList.getD 33 default).dst = some 42 by kernel_rfl]
  have Xe := Xd.bel bbe
  have be : Below w1.heap.size w1 we := bd.trans (bbe.mono bd.size)
  have Le := Ld.put (d := 42) (v := .bool true) rfl
  generalize ad.put (some 42) (.bool true) = ae at Le ⊢
  refine seg_run (sgG kb db ob k d o) (us := [(6, .bool true)]) Xe.xok Le (fun p hp => ?_) (fun m p hp => ?_) fun af wf Lf bbf => ?_
  · simp only [B3, List.cons_append, List.nil_append, List.mem_cons, List.not_mem_nil, or_false] at hp
    rcases hp with rfl | rfl
    · exact ⟨by rw [@den_val (rowsN (X3 kb db ob k d o))]; simp, @ok_val (rowsN (X3 kb db ob k d o)) _ _⟩
    · exact ⟨by rw [@den_val (rowsN (X3 kb db ob k d o))]; simp, @ok_val (rowsN (X3 kb db ob k d o)) _ _⟩
  · simp only [List.mem_cons, List.not_mem_nil, or_false] at hp
    obtain rfl := hp
    · exact ⟨rfl, @den_val (rowsN (X3 kb db ob k d o)) _ _⟩
  have bf : Below w1.heap.size w1 wf := be.trans (bbf.mono be.size)
  show wpL Tryd.prog [_] _ af wf
  refine pieceZ lwR (Lf.sr wf) (fun v hv m6 a6 w6 hd hres hb6 => ?_) (fun ex d hd => by cases hd)
  cases hv
  rw [@den_val row0] at hres
  have sf := bf.size
  exact ⟨hd, _, hres, rfl, (b1.trans (bf.mono s1)).trans (hb6.mono (by omega))⟩
end Go.Proofs.YtbpdpnoekkkapaaDoor.PDescKinds
end
