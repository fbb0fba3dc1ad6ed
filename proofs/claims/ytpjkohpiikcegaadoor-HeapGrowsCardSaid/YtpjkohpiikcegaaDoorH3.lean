/- Heap.Add. -/
import Derived.Test.YtpjkohpiikcegaaDoorH2
set_option linter.unusedSimpArgs false
set_option linter.unusedVariables false
set_option linter.unusedSectionVars false
namespace Go.Proofs.YtpjkohpiikcegaaDoorV.PrintLast
open Go.RowKit
section
variable {P : Program} {ops : Array Oper} {Q : Exit → Act → World → Prop} {md : Region.Mode} {S : World → Prop} {ds : List Nat}
theorem wpAnyLast_all {rs : List Nat} {fuel : Nat} {listed : Array Bool} {a : Act} {w : World} (hr : Region.ready md ops listed = rs) (hne : rs ≠ [])
    (h : ∀ i ∈ rs, wpOp P ops Q i (fun a' w' => (i ∉ ds → S w → S w') ∧ wpAnyLast P md ops Q S ds fuel (listed.setIfInBounds i true) a' w') a w) : wpAnyLast P md ops Q S ds (fuel + 1) listed a w :=
  ⟨fun h0 => absurd (hr ▸ h0) hne, hr ▸ h⟩
theorem wpAnyLast_done {listed : Array Bool} {a : Act} {w : World} (hr : Region.ready md ops listed = []) (h : Q .normal a w) :
    ∀ fuel, wpAnyLast P md ops Q S ds fuel listed a w
  | 0 => ⟨hr, h⟩
  | _ + 1 => ⟨fun _ => h, by rw [hr]; simp⟩
/-- One operation alone may come up now. -/
theorem wpAnyLast_one {i : Nat} {o : Oper} {l' : Array Bool} {fuel : Nat} {listed : Array Bool} {a : Act} {w : World} (hr : (Region.ready md ops listed == [i]) = true) (hi : ops[i]? = some o) (hg : o.guard = none) (hl : listed.setIfInBounds i true = l')
    (h : o.wp P a w (fun a' w' => (i ∉ ds → S w → S w') ∧ wpAnyLast P md ops Q S ds fuel l' a' w') Q) : wpAnyLast P md ops Q S ds (fuel + 1) listed a w := by
  subst hl
  refine wpAnyLast_all (rs := [i]) (by simpa using hr) (by simp) fun q hq => ?_
  obtain rfl : q = i := by simpa using hq
  exact Go.Proofs.YtpjkohpiikcegaaDoor.PDescKinds.wpOp_of hi hg h
end
end Go.Proofs.YtpjkohpiikcegaaDoorV.PrintLast
namespace Go.Proofs.YtpjkohpiikcegaaDoor.PDescKinds
open Go.RowKit Go.Ev Go.Proofs.YtpjkohpiikcegaaDoorV.PrintLast
set_option maxRecDepth 100000
theorem info66 : ∃ (i : TypeInfo) (z : Value), Tryd.prog.info? 66 = some i ∧ i.zero = some z ∧ i.size = 1 ∧ i.bytes = 8 ∧ z.cells.size = 1 := by
  have h : (Tryd.prog.info? 66).bind (fun i => i.zero.map fun z => (i.size, i.bytes, z.cells.size)) = some (1, 8, 1) := by kernel_rfl
  obtain ⟨i, hi, h⟩ := Option.bind_eq_some_iff.1 h
  obtain ⟨z, hz, h⟩ := Option.map_eq_some_iff.1 h
  simp only [Prod.mk.injEq] at h
  exact ⟨i, z, hi, hz, h.1, h.2.1, h.2.2⟩
theorem info38 : ∃ (i : TypeInfo) (z : Value), Tryd.prog.info? 38 = some i ∧ i.zero = some z ∧ i.size = 8 ∧ i.bytes = 88 ∧ z.cells.size = 8 := by
  have h : (Tryd.prog.info? 38).bind (fun i => i.zero.map fun z => (i.size, i.bytes, z.cells.size)) = some (8, 88, 8) := by kernel_rfl
  obtain ⟨i, hi, h⟩ := Option.bind_eq_some_iff.1 h
  obtain ⟨z, hz, h⟩ := Option.map_eq_some_iff.1 h
  simp only [Prod.mk.injEq] at h
  exact ⟨i, z, hi, hz, h.1, h.2.1, h.2.2⟩
theorem und49 : Tryd.prog.underlying 49 = some (.slice 66) := by kernel_rfl
theorem und28 : Tryd.prog.underlying 28 = some (.slice 38) := by kernel_rfl
/-- An own pointer, out of a value. -/
theorem buildP {o : Oper} {a : Act} {w : World} {N : Nat} {K : Act → World → Prop} {Q : Exit → Act → World → Prop} {t : Nat → SV} {ty : TypeId} {l : List Value} (har : @AR row0 N (fun _ => 0) t (fun _ => none) a)
    (hev : @evOp row0 Tryd.prog ext (fun _ _ _ _ => none) (Ev.look t) (fun _ => none) 0 o = some (.ptr 0 0, .new ⟨ty, l.map SV.val⟩))
    (k : ∀ g w', Below w.heap.size w w' → w.heap.size ≤ g → w'.heap[g]? = some (.cells l.toArray ty (0, 0)) → K (a.put o.dst (.pointer (some ⟨g, 0, none⟩))) w') : o.wp Tryd.prog a w K Q := by
  letI := row0
  refine op_sound (I := fun _ => True) (w0 := w) ext_sound trivial (fun _ _ _ _ => trivial) (fun w _ => xok_0 w) (fun f args mem id v m' n hc => by cases hc) hev (fun _ => rfl) (fun ⟨m, n, he⟩ => by cases he) (fun x => har.look_ok x) (fun x hk => har.eval x hk) (MR.start w fun _ => 0) fun m' w' h1 h2 h3 h4 h5 => ?_
  obtain ⟨b1, b2, b3⟩ := h2.blk 0 ⟨ty, l.map SV.val⟩ (by simp [Eff.mem, upd])
  rw [den_ptr]
  refine k (m' 0) w' h2.below b1 ?_
  rw [b2, List.map_map, show (SV.den m' ∘ SV.val) = _root_.id from funext fun v => den_val _ v, List.map_id]
/-- The box of a heap, and one more, as_ plain values. -/
@[instance_reducible] def rowsHV (h : HD) (g7 : Nat) (v : V) : XEnv := rowsX (some ⟨h.hb, 0, none⟩) (h.vals.map SV.val) (some ⟨g7, 0, none⟩) (v.list.map SV.val)
theorem a_add4 (h : HD) (v : V) (g7 : Nat) : letI := rowsHV h g7 v
    (takesL Tryd.prog a4 [15] 39 [0, 1, 2, 3, 4, 5, 6, 7, 8, 9] (pickT [(0, .xp [] 0 0), (1, .val (.int .i64 1)), (3, .val (.iface 55 (.agg #[]))), (4, .val .nilIface), (7, .xp [0] 0 0)]) #[false, false, false, false, false, false, false, false, false, false, false, false, false, false, false, false]).map (fun p => ([0, 19, 23, 28].map p.1, p.2)) =
    some ([.xp [] 0 0, .xp [] 0 0, .val (.slice h.A h.n h.c), .val (.agg (objV v).toArray)], #[true, true, true, true, true, true, true, true, true, true, false, false, false, false, false, false]) := by kernel_rfl
theorem a_f13 (g : Addr) : letI := row0
    evP Tryd.prog (Ev.look (pickT [(19, .val (.pointer (some g)))])) (a4.toList.getD 13 default) = some (.val (.pointer (some g))) := by kernel_rfl
theorem a_f14 (g : Addr) : letI := row0
    evP Tryd.prog (Ev.look (pickT [(32, .val (.pointer (some g)))])) (a4.toList.getD 14 default) = some (.val (.pointer (some (g.add 4)))) := by kernel_rfl
theorem a4_get (j : Nat) (hj : j < 16) : a4[j]? = some (a4.toList.getD j default) := by
  have hs : a4.size = 16 := by kernel_rfl
  rw [← Array.getElem?_toList, List.getD_eq_getElem?_getD, List.getElem?_eq_getElem (by rw [Array.length_toList, hs]; exact hj)]
  rfl
/-- One more object. -/
def HD.more (h : HD) (A : Option Addr) (c g : Nat) (v : V) : HD := { h with A := A, n := h.n + 1, c := c, ob := fput h.ob h.n g, p := fput h.p h.n v }
theorem den_hb0 (h : HD) (g7 : Nat) (v : V) (m : Nat → Nat) : @SV.den (rowsHV h g7 v) m (.xp [] 0 0) = .pointer (some ⟨h.hb, 0, none⟩) := by
  rw [@den_xp (rowsHV h g7 v)]
  show Value.pointer (some ((⟨h.hb, 0, none⟩ : Addr).add (0 * h.vals.length + 0))) = _
  rw [Nat.zero_mul, add_none]
theorem den_hb1 (h : HD) (g7 : Nat) (v : V) (m : Nat → Nat) : @SV.den (rowsHV h g7 v) m (.xp [0] 0 0) = .pointer (some ⟨g7, 0, none⟩) := by
  rw [@den_xp (rowsHV h g7 v)]
  show Value.pointer (some ((⟨g7, 0, none⟩ : Addr).add (0 * v.list.length + 0))) = _
  rw [Nat.zero_mul, add_none]
section
variable {B : Nat} {T : List Nat} {w w' w0 : World} {h : HD} {a : Act} {Q : Exit → Act → World → Prop}
theorem OwnH.xv (hO : OwnH B w h) {g7 : Nat} {v : V} (hv : w.heap[g7]? = some (.cells v.list.toArray 35 (0, 0))) : @XOk (rowsHV h g7 v) w := by
  refine xok_X (fun e => xrow_val hO.box_lt.2 (fun k u hk => ?_) e) (fun e => xrow_val (Array.getElem?_eq_some_iff.1 hv).1 (fun k u hk => ?_) e)
  · have := own_at (f := fun _ => h.vals) (fun _ => rfl) hO.box (t := 0) (by omega) k u hk
    rw [Nat.zero_mul, Nat.zero_add] at this
    exact this
  · rw [add_none, cell_of_row w g7 _ _ 35 (0, 0) hv]
    simpa using hk
/-- A pure operation over values alone. -/
theorem op_val {N : Nat} {o : Oper} {ts us : List (Nat × Value)} {v : Value} {d : Nat} {K : Act → World → Prop} (hk : Kp N ts a) (hu : ∀ p ∈ us, p ∈ ts) (hev : @evP row0 Tryd.prog (Ev.look (pickT (us.map fun p => (p.1, .val p.2)))) o = some (.val v)) (hd : o.dst = some d)
    (k : K (a.put (some d) v) w) : o.wp Tryd.prog a w K Q := by
  letI := row0
  have har := RP.ar_none hk hu w
  have := (evP_run (m := fun _ => 0) (xok_0 w) (fun x => har.look_ok x) (fun x hk => har.eval x hk) hev).1
  rw [den_val] at this
  unfold Oper.wp
  rw [this, Oper.upon_value, hd]
  exact k
theorem rowPut (f : Nat → List Value) (n : Nat) (x : List Value) : ((List.range (n + 1)).flatMap fun j => (fput f n x) j) = ((List.range n).flatMap f) ++ x := by
  rw [List.range_succ, List.flatMap_append, flat_congr n (g := f) fun t ht => by simp only [fput]; rw [if_neg (by omega)]]
  simp [fput]
abbrev AK (h : HD) (g7 : Nat) : List (Nat × Value) := [(0, .pointer (some ⟨h.hb, 0, none⟩)), (1, .int .i64 1), (3, .iface 55 (.agg #[])), (4, .nilIface), (7, .pointer (some ⟨g7, 0, none⟩))]
set_option maxHeartbeats 1000000 in
theorem add_reg4 {g7 : Nat} {v : V} (hO : OwnH B w h) (hB : B ≤ w.heap.size) (hn : h.n ≤ 1000000) (hv : w.heap[g7]? = some (.cells v.list.toArray 35 (0, 0))) (hk : Kp 39 (AK h g7) a)
    (hQ : ∀ a' w' A c g, Kp 39 [(0, .pointer (some ⟨h.hb, 0, none⟩))] a' → OwnH B w' (h.more A c g v) → FrT B [51, 66] w w' → w'.heap[g]? ≠ none → w.heap.size ≤ g → Q .normal a' w') : (Code.region 4 a4 true).wp Tryd.prog Q a w := by
  refine region_last (fun w' => @XOk (rowsHV h g7 v) w') [15] ?_
  rw [show a4.size = 16 by kernel_rfl]
  have hd : FrT B [51, 66] w { w with drawn := w.drawn + 1 } := FrT.drew
  have hO1 : OwnH B { w with drawn := w.drawn + 1 } h := ⟨hO.box, hO.row, hO.obj⟩
  have hv1 : ({ w with drawn := w.drawn + 1 } : World).heap[g7]? = some (.cells v.list.toArray 35 (0, 0)) := hv
  have hB1 : B ≤ ({ w with drawn := w.drawn + 1 } : World).heap.size := hB
  have hsz : w.heap.size = ({ w with drawn := w.drawn + 1 } : World).heap.size := rfl
  generalize hw1 : ({ w with drawn := w.drawn + 1 } : World) = w1 at hd hO1 hv1 hB1 hsz ⊢
  have hS1 : @XOk (rowsHV h g7 v) w1 := hO1.xv hv1
  have har0 : @AR (rowsHV h g7 v) 39 (fun _ => 0) (pickT [(0, .xp [] 0 0), (1, .val (.int .i64 1)), (3, .val (.iface 55 (.agg #[]))), (4, .val .nilIface), (7, .xp [0] 0 0)]) (fun _ => none) a := by
    letI := rowsHV h g7 v
    refine hk.ar w1 fun p hp => ?_
    simp only [List.mem_cons, List.not_mem_nil, or_false] at hp
    rcases hp with rfl | rfl | rfl | rfl | rfl
    · exact ⟨by rw [den_hb0]; simp, ok_xp.2 (Nat.zero_lt_one)⟩
    · exact ⟨by rw [den_val]; simp, ok_val _ _⟩
    · exact ⟨by rw [den_val]; simp, ok_val _ _⟩
    · exact ⟨by rw [den_val]; simp, ok_val _ _⟩
    · exact ⟨by rw [den_hb1]; simp, ok_xp.2 (Nat.zero_lt_one)⟩
  show wpAnyLast Tryd.prog .any a4 _ _ _ ([0, 1, 2, 3, 4, 5, 6, 7, 8, 9].length + 6) #[false, false, false, false, false, false, false, false, false, false, false, false, false, false, false, false] a w1
  refine @takesL_cut (rowsHV h g7 v) _ _ _ _ _ _ _ (fun w h => h) (by kernel_rfl) _ _ _ _ _ _ _ _ _ (a_add4 h v g7) har0 hS1 fun a1 t1 har1 e => ?_
  simp only [List.map_cons, List.map_nil, List.cons.injEq, and_true] at e
  obtain ⟨e0, e19, e23, e28⟩ := e
  have hP : @SV.den (rowsHV h g7 v) (fun _ => 0) (.xp [] 0 0) = .pointer (some ⟨h.hb, 0, none⟩) := by
    exact den_hb0 h g7 v _
  have K1 : Kp 39 [(0, .pointer (some ⟨h.hb, 0, none⟩)), (19, .pointer (some ⟨h.hb, 0, none⟩)), (23, .slice h.A h.n h.c), (28, .agg (objV v).toArray)] a1 := by
    refine ⟨@AR.size (rowsHV h g7 v) _ _ _ _ _ har1, @AR.defers (rowsHV h g7 v) _ _ _ _ _ har1, fun p hp => ?_⟩
    simp only [List.mem_cons, List.not_mem_nil, or_false] at hp
    rcases hp with rfl | rfl | rfl | rfl
    · exact (@ar_get (rowsHV h g7 v) _ _ _ _ _ har1 _ _ e0 rfl).trans hP
    · exact (@ar_get (rowsHV h g7 v) _ _ _ _ _ har1 _ _ e19 rfl).trans hP
    · exact @ar_eval (rowsHV h g7 v) _ _ _ _ _ har1 _ _ e23
    · exact @ar_eval (rowsHV h g7 v) _ _ _ _ _ har1 _ _ e28
  -- the box of the object
  refine wpAnyLast_one (i := 10) (l' := #[true, true, true, true, true, true, true, true, true, true, true, false, false, false, false, false]) (by kernel_rfl) (a4_get 10 (by decide)) (by kernel_rfl) (by kernel_rfl) ?_
  refine buildP (RP.ar_none (us := [(28, .agg (objV v).toArray)]) K1 (by simp) w1) (t_addb v) fun g w2 b2 hg hw2 => ?_
  rw [show (a4.toList.getD 10 default).dst = some 29 by kernel_rfl]
  refine ⟨fun _ h => @XOk.below (rowsHV _ g7 v) _ _ h b2, ?_⟩
  have K2 := K1.put (d := 29) (v := .pointer (some ⟨g, 0, none⟩)) rfl
  generalize hA2 : a1.put (some 29) (.pointer (some ⟨g, 0, none⟩)) = a2 at K2 ⊢
  -- the slice of one
  refine wpAnyLast_one (i := 11) (l' := #[true, true, true, true, true, true, true, true, true, true, true, true, false, false, false, false]) (by kernel_rfl) (a4_get 11 (by decide)) (by kernel_rfl) (by kernel_rfl) ?_
  refine build1 (l := [.pointer (some ⟨g, 0, none⟩)]) (RP.ar_none (us := [(29, .pointer (some ⟨g, 0, none⟩))]) K2 (by simp) w2) (t_addn ⟨g, 0, none⟩) fun gs w3 b3 hgs hw3 => ?_
  rw [show (a4.toList.getD 11 default).dst = some 30 by kernel_rfl]
  refine ⟨fun _ h => @XOk.below (rowsHV _ g7 v) _ _ h b3, ?_⟩
  have K3 := K2.put (d := 30) (v := .slice (some ⟨gs, 0, none⟩) 1 1) rfl
  generalize hA3 : a2.put (some 30) (.slice (some ⟨gs, 0, none⟩) 1 1) = a3 at K3 ⊢
  have hO3 := (hO1.below b2).below b3
  have hob3 : w3.heap[g]? = some (.cells (objV v).toArray 74 (0, 0)) := (b3.block g (Array.getElem?_eq_some_iff.1 hw2).1).trans hw2
  have f3 : FrT B [51, 66] w w3 := (hd.then b2).then b3
  have hv3 : w3.heap[g7]? = some (.cells v.list.toArray 35 (0, 0)) := by
    rw [b3.block g7 (Nat.lt_of_lt_of_le (Array.getElem?_eq_some_iff.1 hv1).1 b2.size), b2.block g7 (Array.getElem?_eq_some_iff.1 hv1).1]
    exact hv1
  -- the append
  refine wpAnyLast_one (i := 12) (l' := #[true, true, true, true, true, true, true, true, true, true, true, true, true, false, false, false]) (by kernel_rfl) (a4_get 12 (by decide)) (by kernel_rfl) (by kernel_rfl) ?_
  obtain ⟨i66, z66, q1, q2, q3, q4, q5⟩ := info66
  have hM : maxLen = 9223372036854775807 := by decide +kernel
  have hB3 : B ≤ w3.heap.size := Nat.le_trans hB1 (Nat.le_trans b2.size b3.size)
  refine wp_append_fresh (.tmp 23) (.tmp 30) 49 (by kernel_rfl) B 66 i66 z66 1 8 und49 q1 q2 q3 q4 q5 (by decide) (.slice h.A h.n h.c) h.n _ (K3.get (by simp)) hO3.row ⟨gs, 0, none⟩ 1 1 [.pointer (some ⟨g, 0, none⟩)] (K3.get (by simp)) rfl (fun j u hu => ?_) (fun u hu => by
    obtain rfl := List.mem_singleton.1 hu
    rfl) (by omega) (by omega) hB3 fun u w4 hown hgr hfr => ?_
  · rw [add_none, cell_of_row w3 gs _ _ 66 (0, 0) hw3]
    simpa using hu
  have f34 : FrT B [66] w3 w4 := FrT.own hO3.row (Nat.le_refl _) hgr
  have hbox4 := f34.row hO3.box (by simp)
  have hobj4 : ∀ j, j < h.n → w4.heap[h.ob j]? = some (.cells (objV (h.p j)).toArray 74 (0, 0)) := fun j hj => by
    have e := (hO3.obj j hj).2
    rw [f34.block _ (Array.getElem?_eq_some_iff.1 e).1 (.inr fun cs ty c hc ht => by
      rw [e] at hc
      cases hc
      simp at ht)]
    exact e
  have hob4 : w4.heap[g]? = some (.cells (objV v).toArray 74 (0, 0)) := by
    rw [f34.block g (Array.getElem?_eq_some_iff.1 hob3).1 (.inr fun cs ty c hc ht => by
      rw [hob3] at hc
      cases hc
      simp at ht)]
    exact hob3
  have hv4 : w4.heap[g7]? = some (.cells v.list.toArray 35 (0, 0)) := by
    rw [f34.block g7 (Array.getElem?_eq_some_iff.1 hv3).1 (.inr fun cs ty c hc ht => by
      rw [hv3] at hc
      cases hc
      simp at ht)]
    exact hv3
  refine ⟨fun _ _ => ?_, ?_⟩
  · refine xok_X (fun e => xrow_val (by
      rcases row_slice hbox4 with ⟨e, _⟩ | ⟨g', e, h1, h2⟩
      · cases e
      · cases e
        exact h2) (fun k u hk => ?_) e) (fun e => xrow_val (Array.getElem?_eq_some_iff.1 hv4).1 (fun k u hk => ?_) e)
    · have := own_at (f := fun _ => h.vals) (fun _ => rfl) hbox4 (t := 0) (by omega) k u hk
      rw [Nat.zero_mul, Nat.zero_add] at this
      exact this
    · rw [add_none, cell_of_row w4 g7 _ _ 35 (0, 0) hv4]
      simpa using hk
  rw [show (a4.toList.getD 12 default).dst = some 31 by kernel_rfl]
  have K4 := K3.put (d := 31) (v := u) rfl
  generalize hA4 : a3.put (some 31) u = a4' at K4 ⊢
  -- where it goes
  refine wpAnyLast_one (i := 13) (l' := #[true, true, true, true, true, true, true, true, true, true, true, true, true, true, false, false]) (by kernel_rfl) (a4_get 13 (by decide)) (by kernel_rfl) (by kernel_rfl) ?_
  refine op_val (us := [(19, .pointer (some ⟨h.hb, 0, none⟩))]) (d := 32) K4 (by simp) (a_f13 ⟨h.hb, 0, none⟩) (by kernel_rfl) ⟨fun _ h => h, ?_⟩
  have K5 := K4.put (d := 32) (v := .pointer (some ⟨h.hb, 0, none⟩)) rfl
  generalize hA5 : a4'.put (some 32) (.pointer (some ⟨h.hb, 0, none⟩)) = a5 at K5 ⊢
  refine wpAnyLast_one (i := 14) (l' := #[true, true, true, true, true, true, true, true, true, true, true, true, true, true, true, false]) (by kernel_rfl) (a4_get 14 (by decide)) (by kernel_rfl) (by kernel_rfl) ?_
  refine op_val (us := [(32, .pointer (some ⟨h.hb, 0, none⟩))]) (d := 33) K5 (by simp) (a_f14 ⟨h.hb, 0, none⟩) (by kernel_rfl) ⟨fun _ h => h, ?_⟩
  rw [show (⟨h.hb, 0, none⟩ : Addr).add 4 = ⟨h.hb, 4, none⟩ by rw [add_none]]
  have K6 := K5.put (d := 33) (v := .pointer (some ⟨h.hb, 4, none⟩)) rfl
  generalize hA6 : a5.put (some 33) (.pointer (some ⟨h.hb, 4, none⟩)) = a6 at K6 ⊢
  refine wpAnyLast_one (i := 15) (l' := #[true, true, true, true, true, true, true, true, true, true, true, true, true, true, true, true]) (by kernel_rfl) (a4_get 15 (by decide)) (by kernel_rfl) (by kernel_rfl) ?_
  obtain ⟨hu, _⟩ := own_slice hown
  obtain ⟨w5, hst, hbox5, hg5⟩ := own_splice (P := Tryd.prog) (ty := 49) (t := 0) (o := 4) (x := u) hbox4 (fun _ => rfl) (by omega) (by rw [hu]; kernel_rfl) (by rw [hu]; exact Nat.le_refl 5) (fun y hy => by
    rw [hu] at hy
    obtain rfl : y = .slice (slA u) (h.n + 1) (slC u) := by simpa [Value.cells] using hy
    rfl)
  unfold Oper.wp
  rw [store_run (o := a4.toList.getD 15 default) (t := 49) (x := .tmp 33) (y := .tmp 31) (by kernel_rfl) (K6.get (by simp)) (K6.get (by simp)) hst, Oper.upon_skip, show (a4.toList.getD 15 default).dst = none by kernel_rfl]
  refine ⟨fun hn => absurd (by simp) hn, ?_⟩
  refine wpAnyLast_done (by kernel_rfl) ?_ 0
  have f45 : FrT B [51] w4 w5 := FrT.own hbox4 (Nat.le_refl _) hg5
  have f05 : FrT B [51, 66] w w5 := (f3.trans (f34.mono (Nat.le_refl _) (by simp))).trans (f45.mono (Nat.le_refl _) (by simp))
  have keep : ∀ (k : Nat) (l : Array Value), w4.heap[k]? = some (.cells l 74 (0, 0)) → w5.heap[k]? = some (.cells l 74 (0, 0)) := fun k l e => by
    rw [f45.block k (Array.getElem?_eq_some_iff.1 e).1 (.inr fun cs ty c hc ht => by
      rw [e] at hc
      cases hc
      simp at ht)]
    exact e
  refine hQ a6 w5 (slA u) (slC u) g (K6.sub (by simp)) ⟨?_, ?_, fun j hj => ?_⟩ f05 (by rw [keep g _ hob4]; simp) (by rw [hsz]; exact hg)
  · have e : (HD.more h (slA u) (slC u) g v).vals = fput (fun _ => h.vals) 0 (splice h.vals 4 u.cells.toList) 0 := by
      rw [hu]
      rfl
    have := hbox5
    rw [flat_congr 1 (g := fun _ => (HD.more h (slA u) (slC u) g v).vals) fun j hj => by
      obtain rfl : j = 0 := by omega
      exact e.symm] at this
    exact this
  · have := f45.row hown (by simp)
    rw [hu] at this
    show w5.ownsRow B 66 1 (.slice (slA u) (h.n + 1) (slC u)) (h.n + 1) ((List.range (h.n + 1)).flatMap fun j => [Value.pointer (some ⟨fput h.ob h.n g j, 0, none⟩)])
    rw [flat_congr (h.n + 1) (g := fun j => fput (fun j => [Value.pointer (some ⟨h.ob j, 0, none⟩)]) h.n [.pointer (some ⟨g, 0, none⟩)] j) fun j hj => by
      show [Value.pointer (some ⟨fput h.ob h.n g j, 0, none⟩)] = _
      unfold fput
      split <;> rfl, rowPut]
    exact this
  · show B ≤ fput h.ob h.n g j ∧ w5.heap[fput h.ob h.n g j]? = some (.cells (objV (fput h.p h.n v j)).toArray 74 (0, 0))
    have hj : j < h.n + 1 := hj
    unfold fput
    by_cases hjn : j = h.n
    · rw [if_pos hjn, if_pos hjn]
      exact ⟨Nat.le_trans hB1 hg, keep _ _ hob4⟩
    · rw [if_neg hjn, if_neg hjn]
      exact ⟨(hO.obj j (by omega)).1, keep _ _ (hobj4 j (by omega))⟩
end
end Go.Proofs.YtpjkohpiikcegaaDoor.PDescKinds
