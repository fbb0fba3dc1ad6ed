/- cameoref10.Patch: the regions that write, those that draw apart. -/
import Derived.Test.YtaojjpdlfnphiaaY5
set_option linter.unusedSimpArgs false
set_option linter.unusedVariables false
set_option linter.unusedSectionVars false
namespace Go.Proofs.Ytaojjpdlfnphiaa.PDescKinds
open Go.RowKit Go.Ev
theorem boxed_ne {w : World} {gb B n z : Nat} {e : TypeId} {δ : Dl} {u : Value} {xs : List Value} (hbx : Boxed w gb δ) (h : w.ownsRow B e z u n xs) (he : e ≠ 35) : ∀ b, u.ownBlock = some b → b ≠ gb := by
  intro b hb e1
  subst e1
  rcases h.2 with ⟨rfl, _⟩ | ⟨g, cap, cur, rfl, h2, h3, _⟩
  · cases hb
  · cases hb
    rw [show w.heap[g]? = _ from hbx] at h3
    cases h3
    exact he rfl
theorem shapes_ne {w : World} {B B' n n' : Nat} {v u : Value} {xs ys : List Value} (h : w.ownsRow B 52 8 v n xs) (h' : w.ownsRow B' 55 20 u n' ys) : ∀ b c, v.ownBlock = some b → u.ownBlock = some c → b ≠ c := by
  intro b c hb hc e
  rcases own_ne h h' with e1 | e1
  · rw [hc] at e1; cases e1
  · exact e1 (by rw [hb, hc, e])
namespace RP
set_option maxRecDepth 100000
theorem o22_eq : o22.toList = o22.toList.getD 0 default :: ((o22.toList.drop 1).take 2 ++ (o22.toList.getD 3 default :: ([o22.toList.getD 4 default] ++ [o22.toList.getD 5 default]))) := by kernel_rfl
theorem e22n : letI := row0
    evOp Try.prog ext (fun _ _ _ _ => none) (Ev.look (pickT [])) (fun _ => none) 0 (o22.toList.getD 0 default) = some (.slc 0 0 0 0, .new ⟨55, []⟩) := by kernel_rfl
theorem e22b (bA sA : Option Addr) (δ : Dl) (s : Sh) (A : Option Addr) (n c : Nat) : letI := rowsX bA δ.cells sA ((shVals s (.slice A n c)).map SV.val)
    (reads Try.prog 150 ((o22.toList.drop 1).take 2) (pickT [(8, .xp [] 0 0), (9, .xp [0] 0 0)])).map (fun t => [117].map t) = some [.val (.slice A n c)] := by kernel_rfl
theorem e22c (P : Addr) (v : Value) : letI := row0
    (reads Try.prog 150 [o22.toList.getD 4 default] (pickT [(9, .val (.pointer (some P))), (118, .val v)])).map (fun t => [118, 119].map t) = some [.val v, .val (.pointer (some (P.add 7)))] := by kernel_rfl
theorem o23_eq : o23.toList = o23.toList.take 5 ++ (o23.toList.getD 5 default :: ([o23.toList.getD 6 default] ++ [o23.toList.getD 7 default])) := by kernel_rfl
theorem e23a (bA sA : Option Addr) (δ : Dl) (s : Sh) (A : Option Addr) (n c : Nat) (j : Int) : letI := rowsX bA δ.cells sA ((shVals s (.slice A n c)).map SV.val)
    (reads Try.prog 150 (o23.toList.take 5) (pickT [(8, .xp [] 0 0), (9, .xp [0] 0 0), (10, .val (.int .i64 j))])).map (fun t => [121, 122, 124].map t) = some [.val (.slice A n c), .val (.int .i64 j), .val δ.d.agg] := by kernel_rfl
theorem e23i [XEnv] (A : Addr) (n c : Nat) (j : Int) (u : Value) : evP Try.prog (Ev.look (pickT [(121, .val (.slice (some A) n c)), (122, .val (.int .i64 j)), (124, .val u)])) (o23.toList.getD 5 default) = bif decide (0 ≤ j) && decide (j < (n : Int)) then some (.val (.pointer (some (A.add (j.toNat * 20))))) else none := by kernel_rfl
theorem e23c (P : Addr) (v : Value) : letI := row0
    (reads Try.prog 150 [o23.toList.getD 6 default] (pickT [(125, .val (.pointer (some P))), (124, .val v)])).map (fun t => [124, 126].map t) = some [.val v, .val (.pointer (some (P.add 2)))] := by kernel_rfl
abbrev RL (v1 v6 v7 : Value) (gb g9 : Nat) (f : Int) : List (Nat × Value) := [(1, v1), (6, v6), (7, v7), (8, .pointer (some ⟨gb, 0, none⟩)), (9, .pointer (some ⟨g9, 0, none⟩)), (10, .int .i64 f)]
section
variable {v1 v6 v7 : Value} {gb g9 : Nat} {f : Int} {a : Act} {w w0 w1 : World} {Q : Exit → Act → World → Prop} {δ : Dl} {B : Nat} {mo : Mo} {k : Nat} {s s' : Sh}
theorem Rs.kp (h : Rs v1 v6 v7 gb g9 f a) : Kp 150 (RL v1 v6 v7 gb g9 f) a := by
  refine ⟨h.size, h.defers, fun p hp => ?_⟩
  simp only [List.mem_cons, List.not_mem_nil, or_false] at hp
  rcases hp with rfl | rfl | rfl | rfl | rfl | rfl
  · exact h.t1
  · exact h.t6
  · exact h.t7
  · exact h.t8
  · exact h.t9
  · exact h.t10
theorem Rs.of {ts : List (Nat × Value)} (h : Kp 150 ts a) (hs : ∀ p ∈ RL v1 v6 v7 gb g9 f, p ∈ ts) : Rs v1 v6 v7 gb g9 f a :=
  ⟨h.size, h.defers, h.vals _ (hs (1, v1) (by simp)), h.vals _ (hs (6, v6) (by simp)), h.vals _ (hs (7, v7) (by simp)), h.vals _ (hs (8, .pointer (some ⟨gb, 0, none⟩)) (by simp)), h.vals _ (hs (9, .pointer (some ⟨g9, 0, none⟩)) (by simp)), h.vals _ (hs (10, .int .i64 f) (by simp))⟩
theorem Box9.xrow (h9 : Box9 B w0 w g9 mo k s) (e : XEnv) : @XRow e w ⟨some ⟨g9, 0, none⟩, ((shVals s s.row).map SV.val).length, 1, 1, fun _ => (shVals s s.row).map SV.val⟩ :=
  xrow_val (l := shVals s s.row) (w := w) (A := ⟨g9, 0, none⟩) (h9.box.lt g9 rfl).2 (fun k v hk => by
    have := own_at (fun t => shVals_length _ _) h9.box (t := 0) (by decide) k v hk
    rw [Nat.zero_mul, Nat.zero_add] at this
    exact this) e
theorem Box9.xok (h9 : Box9 B w0 w g9 mo k s) (hbx : Boxed w gb δ) : @XOk (rowsX (some ⟨gb, 0, none⟩) δ.cells (some ⟨g9, 0, none⟩) ((shVals s s.row).map SV.val)) w := xok_X hbx.row h9.xrow
/-- The delta's box and the shape's, as rows. -/
theorem ar_two {N : Nat} {ts us : List (Nat × Value)} {b t : List SV} (h : Kp N ts a) (h8 : (8, .pointer (some ⟨gb, 0, none⟩)) ∈ ts) (h9 : (9, .pointer (some ⟨g9, 0, none⟩)) ∈ ts) (hu : ∀ p ∈ us, p ∈ ts) (w : World) :
    @AR (rowsX (some ⟨gb, 0, none⟩) b (some ⟨g9, 0, none⟩) t) N (fun _ => 0) (pickT ((8, .xp [] 0 0) :: (9, .xp [0] 0 0) :: us.map fun p => (p.1, .val p.2))) (fun _ => none) a := by
  letI := rowsX (some ⟨gb, 0, none⟩) b (some ⟨g9, 0, none⟩) t
  refine h.ar w fun p hp => ?_
  rcases List.mem_cons.1 hp with rfl | hp
  · refine ⟨?_, ok_xp.2 (by show 0 < 1; omega)⟩
    rw [den_xp]
    have e : (some ((⟨gb, 0, none⟩ : Addr).add (0 * b.length + 0))) = some ⟨gb, 0, none⟩ := by rw [add_none]; simp
    show (8, Value.pointer (some ((⟨gb, 0, none⟩ : Addr).add (0 * b.length + 0)))) ∈ ts
    rw [e]
    exact h8
  rcases List.mem_cons.1 hp with rfl | hp
  · refine ⟨?_, ok_xp.2 (by show 0 < 1; omega)⟩
    rw [den_xp]
    have e : (some ((⟨g9, 0, none⟩ : Addr).add (0 * t.length + 0))) = some ⟨g9, 0, none⟩ := by rw [add_none]; simp
    show (9, Value.pointer (some ((⟨g9, 0, none⟩ : Addr).add (0 * t.length + 0)))) ∈ ts
    rw [e]
    exact h9
  · obtain ⟨q, hq, rfl⟩ := List.mem_map.1 hp
    refine ⟨?_, ok_val _ _⟩
    rw [den_val]
    exact hu q hq
theorem ar_none {N : Nat} {ts us : List (Nat × Value)} (h : Kp N ts a) (hu : ∀ p ∈ us, p ∈ ts) (w : World) : @AR row0 N (fun _ => 0) (pickT (us.map fun p => (p.1, .val p.2))) (fun _ => none) a := by
  letI := row0
  refine h.ar w fun p hp => ?_
  obtain ⟨q, hq, rfl⟩ := List.mem_map.1 hp
  refine ⟨?_, ok_val _ _⟩
  rw [den_val]
  exact hu q hq
/-- The shape in the box takes another row of properties. -/
theorem Box9.reprow {u : Value} (h9 : Box9 B w0 w g9 mo k s) (hbx : Boxed w gb δ) (hB : B ≤ w.heap.size) (hb : Below w.heap.size w w1) (hu : w1.ownsRow w.heap.size 55 20 u s'.n (Copy.rowOf s')) (hr : s'.row = u) (h1 : s'.cl = s.cl) (h2 : s'.p = s.p) (h3 : s'.x = s.x) :
    ∃ w2, (Instr.storeAt 50 (.pointer (some ⟨g9, 7, none⟩)) u).run Try.prog w1 = .ok () w2 ∧ Box9 B w0 w2 g9 mo k s' ∧ (∀ t b c, s'.row.ownBlock = some b → (mo.g t).row.ownBlock = some c → b ≠ c) ∧ Boxed w2 gb δ ∧ Below B w w2 := by
  have hbx1 : Pa.BoxS B w1 g9 s s.row := h9.box.kept (grown_of hb none) (.inr (by simp [Value.ownBlock]))
  have hcs : u.cells.toList = [u] := by rw [(own_slice hu).1]; rfl
  have hcz : u.cells.size = 1 := by rw [← Array.length_toList, hcs]; rfl
  obtain ⟨w2, hst, hown, hgr⟩ := own_splice (P := Try.prog) (ty := 50) (x := u) (t := 0) (o := 7) hbx1 (fun t => shVals_length _ _) (by decide) (by rw [hcz]; kernel_rfl) (by rw [hcz]; exact Nat.le_refl 8) (fun y hy => by
    rw [hcs] at hy
    obtain rfl := List.mem_singleton.1 hy
    rw [(own_slice hu).1]
    rfl)
  have hg9 := h9.box.lt g9 rfl
  have hO1 := h9.own.below hb
  have hfr : ∀ t b c, s'.row.ownBlock = some b → (mo.g t).row.ownBlock = some c → b ≠ c := by
    intro t b c hb hc
    rw [hr] at hb
    have h1 := (hu.lt b hb).1
    have h2 := ((h9.own.props t).lt c hc).2
    omega
  refine ⟨w2, hst, ⟨?_, ?_, ?_, h9.out, .inr hfr⟩, hfr, ?_, ?_⟩
  · have : ((List.range 1).flatMap (fput (fun _ => shVals s s.row) 0 (splice (shVals s s.row) 7 u.cells.toList))) = ((List.range 1).flatMap fun _ => shVals s' s'.row) := by
      rw [hcs, hr]
      unfold shVals
      rw [h1, h2, h3]
      rfl
    rw [this] at hown
    exact hown
  · rw [hr]
    refine (own_base hu hB).kept hgr ?_
    cases hb' : u.ownBlock with
    | none => exact .inl rfl
    | some b =>
      refine .inr fun e => ?_
      have h1 := (hu.lt b hb').1
      have h2 := Option.some.inj e
      omega
  · refine hO1.kept hgr ?_ (fun j => ?_)
    · cases hb : (Value.slice mo.A mo.n mo.c).ownBlock with
      | none => exact .inl rfl
      | some b => exact .inr fun e => h9.out b hb (Option.some.inj e)
    · cases hc : (mo.g j).row.ownBlock with
      | none => exact .inl rfl
      | some c => exact .inr fun e => shapes_ne h9.box (h9.own.props j) g9 c rfl hc (Option.some.inj e).symm
  · have hg : gb < w.heap.size := (Array.getElem?_eq_some_iff.1 hbx).1
    have hne : g9 ≠ gb := boxed_ne hbx h9.box (by decide) g9 rfl
    exact (hgr.block gb (Nat.lt_of_lt_of_le hg hb.size) (fun e => hne (Option.some.inj e).symm)).trans (hbx.kept hb hg)
  · exact (hb.mono hB).trans (below_grown (Nat.le_trans hB hb.size) hgr hg9.1)
/-- The properties are cloned. -/
theorem reg22 (h : Rs v1 v6 v7 gb g9 f a) (h9 : Box9 B w0 w g9 mo k s) (hbx : Boxed w gb δ) (hB : B ≤ w.heap.size) (hn : s.n ≤ 2000000) (hpos : 0 < s.n)
    (hQ : ∀ a' w' s', Rs v1 v6 v7 gb g9 f a' → s'.cl = s.cl → s'.p = s.p → s'.x = s.x → s'.n = s.n → s'.g = s.g → Box9 B w0 w' g9 mo k s' → (∀ t b c, s'.row.ownBlock = some b → (mo.g t).row.ownBlock = some c → b ≠ c) → Boxed w' gb δ → Below B w w' → Q .normal a' w') : (Code.region 22 o22 false).wp Try.prog Q a w := by
  rcases row_slice h9.row with ⟨_, h0, _⟩ | ⟨g2, hA2, hB2, hlt2⟩
  · omega
  have hrow : s.row = .slice (some ⟨g2, 0, none⟩) s.n s.c := by unfold Sh.row; rw [hA2]
  refine wp_region_list ?_
  rw [o22_eq]
  refine wpList_plain (by kernel_rfl) fun K hK => ?_
  refine build0 (ar_none (us := []) h.kp (fun p hp => by cases hp) w) e22n fun g w1 b1 hg hh => hK _ _ ?_
  rw [show (o22.toList.getD 0 default).dst = some 115 by kernel_rfl]
  have K1 := h.kp.put (d := 115) (v := .slice (some ⟨g, 0, none⟩) 0 0) rfl
  generalize hA1 : a.put (some 115) (.slice (some ⟨g, 0, none⟩) 0 0) = a1 at K1 ⊢
  have hx1 : @XOk (rowsX (some ⟨gb, 0, none⟩) δ.cells (some ⟨g9, 0, none⟩) ((shVals s (.slice (some ⟨g2, 0, none⟩) s.n s.c)).map SV.val)) w1 := by
    have := @XOk.below (rowsX (some ⟨gb, 0, none⟩) δ.cells (some ⟨g9, 0, none⟩) ((shVals s s.row).map SV.val)) _ _ (h9.xok hbx) b1
    rw [hrow] at this
    exact this
  have har' := ar_two (us := []) (gb := gb) (g9 := g9) (b := δ.cells) (t := (shVals s (.slice (some ⟨g2, 0, none⟩) s.n s.c)).map SV.val) K1 (by simp) (by simp) (by simp) w1
  refine @wpList_readsF (rowsX (some ⟨gb, 0, none⟩) δ.cells (some ⟨g9, 0, none⟩) ((shVals s (.slice (some ⟨g2, 0, none⟩) s.n s.c)).map SV.val)) _ _ _ _ _ _ _ _ _ _ _ _ [1, 6, 7, 8, 9, 10, 115] hx1 (e22b (some ⟨gb, 0, none⟩) (some ⟨g9, 0, none⟩) δ s (some ⟨g2, 0, none⟩) s.n s.c) (by kernel_rfl) har' fun a2 t2 har2 e hk2 => ?_
  simp only [List.map_cons, List.map_nil, List.cons.injEq, and_true] at e
  have q117 : a2.eval (.tmp 117) = .slice (some ⟨g2, 0, none⟩) s.n s.c := @ar_eval (rowsX (some ⟨gb, 0, none⟩) δ.cells (some ⟨g9, 0, none⟩) ((shVals s (.slice (some ⟨g2, 0, none⟩) s.n s.c)).map SV.val)) _ _ _ _ _ har2 _ _ e
  have K2 := K1.moved (@AR.size (rowsX (some ⟨gb, 0, none⟩) δ.cells (some ⟨g9, 0, none⟩) ((shVals s (.slice (some ⟨g2, 0, none⟩) s.n s.c)).map SV.val)) _ _ _ _ _ har2) (@AR.defers (rowsX (some ⟨gb, 0, none⟩) δ.cells (some ⟨g9, 0, none⟩) ((shVals s (.slice (some ⟨g2, 0, none⟩) s.n s.c)).map SV.val)) _ _ _ _ _ har2) (fun p hp => hk2 p.1 (by
    simp only [List.mem_cons, List.not_mem_nil, or_false] at hp ⊢
    rcases hp with rfl | rfl | rfl | rfl | rfl | rfl | rfl <;> simp))
  have hlit : w1.ownsRow w.heap.size 55 20 (.slice (some ⟨g, 0, none⟩) 0 0) 0 [] := ⟨rfl, .inr ⟨g, 0, #[], rfl, hg, hh, Nat.le_refl _, Nat.zero_le _, rfl, rfl⟩⟩
  obtain ⟨i66, z66, hi1, hi2, hi3, hi4, hi5⟩ := Copy.info66
  have hM : maxLen = 9223372036854775807 := by decide +kernel
  have hR := h9.row
  rw [hrow] at hR
  refine wpList_append_own w1 (by kernel_rfl) (.tmp 115) (.tmp 117) 50 (by kernel_rfl) w.heap.size 55 i66 z66 20 192 Try.underlying50 hi1 hi2 hi3 hi4 hi5 (by decide) _ 0 [] (K2.get (by simp)) hlit ⟨g2, 0, none⟩ s.n s.c (Copy.rowOf s) q117 (flat_len (fun t => Pr.list_length _) _) (fun j u hu => ?_) (fun u hu => ?_) (by omega) (by omega) b1.size fun v' w2 hown hgr hnilv => ?_
  · obtain ⟨t, k, ht, rfl, hk⟩ := flat_out (fun t => Pr.list_length _) _ _ _ hu
    rw [← own_at (fun t => Pr.list_length _) hR ht k u hk]
    exact b1.cell (by rw [add_block]; exact hlt2)
  · obtain ⟨t, _, hu⟩ := List.mem_flatMap.1 hu
    exact Pr.list_one _ u hu
  rw [Nat.zero_add, List.nil_append] at hown
  have b2 : Below w.heap.size w w2 := b1.trans (below_own b1.size hlit hgr)
  rw [show (o22.toList.getD 3 default).dst = some 118 by kernel_rfl]
  have K3 := K2.put (d := 118) (v := v') rfl
  generalize hA3 : a2.put (some 118) v' = a3 at K3 ⊢
  refine @wpList_readsF row0 _ _ _ _ _ _ _ _ _ _ _ _ [1, 6, 7, 8, 9, 10] (xok_0 w2) (e22c ⟨g9, 0, none⟩ v') (by kernel_rfl) (ar_none (us := [(9, .pointer (some ⟨g9, 0, none⟩)), (118, v')]) K3 (fun p hp => by
    simp only [List.mem_cons, List.not_mem_nil, or_false] at hp
    rcases hp with rfl | rfl <;> simp) w2) fun a4 t4 har4 e hk4 => ?_
  simp only [List.map_cons, List.map_nil, List.cons.injEq, and_true] at e
  obtain ⟨e18, e19⟩ := e
  rw [add_none] at e19
  obtain ⟨s', hs'⟩ : ∃ s' : Sh, s' = { s with A := slA v', c := slC v' } := ⟨_, rfl⟩
  have hv := (own_slice hown).1
  have hrow' : s'.row = v' := by rw [hs']; exact hv.symm
  have hrf : Copy.rowOf s' = Copy.rowOf s := by rw [hs']; rfl
  obtain ⟨w3, hst, h93, hfr, hbx3, hb3⟩ := h9.reprow (s' := s') (w1 := w2) hbx hB b2 (by rw [hrf, show s'.n = s.n by rw [hs']]; exact hown) hrow' (by rw [hs']) (by rw [hs']) (by rw [hs'])
  have K4 := (K3.sub (us := RL v1 v6 v7 gb g9 f) (fun p hp => by
    simp only [List.mem_cons, List.not_mem_nil, or_false] at hp ⊢
    rcases hp with rfl | rfl | rfl | rfl | rfl | rfl <;> simp)).moved (@AR.size row0 _ _ _ _ _ har4) (@AR.defers row0 _ _ _ _ _ har4) (fun p hp => hk4 p.1 (by
    simp only [List.mem_cons, List.not_mem_nil, or_false] at hp ⊢
    rcases hp with rfl | rfl | rfl | rfl | rfl | rfl <;> simp))
  refine wpList_store (t := 50) (x := .tmp 119) (y := .tmp 118) (by kernel_rfl) (by kernel_rfl) (by kernel_rfl) (@ar_eval row0 _ _ _ _ _ har4 _ _ e19) (@ar_eval row0 _ _ _ _ _ har4 _ _ e18) hst (hQ a4 w3 s' (Rs.of K4 fun p hp => hp) (by rw [hs']) (by rw [hs']) (by rw [hs']) (by rw [hs']) (by rw [hs']) h93 hfr hbx3 hb3)
end
end RP
end Go.Proofs.Ytaojjpdlfnphiaa.PDescKinds
