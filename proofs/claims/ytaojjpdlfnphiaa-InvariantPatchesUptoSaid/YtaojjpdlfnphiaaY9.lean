/- cameoref10.Patch: a property goes, a property more. -/
import Derived.Test.YtaojjpdlfnphiaaY8
set_option linter.unusedSimpArgs false
set_option linter.unusedVariables false
set_option linter.unusedSectionVars false
namespace Go.Proofs.Ytaojjpdlfnphiaa.PDescKinds
open Go.RowKit Go.Ev Go.Proofs.YtaojjpdlfnphiaaW.PrintLast
namespace RP
theorem i20 (j : Nat) (hj : j < 14) : o20[j]? = some (o20.toList.getD j default) := by
  have h : o20.size = 14 := by kernel_rfl
  have : o20.toList.length = 14 := by rw [Array.length_toList]; exact h
  rw [← Array.getElem?_toList, List.getD_eq_getElem?_getD, List.getElem?_eq_getElem (by omega)]
  rfl
theorem i25 (j : Nat) (hj : j < 13) : o25[j]? = some (o25.toList.getD j default) := by
  have h : o25.size = 13 := by kernel_rfl
  have : o25.toList.length = 13 := by rw [Array.length_toList]; exact h
  rw [← Array.getElem?_toList, List.getD_eq_getElem?_getD, List.getElem?_eq_getElem (by omega)]
  rfl
theorem rowOf_snoc (s : Sh) (A : Option Addr) (c : Nat) (q : Pr) : Copy.rowOf { s with A := A, n := s.n + 1, c := c, g := fput s.g s.n q } = Copy.rowOf s ++ q.list := by
  unfold Copy.rowOf
  show ((List.range (s.n + 1)).flatMap fun t => (fput s.g s.n q t).list) = _
  rw [List.range_succ, List.flatMap_append, flat_congr s.n (g := fun t => (s.g t).list) fun t ht => by simp only [fput]; rw [if_neg (by omega)]]
  simp [fput]
theorem rowOf_gone (s : Sh) (A : Option Addr) (c : Nat) {j : Nat} (hj : j < s.n) : Copy.rowOf { s with A := A, n := s.n - 1, c := c, g := fun t => if t < j then s.g t else s.g (t + 1) } = ((List.range j).flatMap fun t => (s.g t).list) ++ ((List.range (s.n - (j + 1))).flatMap fun t => (s.g (j + 1 + t)).list) := by
  unfold Copy.rowOf
  show ((List.range (s.n - 1)).flatMap fun t => (if t < j then s.g t else s.g (t + 1)).list) = _
  rw [flat_split _ (show j ≤ s.n - 1 by omega), show s.n - 1 - j = s.n - (j + 1) by omega, flat_congr j (g := fun t => (s.g t).list) fun t ht => by rw [if_pos ht]]
  congr 1
  refine flat_congr _ fun t ht => ?_
  rw [if_neg (by omega), show j + t + 1 = j + 1 + t by omega]
section
variable {v1 v6 v7 : Value} {gb g9 : Nat} {f : Int} {a : Act} {w w0 w1 : World} {Q : Exit → Act → World → Prop} {δ : Dl} {B : Nat} {mo : Mo} {k : Nat} {s s' : Sh}
abbrev RS (gb g9 : Nat) (δ : Dl) (s : Sh) : XEnv := rowsX (some ⟨gb, 0, none⟩) δ.cells (some ⟨g9, 0, none⟩) ((shVals s (.slice s.A s.n s.c)).map SV.val)
theorem Box9.drew (h9 : Box9 B w0 w g9 mo k s) (hb : Below w.heap.size w w1) : Box9 B w0 w1 g9 mo k s :=
  ⟨h9.box.kept (grown_of hb none) (.inr (by simp [Value.ownBlock])), h9.row.kept (grown_of hb none) (by cases s.row.ownBlock <;> simp), h9.own.below hb, h9.out, h9.fresh⟩
set_option maxRecDepth 100000 in
/-- A property more. -/
theorem reg25 (h : Rs v1 v6 v7 gb g9 f a) (h9' : Box9 B w0 w g9 mo k s) (hbx' : Boxed w gb δ) (hB' : B ≤ w.heap.size) (hn : s.n ≤ 2000000)
    (hQ : ∀ a' w' s', Rs v1 v6 v7 gb g9 f a' → s'.ls = { s.ls with ps := s.ls.ps ++ [⟨δ.k, δ.d⟩] } → Box9 B w0 w' g9 mo k s' → Boxed w' gb δ → Below B w w' → Q .normal a' w') : (Code.region 25 o25 true).wp Try.prog Q a w := by
  refine region_last (fun w' => @XOk (RS gb g9 δ s) w') [10, 12] ?_
  rw [show o25.size = 13 by kernel_rfl]
  have h9 := h9'.drew (below_drew w.heap.size w)
  have hbx : Boxed { w with drawn := w.drawn + 1 } gb δ := hbx'
  have hB : B ≤ ({ w with drawn := w.drawn + 1 } : World).heap.size := hB'
  have hbB := below_drew B w
  generalize hw1 : ({ w with drawn := w.drawn + 1 } : World) = w1 at h9 hbx hB hbB ⊢
  have hS1 : @XOk (RS gb g9 δ s) w1 := h9.xok hbx
  have hS : ∀ w', Below w1.heap.size w1 w' → @XOk (RS gb g9 δ s) w' := fun w' hb => @XOk.below (RS gb g9 δ s) _ _ hS1 hb
  have har0 : @AR (RS gb g9 δ s) 150 (fun _ => 0) (pickT [(8, .xp [] 0 0), (9, .xp [0] 0 0), (1, .val v1), (6, .val v6), (7, .val v7), (10, .val (.int .i64 f))]) (fun _ => none) a :=
    ar_two (us := [(1, v1), (6, v6), (7, v7), (10, .int .i64 f)]) (gb := gb) (g9 := g9) (b := δ.cells) (t := (shVals s (.slice s.A s.n s.c)).map SV.val) h.kp (by simp) (by simp) (by simp) w1
  show wpAnyLast Try.prog .any o25 _ _ _ ([1, 2, 4, 5, 6, 7, 8].length + 6) #[false, false, false, false, false, false, false, false, false, false, false, false, false] a w1
  refine @takesL_cut (RS gb g9 δ s) _ _ _ _ _ _ _ (fun w h => h) (by kernel_rfl) _ _ _ _ _ _ _ _ _ (e25a (some ⟨gb, 0, none⟩) (some ⟨g9, 0, none⟩) δ s s.A s.n s.c f v1 v6 v7) har0 hS1 fun a1 t1 har1 e => ?_
  simp only [List.map_cons, List.map_nil, List.cons.injEq, and_true] at e
  obtain ⟨e1, e6, e7, e8, e9, e10, e133, e139⟩ := e
  have K1 : Kp 150 ([(133, s.row), (139, Pr.agg ⟨δ.k, δ.d⟩)] ++ RL v1 v6 v7 gb g9 f) a1 := by
    refine ⟨@AR.size (RS gb g9 δ s) _ _ _ _ _ har1, @AR.defers (RS gb g9 δ s) _ _ _ _ _ har1, fun p hp => ?_⟩
    simp only [List.cons_append, List.nil_append, List.mem_cons, List.not_mem_nil, or_false] at hp
    rcases hp with rfl | rfl | rfl | rfl | rfl | rfl | rfl | rfl
    · exact @ar_eval (RS gb g9 δ s) _ _ _ _ _ har1 _ _ e133
    · exact @ar_eval (RS gb g9 δ s) _ _ _ _ _ har1 _ _ e139
    · exact @ar_eval (RS gb g9 δ s) _ _ _ _ _ har1 _ _ e1
    · exact @ar_eval (RS gb g9 δ s) _ _ _ _ _ har1 _ _ e6
    · exact @ar_eval (RS gb g9 δ s) _ _ _ _ _ har1 _ _ e7
    · exact (@ar_get (RS gb g9 δ s) _ _ _ _ _ har1 _ _ e8 rfl).trans ((@ar_get (RS gb g9 δ s) _ _ _ _ _ har0 8 _ rfl rfl).symm.trans h.t8)
    · exact (@ar_get (RS gb g9 δ s) _ _ _ _ _ har1 _ _ e9 rfl).trans ((@ar_get (RS gb g9 δ s) _ _ _ _ _ har0 9 _ rfl rfl).symm.trans h.t9)
    · exact @ar_eval (RS gb g9 δ s) _ _ _ _ _ har1 _ _ e10
  -- behind the clone and the new slice
  have tail : ∀ (us : List (Nat × Value)) (v' : Value) (gn : Nat) (a2 : Act) (w2 : World), Kp 150 us a2 → (134, v') ∈ us → (140, .slice (some ⟨gn, 0, none⟩) 1 1) ∈ us → (∀ p ∈ RL v1 v6 v7 gb g9 f, p ∈ us) → w2.ownsRow w1.heap.size 55 20 v' s.n (Copy.rowOf s) → w2.heap[gn]? = some (.cells (Pr.list ⟨δ.k, δ.d⟩).toArray 55 (0, 0)) → Below w1.heap.size w1 w2 →
      wpAnyLast Try.prog .any o25 (onlyN fun a w => Q .normal a w) (fun w' => @XOk (RS gb g9 δ s) w') [10, 12] 3 #[true, true, true, true, true, true, true, true, true, true, false, false, false] a2 w2 := by
    intro us v' gn a2 w2 K2 m1 m2 m3 hown hnew b2
    refine wpAnyLast_all (rs := [10]) (by kernel_rfl) (by simp) fun q hq => ?_
    obtain rfl : q = 10 := by simpa using hq
    refine wpOp_of (i25 10 (by decide)) (by kernel_rfl) ?_
    obtain ⟨i66, z66, q1, q2, q3, q4, q5⟩ := Copy.info66
    have hM : maxLen = 9223372036854775807 := by decide +kernel
    refine wp_append_own w2 (.tmp 134) (.tmp 140) 50 (by kernel_rfl) w1.heap.size 55 i66 z66 20 192 Try.underlying50 q1 q2 q3 q4 q5 (by decide) v' s.n (Copy.rowOf s) (K2.get m1) hown ⟨gn, 0, none⟩ 1 1 (Pr.list ⟨δ.k, δ.d⟩) (K2.get m2) (Pr.list_length _) (fun j u hu => ?_) (Pr.list_one _) (by omega) (by omega) b2.size fun u w3 hown3 hgr hnil => ?_
    · rw [add_none, cell_of_row w2 gn _ _ 55 (0, 0) hnew]
      simpa using hu
    have b3 : Below w1.heap.size w1 w3 := b2.trans (below_own b2.size hown hgr)
    refine ⟨fun hn => absurd (by simp) hn, ?_⟩
    rw [show (o25.toList.getD 10 default).dst = some 141 by kernel_rfl]
    have K3 := (K2.sub m3).put (d := 141) (v := u) rfl
    generalize hA3 : a2.put (some 141) u = a3 at K3 ⊢
    show wpAnyLast Try.prog .any o25 _ _ _ ([11].length + 1) #[true, true, true, true, true, true, true, true, true, true, true, false, false] a3 w3
    refine wpAnyLast_all (rs := [11]) (by kernel_rfl) (by simp) fun q hq => ?_
    obtain rfl : q = 11 := by simpa using hq
    refine wpOp_of (i25 11 (by decide)) (by kernel_rfl) ?_
    have hrun : (execOp a3.eval (o25.toList.getD 11 default)).run Try.prog w3 = .ok (.value (.pointer (some ⟨g9, 7, none⟩))) w3 := by
      letI := row0
      have har2 := ar_none (us := [(9, .pointer (some ⟨g9, 0, none⟩))]) K3 (by simp) w3
      have hev : evP Try.prog (Ev.look (pickT [(9, .val (.pointer (some ⟨g9, 0, none⟩)))])) (o25.toList.getD 11 default) = some (.val (.pointer (some ((⟨g9, 0, none⟩ : Addr).add 7)))) := by kernel_rfl
      rw [add_none] at hev
      have := (evP_run (m := fun _ => 0) (xok_0 w3) (fun x => har2.look_ok x) (fun x hk => har2.eval x hk) hev).1
      rw [den_val] at this
      exact this
    unfold Oper.wp
    rw [hrun, Oper.upon_value, show (o25.toList.getD 11 default).dst = some 142 by kernel_rfl]
    refine ⟨fun _ h => h, ?_⟩
    have K4 := K3.put (d := 142) (v := .pointer (some ⟨g9, 7, none⟩)) rfl
    generalize hA4 : a3.put (some 142) (.pointer (some ⟨g9, 7, none⟩)) = a4 at K4 ⊢
    refine wpAnyLast_all (rs := [12]) (by kernel_rfl) (by simp) fun q hq => ?_
    obtain rfl : q = 12 := by simpa using hq
    refine wpOp_of (i25 12 (by decide)) (by kernel_rfl) ?_
    obtain ⟨s', hs'⟩ : ∃ s' : Sh, s' = { s with A := slA u, n := s.n + 1, c := slC u, g := fput s.g s.n ⟨δ.k, δ.d⟩ } := ⟨_, rfl⟩
    have hrow' : s'.row = u := by rw [hs']; exact (own_slice hown3).1.symm
    obtain ⟨w4, hst, h94, hfr, hbx4, hb4⟩ := h9.reprow (s' := s') (w1 := w3) hbx hB b3 (by rw [hs', rowOf_snoc]; exact hown3) hrow' (by rw [hs']) (by rw [hs']) (by rw [hs'])
    unfold Oper.wp
    rw [store_run (o := o25.toList.getD 12 default) (t := 50) (x := .tmp 142) (y := .tmp 141) (by kernel_rfl) (K4.get (by simp)) (K4.get (by simp)) hst, Oper.upon_skip, show (o25.toList.getD 12 default).dst = none by kernel_rfl]
    refine ⟨fun hn => absurd (by simp) hn, ?_⟩
    refine wpAnyLast_done (by kernel_rfl) ?_ 0
    refine hQ a4 w4 s' (Rs.of K4 (by simp)) ?_ h94 hbx4 (hbB.trans hb4)
    rw [hs']
    unfold Sh.ls
    simp only [LS.mk.injEq, true_and]
    rw [List.range_succ, List.map_append, List.map_congr_left (g := s.g) fun t ht => by
      have := List.mem_range.1 ht
      simp only [fput]
      rw [if_neg (by omega)]]
    simp [fput]
  have step0 : ∀ (us : List (Nat × Value)) (a2 : Act) (w2 : World) (K' : Act → World → Prop) (Q' : Exit → Act → World → Prop), Kp 150 us a2 → (∀ g w3, Below w2.heap.size w2 w3 → w2.heap.size ≤ g → w3.heap[g]? = some (.cells #[] 55 (0, 0)) → K' (a2.put (some 131) (.slice (some ⟨g, 0, none⟩) 0 0)) w3) → (o25.toList.getD 0 default).wp Try.prog a2 w2 K' Q' := by
    intro us a2 w2 K' Q' K2 hk
    refine build0 (ar_none (us := []) K2 (by simp) w2) e25n fun g w3 x1 x2 x3 => ?_
    rw [show (o25.toList.getD 0 default).dst = some 131 by kernel_rfl]
    exact hk g w3 x1 x2 x3
  have step9 : ∀ (us : List (Nat × Value)) (a2 : Act) (w2 : World) (K' : Act → World → Prop) (Q' : Exit → Act → World → Prop), Kp 150 us a2 → (139, Pr.agg ⟨δ.k, δ.d⟩) ∈ us → (∀ g w3, Below w2.heap.size w2 w3 → w2.heap.size ≤ g → w3.heap[g]? = some (.cells (Pr.list ⟨δ.k, δ.d⟩).toArray 55 (0, 0)) → K' (a2.put (some 140) (.slice (some ⟨g, 0, none⟩) 1 1)) w3) → (o25.toList.getD 9 default).wp Try.prog a2 w2 K' Q' := by
    intro us a2 w2 K' Q' K2 hm hk
    refine build1 (ar_none (us := [(139, Pr.agg ⟨δ.k, δ.d⟩)]) K2 (by simpa using hm) w2) (e25m ⟨δ.k, δ.d⟩) fun g w3 x1 x2 x3 => ?_
    rw [show (o25.toList.getD 9 default).dst = some 140 by kernel_rfl]
    exact hk g w3 x1 x2 x3
  have lit : ∀ (g : Nat) (w2 : World), w1.heap.size ≤ g → w2.heap[g]? = some (.cells #[] 55 (0, 0)) → w2.ownsRow w1.heap.size 55 20 (.slice (some ⟨g, 0, none⟩) 0 0) 0 [] := fun g w2 x1 x2 => ⟨rfl, .inr ⟨g, 0, #[], rfl, x1, x2, Nat.le_refl _, Nat.zero_le _, rfl, rfl⟩⟩
  have step3 : ∀ (us : List (Nat × Value)) (g : Nat) (a2 : Act) (w2 : World) (K' : Act → World → Prop) (Q' : Exit → Act → World → Prop), Kp 150 us a2 → (133, s.row) ∈ us → (131, .slice (some ⟨g, 0, none⟩) 0 0) ∈ us → Below w1.heap.size w1 w2 → w1.heap.size ≤ g → w2.heap[g]? = some (.cells #[] 55 (0, 0)) → (∀ v' w3, w3.ownsRow w1.heap.size 55 20 v' s.n (Copy.rowOf s) → w2.grownBy w3 (some g) → K' (a2.put (some 134) v') w3) → (o25.toList.getD 3 default).wp Try.prog a2 w2 K' Q' := by
    intro us g a2 w2 K' Q' K2 m1 m2 b2 hg hh hk
    refine wp_clone (x := 131) (y := 133) (by kernel_rfl) (K2.get m2) (lit g w2 hg hh) (K2.get m1) h9.row b2 b2.size hn fun v' w3 x1 x2 => ?_
    rw [show (o25.toList.getD 3 default).dst = some 134 by kernel_rfl]
    exact hk v' w3 x1 x2
  have grow : ∀ (g : Nat) (w2 w3 : World), Below w1.heap.size w1 w2 → w1.heap.size ≤ g → w2.grownBy w3 (some g) → Below w1.heap.size w1 w3 := fun g w2 w3 x1 x2 x3 => x1.trans (below_grown x1.size x3 x2)
  refine wpAnyLast_all (rs := [0, 9]) (by kernel_rfl) (by simp) fun q hq => ?_
  simp only [List.mem_cons, List.not_mem_nil, or_false] at hq
  rcases hq with rfl | rfl
  · refine wpOp_of (i25 0 (by decide)) (by kernel_rfl) ?_
    refine step0 _ a1 w1 _ _ K1 fun g w2 b2 hg hh => ⟨fun _ _ => hS w2 b2, ?_⟩
    have K2 := K1.put (d := 131) (v := .slice (some ⟨g, 0, none⟩) 0 0) rfl
    generalize hA2 : a1.put (some 131) (.slice (some ⟨g, 0, none⟩) 0 0) = a2 at K2 ⊢
    refine wpAnyLast_all (rs := [3, 9]) (by kernel_rfl) (by simp) fun q hq => ?_
    simp only [List.mem_cons, List.not_mem_nil, or_false] at hq
    rcases hq with rfl | rfl
    · refine wpOp_of (i25 3 (by decide)) (by kernel_rfl) ?_
      refine step3 _ g a2 w2 _ _ K2 (by simp) (by simp) b2 hg hh fun v' w3 hown hgr => ?_
      have b3 := grow g w2 w3 b2 hg hgr
      refine ⟨fun _ _ => hS w3 b3, ?_⟩
      have K3 := K2.put (d := 134) (v := v') rfl
      generalize hA3 : a2.put (some 134) v' = a3 at K3 ⊢
      refine wpAnyLast_all (rs := [9]) (by kernel_rfl) (by simp) fun q hq => ?_
      obtain rfl : q = 9 := by simpa using hq
      refine wpOp_of (i25 9 (by decide)) (by kernel_rfl) ?_
      refine step9 _ a3 w3 _ _ K3 (by simp) fun gn w4 b4 hgn hhn => ?_
      have b4' : Below w1.heap.size w1 w4 := b3.trans (b4.mono b3.size)
      refine ⟨fun _ _ => hS w4 b4', ?_⟩
      have K4 := K3.put (d := 140) (v := .slice (some ⟨gn, 0, none⟩) 1 1) rfl
      exact tail _ v' gn _ w4 K4 (by simp) (by simp) (by simp) (hown.kept (grown_of b4 none) (by cases v'.ownBlock <;> simp)) hhn b4'
    · refine wpOp_of (i25 9 (by decide)) (by kernel_rfl) ?_
      refine step9 _ a2 w2 _ _ K2 (by simp) fun gn w3 b3 hgn hhn => ?_
      have b3' : Below w1.heap.size w1 w3 := b2.trans (b3.mono b2.size)
      refine ⟨fun _ _ => hS w3 b3', ?_⟩
      have K3 := K2.put (d := 140) (v := .slice (some ⟨gn, 0, none⟩) 1 1) rfl
      generalize hA3 : a2.put (some 140) (.slice (some ⟨gn, 0, none⟩) 1 1) = a3 at K3 ⊢
      have hglt : g < w2.heap.size := (Array.getElem?_eq_some_iff.1 hh).1
      have hh3 : w3.heap[g]? = some (.cells #[] 55 (0, 0)) := (b3.block g hglt).trans hh
      refine wpAnyLast_all (rs := [3]) (by kernel_rfl) (by simp) fun q hq => ?_
      obtain rfl : q = 3 := by simpa using hq
      refine wpOp_of (i25 3 (by decide)) (by kernel_rfl) ?_
      refine step3 _ g a3 w3 _ _ K3 (by simp) (by simp) b3' hg hh3 fun v' w4 hown hgr => ?_
      have b4' := grow g w3 w4 b3' hg hgr
      refine ⟨fun _ _ => hS w4 b4', ?_⟩
      have K4 := K3.put (d := 134) (v := v') rfl
      exact tail _ v' gn _ w4 K4 (by simp) (by simp) (by simp) hown ((hgr.block gn (Array.getElem?_eq_some_iff.1 hhn).1 (by simp; omega)).trans hhn) b4'
  · refine wpOp_of (i25 9 (by decide)) (by kernel_rfl) ?_
    refine step9 _ a1 w1 _ _ K1 (by simp) fun gn w2 b2 hgn hhn => ?_
    refine ⟨fun _ _ => hS w2 b2, ?_⟩
    have K2 := K1.put (d := 140) (v := .slice (some ⟨gn, 0, none⟩) 1 1) rfl
    generalize hA2 : a1.put (some 140) (.slice (some ⟨gn, 0, none⟩) 1 1) = a2 at K2 ⊢
    refine wpAnyLast_all (rs := [0]) (by kernel_rfl) (by simp) fun q hq => ?_
    obtain rfl : q = 0 := by simpa using hq
    refine wpOp_of (i25 0 (by decide)) (by kernel_rfl) ?_
    refine step0 _ a2 w2 _ _ K2 fun g w3 b3 hg hh => ?_
    have b3' : Below w1.heap.size w1 w3 := b2.trans (b3.mono b2.size)
    refine ⟨fun _ _ => hS w3 b3', ?_⟩
    have K3 := K2.put (d := 131) (v := .slice (some ⟨g, 0, none⟩) 0 0) rfl
    generalize hA3 : a2.put (some 131) (.slice (some ⟨g, 0, none⟩) 0 0) = a3 at K3 ⊢
    refine wpAnyLast_all (rs := [3]) (by kernel_rfl) (by simp) fun q hq => ?_
    obtain rfl : q = 3 := by simpa using hq
    refine wpOp_of (i25 3 (by decide)) (by kernel_rfl) ?_
    have hgnlt : gn < w2.heap.size := (Array.getElem?_eq_some_iff.1 hhn).1
    have hhn3 := (b3.block gn hgnlt).trans hhn
    refine step3 _ g a3 w3 _ _ K3 (by simp) (by simp) b3' (Nat.le_trans b2.size hg) hh fun v' w4 hown hgr => ?_
    have b4' := grow g w3 w4 b3' (Nat.le_trans b2.size hg) hgr
    refine ⟨fun _ _ => hS w4 b4', ?_⟩
    have K4 := K3.put (d := 134) (v := v') rfl
    exact tail _ v' gn _ w4 K4 (by simp) (by simp) (by simp) hown ((hgr.block gn (Array.getElem?_eq_some_iff.1 hhn3).1 (by simp; omega)).trans hhn3) b4'
set_option maxRecDepth 100000 in
/-- A property goes. -/
theorem reg20 {j : Nat} (h : Rs v1 v6 v7 gb g9 (j : Int) a) (h9' : Box9 B w0 w g9 mo k s) (hbx' : Boxed w gb δ) (hB' : B ≤ w.heap.size) (hn : s.n ≤ 2000000) (hj : j < s.n)
    (hQ : ∀ a' w' s', Rs v1 v6 v7 gb g9 (j : Int) a' → s'.ls = { s.ls with ps := s.ls.ps.eraseIdx j } → Box9 B w0 w' g9 mo k s' → Boxed w' gb δ → Below B w w' → Q .normal a' w') : (Code.region 20 o20 true).wp Try.prog Q a w := by
  refine region_last (fun w' => @XOk (RS gb g9 δ s) w') [11, 13] ?_
  rw [show o20.size = 14 by kernel_rfl]
  have h9 := h9'.drew (below_drew w.heap.size w)
  have hbx : Boxed { w with drawn := w.drawn + 1 } gb δ := hbx'
  have hB : B ≤ ({ w with drawn := w.drawn + 1 } : World).heap.size := hB'
  have hbB := below_drew B w
  generalize hw1 : ({ w with drawn := w.drawn + 1 } : World) = w1 at h9 hbx hB hbB ⊢
  have hS1 : @XOk (RS gb g9 δ s) w1 := h9.xok hbx
  have hS : ∀ w', Below w1.heap.size w1 w' → @XOk (RS gb g9 δ s) w' := fun w' hb => @XOk.below (RS gb g9 δ s) _ _ hS1 hb
  have har0 : @AR (RS gb g9 δ s) 150 (fun _ => 0) (pickT [(8, .xp [] 0 0), (9, .xp [0] 0 0), (1, .val v1), (6, .val v6), (7, .val v7), (10, .val (.int .i64 (j : Int)))]) (fun _ => none) a :=
    ar_two (us := [(1, v1), (6, v6), (7, v7), (10, .int .i64 (j : Int))]) (gb := gb) (g9 := g9) (b := δ.cells) (t := (shVals s (.slice s.A s.n s.c)).map SV.val) h.kp (by simp) (by simp) (by simp) w1
  show wpAnyLast Try.prog .any o20 _ _ _ ([1, 2, 3, 6, 7, 8, 9].length + 7) #[false, false, false, false, false, false, false, false, false, false, false, false, false, false] a w1
  refine @takesL_cut (RS gb g9 δ s) _ _ _ _ _ _ _ (fun w h => h) (by kernel_rfl) _ _ _ _ _ _ _ _ _ (e20a (some ⟨gb, 0, none⟩) (some ⟨g9, 0, none⟩) δ s s.A s.n s.c (j : Int) v1 v6 v7) har0 hS1 fun a1 t1 har1 e => ?_
  simp only [List.map_cons, List.map_nil, List.cons.injEq, and_true] at e
  obtain ⟨e1, e6, e7, e8, e9, e10, e96, e97, e101, e103⟩ := e
  rcases row_slice h9.row with ⟨_, h0, _⟩ | ⟨g2, hA2, hB2, hlt2⟩
  · omega
  have hR := h9.row
  have hrow : s.row = .slice (some ⟨g2, 0, none⟩) s.n s.c := by unfold Sh.row; rw [hA2]
  rw [hrow] at hR
  obtain ⟨hnc, hcm⟩ : s.n ≤ s.c ∧ s.c ≤ maxLen := by
    rcases hR.2 with ⟨e, _⟩ | ⟨g', cap, cur, e, _, _, x4, x5, _⟩
    · cases e
    · cases e
      exact ⟨x4, x5⟩
  have hw : IntKind.i64.wrap ((j : Int) + 1) = ((j + 1 : Nat) : Int) := by
    have := wr (n := 5000000000) (i := j) (by omega) (by omega)
    exact this
  have K1 : Kp 150 ([(96, .slice (some ⟨g2, 0, none⟩) s.n s.c), (97, .int .i64 (j : Int)), (101, .slice (some ⟨g2, 0, none⟩) s.n s.c), (103, .int .i64 ((j + 1 : Nat) : Int))] ++ RL v1 v6 v7 gb g9 (j : Int)) a1 := by
    refine ⟨@AR.size (RS gb g9 δ s) _ _ _ _ _ har1, @AR.defers (RS gb g9 δ s) _ _ _ _ _ har1, fun p hp => ?_⟩
    simp only [List.cons_append, List.nil_append, List.mem_cons, List.not_mem_nil, or_false] at hp
    rcases hp with rfl | rfl | rfl | rfl | rfl | rfl | rfl | rfl | rfl | rfl
    · rw [← hA2]
      exact @ar_eval (RS gb g9 δ s) _ _ _ _ _ har1 _ _ e96
    · exact @ar_eval (RS gb g9 δ s) _ _ _ _ _ har1 _ _ e97
    · rw [← hA2]
      exact @ar_eval (RS gb g9 δ s) _ _ _ _ _ har1 _ _ e101
    · rw [← hw]
      exact @ar_eval (RS gb g9 δ s) _ _ _ _ _ har1 _ _ e103
    · exact @ar_eval (RS gb g9 δ s) _ _ _ _ _ har1 _ _ e1
    · exact @ar_eval (RS gb g9 δ s) _ _ _ _ _ har1 _ _ e6
    · exact @ar_eval (RS gb g9 δ s) _ _ _ _ _ har1 _ _ e7
    · exact (@ar_get (RS gb g9 δ s) _ _ _ _ _ har1 _ _ e8 rfl).trans ((@ar_get (RS gb g9 δ s) _ _ _ _ _ har0 8 _ rfl rfl).symm.trans h.t8)
    · exact (@ar_get (RS gb g9 δ s) _ _ _ _ _ har1 _ _ e9 rfl).trans ((@ar_get (RS gb g9 δ s) _ _ _ _ _ har0 9 _ rfl rfl).symm.trans h.t9)
    · exact @ar_eval (RS gb g9 δ s) _ _ _ _ _ har1 _ _ e10
  have hsl1 : sliced (some ⟨g2, 0, none⟩) 0 j s.c 20 = .slice (some ⟨g2, 0, none⟩) j s.c := by
    unfold sliced
    rw [if_neg (by omega)]
    simp [add_none]
  obtain ⟨ad, had, hsrc⟩ : ∃ ad : Addr, sliced (some ⟨g2, 0, none⟩) (j + 1) s.n s.c 20 = .slice (some ad) (s.n - (j + 1)) (s.c - (j + 1)) ∧ ∀ t u, ((List.range (s.n - (j + 1))).flatMap fun t => (s.g (j + 1 + t)).list)[t]? = some u → w1.cell? (ad.add t) = some u ∧ ad.block = g2 := by
    unfold sliced
    by_cases e : s.c = j + 1
    · refine ⟨⟨g2, 0, none⟩, by rw [if_pos e], fun t u hu => ?_⟩
      rw [show s.n - (j + 1) = 0 by omega] at hu
      simp at hu
    · refine ⟨⟨g2, (j + 1) * 20, none⟩, by rw [if_neg e]; simp [add_none], fun t u hu => ⟨?_, rfl⟩⟩
      obtain ⟨t', k', ht, rfl, hk⟩ := flat_out (fun t => Pr.list_length _) _ _ _ hu
      have := own_at (fun t => Pr.list_length _) hR (t := j + 1 + t') (by omega) k' u hk
      rw [add_none] at this ⊢
      rw [← this]
      congr 2
      omega
  -- the slices
  have hsel : Region.noSelect o20 = true := by kernel_rfl
  refine wpAnyLast_take (i := 4) (i20 4 (by decide)) hsel (by kernel_rfl) (by kernel_rfl) (by kernel_rfl) (by kernel_rfl) (fun c a w h => h.elim) (.inl ⟨by kernel_rfl, fun w' _ => run_sl_h (A := some ⟨g2, 0, none⟩) (n := s.n) (c := s.c) (t := 50) (x := 96) (y := 97) (s := 20) (j := j) (by kernel_rfl) (by kernel_rfl) (by kernel_rfl) (K1.get (by simp)) (K1.get (by simp)) (by omega)⟩) hS1 ?_
  rw [hsl1, show (o20.toList.getD 4 default).dst = some 98 by kernel_rfl]
  have K2 := K1.put (d := 98) (v := .slice (some ⟨g2, 0, none⟩) j s.c) rfl
  generalize hA2' : a1.put (some 98) (.slice (some ⟨g2, 0, none⟩) j s.c) = a2 at K2 ⊢
  refine wpAnyLast_take (i := 10) (i20 10 (by decide)) hsel (by kernel_rfl) (by kernel_rfl) (by kernel_rfl) (by kernel_rfl) (fun c a w h => h.elim) (.inl ⟨by kernel_rfl, fun w' _ => run_sl_l (A := some ⟨g2, 0, none⟩) (n := s.n) (c := s.c) (t := 50) (x := 101) (y := 103) (s := 20) (j := j + 1) (by kernel_rfl) (by kernel_rfl) (by kernel_rfl) (K2.get (by simp)) (K2.get (by simp)) (by omega)⟩) hS1 ?_
  rw [had, show (o20.toList.getD 10 default).dst = some 104 by kernel_rfl]
  have K3 := K2.put (d := 104) (v := .slice (some ad) (s.n - (j + 1)) (s.c - (j + 1))) rfl
  generalize hA3 : a2.put (some 104) (.slice (some ad) (s.n - (j + 1)) (s.c - (j + 1))) = a3 at K3 ⊢
  obtain ⟨i66, z66, q1, q2, q3, q4, q5⟩ := Copy.info66
  have hM : maxLen = 9223372036854775807 := by decide +kernel
  -- the empty literal
  show wpAnyLast Try.prog .any o20 _ _ _ 5 #[false, true, true, true, true, false, true, true, true, true, true, false, false, false] a3 w1
  refine wpAnyLast_all (rs := [0]) (by kernel_rfl) (by simp) fun q hq => ?_
  obtain rfl : q = 0 := by simpa using hq
  refine wpOp_of (i20 0 (by decide)) (by kernel_rfl) ?_
  refine build0 (ar_none (us := []) K3 (by simp) w1) e20n fun g w2 b2 hg hh => ⟨fun _ _ => hS w2 b2, ?_⟩
  rw [show (o20.toList.getD 0 default).dst = some 94 by kernel_rfl]
  have K4 := K3.put (d := 94) (v := .slice (some ⟨g, 0, none⟩) 0 0) rfl
  generalize hA4 : a3.put (some 94) (.slice (some ⟨g, 0, none⟩) 0 0) = a4 at K4 ⊢
  have hlit : w2.ownsRow w1.heap.size 55 20 (.slice (some ⟨g, 0, none⟩) 0 0) 0 [] := ⟨rfl, .inr ⟨g, 0, #[], rfl, hg, hh, Nat.le_refl _, Nat.zero_le _, rfl, rfl⟩⟩
  -- the first part
  refine wpAnyLast_all (rs := [5]) (by kernel_rfl) (by simp) fun q hq => ?_
  obtain rfl : q = 5 := by simpa using hq
  refine wpOp_of (i20 5 (by decide)) (by kernel_rfl) ?_
  refine wp_append_own w2 (.tmp 94) (.tmp 98) 50 (by kernel_rfl) w1.heap.size 55 i66 z66 20 192 Try.underlying50 q1 q2 q3 q4 q5 (by decide) _ 0 [] (K4.get (by simp)) hlit ⟨g2, 0, none⟩ j s.c ((List.range j).flatMap fun t => (s.g t).list) (K4.get (by simp)) (flat_len (fun t => Pr.list_length _) _) (fun t u hu => ?_) (fun u hu => ?_) (by omega) (by omega) b2.size fun v' w3 hown hgr hnil => ?_
  · obtain ⟨t', k', ht, rfl, hk⟩ := flat_out (fun t => Pr.list_length _) _ _ _ hu
    rw [← own_at (fun t => Pr.list_length _) hR (show t' < s.n by omega) k' u hk]
    exact b2.cell (by rw [add_block]; exact hlt2)
  · obtain ⟨t, _, hu⟩ := List.mem_flatMap.1 hu
    exact Pr.list_one _ u hu
  rw [Nat.zero_add, List.nil_append] at hown
  have b3 : Below w1.heap.size w1 w3 := b2.trans (below_own b2.size hlit hgr)
  refine ⟨fun _ _ => hS w3 b3, ?_⟩
  rw [show (o20.toList.getD 5 default).dst = some 99 by kernel_rfl]
  have K5 := K4.put (d := 99) (v := v') rfl
  generalize hA5 : a4.put (some 99) v' = a5 at K5 ⊢
  -- the second part
  refine wpAnyLast_all (rs := [11]) (by kernel_rfl) (by simp) fun q hq => ?_
  obtain rfl : q = 11 := by simpa using hq
  refine wpOp_of (i20 11 (by decide)) (by kernel_rfl) ?_
  refine wp_append_own w3 (.tmp 99) (.tmp 104) 50 (by kernel_rfl) w1.heap.size 55 i66 z66 20 192 Try.underlying50 q1 q2 q3 q4 q5 (by decide) v' j _ (K5.get (by simp)) hown ad (s.n - (j + 1)) (s.c - (j + 1)) ((List.range (s.n - (j + 1))).flatMap fun t => (s.g (j + 1 + t)).list) (K5.get (by simp)) (flat_len (fun t => Pr.list_length _) _) (fun t u hu => ?_) (fun u hu => ?_) (by omega) (by omega) b3.size fun u w4 hown4 hgr4 hnil4 => ?_
  · obtain ⟨x1, x2⟩ := hsrc t u hu
    rw [← x1]
    exact b3.cell (by rw [add_block, x2]; exact hlt2)
  · obtain ⟨t, _, hu⟩ := List.mem_flatMap.1 hu
    exact Pr.list_one _ u hu
  have b4 : Below w1.heap.size w1 w4 := b3.trans (below_own b3.size hown hgr4)
  refine ⟨fun hn => absurd (by simp) hn, ?_⟩
  rw [show (o20.toList.getD 11 default).dst = some 105 by kernel_rfl]
  have K6 := K5.put (d := 105) (v := u) rfl
  generalize hA6 : a5.put (some 105) u = a6 at K6 ⊢
  refine wpAnyLast_all (rs := [12]) (by kernel_rfl) (by simp) fun q hq => ?_
  obtain rfl : q = 12 := by simpa using hq
  refine wpOp_of (i20 12 (by decide)) (by kernel_rfl) ?_
  have hrun : (execOp a6.eval (o20.toList.getD 12 default)).run Try.prog w4 = .ok (.value (.pointer (some ⟨g9, 7, none⟩))) w4 := by
    letI := row0
    have har2 := ar_none (us := [(9, .pointer (some ⟨g9, 0, none⟩))]) K6 (by simp) w4
    have hev : evP Try.prog (Ev.look (pickT [(9, .val (.pointer (some ⟨g9, 0, none⟩)))])) (o20.toList.getD 12 default) = some (.val (.pointer (some ((⟨g9, 0, none⟩ : Addr).add 7)))) := by kernel_rfl
    rw [add_none] at hev
    have := (evP_run (m := fun _ => 0) (xok_0 w4) (fun x => har2.look_ok x) (fun x hk => har2.eval x hk) hev).1
    rw [den_val] at this
    exact this
  unfold Oper.wp
  rw [hrun, Oper.upon_value, show (o20.toList.getD 12 default).dst = some 106 by kernel_rfl]
  refine ⟨fun _ h => h, ?_⟩
  have K7 := K6.put (d := 106) (v := .pointer (some ⟨g9, 7, none⟩)) rfl
  generalize hA7 : a6.put (some 106) (.pointer (some ⟨g9, 7, none⟩)) = a7 at K7 ⊢
  refine wpAnyLast_all (rs := [13]) (by kernel_rfl) (by simp) fun q hq => ?_
  obtain rfl : q = 13 := by simpa using hq
  refine wpOp_of (i20 13 (by decide)) (by kernel_rfl) ?_
  obtain ⟨s', hs'⟩ : ∃ s' : Sh, s' = { s with A := slA u, n := s.n - 1, c := slC u, g := fun t => if t < j then s.g t else s.g (t + 1) } := ⟨_, rfl⟩
  rw [show j + (s.n - (j + 1)) = s.n - 1 by omega] at hown4
  have hrow' : s'.row = u := by rw [hs']; exact (own_slice hown4).1.symm
  obtain ⟨w5, hst, h95, hfr, hbx5, hb5⟩ := h9.reprow (s' := s') (w1 := w4) hbx hB b4 (by rw [hs', rowOf_gone s _ _ hj]; exact hown4) hrow' (by rw [hs']) (by rw [hs']) (by rw [hs'])
  unfold Oper.wp
  rw [store_run (o := o20.toList.getD 13 default) (t := 50) (x := .tmp 106) (y := .tmp 105) (by kernel_rfl) (K7.get (by simp)) (K7.get (by simp)) hst, Oper.upon_skip, show (o20.toList.getD 13 default).dst = none by kernel_rfl]
  refine ⟨fun hn => absurd (by simp) hn, ?_⟩
  refine wpAnyLast_done (by kernel_rfl) ?_ 0
  refine hQ a7 w5 s' (Rs.of K7 (by simp)) ?_ h95 hbx5 (hbB.trans hb5)
  rw [hs']
  unfold Sh.ls
  simp only [LS.mk.injEq, true_and]
  exact map_erase _ hj
end
end RP
end Go.Proofs.Ytaojjpdlfnphiaa.PDescKinds
