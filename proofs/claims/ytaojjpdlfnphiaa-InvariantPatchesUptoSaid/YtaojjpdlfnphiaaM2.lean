/- cameolaw10.InvariantPatches: its regions. -/
import Derived.Test.YtaojjpdlfnphiaaM1
set_option linter.unusedSimpArgs false
set_option linter.unusedVariables false
set_option linter.unusedSectionVars false
namespace Go.Proofs.Ytaojjpdlfnphiaa.PDescKinds
open Go.RowKit Go.Ev
theorem Dl.list_length (δ : Dl) : δ.list.length = 29 := rfl
theorem Dl.list_one (δ : Dl) : ∀ u ∈ δ.list, u.oneCell' = true := by
  intro u hu
  simp only [Dl.list, List.mem_cons, List.mem_append] at hu
  rcases hu with rfl | rfl | rfl | rfl | hu | rfl | rfl | hu
  · rfl
  · rfl
  · rfl
  · rfl
  · exact V.list_one _ u hu
  · rfl
  · rfl
  · exact D.list_one _ u hu
theorem ownsRow_same {w w' : World} {B n z : Nat} {e : TypeId} {v : Value} {xs : List Value} (h : w.ownsRow B e z v n xs) (hs : ∀ g, v.ownBlock = some g → w'.heap[g]? = w.heap[g]?) : w'.ownsRow B e z v n xs := by
  refine ⟨h.1, ?_⟩
  rcases h.2 with h | ⟨g, cap, cur, rfl, h2, h3, h4⟩
  · exact .inl h
  · exact .inr ⟨g, cap, cur, rfl, h2, (hs g rfl).trans h3, h4⟩
/-- An own moment that stands aside. -/
theorem OwnMo.mid {B hi C D : Nat} {w w' : World} {mo : Mo} (h : OwnMo C w mo) (hm : Mid B hi w w') (hc : ∀ b, C ≤ b → b < D → b < B ∨ hi ≤ b) (h1 : ∀ b, (Value.slice mo.A mo.n mo.c).ownBlock = some b → b < D) (h2 : ∀ j b, (mo.g j).row.ownBlock = some b → b < D) : OwnMo C w' mo :=
  ⟨ownsRow_same h.row fun g hg => hm.block g (h.row.lt g hg).2 (hc g (h.row.lt g hg).1 (h1 g hg)), fun j => ownsRow_same (h.props j) fun g hg => hm.block g ((h.props j).lt g hg).2 (hc g ((h.props j).lt g hg).1 (h2 j g hg)), h.sep, h.rest⟩
/-- An own row of deltas, read up to n. -/
theorem own_rowD {w : World} {D N n c : Nat} {A : Option Addr} {g : Nat → Dl} (h : w.ownsRow D 35 29 (.slice A N c) N ((List.range N).flatMap fun j => (g j).list)) (hn : n ≤ N) : @XOk (rowL A n c g) w := by
  intro r j hj
  have hj : j < n := hj
  rcases row_slice h with ⟨_, h0, _⟩ | ⟨ga, hA, _, hlt⟩
  · omega
  subst hA
  refine ⟨rfl, fun s hs mem => ?_, ⟨ga, 0, none⟩, rfl, hlt, fun k s hk m => ?_⟩
  · obtain ⟨v, _, rfl⟩ := List.mem_map.1 hs
    exact @ok_val (rowL _ _ _ _) _ _
  · have hk : ((g j).list.map SV.val)[k]? = some s := hk
    rw [List.getElem?_map] at hk
    obtain ⟨u, hu, rfl⟩ := Option.map_eq_some_iff.1 hk
    rw [@den_val (rowL _ _ _ _)]
    exact own_at (fun t => Dl.list_length _) h (by omega) k u hu
theorem info99 : ∃ (i : TypeInfo) (z : Value), Try.prog.info? 35 = some i ∧ i.zero = some z ∧ i.size = 29 ∧ i.bytes = 272 ∧ z.cells.size = 29 := by
  have h : (Try.prog.info? 35).bind (fun i => i.zero.map fun z => (i.size, i.bytes, z.cells.size)) = some (29, 272, 29) := by kernel_rfl
  obtain ⟨i, hi, h⟩ := Option.bind_eq_some_iff.1 h
  obtain ⟨z, hz, h⟩ := Option.map_eq_some_iff.1 h
  simp only [Prod.mk.injEq] at h
  exact ⟨i, z, hi, hz, h.1, h.2.1, h.2.2⟩
namespace Lw
set_option maxRecDepth 100000
section
variable {N n c j : Nat} {A : Option Addr} {g : Nat → Dl} {a : Act} {w w0 w1 : World} {Q : Exit → Act → World → Prop}
/-- The deltas cloned, and one more. -/
theorem reg4 {v0 v5 : Value} (h : Kp 103 [(0, v0), (1, .slice A n c), (5, v5)] a) (hX : @XOk (rowL A n c g) w) (hnil : A = none → n = 0 ∧ c = 0) (hn : n ≤ 2000)
    (hQ : ∀ a' w' gd cd, Kp 103 [(0, v0), (1, .slice A n c), (5, v5), (6, .slice (some ⟨gd, 0, none⟩) (n + 1) cd)] a' → Below w.heap.size w w' → w'.ownsRow w.heap.size 35 29 (.slice (some ⟨gd, 0, none⟩) (n + 1) cd) (n + 1) ((List.range (n + 1)).flatMap fun j => (fput g n D7 j).list) → Q .normal a' w') : (Code.region 4 p4 false).wp Try.prog Q a w := by
  refine wp_region_list ?_
  rw [p4_eq]
  obtain ⟨i99, z99, hi1, hi2, hi3, hi4, hi5⟩ := info99
  have hM : maxLen = 9223372036854775807 := by decide +kernel
  letI := row0
  refine wpList_plain (by kernel_rfl) fun K hK => ?_
  refine build0 (RP.ar_none (us := []) h (by simp) w) l4n fun gl w1 b1 hg hh => hK _ _ ?_
  rw [show (p4.toList.getD 0 default).dst = some 23 by kernel_rfl]
  have K1 := h.put (d := 23) (v := .slice (some ⟨gl, 0, none⟩) 0 0) rfl
  generalize hA1 : a.put (some 23) (.slice (some ⟨gl, 0, none⟩) 0 0) = a1 at K1 ⊢
  refine wpList_readsF [0, 1, 5, 23] (xok_0 w1) (l4a (.slice A n c)) (by kernel_rfl) (RP.ar_none (us := [(1, .slice A n c)]) K1 (by simp) w1) fun a2 t2 har2 e hk2 => ?_
  simp only [List.map_cons, List.map_nil, List.cons.injEq, and_true] at e
  have q24 := ar_eval har2 e
  have K2 : Kp 103 [(24, .slice A n c), (23, .slice (some ⟨gl, 0, none⟩) 0 0), (0, v0), (1, .slice A n c), (5, v5)] a2 := ⟨har2.size, har2.defers, fun p hp => by
    simp only [List.mem_cons, List.not_mem_nil, or_false] at hp
    rcases hp with rfl | rfl | rfl | rfl | rfl
    · exact q24
    · exact (hk2 23 (by simp)).trans (K1.get (by simp))
    · exact (hk2 0 (by simp)).trans (K1.get (by simp))
    · exact (hk2 1 (by simp)).trans (K1.get (by simp))
    · exact (hk2 5 (by simp)).trans (K1.get (by simp))⟩
  have hlit : w1.ownsRow w.heap.size 35 29 (.slice (some ⟨gl, 0, none⟩) 0 0) 0 [] := ⟨rfl, .inr ⟨gl, 0, #[], rfl, hg, hh, Nat.le_refl _, Nat.zero_le _, rfl, rfl⟩⟩
  -- behind the first append
  have tail : ∀ (u : Value) (w2 : World), w2.ownsRow w.heap.size 35 29 u n ((List.range n).flatMap fun j => (g j).list) → Below w.heap.size w w2 → wpList Try.prog p4 Q ((p4.toList.drop 3).take 1 ++ (p4.toList.getD 4 default :: p4.toList.getD 5 default :: ([p4.toList.getD 6 default] ++ []))) (a2.put (p4.toList.getD 2 default).dst u) w2 := by
    intro u w2 hown hb2
    rw [show (p4.toList.getD 2 default).dst = some 25 by kernel_rfl]
    have K3 := K2.put (d := 25) (v := u) rfl
    generalize hA3 : a2.put (some 25) u = a3 at K3 ⊢
    refine wpList_readsF [0, 1, 5, 25] (xok_0 w2) l4b (by kernel_rfl) (RP.ar_none (us := []) K3 (by simp) w2) fun a4 t4 har4 e hk4 => ?_
    simp only [List.map_cons, List.map_nil, List.cons.injEq, and_true] at e
    have q26 := ar_eval har4 e
    have K4 : Kp 103 [(26, D7.agg), (25, u), (0, v0), (1, .slice A n c), (5, v5)] a4 := ⟨har4.size, har4.defers, fun p hp => by
      simp only [List.mem_cons, List.not_mem_nil, or_false] at hp
      rcases hp with rfl | rfl | rfl | rfl | rfl
      · exact q26
      · exact (hk4 25 (by simp)).trans (K3.get (by simp))
      · exact (hk4 0 (by simp)).trans (K3.get (by simp))
      · exact (hk4 1 (by simp)).trans (K3.get (by simp))
      · exact (hk4 5 (by simp)).trans (K3.get (by simp))⟩
    refine wpList_plain (by kernel_rfl) fun K hK => ?_
    refine build1 (RP.ar_none (us := [(26, D7.agg)]) K4 (by simp) w2) (l4m D7) fun gn w3 x1 x2 x3 => hK _ _ ?_
    rw [show (p4.toList.getD 4 default).dst = some 27 by kernel_rfl]
    have K5 := K4.put (d := 27) (v := .slice (some ⟨gn, 0, none⟩) 1 1) rfl
    generalize hA5 : a4.put (some 27) (.slice (some ⟨gn, 0, none⟩) 1 1) = a5 at K5 ⊢
    have hown3 := hown.kept (grown_of x1 none) (by cases u.ownBlock <;> simp)
    have hb3 : Below w.heap.size w w3 := hb2.trans (x1.mono hb2.size)
    refine wpList_append_own w3 (by kernel_rfl) (.tmp 25) (.tmp 27) 23 (by kernel_rfl) w.heap.size 35 i99 z99 29 272 (by kernel_rfl) hi1 hi2 hi3 hi4 hi5 (by decide) u n _ (K5.get (by simp)) hown3 ⟨gn, 0, none⟩ 1 1 D7.list (K5.get (by simp)) (Dl.list_length _) (fun t u hu => ?_) (Dl.list_one _) (by omega) (by omega) hb3.size fun v' w4 hown4 hgr hnilv => ?_
    · rw [add_none, cell_of_row w3 gn _ _ 35 (0, 0) x3]
      simpa using hu
    have hb4 : Below w.heap.size w w4 := hb3.trans (below_own hb3.size hown3 hgr)
    rw [show (p4.toList.getD 5 default).dst = some 28 by kernel_rfl]
    have K6 := K5.put (d := 28) (v := v') rfl
    generalize hA6 : a5.put (some 28) v' = a6 at K6 ⊢
    refine wpList_readsF [0, 1, 5] (xok_0 w4) (l4c v') (by kernel_rfl) (RP.ar_none (us := [(28, v')]) K6 (by simp) w4) fun a7 t7 har7 e hk7 => ?_
    simp only [List.map_cons, List.map_nil, List.cons.injEq, and_true] at e
    have q6 := ar_eval har7 e
    rcases own_slice hown4 with ⟨hv, hvn⟩
    cases hA : slA v' with
    | none => have := (hvn hA).1; omega
    | some ad =>
      rw [hA] at hv
      rw [hv] at hown4
      rcases row_slice hown4 with ⟨h0, _⟩ | ⟨gd, hgd, _, _⟩
      · cases h0
      · rw [hgd] at hown4 hv
        refine hQ a7 w4 gd (slC v') ⟨har7.size, har7.defers, fun p hp => ?_⟩ hb4 ?_
        · simp only [List.mem_cons, List.not_mem_nil, or_false] at hp
          rcases hp with rfl | rfl | rfl | rfl
          · exact (hk7 0 (by simp)).trans (K6.get (by simp))
          · exact (hk7 1 (by simp)).trans (K6.get (by simp))
          · exact (hk7 5 (by simp)).trans (K6.get (by simp))
          · exact q6.trans hv
        · rw [List.range_succ, List.flatMap_append, flat_congr n (g := fun j => (g j).list) fun t ht => by simp only [fput]; rw [if_neg (by omega)]]
          simpa [fput] using hown4
  cases hA : A with
  | none =>
    obtain ⟨h0, h0c⟩ := hnil hA
    have e24 : a2.eval (.tmp 24) = .slice none 0 0 := by rw [q24, hA, h0, h0c]
    refine wpList_append_own_none (by kernel_rfl) (.tmp 23) (.tmp 24) 23 (by kernel_rfl) w.heap.size 35 i99 29 (by kernel_rfl) hi1 _ 0 [] (K2.get (by simp)) hlit e24 ?_
    refine tail _ w1 ?_ b1
    rw [h0]
    exact hlit
  | some ad =>
    subst hA
    refine wpList_append_own w1 (by kernel_rfl) (.tmp 23) (.tmp 24) 23 (by kernel_rfl) w.heap.size 35 i99 z99 29 272 (by kernel_rfl) hi1 hi2 hi3 hi4 hi5 (by decide) _ 0 [] (K2.get (by simp)) hlit ad n c ((List.range n).flatMap fun j => (g j).list) q24 (flat_len (fun t => Dl.list_length _) _) (fun t u hu => ?_) (fun u hu => ?_) (by omega) (by omega) b1.size fun v' w2 hown hgr hnilv => ?_
    · obtain ⟨t', k', ht, rfl, hk⟩ := flat_out (fun t => Dl.list_length _) _ _ _ hu
      obtain ⟨x1, x2, ad', x3, x4, x5⟩ := hX [] t' ht
      have x3 : some ad = some ad' := x3
      cases x3
      have x6 := x5 k' (.val u) (by
        show ((g t').list.map SV.val)[k']? = _
        rw [List.getElem?_map, hk]
        rfl) (fun _ => 0)
      rw [@den_val (rowL (some ad) n c g)] at x6
      rw [← x6]
      exact b1.cell (by rw [add_block]; exact x4)
    · obtain ⟨t, _, hu⟩ := List.mem_flatMap.1 hu
      exact Dl.list_one _ u hu
    rw [Nat.zero_add, List.nil_append] at hown
    exact tail v' w2 hown (b1.trans (below_own b1.size hlit hgr))
/-- The deltas are handed on without the last. -/
theorem sliceCall {id s1 s2 s3 s4 tp d1 d2 gd cd : Nat} {ops : Array Oper} {ats : Array TypeId} {v5 : Value} {ts : List (Nat × Value)} {R : Ending → World → Prop}
    (hsp : ops.toList = ops.toList.take 4 ++ (ops.toList.getD 4 default :: ops.toList.getD 5 default :: (ops.toList.drop 6 ++ [])))
    (hr1 : letI := row0; (reads Try.prog 103 (ops.toList.take 4) (pickT [(1, .val (.slice A n c)), (5, .val v5), (6, .val (.slice (some ⟨gd, 0, none⟩) (n + 1) cd))])).map (fun t => [s1, s2, s3].map t) = some [.val v5, .val (.slice (some ⟨gd, 0, none⟩) (n + 1) cd), .val (.int .i64 (n : Int))])
    (hr2 : ∀ x y, letI := row0; (reads Try.prog 103 (ops.toList.drop 6) (pickT [(tp, .val (.tuple #[x, y]))])).map (fun t => [d1, d2].map t) = some [.val x, .val y])
    (hop4 : (ops.toList.getD 4 default).op = .slice 23 (.tmp s2) none (some (.tmp s3)) none) (hg4 : (ops.toList.getD 4 default).guard = none) (hd4 : (ops.toList.getD 4 default).dst = some s4)
    (hop5 : (ops.toList.getD 5 default).op = .call { callee := .value (.func 7), args := #[.tmp s1, .tmp s4], argTypes := ats }) (hg5 : (ops.toList.getD 5 default).guard = none) (hd5 : (ops.toList.getD 5 default).dst = some tp)
    (ho1 : offDs (ops.toList.take 4) (ts.map (·.1)) = true) (ho2 : offDs (ops.toList.drop 6) (ts.map (·.1)) = true) (hk4 : (decide (s4 < 103) && ((s1, v5) :: ts).all fun p => s4 != p.1) = true) (hk5 : (decide (tp < 103) && ts.all fun p => tp != p.1) = true)
    (h : Kp 103 ts a) (m1 : (1, .slice A n c) ∈ ts) (m5 : (5, v5) ∈ ts) (m6 : (6, .slice (some ⟨gd, 0, none⟩) (n + 1) cd) ∈ ts) (hcd : n + 1 ≤ cd) (hc : Calls Try.prog 7 #[v5, .slice (some ⟨gd, 0, none⟩) n cd] w R)
    (hQ : ∀ e w', R e w' → ∃ x y, e = .returned (.tuple #[x, y]) ∧ ∀ a', Kp 103 ((d1, x) :: (d2, y) :: ts) a' → Q .normal a' w') : (Code.region id ops false).wp Try.prog Q a w := by
  letI := row0
  refine wp_region_list ?_
  rw [hsp]
  have har := RP.ar_none (us := [(1, .slice A n c), (5, v5), (6, .slice (some ⟨gd, 0, none⟩) (n + 1) cd)]) h (by
    intro p hp
    simp only [List.mem_cons, List.not_mem_nil, or_false] at hp
    rcases hp with rfl | rfl | rfl
    · exact m1
    · exact m5
    · exact m6) w
  refine wpList_readsF (ts.map (·.1)) (xok_0 w) hr1 ho1 har fun a1 t1 har1 e hk1 => ?_
  simp only [List.map_cons, List.map_nil, List.cons.injEq, and_true] at e
  obtain ⟨e1, e2, e3⟩ := e
  have q1 := ar_eval har1 e1
  have q2 := ar_eval har1 e2
  have q3 := ar_eval har1 e3
  have K1 : Kp 103 ((s1, v5) :: ts) a1 := ⟨har1.size, har1.defers, fun p hp => by
    rcases List.mem_cons.1 hp with rfl | hp
    · exact q1
    · exact (hk1 p.1 (List.mem_map.2 ⟨p, hp, rfl⟩)).trans (h.vals p hp)⟩
  refine wpList_val hg4 (run_sl_h (A := some ⟨gd, 0, none⟩) (n := n + 1) (c := cd) (t := 23) (x := s2) (y := s3) (s := 29) (j := n) hop4 (by kernel_rfl) (by kernel_rfl) q2 q3 (by omega)) ?_
  have hsl : sliced (some ⟨gd, 0, none⟩) 0 n cd 29 = .slice (some ⟨gd, 0, none⟩) n cd := by
    unfold sliced
    rw [if_neg (by omega)]
    simp [add_none]
  rw [hd4, hsl]
  have K2 := K1.put (d := s4) (v := .slice (some ⟨gd, 0, none⟩) n cd) hk4
  generalize hA2 : a1.put (some s4) (.slice (some ⟨gd, 0, none⟩) n cd) = a2 at K2 ⊢
  have p1 : a2.eval (.tmp s1) = v5 := K2.get (by simp)
  have p4 : a2.eval (.tmp s4) = .slice (some ⟨gd, 0, none⟩) n cd := K2.get (by simp)
  have hrun : (execOp a2.eval (ops.toList.getD 5 default)).run Try.prog w = .ok (.enter 7 #[v5, .slice (some ⟨gd, 0, none⟩) n cd]) w := by
    rw [← run_enters (P := Try.prog) (f := 7) (by kernel_rfl)]
    have em : (#[Operand.tmp s1, .tmp s4] : Array Operand).map a2.eval = #[v5, .slice (some ⟨gd, 0, none⟩) n cd] := by
      simp only [List.map_toArray, List.map_cons, List.map_nil, p1, p4]
    unfold execOp
    simp only [hop5, resolve, em, Act.eval, Deferred.ofValue, Sem.run_bind, Sem.run_pure, Result.andThen_ok, invoke]
    simp
  refine wpList_plain hg5 fun K hK => ?_
  unfold Oper.wp
  rw [hrun, Oper.upon_enter]
  refine Calls.mono hc fun e w4 hR => ?_
  obtain ⟨x, y, he, hq⟩ := hQ e w4 hR
  subst he
  refine hK _ _ ?_
  rw [hd5]
  have K3 := (K2.sub (us := ts) (by
    intro p hp
    simp [hp])).put (d := tp) (v := .tuple #[x, y]) hk5
  generalize hA3 : a2.put (some tp) (.tuple #[x, y]) = a3 at K3 ⊢
  refine wpList_readsF (ts.map (·.1)) (xok_0 w4) (hr2 x y) ho2 (RP.ar_none (us := [(tp, .tuple #[x, y])]) K3 (by simp) w4) fun a5 t5 har5 e hk5 => ?_
  simp only [List.map_cons, List.map_nil, List.cons.injEq, and_true] at e
  obtain ⟨e5, e6⟩ := e
  refine hq a5 ⟨har5.size, har5.defers, fun p hp => ?_⟩
  rcases List.mem_cons.1 hp with rfl | hp
  · exact ar_eval har5 e5
  rcases List.mem_cons.1 hp with rfl | hp
  · exact ar_eval har5 e6
  · exact (hk5 p.1 (List.mem_map.2 ⟨p, hp, rfl⟩)).trans (K3.vals p (by simp [hp]))
end
end Lw
end Go.Proofs.Ytaojjpdlfnphiaa.PDescKinds
