/- cameoref10.Patch: the regions that draw. -/
import Derived.Test.YtaojjpdlfnphiaaY7
set_option linter.unusedSimpArgs false
set_option linter.unusedVariables false
set_option linter.unusedSectionVars false
namespace Go.Proofs.Ytaojjpdlfnphiaa.PDescKinds
open Go.RowKit Go.Ev Go.Proofs.YtaojjpdlfnphiaaW.PrintLast
/-- A row joins an empty literal. -/
theorem wp_clone {o : Oper} {x y D B g : Nat} {s : Sh} {a : Act} {w w1 : World} {K : Act → World → Prop} {Q : Exit → Act → World → Prop} (ho : o.op = .call { callee := .builtin .append, args := #[.tmp x, .tmp y], argTypes := #[50, 50] })
    (hx : a.eval (.tmp x) = .slice (some ⟨g, 0, none⟩) 0 0) (hlit : w1.ownsRow D 55 20 (.slice (some ⟨g, 0, none⟩) 0 0) 0 []) (hy : a.eval (.tmp y) = s.row) (hR : w.ownsRow B 55 20 s.row s.n (Copy.rowOf s)) (hb : Below w.heap.size w w1) (hD : D ≤ w1.heap.size) (hn : s.n ≤ 2000000)
    (hQ : ∀ v' w2, w2.ownsRow D 55 20 v' s.n (Copy.rowOf s) → w1.grownBy w2 (some g) → K (a.put o.dst v') w2) : o.wp Try.prog a w1 K Q := by
  obtain ⟨i66, z66, hi1, hi2, hi3, hi4, hi5⟩ := Copy.info66
  have hM : maxLen = 9223372036854775807 := by decide +kernel
  rcases row_slice hR with ⟨hA, h0, hc0⟩ | ⟨g2, hA2, hB2, hlt2⟩
  · have hrow : s.row = .slice none 0 0 := by unfold Sh.row; rw [hA, h0, hc0]
    have e : Copy.rowOf s = [] := by unfold Copy.rowOf; rw [h0]; rfl
    have hrun := run_append_owned_none (P := Try.prog) (w := w1) D 50 o.type 55 i66 20 Try.underlying50 hi1 _ 0 [] hlit
    have hex : (execOp a.eval o).run Try.prog w1 = .ok (.value (.slice (some ⟨g, 0, none⟩) 0 0)) w1 := by
      unfold execOp
      simp only [ho, resolve, invoke, builtin, Sem.run_bind, Sem.run_pure, Result.andThen_ok, List.map_toArray, List.map_cons, List.map_nil, hx, hy, hrow, hrun]
    unfold Oper.wp
    rw [hex, Oper.upon_value]
    refine hQ _ w1 ?_ ⟨rfl, rfl, rfl, Nat.le_refl _, fun _ _ _ => rfl⟩
    rw [e, h0]
    exact hlit
  · have hrow : s.row = .slice (some ⟨g2, 0, none⟩) s.n s.c := by unfold Sh.row; rw [hA2]
    rw [hrow] at hR hy
    refine wp_append_own w1 (.tmp x) (.tmp y) 50 ho D 55 i66 z66 20 192 Try.underlying50 hi1 hi2 hi3 hi4 hi5 (by decide) _ 0 [] hx hlit ⟨g2, 0, none⟩ s.n s.c (Copy.rowOf s) hy (flat_len (fun t => Pr.list_length _) _) (fun j u hu => ?_) (fun u hu => ?_) (by omega) (by omega) hD fun v' w2 hown hgr hnilv => ?_
    · obtain ⟨t, k, ht, rfl, hk⟩ := flat_out (fun t => Pr.list_length _) _ _ _ hu
      rw [← own_at (fun t => Pr.list_length _) hR ht k u hk]
      exact hb.cell (by rw [add_block]; exact hlt2)
    · obtain ⟨t, _, hu⟩ := List.mem_flatMap.1 hu
      exact Pr.list_one _ u hu
    rw [Nat.zero_add, List.nil_append] at hown
    exact hQ v' w2 hown hgr
namespace RP
set_option maxRecDepth 100000
theorem e25a (bA sA : Option Addr) (δ : Dl) (s : Sh) (A : Option Addr) (n c : Nat) (j : Int) (v1 v6 v7 : Value) : letI := rowsX bA δ.cells sA ((shVals s (.slice A n c)).map SV.val)
    (takesL Try.prog o25 [10, 12] 150 [1, 2, 4, 5, 6, 7, 8] (pickT [(8, .xp [] 0 0), (9, .xp [0] 0 0), (1, .val v1), (6, .val v6), (7, .val v7), (10, .val (.int .i64 j))]) #[false, false, false, false, false, false, false, false, false, false, false, false, false]).map (fun p => ([1, 6, 7, 8, 9, 10, 133, 139].map p.1, p.2)) = some ([.val v1, .val v6, .val v7, .xp [] 0 0, .xp [0] 0 0, .val (.int .i64 j), .val (.slice A n c), .val (Pr.agg ⟨δ.k, δ.d⟩)], #[false, true, true, false, true, true, true, true, true, false, false, false, false]) := by kernel_rfl
theorem e25n : letI := row0
    evOp Try.prog ext (fun _ _ _ _ => none) (Ev.look (pickT [])) (fun _ => none) 0 (o25.toList.getD 0 default) = some (.slc 0 0 0 0, .new ⟨55, []⟩) := by kernel_rfl
theorem e25m (q : Pr) : letI := row0
    evOp Try.prog ext (fun _ _ _ _ => none) (Ev.look (pickT [(139, .val q.agg)])) (fun _ => none) 0 (o25.toList.getD 9 default) = some (.slc 0 0 1 1, .new ⟨55, q.list.map SV.val⟩) := by kernel_rfl
theorem e25f [XEnv] (P : Addr) : (takesL Try.prog o25 [10, 12] 150 [11] (pickT [(9, .val (.pointer (some P)))]) #[true, true, true, true, true, true, true, true, true, true, true, false, false]).map (fun p => ([142].map p.1, p.2)) = some ([.val (.pointer (some (P.add 7)))], #[true, true, true, true, true, true, true, true, true, true, true, true, false]) := by kernel_rfl
theorem e20a (bA sA : Option Addr) (δ : Dl) (s : Sh) (A : Option Addr) (n c : Nat) (j : Int) (v1 v6 v7 : Value) : letI := rowsX bA δ.cells sA ((shVals s (.slice A n c)).map SV.val)
    (takesL Try.prog o20 [11, 13] 150 [1, 2, 3, 6, 7, 8, 9] (pickT [(8, .xp [] 0 0), (9, .xp [0] 0 0), (1, .val v1), (6, .val v6), (7, .val v7), (10, .val (.int .i64 j))]) #[false, false, false, false, false, false, false, false, false, false, false, false, false, false]).map (fun p => ([1, 6, 7, 8, 9, 10, 96, 97, 101, 103].map p.1, p.2)) = some ([.val v1, .val v6, .val v7, .xp [] 0 0, .xp [0] 0 0, .val (.int .i64 j), .val (.slice A n c), .val (.int .i64 j), .val (.slice A n c), .val (.int .i64 (IntKind.i64.wrap (j + 1)))], #[false, true, true, true, false, false, true, true, true, true, false, false, false, false]) := by kernel_rfl
theorem e20n : letI := row0
    evOp Try.prog ext (fun _ _ _ _ => none) (Ev.look (pickT [])) (fun _ => none) 0 (o20.toList.getD 0 default) = some (.slc 0 0 0 0, .new ⟨55, []⟩) := by kernel_rfl
theorem e20f [XEnv] (P : Addr) : (takesL Try.prog o20 [11, 13] 150 [12] (pickT [(9, .val (.pointer (some P)))]) #[true, true, true, true, true, true, true, true, true, true, true, true, false, false]).map (fun p => ([106].map p.1, p.2)) = some ([.val (.pointer (some (P.add 7)))], #[true, true, true, true, true, true, true, true, true, true, true, true, true, false]) := by kernel_rfl
end RP
end Go.Proofs.Ytaojjpdlfnphiaa.PDescKinds
