/- Heap.Make. -/
import Derived.Test.YtpjkohpiikcegaaDoorH4
set_option linter.unusedSimpArgs false
set_option linter.unusedVariables false
set_option linter.unusedSectionVars false
namespace Go.Proofs.YtpjkohpiikcegaaDoor.PDescKinds
open Go.RowKit Go.Ev Go.Proofs.YtpjkohpiikcegaaDoorV.PrintLast
set_option maxRecDepth 100000
/-- What is wrong with a prototype. -/
noncomputable def bc (n : Nat) (v : V) : Int := if ck v = 0 then (if v.k = 7 then (if 1 ≤ v.id ∧ v.id ≤ (n : Int) then 0 else 4) else if v.k = 2 then 0 else 5) else ck v
theorem t_make' (h : HD) (v : V) : letI := rowsH h noX1
    evK Tryd.prog ext (tab (L25 ck)) 80 21 (seqL (mk.take 4)) (⟨argS [.xp [] 0 0, .val v.agg], fun _ => none, 0⟩) (grab Tryd.prog Tryd.f6 [0, 3] [0] 1) =
    if bc h.n v = 0 then some (.cut .normal ⟨[(0, .xp [] 0 0), (3, .ptr 0 0)], [(0, ⟨35, v.cellsV⟩)]⟩) else some (.ret (.val (.tuple #[.int .i64 0, .iface 25 (.int .i64 (bc h.n v))]))) := by
  rw [t_make h v ck]
  unfold V.cellsV
  by_cases h0 : ck v = 0
  · have e0 : (ck v != 0) = false := by simp [h0]
    rw [e0]
    simp only [cond_true, cond_false]
    by_cases h7 : v.k = 7
    · have e7 : (v.k == 7) = true := by simp [h7]
      have e7' : (v.k != 7) = false := by simp [h7]
      have e2 : (v.k != 2) = true := by simp [h7]
      rw [e7, e7', e2]
      simp only [cond_true, cond_false]
      by_cases h1 : v.id ≥ 1
      · by_cases hn : v.id ≤ (h.n : Int)
        · rw [decide_eq_true h1, decide_eq_true hn, show bc h.n v = 0 by unfold bc; rw [if_pos h0, if_pos h7, if_pos ⟨h1, hn⟩], if_pos rfl]
          rfl
        · rw [decide_eq_true h1, decide_eq_false hn, show bc h.n v = 4 by unfold bc; rw [if_pos h0, if_pos h7, if_neg (fun h => hn h.2)], if_neg (by decide)]
          rfl
      · rw [decide_eq_false h1, show bc h.n v = 4 by unfold bc; rw [if_pos h0, if_pos h7, if_neg (fun h => h1 h.1)], if_neg (by decide)]
        rfl
    · have e7 : (v.k == 7) = false := by simp [h7]
      have e7' : (v.k != 7) = true := by simp [h7]
      rw [e7, e7']
      simp only [cond_true, cond_false]
      by_cases h2 : v.k = 2
      · have e2 : (v.k != 2) = false := by simp [h2]
        rw [e2, show bc h.n v = 0 by unfold bc; rw [if_pos h0, if_neg h7, if_pos h2], if_pos rfl]
        rfl
      · have e2 : (v.k != 2) = true := by simp [h2]
        rw [e2, show bc h.n v = 5 by unfold bc; rw [if_pos h0, if_neg h7, if_neg h2], if_neg (by decide)]
        rfl
  · have e0 : (ck v != 0) = true := by simp [h0]
    rw [e0, show bc h.n v = ck v by unfold bc; rw [if_neg h0], if_neg h0]
    rfl
section
variable {B : Nat} {T : List Nat} {w w' w0 : World} {h : HD} {a : Act} {Q : Exit → Act → World → Prop}
/-- Operations over a heap. -/
theorem opsH {os : Array Oper} {l rest : List Oper} {N k : Nat} {st : St} {ts bs : List Nat} {next : Nat} {c : Cut} {m : Nat → Nat} {w1 : World} (hT : Tabs w) (hO : OwnH B w h)
    (hev : letI := rowsH h noX1; evOpsK Tryd.prog ext (callWithK Tryd.prog (tab (L25 ck)) (evK Tryd.prog ext (tab (L25 ck)) k)) os N l st (fun st => cutS ts bs next st) = some c) (hr : @SR (rowsH h noX1) w N m st a w1)
    (hk : ∀ m' a' w', @SR (rowsH h noX1) w N m' (c.st next) a' w' → wpList Tryd.prog os Q rest a' w') : wpList Tryd.prog os Q (l ++ rest) a w1 := by
  letI := rowsH h noX1
  have C := ctxH (h := h) noX1
  exact opsPiece C.mix C.hX C.hs C.hXO C.hG hev (w0 := w) ⟨hT, hO.xok (xnone _ _)⟩ hr hk
/-- What Make answers. -/
def MakeOut (B : Nat) (w : World) (h : HD) (v : V) : Ending → World → Prop := fun e w' =>
  (bc h.n v ≠ 0 ∧ e = .returned (.tuple #[.int .i64 0, .iface 25 (.int .i64 (bc h.n v))]) ∧ Below w.heap.size w w') ∨ (bc h.n v = 0 ∧ AddOut B w h v e w')
theorem AddOut.back {v : V} {w1 w2 : World} {e : Ending} (h1 : Below w.heap.size w w1) (h2 : AddOut B w1 h v e w2) : AddOut B w h v e w2 := by
  rcases h2 with ⟨a, b, c⟩ | ⟨a, b, A, c, g, d, f, l⟩
  · exact .inl ⟨a, b, h1.trans (c.mono h1.size)⟩
  · exact .inr ⟨a, b, A, c, g, d, (FrT.of h1).trans f, Nat.le_trans h1.size l⟩
theorem AddOut.then {v : V} {w1 w2 : World} {e : Ending} (h1 : AddOut B w h v e w1) (h2 : Below w1.heap.size w1 w2) : AddOut B w h v e w2 := by
  rcases h1 with ⟨a, b, c⟩ | ⟨a, b, A, c, g, d, f, l⟩
  · exact .inl ⟨a, b, c.trans (h2.mono c.size)⟩
  · exact .inr ⟨a, b, A, c, g, d.below h2, f.then h2, l⟩
theorem Make.calls {v : V} (hT : TabB B w) (hO : OwnH B w h) (hB : B ≤ w.heap.size) (hn : h.n ≤ 1000000) :
    Calls Tryd.prog 6 #[.pointer (some ⟨h.hb, 0, none⟩), v.agg] w (MakeOut B w h v) := by
  refine calls_of_wp Tryd.func6 (c := Tryd.f6.body.getD .skip) (by kernel_rfl) ?_
  refine wpL_flat _ ?_
  show wpL Tryd.prog mk _ _ _
  rw [mk_eq, wpL_app]
  have hst := @start_sound (rowsH h noX1) Tryd.f6 [.xp [] 0 0, .val v.agg] (fun y hy => by
    simp only [List.mem_cons, List.not_mem_nil, or_false] at hy
    rcases hy with rfl | rfl <;> first | exact ok_h0 _ _ _ | exact @ok_val (rowsH h noX1) _ _) w (fun _ => 0)
  simp only [List.map_cons, List.map_nil, @den_val (rowsH h noX1), den_h0] at hst
  have ev := t_make' h v
  by_cases hc : bc h.n v = 0
  · rw [if_pos hc] at ev
    refine pieceH hT.here hO ev hst (fun v hv => by cases hv) (fun ex d hd m a1 w1 hr => ?_)
    cases hd
    have hb := SR.bel hr
    show wpL Tryd.prog (.region 4 m4 false :: mk.drop 5) _ a1 w1
    refine wp_region_list ?_
    rw [m4_eq]
    refine opsH hT.here hO (t_make4 h v) hr fun m' a2 w2 hr2 => ?_
    have hb2 := SR.bel hr2
    have K2 : Kp 21 [(14, .pointer (some ⟨h.hb, 0, none⟩)), (15, v.agg), (17, .iface 55 (.agg #[]))] a2 := SR.kp hr2 fun p hp => by
      simp only [List.mem_cons, List.not_mem_nil, or_false] at hp
      rcases hp with rfl | rfl | rfl
      · exact ⟨rfl, den_h0 _ _ _⟩
      · exact ⟨rfl, @den_val (rowsH h noX1) _ _⟩
      · exact ⟨rfl, @den_val (rowsH h noX1) _ _⟩
    refine wpList_plain (by kernel_rfl) fun K hK => ?_
    refine call_op (o := m4.toList.getD 4 default) (f := 15) (xs := #[.tmp 14, .const (.int .i64 1), .tmp 15, .tmp 17, .const .nilIface]) (ats := #[24, 3, 35, 69, 20]) (vs := #[.pointer (some ⟨h.hb, 0, none⟩), .int .i64 1, v.agg, .iface 55 (.agg #[]), .nilIface]) (by kernel_rfl) (by kernel_rfl) ?_
      (Add.calls (hT.then (hb2.mono hB)) (hO.below hb2) (Nat.le_trans hB hb2.size) hn) (fun e w' hR => ?_) fun u w3 hR => ?_
    · simp only [List.map_toArray, List.map_cons, List.map_nil, K2.get (d := 14) (v := .pointer (some ⟨h.hb, 0, none⟩)) (by simp), K2.get (d := 15) (v := v.agg) (by simp), K2.get (d := 17) (v := .iface 55 (.agg #[])) (by simp)]
      rfl
    · rcases hR with ⟨_, rfl, _⟩ | ⟨_, rfl, _⟩ <;> exact ⟨_, rfl⟩
    rw [show (m4.toList.getD 4 default).dst = some 18 by kernel_rfl]
    refine hK _ _ ?_
    obtain ⟨p, q, rfl⟩ : ∃ p q, u = .tuple #[p, q] := by
      rcases hR with ⟨_, e, _⟩ | ⟨_, e, _⟩
      · cases e
        exact ⟨_, _, rfl⟩
      · cases e
        exact ⟨_, _, rfl⟩
    have K3 := K2.put (d := 18) (v := .tuple #[p, q]) rfl
    generalize hA3 : a2.put (some 18) (.tuple #[p, q]) = a3 at K3 ⊢
    letI := row0
    refine wpList_reads (m := fun _ => 0) (xok_0 w3) (t_make5 p q) (RP.ar_none (us := [(18, .tuple #[p, q])]) K3 (by simp) w3) fun a4' t4 har4 e => ?_
    simp only [List.map_cons, List.map_nil, List.cons.injEq, and_true] at e
    obtain ⟨e4, e5⟩ := e
    have K4 : Kp 21 [(4, p), (5, q)] a4' := ⟨har4.size, har4.defers, fun r hr => by
      simp only [List.mem_cons, List.not_mem_nil, or_false] at hr
      rcases hr with rfl | rfl
      · exact ar_eval har4 e4
      · exact ar_eval har4 e5⟩
    show wpL Tryd.prog (mk.drop 5) _ a4' w3
    refine pieceZ (t_maker p q) (K4.sr w3) (fun v hv m' a' w' hd hres hb' => ?_) (fun ex d hd => by cases hd)
    cases hv
    rw [@den_val row0] at hres
    exact ⟨hd, _, hres, .inr ⟨hc, (AddOut.back hb2 hR).then hb'⟩⟩
  · rw [if_neg hc] at ev
    refine pieceH hT.here hO ev hst (fun v hv m' a' w' hd hres hb => ?_) (fun ex d hd => by cases hd)
    cases hv
    rw [@den_val (rowsH h noX1)] at hres
    exact ⟨hd, _, hres, .inl ⟨hc, rfl, hb⟩⟩
end
end Go.Proofs.YtpjkohpiikcegaaDoor.PDescKinds
