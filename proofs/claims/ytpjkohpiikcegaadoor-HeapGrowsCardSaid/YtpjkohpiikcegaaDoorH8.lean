/- cameolaw07.awake. -/
import Derived.Test.YtpjkohpiikcegaaDoorH7
set_option linter.unusedSimpArgs false
set_option linter.unusedVariables false
set_option linter.unusedSectionVars false
namespace Go.Proofs.YtpjkohpiikcegaaDoor.PDescKinds
open Go.RowKit Go.Ev Go.Proofs.YtpjkohpiikcegaaDoorV.PrintLast
set_option maxRecDepth 100000
noncomputable def aw : List Code := bodyOf Tryd.f4
noncomputable def aw1 : Array Oper := opsOf (aw.getD 1 .skip)
noncomputable def aw4 : Array Oper := opsOf (aw.getD 4 .skip)
noncomputable def aw5 : Array Oper := opsOf (aw.getD 5 .skip)
noncomputable def aw6 : Array Oper := opsOf (aw.getD 6 .skip)
theorem aw_eq : aw = [aw.getD 0 .skip] ++ (.region 1 aw1 false :: ([aw.getD 2 .skip, aw.getD 3 .skip] ++ (.region 4 aw4 false :: .region 5 aw5 false :: .region 6 aw6 false :: aw.drop 7))) := by kernel_rfl
theorem aw1_eq : aw1.toList = aw1.toList.getD 0 default :: (aw1.toList.drop 1 ++ []) := by kernel_rfl
theorem aw4_eq : aw4.toList = aw4.toList.take 2 ++ (aw4.toList.getD 2 default :: (aw4.toList.drop 3 ++ [])) := by kernel_rfl
theorem aw5_eq : aw5.toList = aw5.toList.take 2 ++ (aw5.toList.getD 2 default :: (aw5.toList.drop 3 ++ [])) := by kernel_rfl
theorem aw6_eq : aw6.toList = aw6.toList.take 2 ++ (aw6.toList.getD 2 default :: (aw6.toList.drop 3 ++ [])) := by kernel_rfl
def vN : V := ⟨2, false, 0, ByteArray.mk #[], 0⟩
def vR : V := ⟨7, false, 0, ByteArray.mk #[], 1⟩
theorem t_aw0 : letI := row0
    evK Tryd.prog ext (tab []) 80 93 (seqL [aw.getD 0 .skip]) (⟨argS [], fun _ => none, 0⟩) (grab Tryd.prog Tryd.f4 [] [] 0) = some (.cut .normal ⟨[], []⟩) := by kernel_rfl
theorem t_aw1 (p q : Value) : letI := row0
    (reads Tryd.prog 93 (aw1.toList.drop 1) (pickT [(12, .val (.tuple #[p, q]))])).map (fun t => [1, 2].map t) = some [.val p, .val q] := by kernel_rfl
theorem t_aw2 (g : Nat) : letI := row0
    evK Tryd.prog ext (tab []) 80 93 (seqL [aw.getD 2 .skip, aw.getD 3 .skip]) ((⟨[(1, .val (.pointer (some ⟨g, 0, none⟩))), (2, .val (.int .i64 0))], []⟩ : Cut).st 0) (grab Tryd.prog Tryd.f4 [1] [] 0) = some (.cut .normal ⟨[(1, .val (.pointer (some ⟨g, 0, none⟩)))], []⟩) := by kernel_rfl
theorem t_aw4 (g : Value) : letI := row0
    (reads Tryd.prog 93 (aw4.toList.take 2) (pickT [(1, .val g)])).map (fun t => [22, 23].map t) = some [.val g, .val vN.agg] := by kernel_rfl
theorem t_aw4b (p q : Value) : letI := row0
    (reads Tryd.prog 93 (aw4.toList.drop 3) (pickT [(24, .val (.tuple #[p, q]))])).map (fun t => [3, 4].map t) = some [.val p, .val q] := by kernel_rfl
theorem t_aw5 (g : Value) : letI := row0
    (reads Tryd.prog 93 (aw5.toList.take 2) (pickT [(1, .val g)])).map (fun t => [28, 29].map t) = some [.val g, .val vR.agg] := by kernel_rfl
theorem t_aw5b (p q : Value) : letI := row0
    (reads Tryd.prog 93 (aw5.toList.drop 3) (pickT [(30, .val (.tuple #[p, q]))])).map (fun t => [5, 6].map t) = some [.val p, .val q] := by kernel_rfl
theorem t_aw6 (g : Value) : letI := row0
    (reads Tryd.prog 93 (aw6.toList.take 2) (pickT [(1, .val g)])).map (fun t => [34, 35].map t) = some [.val g, .val vN.agg] := by kernel_rfl
theorem t_aw6b (p q : Value) : letI := row0
    (reads Tryd.prog 93 (aw6.toList.drop 3) (pickT [(36, .val (.tuple #[p, q]))])).map (fun t => [7, 8].map t) = some [.val p, .val q] := by kernel_rfl
theorem t_aw7 (hb : Nat) (A : Option Addr) (c : Nat) (ob : Nat → Nat) (p : Nat → V) : letI := rowsH ⟨hb, 2, 10, 5, A, 2, c, ob, p⟩ noX1
    evK Tryd.prog ext (tab2 (L25 ck) [shC ⟨hb, 2, 10, 5, A, 2, c, ob, p⟩]) 80 93 (seqL (aw.drop 7)) ((⟨[(1, .xp [] 0 0), (3, .val (.int .i64 1)), (4, .val .nilIface), (5, .val (.int .i64 2)), (6, .val .nilIface), (8, .val (.iface 25 (.int .i64 3)))], []⟩ : Cut).st 0) (grab Tryd.prog Tryd.f4 [] [] 0) =
    bif (p 1).id == 1 then some (.ret (.val (.bool true))) else some (.ret (.val (.bool false))) := by kernel_rfl
theorem ck_N : ck vN = 0 := by
  unfold ck
  rw [show PHeapGrows.value_Check.good vN.k vN.b vN.n vN.s vN.id = true by kernel_rfl]
  rfl
theorem ck_R : ck vR = 0 := by
  unfold ck
  rw [show PHeapGrows.value_Check.good vR.k vR.b vR.n vR.s vR.id = true by kernel_rfl]
  rfl
theorem bc_N (n : Nat) : bc n vN = 0 := by
  unfold bc
  rw [if_pos ck_N, if_neg (show ¬vN.k = 7 by decide), if_pos (show vN.k = 2 by rfl)]
theorem bc_R : bc 1 vR = 0 := by
  unfold bc
  rw [if_pos ck_R, if_pos (show vR.k = 7 by rfl), if_pos (by decide)]
section
variable {B : Nat} {T : List Nat} {w w' w0 : World} {h : HD} {a : Act} {Q : Exit → Act → World → Prop}
/-- A call that answers a pair, and what a region does behind it. -/
theorem pair_tail {os : Array Oper} {o : Oper} {l : List Oper} {N d3 x y : Nat} {f : FuncId} {xs : Array Operand} {ats : Array TypeId} {vs : Array Value} {ts : List (Nat × Value)} {R : Ending → World → Prop} (hk : Kp N ts a)
    (ho : o.op = .call { callee := .value (.func f), args := xs, argTypes := ats }) (hg : o.guard = none) (hd : o.dst = some d3) (he : enters Tryd.prog f = true) (hv : xs.map a.eval = vs) (hc : Calls Tryd.prog f vs w R) (hR : ∀ e w', R e w' → ∃ p q, e = .returned (.tuple #[p, q]))
    (e2 : ∀ p q, letI := row0; (reads Tryd.prog N l (pickT [(d3, .val (.tuple #[p, q]))])).map (fun t => [x, y].map t) = some [.val p, .val q]) (hkeep : (decide (d3 < N) && ts.all fun p => d3 != p.1) = true) (hoff : offDs l (ts.map (·.1)) = true)
    (k : ∀ p q a' w', R (.returned (.tuple #[p, q])) w' → Kp N ((x, p) :: (y, q) :: ts) a' → Q .normal a' w') : wpList Tryd.prog os Q (o :: (l ++ [])) a w := by
  refine wpList_plain hg fun K hK => ?_
  refine call_op ho he hv hc (fun e w' hr => ?_) fun u w1 hr => ?_
  · obtain ⟨p, q, rfl⟩ := hR e w' hr
    exact ⟨_, rfl⟩
  obtain ⟨p, q, hu⟩ := hR _ _ hr
  cases hu
  rw [hd]
  refine hK _ _ ?_
  have K1 := hk.put (d := d3) (v := .tuple #[p, q]) hkeep
  generalize a.put (some d3) (.tuple #[p, q]) = a1 at K1 ⊢
  refine @wpList_readsF row0 _ _ (fun _ => 0) _ _ _ _ _ _ _ a1 w1 (ts.map (·.1)) (xok_0 w1) (e2 p q) hoff (RP.ar_none (us := [(d3, .tuple #[p, q])]) K1 (by simp) w1) fun a2 t2 har2 e hk2 => ?_
  simp only [List.map_cons, List.map_nil, List.cons.injEq, and_true] at e
  obtain ⟨ex, ey⟩ := e
  refine k p q a2 w1 hr ⟨@AR.size row0 _ _ _ _ _ har2, @AR.defers row0 _ _ _ _ _ har2, fun r hr => ?_⟩
  rcases List.mem_cons.1 hr with rfl | hr
  · exact @ar_eval row0 _ _ _ _ _ har2 _ _ ex
  rcases List.mem_cons.1 hr with rfl | hr
  · exact @ar_eval row0 _ _ _ _ _ har2 _ _ ey
  · exact (hk2 r.1 (List.mem_map.2 ⟨r, hr, rfl⟩)).trans (K1.vals r (List.mem_cons_of_mem _ hr))
theorem MakeOut.pair {v : V} {e : Ending} (hR : MakeOut B w h v e w') : ∃ p q, e = .returned (.tuple #[p, q]) := by
  rcases hR with ⟨_, rfl, _⟩ | ⟨_, ⟨_, rfl, _⟩ | ⟨_, rfl, _⟩⟩ <;> exact ⟨_, _, rfl⟩
/-- Make, of a plain value. -/
theorem make_reg {id : Nat} {ops : Array Oper} {N tp d1 d2 d3 x y : Nat} {v : V} {ts : List (Nat × Value)} (hT : TabB B w) (hO : OwnH B w h) (hB : B ≤ w.heap.size) (hn : h.n ≤ 1000000)
    (hops : ops.toList = ops.toList.take 2 ++ (ops.toList.getD 2 default :: (ops.toList.drop 3 ++ [])))
    (hk : Kp N ts a) (hm : (tp, .pointer (some ⟨h.hb, 0, none⟩)) ∈ ts)
    (e1 : ∀ g, letI := row0; (reads Tryd.prog N (ops.toList.take 2) (pickT [(tp, .val g)])).map (fun t => [d1, d2].map t) = some [.val g, .val v.agg])
    (ho : (ops.toList.getD 2 default).op = .call { callee := .value (.func 6), args := #[.tmp d1, .tmp d2], argTypes := #[24, 35] }) (hg : (ops.toList.getD 2 default).guard = none) (hd : (ops.toList.getD 2 default).dst = some d3)
    (e2 : ∀ p q, letI := row0; (reads Tryd.prog N (ops.toList.drop 3) (pickT [(d3, .val (.tuple #[p, q]))])).map (fun t => [x, y].map t) = some [.val p, .val q])
    (h1 : offDs (ops.toList.take 2) (ts.map (·.1)) = true) (h2 : (decide (d3 < N) && ts.all fun p => d3 != p.1) = true) (h3 : offDs (ops.toList.drop 3) (ts.map (·.1)) = true)
    (k : ∀ p q a' w', MakeOut B w h v (.returned (.tuple #[p, q])) w' → Kp N ((x, p) :: (y, q) :: ts) a' → Q .normal a' w') : (Code.region id ops false).wp Tryd.prog Q a w := by
  refine wp_region_list ?_
  rw [hops]
  refine @wpList_readsF row0 _ _ (fun _ => 0) _ _ _ _ _ _ _ a w (ts.map (·.1)) (xok_0 w) (e1 _) h1 (RP.ar_none (us := [(tp, .pointer (some ⟨h.hb, 0, none⟩))]) hk (by simpa using hm) w) fun a2 t2 har2 e hk2 => ?_
  simp only [List.map_cons, List.map_nil, List.cons.injEq, and_true] at e
  obtain ⟨ex, ey⟩ := e
  have K2 : Kp N ts a2 := hk.moved (@AR.size row0 _ _ _ _ _ har2) (@AR.defers row0 _ _ _ _ _ har2) fun p hp => hk2 p.1 (List.mem_map.2 ⟨p, hp, rfl⟩)
  refine pair_tail K2 ho hg hd (by kernel_rfl) (vs := #[.pointer (some ⟨h.hb, 0, none⟩), v.agg]) ?_ (Make.calls hT hO hB hn) (fun e w' hr => hr.pair) e2 h2 h3 k
  rw [List.map_toArray, List.map_cons, List.map_cons, List.map_nil, @ar_eval row0 _ _ _ _ _ har2 _ _ ex, @ar_eval row0 _ _ _ _ _ har2 _ _ ey]
theorem Awake.calls (hT : Tabs w) : Calls Tryd.prog 4 #[] w (fun e w' => e = .returned (.bool true) ∧ Below w.heap.size w w') := by
  refine calls_of_wp Tryd.func4 (c := Tryd.f4.body.getD .skip) (by kernel_rfl) ?_
  refine wpL_flat _ ?_
  show wpL Tryd.prog aw _ _ _
  rw [aw_eq, wpL_app]
  have hst := @start_sound row0 Tryd.f4 [] (fun y hy => by cases hy) w (fun _ => 0)
  refine pieceZ t_aw0 hst (fun v hv => by cases hv) (fun ex d hd m a1 w1 hr => ?_)
  cases hd
  have b1 := SR.bel hr
  have K1 : Kp 93 [] a1 := SR.kp hr fun p hp => by cases hp
  show (Code.region 1 aw1 false).wp Tryd.prog _ a1 w1
  refine wp_region_list ?_
  rw [aw1_eq]
  refine pair_tail (x := 1) (y := 2) (d3 := 12) (f := 5) (xs := #[.const (.int .i64 2), .const (.int .i64 10), .const (.int .i64 5)]) (ats := #[3, 3, 3]) (vs := #[.int .i64 2, .int .i64 10, .int .i64 5]) K1 (by kernel_rfl) (by kernel_rfl) (by kernel_rfl) (by kernel_rfl) (by simp only [List.map_toArray, List.map_cons, List.map_nil]; rfl)
    (New.calls (w := w1) (cap := 2) (fuel := 10) (depth := 5) (by decide) (by decide) (by decide) (by decide) (by decide)) (fun e w' hr => ?_) t_aw1 rfl rfl fun p q a2 w2 hr K2 => ?_
  · obtain ⟨g, rfl, _⟩ := hr
    exact ⟨_, _, rfl⟩
  obtain ⟨g, hpq, b2, O2⟩ := hr
  cases hpq
  show wpL Tryd.prog ([aw.getD 2 .skip, aw.getD 3 .skip] ++ (.region 4 aw4 false :: .region 5 aw5 false :: .region 6 aw6 false :: aw.drop 7)) _ a2 w2
  rw [wpL_app]
  refine pieceZ (t_aw2 g) (K2.sr w2) (fun v hv => by cases hv) (fun ex d hd m a3 w3 hr => ?_)
  cases hd
  have b3 := SR.bel hr
  have K3 : Kp 93 [(1, .pointer (some ⟨g, 0, none⟩))] a3 := SR.kp hr fun p hp => by
    obtain rfl := List.mem_singleton.1 hp
    exact ⟨rfl, @den_val row0 _ _⟩
  have hB3 : w1.heap.size ≤ w3.heap.size := Nat.le_trans b2.size b3.size
  have b13 : Below w1.heap.size w1 w3 := b2.trans (b3.mono b2.size)
  have T3 : TabB w1.heap.size w3 := fun w' hb => tabs_b (tabs_b hT b1) (b13.trans hb)
  have O3 := O2.below b3
  show (Code.region 4 aw4 false).wp Tryd.prog _ a3 w3
  refine make_reg (v := vN) (N := 93) (tp := 1) (d1 := 22) (d2 := 23) (d3 := 24) (x := 3) (y := 4) T3 O3 hB3 (Nat.zero_le _) aw4_eq K3 (by simp) t_aw4 (by kernel_rfl) (by kernel_rfl) (by kernel_rfl) t_aw4b rfl rfl rfl fun p q a4' w4 hr K4 => ?_
  rcases hr with ⟨hc, _⟩ | ⟨_, ⟨hc, _⟩ | ⟨_, hpq, A4, c4, g4, O4, F4, _⟩⟩
  · exact absurd (bc_N _) hc
  · exact absurd (show (2 : Int) ≤ ((0 : Nat) : Int) from hc) (by decide)
  cases hpq
  have hB4 : w1.heap.size ≤ w4.heap.size := Nat.le_trans hB3 F4.size
  have T4 := T3.fr F4 hB3
  show (Code.region 5 aw5 false).wp Tryd.prog _ a4' w4
  refine make_reg (v := vR) (N := 93) (tp := 1) (d1 := 28) (d2 := 29) (d3 := 30) (x := 5) (y := 6) T4 O4 hB4 (show 1 ≤ 1000000 by decide) aw5_eq K4 (by simp; rfl) t_aw5 (by kernel_rfl) (by kernel_rfl) (by kernel_rfl) t_aw5b rfl rfl rfl fun p q a5 w5 hr K5 => ?_
  rcases hr with ⟨hc, _⟩ | ⟨_, ⟨hc, _⟩ | ⟨_, hpq, A5, c5, g5, O5, F5, _⟩⟩
  · exact absurd bc_R hc
  · exact absurd (show (2 : Int) ≤ ((1 : Nat) : Int) from hc) (by decide)
  cases hpq
  have hB5 : w1.heap.size ≤ w5.heap.size := Nat.le_trans hB4 F5.size
  have T5 := T4.fr F5 hB4
  show (Code.region 6 aw6 false).wp Tryd.prog _ a5 w5
  refine make_reg (v := vN) (N := 93) (tp := 1) (d1 := 34) (d2 := 35) (d3 := 36) (x := 7) (y := 8) T5 O5 hB5 (show 2 ≤ 1000000 by decide) aw6_eq K5 (by simp; rfl) t_aw6 (by kernel_rfl) (by kernel_rfl) (by kernel_rfl) t_aw6b rfl rfl rfl fun p q a6 w6 hr K6 => ?_
  rcases hr with ⟨hc, _⟩ | ⟨_, ⟨_, hpq, b6⟩ | ⟨hc, _⟩⟩
  · exact absurd (bc_N _) hc
  · cases hpq
    have O6 := O5.below b6
    have T6 := T5.then (b6.mono hB5)
    have b16 : Below w1.heap.size w1 w6 := b13.trans ((F4.below hB3).trans ((F5.below hB4).trans (b6.mono hB5)))
    show wpL Tryd.prog (aw.drop 7) _ a6 w6
    generalize hH : HD.more _ A5 c5 g5 vR = H at O6
    have e : H = ⟨g, 2, 10, 5, A5, 2, c5, fput (fput (fun _ => 0) 0 g4) 1 g5, fput (fput (fun _ => v0) 0 vN) 1 vR⟩ := by
      rw [← hH]
      rfl
    letI := rowsH H noX1
    have C := ctxS (B := w1.heap.size) (h := H) (by rw [e]; exact (by decide : 2 ≤ 1000000))
    have ev := t_aw7 g A5 c5 (fput (fput (fun _ => 0) 0 g4) 1 g5) (fput (fput (fun _ => v0) 0 vN) 1 vR)
    rw [← e] at ev
    rw [show ((fput (fput (fun _ => v0) 0 vN) 1 vR) 1).id == 1 from rfl] at ev
    have hr6 : SR w6 93 (fun _ => 0) ((⟨[(1, .xp [] 0 0), (3, .val (.int .i64 1)), (4, .val .nilIface), (5, .val (.int .i64 2)), (6, .val .nilIface), (8, .val (.iface 25 (.int .i64 3)))], []⟩ : Cut).st 0) a6 w6 := by
      refine epoch K6.size K6.defers _ _ (fun p hp => ?_) (fun p hp => ?_)
      · simp only [List.mem_cons, List.not_mem_nil, or_false] at hp
        rcases hp with rfl | rfl | rfl | rfl | rfl | rfl
        · rw [den_h0, e]
          exact K6.vals (1, _) (by simp)
        · rw [den_val]; exact K6.vals (3, _) (by simp)
        · rw [den_val]; exact K6.vals (4, _) (by simp)
        · rw [den_val]; exact K6.vals (5, _) (by simp; rfl)
        · rw [den_val]; exact K6.vals (6, _) (by simp)
        · rw [den_val]; exact K6.vals (8, _) (by simp)
      · simp only [List.mem_cons, List.not_mem_nil, or_false] at hp
        rcases hp with rfl | rfl | rfl | rfl | rfl | rfl <;> first | exact ok_val _ _ | exact ok_h0 _ _ _
    refine piece C.mix C.hX C.hs C.hXO C.hG ev (w0 := w6) ⟨T6.here, O6⟩ hr6 (fun u hu m7 a7 w7 hd hres hb7 => ?_) (fun ex d hd => by cases hd)
    cases hu
    rw [den_val] at hres
    exact ⟨hd, _, hres, rfl, b1.trans ((b16.trans (hb7.mono (Nat.le_trans hB5 b6.size))).mono b1.size)⟩
  · exact absurd (show ((2 : Nat) : Int) < (2 : Int) from hc) (by decide)
end
end Go.Proofs.YtpjkohpiikcegaaDoor.PDescKinds
