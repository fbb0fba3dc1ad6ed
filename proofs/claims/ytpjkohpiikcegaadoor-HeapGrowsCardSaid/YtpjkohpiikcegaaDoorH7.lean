/- Heap.Shapes. -/
import Derived.Test.YtpjkohpiikcegaaDoorH6
set_option linter.unusedSimpArgs false
set_option linter.unusedVariables false
set_option linter.unusedSectionVars false
namespace Go.Proofs.YtpjkohpiikcegaaDoor.PDescKinds
open Go.RowKit Go.Ev Go.Proofs.YtpjkohpiikcegaaDoorV.PrintLast
set_option maxRecDepth 100000
/-- A loop's round. -/
def roundOf : List Code → Code
  | [] => .skip
  | .block _ (.loop b) :: _ => b
  | _ :: r => roundOf r
/-- Shape, over a heap. -/
def shC (h : HD) : Nat × (List SV → Mem → Option (DT SV)) := (11, fun args _ => match args with
  | [.xp [] 0 0, .val (.int .i64 j)] => some (.node (decide (1 ≤ j) && decide (j ≤ (h.n : Int))) (.leaf (.val (.tuple #[.agg (shpV (h.p (j.toNat - 1))).toArray, .int .i64 0]))) .bad)
  | _ => none)
noncomputable def ss : List Code := bodyOf Tryd.f7
noncomputable def ssr : List Code := flat (roundOf ss)
noncomputable def ssb : List Code := flat (inB (ssr.getD 2 .skip))
noncomputable def ss6 : Array Oper := opsOf (ssb.getD 2 .skip)
theorem ss_eq : ss = ss.take 3 ++ (.block 0 (.loop (roundOf ss)) :: ss.drop 4) := by kernel_rfl
theorem ssr_eq : ssr = ssr.take 2 ++ (.block 1 (inB (ssr.getD 2 .skip)) :: ssr.drop 3) := by kernel_rfl
theorem ssb_eq : ssb = ssb.take 2 ++ [.region 6 ss6 false] := by kernel_rfl
theorem ss6_eq : ss6.toList = ss6.toList.take 3 ++ (ss6.toList.getD 3 default :: ([ss6.toList.getD 4 default] ++ [])) := by kernel_rfl
abbrev SL (h : HD) (v : Value) (i : Nat) : Cut := ⟨[(0, .xp [] 0 0), (3, .val v), (11, .val (.int .i64 (h.n : Int))), (12, .val (.int .i64 (i : Int)))], []⟩
theorem t_ss0 (h : HD) : letI := rowsH h noX1
    evK Tryd.prog ext (tab2 (L25 ck) [shC h]) 80 28 (seqL (ss.take 3)) (⟨argS [.xp [] 0 0], fun _ => none, 0⟩) (grab Tryd.prog Tryd.f7 [0, 3, 11, 12] [] 0) = some (.cut .normal (SL h (.slice none 0 0) 0)) := by kernel_rfl
theorem t_ss1 (h : HD) (v : Value) (i : Nat) : letI := rowsH h noX1
    evK Tryd.prog ext (tab2 (L25 ck) [shC h]) 80 28 (seqL (ssr.take 2)) ((SL h v i).st 0) (grab Tryd.prog Tryd.f7 [0, 3, 11, 12] [] 0) = bif decide ((i : Int) < (h.n : Int)) then some (.cut .normal (SL h v i)) else some (.cut (.exit 0) (SL h v i)) := by kernel_rfl
theorem t_ss2 (h : HD) (v : Value) (i : Nat) : letI := rowsH h noX1
    evK Tryd.prog ext (tab2 (L25 ck) [shC h]) 80 28 (seqL (ssb.take 2)) ((SL h v i).st 0) (grab Tryd.prog Tryd.f7 [0, 3, 5, 11, 12] [0] 1) =
    bif decide (1 ≤ IntKind.i64.wrap ((i : Int) + 1)) && decide (IntKind.i64.wrap ((i : Int) + 1) ≤ (h.n : Int)) then some (.cut .normal ⟨[(0, .xp [] 0 0), (3, .val v), (5, .ptr 0 0), (11, .val (.int .i64 (h.n : Int))), (12, .val (.int .i64 (i : Int)))], [(0, ⟨38, (shpV (h.p ((IntKind.i64.wrap ((i : Int) + 1)).toNat - 1))).map SV.val⟩)]⟩) else none := by kernel_rfl
theorem t_ss3 (h : HD) (v : Value) (u : V) (i : Nat) : letI := rowsH h noX1
    evOpsK Tryd.prog ext (callWithK Tryd.prog (tab2 (L25 ck) [shC h]) (evK Tryd.prog ext (tab2 (L25 ck) [shC h]) 80)) ss6 28 (ss6.toList.take 3) ((⟨[(0, .xp [] 0 0), (3, .val v), (5, .ptr 0 0), (11, .val (.int .i64 (h.n : Int))), (12, .val (.int .i64 (i : Int)))], [(0, ⟨38, (shpV u).map SV.val⟩)]⟩ : Cut).st 1) (fun st => cutS [0, 11, 12, 22, 24] [1] 2 st) =
    some ⟨[(0, .xp [] 0 0), (11, .val (.int .i64 (h.n : Int))), (12, .val (.int .i64 (i : Int))), (22, .val v), (24, .slc 1 0 1 1)], [(1, ⟨38, (shpV u).map SV.val⟩)]⟩ := by kernel_rfl
theorem t_ss3b (v : Value) : letI := row0
    (reads Tryd.prog 28 [ss6.toList.getD 4 default] (pickT [(25, .val v)])).map (fun t => [3].map t) = some [.val v] := by kernel_rfl
theorem t_ss4 (h : HD) (v : Value) (i : Nat) : letI := rowsH h noX1
    evK Tryd.prog ext (tab2 (L25 ck) [shC h]) 80 28 (seqL (ssr.drop 3)) ((SL h v i).st 0) (grab Tryd.prog Tryd.f7 [0, 3, 11, 12] [] 0) = some (.cut .normal ⟨[(0, .xp [] 0 0), (3, .val v), (11, .val (.int .i64 (h.n : Int))), (12, .val (.int .i64 (IntKind.i64.wrap ((i : Int) + 1))))], []⟩) := by kernel_rfl
theorem t_ss5 (v : Value) : letI := row0
    evK Tryd.prog ext (tab []) 80 28 (seqL (ss.drop 4)) ((⟨[(3, .val v)], []⟩ : Cut).st 0) (grab Tryd.prog Tryd.f7 [] [] 0) = some (.ret (.val v)) := by kernel_rfl
section
variable {B : Nat} {T : List Nat} {w w' w0 : World} {h : HD} {a : Act} {Q : Exit → Act → World → Prop}
def InvB (B : Nat) (h : HD) (w : World) : Prop := Tabs w ∧ OwnH B w h
theorem shC_entry (hn : h.n ≤ 1000000) : letI := rowsH h noX1; ∀ p ∈ [shC h], EntryS Tryd.prog (InvB B h) p := by
  letI := rowsH h noX1
  intro p hp
  obtain rfl := List.mem_singleton.1 hp
  intro args mem t v h1 h2 hok
  unfold shC at h1
  simp only at h1
  split at h1
  · rename_i j
    cases h1
    cases hc : decide (1 ≤ j) && decide (j ≤ (h.n : Int)) with
    | false => rw [hc] at h2; cases h2
    | true =>
      rw [hc] at h2
      cases h2
      simp only [Bool.and_eq_true, decide_eq_true_eq] at hc
      refine ⟨ok_val _ _, fun w0 m w hI hm => ?_⟩
      obtain ⟨k, rfl⟩ : ∃ k : Nat, j = (k : Int) := ⟨j.toNat, by omega⟩
      have := Shape.calls (B := B) (tabs_b hI.1 hm.below) (hI.2.below hm.below) hn (j := k) (by omega) (by omega)
      rw [List.map_cons, List.map_cons, List.map_nil, den_h0, den_val, den_val, Int.toNat_natCast]
      exact this
  · cases h1
theorem ctxS (hn : h.n ≤ 1000000) : @Ctx (rowsH h noX1) Tryd.prog ext (tab2 (L25 ck) [shC h]) (InvB B h) := by
  letI := rowsH h noX1
  exact ⟨mixed, ext_sound, fun w w' h hb => ⟨tabs_b h.1 hb, h.2.below hb⟩, fun w h => h.2.xok (xnone _ _), tab2_sound (fun p hp => (fun args t v h1 h2 w hw => ck_entry p hp args t v h1 h2 w hw.1)) (shC_entry hn)⟩
/-- A heap's pointer among plain values. -/
theorem Kp.srH {N : Nat} {ts : List (Nat × Value)} (h0 : Kp N ts a) {us : List (Nat × Value)} (hp : (0, .pointer (some ⟨h.hb, 0, none⟩)) ∈ ts) (hu : ∀ p ∈ us, p ∈ ts) (w : World) (bx : XR) : @SR (rowsH h bx) w N (fun _ => 0) ((⟨(0, .xp [] 0 0) :: us.map fun p => (p.1, .val p.2), []⟩ : Cut).st 0) a w := by
  letI := rowsH h bx
  refine epoch h0.size h0.defers _ _ (fun p hp' => ?_) (fun p hp' => ?_)
  · rcases List.mem_cons.1 hp' with rfl | hp'
    · rw [den_h0]
      exact h0.vals _ hp
    · obtain ⟨q, hq, rfl⟩ := List.mem_map.1 hp'
      rw [den_val]
      exact h0.vals q (hu q hq)
  · rcases List.mem_cons.1 hp' with rfl | hp'
    · exact ok_h0 _ _ _
    · obtain ⟨q, hq, rfl⟩ := List.mem_map.1 hp'
      exact ok_val _ _
abbrev SK (h : HD) (v : Value) (i : Nat) : List (Nat × Value) := [(0, .pointer (some ⟨h.hb, 0, none⟩)), (3, v), (11, .int .i64 (h.n : Int)), (12, .int .i64 (i : Int))]
def shRow (h : HD) (i : Nat) : List Value := (List.range i).flatMap fun j => shpV (h.p j)
theorem SK.of {v : Value} {i next : Nat} {m : Nat → Nat} (hr : @SR (rowsH h noX1) w 28 m ((SL h v i).st next) a w') : Kp 28 (SK h v i) a := SR.kp hr fun p hp => by
  simp only [List.mem_cons, List.not_mem_nil, or_false] at hp
  rcases hp with rfl | rfl | rfl | rfl
  · exact ⟨rfl, den_h0 _ _ _⟩
  · exact ⟨rfl, @den_val (rowsH h noX1) _ _⟩
  · exact ⟨rfl, @den_val (rowsH h noX1) _ _⟩
  · exact ⟨rfl, @den_val (rowsH h noX1) _ _⟩
theorem SK.sr {v : Value} {i : Nat} (hk : Kp 28 (SK h v i) a) (w : World) : @SR (rowsH h noX1) w 28 (fun _ => 0) ((SL h v i).st 0) a w :=
  Kp.srH (us := [(3, v), (11, .int .i64 (h.n : Int)), (12, .int .i64 (i : Int))]) hk (by simp) (by simp) w noX1
def ShQ (w0 : World) (h : HD) : Exit → Act → World → Prop := bodyPost Tryd.prog Tryd.f7 (fun e w' => ∃ v, e = .returned v ∧ w'.ownsRow w0.heap.size 38 8 v h.n (shRow h h.n) ∧ Below w0.heap.size w0 w')
set_option maxHeartbeats 1000000 in
theorem Shapes.calls (hT : Tabs w0) (hO : OwnH B w0 h) (hn : h.n ≤ 1000000) :
    Calls Tryd.prog 7 #[.pointer (some ⟨h.hb, 0, none⟩)] w0 (fun e w' => ∃ v, e = .returned v ∧ w'.ownsRow w0.heap.size 38 8 v h.n (shRow h h.n) ∧ Below w0.heap.size w0 w') := by
  letI := rowsH h noX1
  have C := ctxS (B := B) (h := h) hn
  refine calls_of_wp Tryd.func7 (c := Tryd.f7.body.getD .skip) (by kernel_rfl) ?_
  refine wpL_flat _ ?_
  show wpL Tryd.prog ss (ShQ w0 h) _ _
  rw [ss_eq, wpL_app]
  have hst := start_sound (fn := Tryd.f7) [.xp [] 0 0] (fun y hy => by
    obtain rfl := List.mem_singleton.1 hy
    exact ok_h0 _ _ _) w0 (fun _ => 0)
  simp only [List.map_cons, List.map_nil, den_h0] at hst
  refine piece C.mix C.hX C.hs C.hXO C.hG (t_ss0 h) (w0 := w0) ⟨hT, hO⟩ hst (fun v hv => by cases hv) (fun ex d hd m a1 w1 hr => ?_)
  cases hd
  have K1 := SK.of hr
  have b1 := hr.mr.below
  show wpL Tryd.prog (.block 0 (.loop (roundOf ss)) :: ss.drop 4) _ a1 w1
  show (Code.block 0 (.loop (roundOf ss))).wp Tryd.prog _ a1 w1
  refine wp_block (wp_loop_rounds (h.n + 1) ?_)
  have fin : ∀ (v : Value) (a : Act) (w : World), Kp 28 (SK h v h.n) a → w.ownsRow w0.heap.size 38 8 v h.n (shRow h h.n) → Below w0.heap.size w0 w → wpL Tryd.prog (ss.drop 4) (ShQ w0 h) a w := by
    intro v a w hk hrow hb
    refine pieceZ (t_ss5 v) ((hk.sub (us := [(3, v)]) (by simp)).sr w) (fun u hu m a' w' hd hres hb' => ?_) (fun ex d hd => by cases hd)
    cases hu
    rw [@den_val row0] at hres
    exact ⟨hd, _, hres, v, rfl, (FrT.of (B := 0) (T := []) hb').row hrow (by simp), hb.trans (hb'.mono hb.size)⟩
  have loop : ∀ (k i : Nat) (v : Value) (a : Act) (w : World), Kp 28 (SK h v i) a → w.ownsRow w0.heap.size 38 8 v i (shRow h i) → Below w0.heap.size w0 w → i ≤ h.n → h.n - i < k →
      Code.rounds Tryd.prog (roundOf ss) (Exit.inBlock 0 (Exit.then (wpL Tryd.prog (ss.drop 4) (ShQ w0 h)) (ShQ w0 h))) k a w := by
    intro k
    induction k with
    | zero => intro i v a w _ _ _ _ h2; omega
    | succ k ih =>
      intro i v a w hk hrow hb hi h2
      rw [rounds_succ]
      refine wpL_flat _ ?_
      show wpL Tryd.prog ssr _ a w
      have hI : InvB B h w := ⟨tabs_b hT hb, hO.below hb⟩
      rw [ssr_eq, wpL_app]
      have ev := t_ss1 h v i
      by_cases hin : i < h.n
      · rw [decide_eq_true (by omega : (i : Int) < (h.n : Int))] at ev
        refine piece C.mix C.hX C.hs C.hXO C.hG ev (w0 := w) hI (SK.sr hk w) (fun v hv => by cases hv) (fun ex d hd m a1 w1 hr => ?_)
        cases hd
        have K1 := SK.of hr
        have b1 := hr.mr.below
        have hI1 : InvB B h w1 := ⟨tabs_b hI.1 b1, hI.2.below b1⟩
        have row1 := (FrT.of (B := 0) (T := []) b1).row hrow (by simp)
        have hb1 := hb.trans (b1.mono hb.size)
        show (Code.block 1 (inB (ssr.getD 2 .skip))).wp Tryd.prog _ a1 w1
        refine wp_block ?_
        refine wpL_flat _ ?_
        show wpL Tryd.prog ssb _ a1 w1
        rw [ssb_eq, wpL_app]
        have ev2 := t_ss2 h v i
        rw [wr hin (by omega), decide_eq_true (by omega : (1 : Int) ≤ ((i + 1 : Nat) : Int)), decide_eq_true (by omega : ((i + 1 : Nat) : Int) ≤ (h.n : Int)), Int.toNat_natCast, Nat.add_sub_cancel] at ev2
        refine piece C.mix C.hX C.hs C.hXO C.hG ev2 (w0 := w1) hI1 (SK.sr K1 w1) (fun v hv => by cases hv) (fun ex d hd m2 a2 w2 hr2 => ?_)
        cases hd
        show wpL Tryd.prog [.region 6 ss6 false] _ a2 w2
        rw [wpL_one]
        refine wp_region_list ?_
        rw [ss6_eq]
        refine opsPiece C.mix C.hX C.hs C.hXO C.hG (t_ss3 h v (h.p i) i) (w0 := w1) hI1 hr2 fun m3 a3 w3 hr3 => ?_
        have b3 := hr3.mr.below
        obtain ⟨g1, g2⟩ := SR.own (b := 1) (l := shpV (h.p i)) (ty := 38) hr3 rfl
        have K3 : Kp 28 [(0, .pointer (some ⟨h.hb, 0, none⟩)), (11, .int .i64 (h.n : Int)), (12, .int .i64 (i : Int)), (22, v), (24, .slice (some ⟨m3 1, 0, none⟩) 1 1)] a3 := SR.kp hr3 fun p hp => by
          simp only [List.mem_cons, List.not_mem_nil, or_false] at hp
          rcases hp with rfl | rfl | rfl | rfl | rfl
          · exact ⟨rfl, den_h0 _ _ _⟩
          · exact ⟨rfl, den_val _ _⟩
          · exact ⟨rfl, den_val _ _⟩
          · exact ⟨rfl, den_val _ _⟩
          · exact ⟨rfl, den_slc _ _ _ _ _⟩
        have row3 := (FrT.of (B := 0) (T := []) b3).row row1 (by simp)
        have hb3 := hb1.trans (b3.mono hb1.size)
        refine wpList_plain (by kernel_rfl) fun K hK => ?_
        obtain ⟨i38, z38, q1, q2, q3, q4, q5⟩ := info38
        have hM : maxLen = 9223372036854775807 := by decide +kernel
        refine wp_append_fresh (o := ss6.toList.getD 3 default) (.tmp 22) (.tmp 24) 28 (by kernel_rfl) w0.heap.size 38 i38 z38 8 88 und28 q1 q2 q3 q4 q5 (by decide) v i _ (K3.get (by simp)) row3 ⟨m3 1, 0, none⟩ 1 1 (shpV (h.p i)) (K3.get (by simp)) rfl (fun j u hu => ?_) (fun u hu => by
          unfold shpV at hu
          simp only [List.mem_cons, List.not_mem_nil, or_false] at hu
          rcases hu with rfl | rfl | rfl | rfl | rfl | rfl | rfl | rfl <;> rfl) (by omega) (by omega) hb3.size fun u w4 hown hgr hfr => ?_
        · rw [add_none, cell_of_row w3 (m3 1) _ _ 38 (0, 0) g2]
          simpa using hu
        rw [show (ss6.toList.getD 3 default).dst = some 25 by kernel_rfl]
        refine hK _ _ ?_
        have K4 := K3.put (d := 25) (v := u) rfl
        generalize hA4 : a3.put (some 25) u = a4 at K4 ⊢
        have hb4 : Below w0.heap.size w0 w4 := hb3.trans (below_own hb3.size row3 hgr)
        refine @wpList_readsF row0 _ _ (fun _ => 0) _ _ _ _ _ _ _ a4 w4 [0, 11, 12] (xok_0 w4) (t_ss3b u) (by kernel_rfl) (RP.ar_none (us := [(25, u)]) K4 (by simp) w4) fun a5 t5 har5 e hk5 => ?_
        simp only [List.map_cons, List.map_nil, List.cons.injEq, and_true] at e
        have K5 : Kp 28 (SK h u i) a5 := ⟨@AR.size row0 _ _ _ _ _ har5, @AR.defers row0 _ _ _ _ _ har5, fun p hp => by
          simp only [List.mem_cons, List.not_mem_nil, or_false] at hp
          rcases hp with rfl | rfl | rfl | rfl
          · exact (hk5 0 (by simp)).trans (K4.vals (0, _) (by simp))
          · exact @ar_eval row0 _ _ _ _ _ har5 _ _ e
          · exact (hk5 11 (by simp)).trans (K4.vals (11, _) (by simp))
          · exact (hk5 12 (by simp)).trans (K4.vals (12, _) (by simp))⟩
        have row5 : w4.ownsRow w0.heap.size 38 8 u (i + 1) (shRow h (i + 1)) := by
          have e : shRow h (i + 1) = shRow h i ++ shpV (h.p i) := by
            unfold shRow
            rw [List.range_succ, List.flatMap_append]
            simp
          rw [e]
          exact hown
        show wpL Tryd.prog (ssr.drop 3) _ a5 w4
        have hI4 : InvB B h w4 := ⟨tabs_b hT hb4, hO.below hb4⟩
        have ev4 := t_ss4 h u i
        rw [wr hin (by omega)] at ev4
        refine piece C.mix C.hX C.hs C.hXO C.hG ev4 (w0 := w4) hI4 (SK.sr K5 w4) (fun v hv => by cases hv) (fun ex d hd m6 a6 w6 hr6 => ?_)
        cases hd
        have b6 := hr6.mr.below
        exact ih (i + 1) u a6 w6 (SK.of hr6) ((FrT.of (B := 0) (T := []) b6).row row5 (by simp)) (hb4.trans (b6.mono hb4.size)) (by omega) (by omega)
      · obtain rfl : i = h.n := by omega
        rw [decide_eq_false (by omega : ¬(h.n : Int) < (h.n : Int))] at ev
        refine piece C.mix C.hX C.hs C.hXO C.hG ev (w0 := w) hI (SK.sr hk w) (fun v hv => by cases hv) (fun ex d hd m a1 w1 hr => ?_)
        cases hd
        have b1 := hr.mr.below
        exact fin v a1 w1 (SK.of hr) ((FrT.of (B := 0) (T := []) b1).row hrow (by simp)) (hb.trans (b1.mono hb.size))
  exact loop (h.n + 1) 0 _ a1 w1 K1 ⟨rfl, .inl ⟨rfl, rfl⟩⟩ b1 (Nat.zero_le _) (by omega)
end
end Go.Proofs.YtpjkohpiikcegaaDoor.PDescKinds
