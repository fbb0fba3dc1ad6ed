/- cameolaw07.HeapGrows answers true: the loop, the whole. -/
import Derived.Test.YtpjkohpiikcegaaDoorH10
set_option linter.unusedSimpArgs false
set_option linter.unusedVariables false
set_option linter.unusedSectionVars false
namespace Go.Proofs.YtpjkohpiikcegaaDoor.PDescKinds
open Go.RowKit Go.Ev Go.Proofs.YtpjkohpiikcegaaDoorV.PrintLast
set_option maxRecDepth 100000
section
variable {w w' w0 W : World} {h : HD} {a : Act} {Q : Exit → Act → World → Prop} {cap : Int} {A : Option Addr} {n c i : Nat} {g : Nat → V} {was : Value}
theorem xokP {B : Nat} (hO : OwnH B w h) (hP : PrR W A n g) (hb : Below W.heap.size W w) : @XOk (rowsH h (prX A n c g)) w := hO.xok (hP.x hb)
theorem den_pr (m : Nat → Nat) : @SV.den (rowsH h (prX A n c g)) m (.xs [0, 0]) = .slice A n c := @den_xs (rowsH h (prX A n c g)) _ _
theorem opsP {os : Array Oper} {l rest : List Oper} {N k : Nat} {st : St} {ts bs : List Nat} {next : Nat} {d : Cut} {m : Nat → Nat} {w1 : World} {B : Nat} (hT : Tabs w) (hO : OwnH B w h) (hP : PrR W A n g) (hb : Below W.heap.size W w)
    (hev : letI := rowsH h (prX A n c g); evOpsK Tryd.prog ext (callWithK Tryd.prog (tab (L25 ck)) (evK Tryd.prog ext (tab (L25 ck)) k)) os N l st (fun st => cutS ts bs next st) = some d) (hr : @SR (rowsH h (prX A n c g)) w N m st a w1)
    (hk : ∀ m' a' w', @SR (rowsH h (prX A n c g)) w N m' (d.st next) a' w' → wpList Tryd.prog os Q rest a' w') : wpList Tryd.prog os Q (l ++ rest) a w1 := by
  letI := rowsH h (prX A n c g)
  have C := ctxH (h := h) (prX A n c g)
  exact opsPiece C.mix C.hX C.hs C.hXO C.hG hev (w0 := w) ⟨hT, xokP hO hP hb⟩ hr hk
/-- One round's inside. -/
theorem law_body (hT : Tabs W) (hP : PrR W A n g) (hI : LI W cap w h was) (hn : h.n ≤ i) (hi : i < 50) (hin : i < n) (hk : Kp 124 (LV cap (.slice A n c) was h.hb i) a)
    (hQ : ∀ a' w' h' was', Kp 124 (LV cap (.slice A n c) was' h'.hb i) a' → LI W cap w' h' was' → h'.n ≤ i + 1 → Q .normal a' w') : wpL Tryd.prog lwb Q a w := by
  rw [lwb_eq]
  show (Code.region 10 lw10 false).wp Tryd.prog _ a w
  refine wp_region_list ?_
  rw [lw10_eq]
  have hTB : TabB W.heap.size w := fun w' hb => tabs_b hT (hI.bel.trans hb)
  have hB : W.heap.size ≤ w.heap.size := hI.bel.size
  have hsr : @SR (rowsH h (prX A n c g)) w 124 (fun _ => 0) ((⟨[(0, .val (.int .i64 cap)), (1, .xs [0, 0]), (5, .xp [] 0 0), (7, .val was), (8, .val (.int .i64 (i : Int)))], []⟩ : Cut).st 0) a w := by
    letI := rowsH h (prX A n c g)
    refine epoch hk.size hk.defers _ _ (fun r hr => ?_) (fun r hr => ?_)
    · simp only [List.mem_cons, List.not_mem_nil, or_false] at hr
      rcases hr with rfl | rfl | rfl | rfl | rfl
      · rw [den_val]; exact hk.vals (0, _) (by simp)
      · rw [den_pr]; exact hk.vals (1, _) (by simp)
      · rw [den_h0]; exact hk.vals (5, _) (by simp)
      · rw [den_val]; exact hk.vals (7, _) (by simp)
      · rw [den_val]; exact hk.vals (8, _) (by simp)
    · simp only [List.mem_cons, List.not_mem_nil, or_false] at hr
      rcases hr with rfl | rfl | rfl | rfl | rfl <;> first | exact ok_val _ _ | exact ok_h0 _ _ _ | exact ok_xs
  have ev := t_lw10 h A n c g cap was i
  rw [decide_eq_true (by omega : (0 : Int) ≤ (i : Int)), decide_eq_true (by omega : (i : Int) < (n : Int)), Int.toNat_natCast] at ev
  refine opsP hTB.here hI.own hP hI.bel ev hsr fun m a1 w1 hr1 => ?_
  have b1 := SR.bel hr1
  have K1 : Kp 124 ((47, .pointer (some ⟨h.hb, 0, none⟩)) :: (51, (g i).agg) :: LV cap (.slice A n c) was h.hb i) a1 := SR.kp hr1 fun r hr => by
    simp only [List.mem_cons, List.not_mem_nil, or_false] at hr
    rcases hr with rfl | rfl | rfl | rfl | rfl | rfl | rfl
    · exact ⟨rfl, den_h0 _ _ _⟩
    · exact ⟨rfl, @den_val (rowsH h (prX A n c g)) _ _⟩
    · exact ⟨rfl, @den_val (rowsH h (prX A n c g)) _ _⟩
    · exact ⟨rfl, den_pr _⟩
    · exact ⟨rfl, den_h0 _ _ _⟩
    · exact ⟨rfl, @den_val (rowsH h (prX A n c g)) _ _⟩
    · exact ⟨rfl, @den_val (rowsH h (prX A n c g)) _ _⟩
  have I1 := hI.below b1
  have hB1 : W.heap.size ≤ w1.heap.size := I1.bel.size
  have hTB1 : TabB W.heap.size w1 := fun w' hb => tabs_b hT (I1.bel.trans hb)
  refine pair_tail (x := 9) (y := 10) (d3 := 52) (f := 6) (xs := #[.tmp 47, .tmp 51]) (ats := #[24, 35]) (vs := #[.pointer (some ⟨h.hb, 0, none⟩), (g i).agg]) K1 (by kernel_rfl) (by kernel_rfl) (by kernel_rfl) (by kernel_rfl) ?_
    (Make.calls hTB1 I1.own hB1 (by omega)) (fun e w' hr => hr.pair) t_lw10b rfl rfl fun p q a2 w2 hr K2 => ?_
  · rw [List.map_toArray, List.map_cons, List.map_cons, List.map_nil, K1.get (d := 47) (v := .pointer (some ⟨h.hb, 0, none⟩)) (by simp), K1.get (d := 51) (v := (g i).agg) (by simp)]
  show wpL Tryd.prog ([lwb.getD 1 .skip] ++ (.cond (.tmp 56) (.region 12 lw12 false) .skip :: .region 13 lw13 false :: ((lwb.drop 4).take 3 ++ [.block 2 (.loop (roundOf lwb))]))) Q a2 w2
  rw [wpL_app]
  have bad : ∀ e : Int, (p = .int .i64 0 ∧ q = .iface 25 (.int .i64 e) ∧ Below w1.heap.size w1 w2) → wpL Tryd.prog [lwb.getD 1 .skip] (Exit.then (wpL Tryd.prog (.cond (.tmp 56) (.region 12 lw12 false) .skip :: .region 13 lw13 false :: ((lwb.drop 4).take 3 ++ [.block 2 (.loop (roundOf lwb))])) Q) Q) a2 w2 := by
    intro e ⟨hp, hq, b2⟩
    subst hp hq
    have K2' : Kp 124 ((9, .int .i64 0) :: (10, .iface 25 (.int .i64 e)) :: LV cap (.slice A n c) was h.hb i) a2 := K2.sub (by simp)
    refine pieceZ (t_lw11a cap (.slice A n c) was h.hb i e) (K2'.sr w2) (fun v hv => by cases hv) (fun ex d hd m a3 w3 hr3 => ?_)
    cases hd
    have b3 := SR.bel hr3
    have K3 : Kp 124 ((56, .bool false) :: (9, .int .i64 0) :: (10, .iface 25 (.int .i64 e)) :: LV cap (.slice A n c) was h.hb i) a3 := SR.kp hr3 fun r hr => by
      simp only [List.mem_cons, List.not_mem_nil, or_false] at hr
      rcases hr with rfl | rfl | rfl | rfl | rfl | rfl | rfl | rfl <;> exact ⟨rfl, @den_val row0 _ _⟩
    have I3 := (I1.below b2).below b3
    show (Code.cond (.tmp 56) (.region 12 lw12 false) .skip).wp Tryd.prog _ a3 w3
    refine wp_cond_false (K3.get (by simp)) (wp_skip ?_)
    show wpL Tryd.prog (.region 13 lw13 false :: ((lwb.drop 4).take 3 ++ [.block 2 (.loop (roundOf lwb))])) Q a3 w3
    exact tail_cmp hT I3 (by omega) (K3.sub (by simp)) (.inl ⟨rfl, e, rfl⟩) fun a4 w4 K4 I4 => hQ a4 w4 h was K4 I4 (by omega)
  rcases hr with ⟨_, hpq, b2⟩ | ⟨_, ⟨_, hpq, b2⟩ | ⟨hlt, hpq, A2, c2, g2, O2, F2, _⟩⟩
  · cases hpq
    exact bad _ ⟨rfl, rfl, b2⟩
  · cases hpq
    exact bad _ ⟨rfl, rfl, b2⟩
  · cases hpq
    have K2' : Kp 124 ((9, .int .i64 ((h.n + 1 : Nat) : Int)) :: (10, .nilIface) :: LV cap (.slice A n c) was h.hb i) a2 := K2.sub (by simp)
    have row2 := F2.row I1.row (by simp)
    have bel2 : Below W.heap.size W w2 := I1.bel.trans (F2.below hB1)
    refine pieceZ (t_lw11b cap (.slice A n c) was h.hb i _) (K2'.sr w2) (fun v hv => by cases hv) (fun ex d hd m a3 w3 hr3 => ?_)
    cases hd
    have b3 := SR.bel hr3
    have K3 : Kp 124 ((56, .bool true) :: (9, .int .i64 ((h.n + 1 : Nat) : Int)) :: (10, .nilIface) :: LV cap (.slice A n c) was h.hb i) a3 := SR.kp hr3 fun r hr => by
      simp only [List.mem_cons, List.not_mem_nil, or_false] at hr
      rcases hr with rfl | rfl | rfl | rfl | rfl | rfl | rfl | rfl <;> exact ⟨rfl, @den_val row0 _ _⟩
    obtain ⟨h', hh'⟩ : ∃ h', h' = h.more A2 c2 g2 (g i) := ⟨_, rfl⟩
    rw [← hh'] at O2
    have ehb : h'.hb = h.hb := by rw [hh']; rfl
    have O3 := O2.below b3
    have row3 := (FrT.of (B := 0) (T := []) b3).row row2 (by simp)
    have bel3 := bel2.trans (b3.mono bel2.size)
    show (Code.cond (.tmp 56) (.region 12 lw12 false) .skip).wp Tryd.prog _ a3 w3
    refine wp_cond_true (K3.get (by simp)) ?_
    refine wp_region_list ?_
    rw [lw12_eq]
    have hsr3 : @SR (rowsH h' (prX A n c g)) w3 124 (fun _ => 0) ((⟨[(0, .val (.int .i64 cap)), (1, .xs [0, 0]), (5, .xp [] 0 0), (7, .val was), (8, .val (.int .i64 (i : Int))), (9, .val (.int .i64 ((h.n + 1 : Nat) : Int))), (10, .val .nilIface)], []⟩ : Cut).st 0) a3 w3 := by
      letI := rowsH h' (prX A n c g)
      refine epoch K3.size K3.defers _ _ (fun r hr => ?_) (fun r hr => ?_)
      · simp only [List.mem_cons, List.not_mem_nil, or_false] at hr
        rcases hr with rfl | rfl | rfl | rfl | rfl | rfl | rfl
        · rw [den_val]; exact K3.vals (0, _) (by simp)
        · rw [den_pr]; exact K3.vals (1, _) (by simp)
        · rw [den_h0, ehb]; exact K3.vals (5, _) (by simp)
        · rw [den_val]; exact K3.vals (7, _) (by simp)
        · rw [den_val]; exact K3.vals (8, _) (by simp)
        · rw [den_val]; exact K3.vals (9, _) (by simp)
        · rw [den_val]; exact K3.vals (10, _) (by simp)
      · simp only [List.mem_cons, List.not_mem_nil, or_false] at hr
        rcases hr with rfl | rfl | rfl | rfl | rfl | rfl | rfl <;> first | exact ok_val _ _ | exact ok_h0 _ _ _ | exact ok_xs
    have ev3 := t_lw12 h' A n c g cap was ((h.n + 1 : Nat) : Int) i
    rw [decide_eq_true (by omega : (0 : Int) ≤ (i : Int)), decide_eq_true (by omega : (i : Int) < (n : Int)), Int.toNat_natCast] at ev3
    refine opsP (tabs_b hT bel3) O3 hP bel3 ev3 hsr3 fun m4 a4 w4 hr4 => ?_
    have b4 := SR.bel hr4
    obtain ⟨gg1, gg2⟩ := SR.own (b := 0) (l := shpV (g i)) (ty := 38) hr4 rfl
    have K4 : Kp 124 [(57, was), (63, .slice (some ⟨m4 0, 0, none⟩) 1 1), (0, .int .i64 cap), (1, .slice A n c), (5, .pointer (some ⟨h.hb, 0, none⟩)), (8, .int .i64 (i : Int)), (9, .int .i64 ((h.n + 1 : Nat) : Int)), (10, .nilIface)] a4 := SR.kp hr4 fun r hr => by
      simp only [List.mem_cons, List.not_mem_nil, or_false] at hr
      rcases hr with rfl | rfl | rfl | rfl | rfl | rfl | rfl | rfl
      · exact ⟨rfl, @den_val (rowsH h' (prX A n c g)) _ _⟩
      · exact ⟨rfl, @den_slc (rowsH h' (prX A n c g)) _ _ _ _ _⟩
      · exact ⟨rfl, @den_val (rowsH h' (prX A n c g)) _ _⟩
      · exact ⟨rfl, den_pr _⟩
      · exact ⟨rfl, by rw [← ehb]; exact den_h0 _ _ _⟩
      · exact ⟨rfl, @den_val (rowsH h' (prX A n c g)) _ _⟩
      · exact ⟨rfl, @den_val (rowsH h' (prX A n c g)) _ _⟩
      · exact ⟨rfl, @den_val (rowsH h' (prX A n c g)) _ _⟩
    have O4 := O3.below b4
    have row4 := (FrT.of (B := 0) (T := []) b4).row row3 (by simp)
    have bel4 := bel3.trans (b4.mono bel3.size)
    refine wpList_plain (by kernel_rfl) fun K hK => ?_
    obtain ⟨i38, z38, q1, q2, q3, q4, q5⟩ := info38
    have hM : maxLen = 9223372036854775807 := by decide +kernel
    refine wp_append_fresh (o := lw12.toList.getD 7 default) (.tmp 57) (.tmp 63) 28 (by kernel_rfl) W.heap.size 38 i38 z38 8 88 und28 q1 q2 q3 q4 q5 (by decide) was h.n _ (K4.get (by simp)) row4 ⟨m4 0, 0, none⟩ 1 1 (shpV (g i)) (K4.get (by simp)) rfl (fun j u hu => ?_) (shpV_one _) (by omega) (by omega) bel4.size fun u w5 hown hgr hfr => ?_
    · rw [add_none, cell_of_row w4 (m4 0) _ _ 38 (0, 0) gg2]
      simpa using hu
    rw [show (lw12.toList.getD 7 default).dst = some 64 by kernel_rfl]
    refine hK _ _ ?_
    have K5 := K4.put (d := 64) (v := u) rfl
    generalize a4.put (some 64) u = a5 at K5 ⊢
    have F5 : FrT W.heap.size [38] w4 w5 := FrT.own row4 (Nat.le_refl _) hgr
    have O5 := O4.fr F5 rfl
    have bel5 := bel4.trans (F5.below bel4.size)
    refine @wpList_readsF row0 _ _ (fun _ => 0) _ _ _ _ _ _ _ a5 w5 [0, 1, 5, 8, 9, 10] (xok_0 w5) (t_lw12b u) (by kernel_rfl) (RP.ar_none (us := [(64, u)]) K5 (by simp) w5) fun a6 t6 har6 e hk6 => ?_
    simp only [List.map_cons, List.map_nil, List.cons.injEq, and_true] at e
    have K6 : Kp 124 ((9, .int .i64 ((h.n + 1 : Nat) : Int)) :: (10, .nilIface) :: LV cap (.slice A n c) u h'.hb i) a6 := ⟨@AR.size row0 _ _ _ _ _ har6, @AR.defers row0 _ _ _ _ _ har6, fun r hr => by
      simp only [List.mem_cons, List.not_mem_nil, or_false] at hr
      rcases hr with rfl | rfl | rfl | rfl | rfl | rfl | rfl
      · exact (hk6 9 (by simp)).trans (K5.vals (9, _) (by simp))
      · exact (hk6 10 (by simp)).trans (K5.vals (10, _) (by simp))
      · exact (hk6 0 (by simp)).trans (K5.vals (0, _) (by simp))
      · exact (hk6 1 (by simp)).trans (K5.vals (1, _) (by simp))
      · rw [ehb]; exact (hk6 5 (by simp)).trans (K5.vals (5, _) (by simp))
      · exact @ar_eval row0 _ _ _ _ _ har6 _ _ e
      · exact (hk6 8 (by simp)).trans (K5.vals (8, _) (by simp))⟩
    show wpL Tryd.prog (.region 13 lw13 false :: ((lwb.drop 4).take 3 ++ [.block 2 (.loop (roundOf lwb))])) Q a6 w5
    have en : h'.n = h.n + 1 := by rw [hh']; rfl
    have I5 : LI W cap w5 h' u := ⟨bel5, O5, by
      rw [en]
      rw [hh', shRow_more]
      exact hown, by rw [hh']; exact hI.hcap, by rw [hh']; exact hI.hfuel, by rw [hh']; exact hI.hdepth, by
      rw [en]
      have := hI.hcap
      omega⟩
    exact tail_cmp hT I5 (by omega) K6 (.inr ⟨by rw [en], rfl⟩) fun a7 w7 K7 I7 => hQ a7 w7 h' u K7 I7 (by omega)
theorem LV.sub {v1 : Value} {gb : Nat} {m : Nat → Nat} {next : Nat} (hr : @SR row0 w 124 m ((⟨LH cap v1 was gb i, []⟩ : Cut).st next) a w') : Kp 124 (LV cap v1 was gb i) a := SR.kp hr fun r hr => by
  simp only [List.mem_cons, List.not_mem_nil, or_false] at hr
  rcases hr with rfl | rfl | rfl | rfl | rfl <;> exact ⟨rfl, @den_val row0 _ _⟩
def LQ (W : World) : Exit → Act → World → Prop := bodyPost Tryd.prog Tryd.f3 (fun e w' => e = .returned (.bool true) ∧ Below W.heap.size W w')
theorem law_end {v0 v1 : Value} (hk : Kp 124 [(0, v0), (1, v1)] a) (hb : Below W.heap.size W w) : wpL Tryd.prog (lw.drop 9) (LQ W) a w := by
  refine pieceZ (t_lwe v0 v1) (hk.sr w) (fun v hv m a' w' hd hres hb' => ?_) (fun ex d hd => by cases hd)
  cases hv
  rw [@den_val row0] at hres
  exact ⟨hd, _, hres, rfl, hb.trans (hb'.mono hb.size)⟩
theorem stopE {α : Type} {c1 c2 : Bool} {x y : α} (h : (c1 && c2) = false) : (bif c1 then (bif c2 then x else y) else y) = y := by cases c1 <;> cases c2 <;> simp_all
theorem law_loop (hT : Tabs W) (hP : PrR W A n g) : ∀ (f i : Nat) (h : HD) (was : Value) (a : Act) (w : World), Kp 124 (LV cap (.slice A n c) was h.hb i) a → LI W cap w h was → h.n ≤ i → i ≤ 50 → 50 - i < f →
    Code.rounds Tryd.prog (roundOf lw) (Exit.inBlock 0 (Exit.then (wpL Tryd.prog (lw.drop 9) (LQ W)) (LQ W))) f a w := by
  intro f
  induction f with
  | zero => intro i h was a w _ _ _ _ h2; omega
  | succ f ih =>
    intro i h was a w hk hI hn hi h2
    rw [rounds_succ]
    refine wpL_flat _ ?_
    show wpL Tryd.prog lwr _ a w
    rw [lwr_eq, wpL_app]
    have ev := t_lwr0 cap A n c was h.hb i
    by_cases hc : i < n ∧ i < 50
    · rw [decide_eq_true (by omega : (i : Int) < (n : Int)), decide_eq_true (by omega : (i : Int) < 50)] at ev
      refine pieceZ ev (hk.sr w) (fun v hv => by cases hv) (fun ex d hd m a1 w1 hr1 => ?_)
      cases hd
      have b1 := SR.bel hr1
      show (Code.block 1 (inB (lwr.getD 2 .skip))).wp Tryd.prog _ a1 w1
      refine wp_block ?_
      refine wpL_flat _ ?_
      show wpL Tryd.prog lwb _ a1 w1
      refine law_body hT hP (hI.below b1) hn hc.2 hc.1 (LV.sub hr1) fun a2 w2 h' was' K2 I2 hn2 => ?_
      show wpL Tryd.prog (lwr.drop 3) _ a2 w2
      have ev3 := t_lwr3 cap (.slice A n c) was' h'.hb i
      rw [wr (n := 50) hc.2 (by decide)] at ev3
      refine pieceZ ev3 (K2.sr w2) (fun v hv => by cases hv) (fun ex d hd m a3 w3 hr3 => ?_)
      cases hd
      exact ih (i + 1) h' was' a3 w3 (LV.sub hr3) (I2.below (SR.bel hr3)) hn2 (by omega) (by omega)
    · have ev2 := ev.trans (stopE (by simp only [Bool.and_eq_false_iff, decide_eq_false_iff_not]; omega))
      refine pieceZ ev2 (hk.sr w) (fun v hv => by cases hv) (fun ex d hd m a1 w1 hr1 => ?_)
      cases hd
      exact law_end (v0 := .int .i64 cap) (v1 := .slice A n c) ((LV.sub hr1).sub (by simp)) (hI.below (SR.bel hr1)).bel
theorem OwnH.mono {B B' : Nat} (hO : OwnH B w h) (hB : B' ≤ B) : OwnH B' w h := ⟨own_base hO.box hB, own_base hO.row hB, fun j hj => ⟨Nat.le_trans hB (hO.obj j hj).1, (hO.obj j hj).2⟩⟩
/-- The law answers true. -/
theorem Grows.calls (hT : Tabs W) (hP : PrR W A n g) : Calls Tryd.prog 3 #[.int .i64 cap, .slice A n c] W (fun e w' => e = .returned (.bool true) ∧ Below W.heap.size W w') := by
  refine calls_of_wp Tryd.func3 (c := Tryd.f3.body.getD .skip) (by kernel_rfl) ?_
  refine wpL_flat _ ?_
  show wpL Tryd.prog lw (LQ W) _ _
  rw [lw_eq, wpL_app]
  have hst := @start_sound row0 Tryd.f3 [.val (.int .i64 cap), .val (.slice A n c)] (fun y hy => by
    simp only [List.mem_cons, List.not_mem_nil, or_false] at hy
    rcases hy with rfl | rfl <;> exact @ok_val row0 _ _) W (fun _ => 0)
  simp only [List.map_cons, List.map_nil, @den_val row0] at hst
  refine pieceZ (t_lw0 _ _) hst (fun v hv => by cases hv) (fun ex d hd m a1 w1 hr1 => ?_)
  cases hd
  have b1 := SR.bel hr1
  have K1 : Kp 124 [(0, .int .i64 cap), (1, .slice A n c)] a1 := SR.kp hr1 fun r hr => by
    simp only [List.mem_cons, List.not_mem_nil, or_false] at hr
    rcases hr with rfl | rfl <;> exact ⟨rfl, @den_val row0 _ _⟩
  show (Code.region 1 lw1 false).wp Tryd.prog _ a1 w1
  refine wp_region_list ?_
  rw [lw1_eq]
  refine wpList_plain (by kernel_rfl) fun K hK => ?_
  refine call_op (o := lw1.toList.getD 0 default) (f := 4) (xs := #[]) (ats := #[]) (vs := #[]) (by kernel_rfl) (by kernel_rfl) (by simp) (Awake.calls (tabs_b hT b1)) (fun e w' hr => ⟨_, hr.1⟩) fun u w2 hr => ?_
  obtain ⟨hu, b2⟩ := hr
  cases hu
  rw [show (lw1.toList.getD 0 default).dst = some 13 by kernel_rfl]
  refine hK _ _ ?_
  have K2 := K1.put (d := 13) (v := .bool true) rfl
  generalize a1.put (some 13) (.bool true) = a2 at K2 ⊢
  have bel2 := b1.trans (b2.mono b1.size)
  refine @wpList_readsF row0 _ _ (fun _ => 0) _ _ _ _ _ _ _ a2 w2 [0, 1] (xok_0 w2) (t_lw1 true) (by kernel_rfl) (RP.ar_none (us := [(13, .bool true)]) K2 (by simp) w2) fun a3 t3 har3 e hk3 => ?_
  simp only [List.map_cons, List.map_nil, List.cons.injEq, and_true] at e
  have K3 : Kp 124 [(0, .int .i64 cap), (1, .slice A n c), (14, .bool false)] a3 := ⟨@AR.size row0 _ _ _ _ _ har3, @AR.defers row0 _ _ _ _ _ har3, fun r hr => by
    simp only [List.mem_cons, List.not_mem_nil, or_false] at hr
    rcases hr with rfl | rfl | rfl
    · exact (hk3 0 (by simp)).trans (K2.vals (0, _) (by simp))
    · exact (hk3 1 (by simp)).trans (K2.vals (1, _) (by simp))
    · exact @ar_eval row0 _ _ _ _ _ har3 _ _ e⟩
  show wpL Tryd.prog ([lw.getD 2 .skip] ++ (.region 3 lw3 false :: ([lw.getD 4 .skip, lw.getD 5 .skip, lw.getD 6 .skip, lw.getD 7 .skip] ++ (.block 0 (.loop (roundOf lw)) :: lw.drop 9)))) (LQ W) a3 w2
  rw [wpL_app]
  refine pieceZ (t_lw2 _ _) (K3.sr w2) (fun v hv => by cases hv) (fun ex d hd m a4 w4 hr4 => ?_)
  cases hd
  have b4 := SR.bel hr4
  have bel4 := bel2.trans (b4.mono bel2.size)
  have K4 : Kp 124 [(0, .int .i64 cap), (1, .slice A n c)] a4 := SR.kp hr4 fun r hr => by
    simp only [List.mem_cons, List.not_mem_nil, or_false] at hr
    rcases hr with rfl | rfl <;> exact ⟨rfl, @den_val row0 _ _⟩
  show (Code.region 3 lw3 false).wp Tryd.prog _ a4 w4
  refine wp_region_list ?_
  rw [lw3_eq]
  refine @wpList_readsF row0 _ _ (fun _ => 0) _ _ _ _ _ _ _ a4 w4 [0, 1] (xok_0 w4) (t_lw3 (.int .i64 cap)) (by kernel_rfl) (RP.ar_none (us := [(0, .int .i64 cap)]) K4 (by simp) w4) fun a5 t5 har5 e hk5 => ?_
  simp only [List.map_cons, List.map_nil, List.cons.injEq, and_true] at e
  have K5 : Kp 124 [(0, .int .i64 cap), (1, .slice A n c)] a5 := K4.moved (@AR.size row0 _ _ _ _ _ har5) (@AR.defers row0 _ _ _ _ _ har5) fun r hr => hk5 r.1 (by
    simp only [List.mem_cons, List.not_mem_nil, or_false] at hr
    rcases hr with rfl | rfl <;> simp)
  have hv5 : Array.map a5.eval #[.tmp 16, .const (.int .i64 5), .const (.int .i64 3)] = #[.int .i64 cap, .int .i64 5, .int .i64 3] := by
    rw [List.map_toArray, List.map_cons, List.map_cons, List.map_cons, List.map_nil, @ar_eval row0 _ _ _ _ _ har5 _ _ e]
    rfl
  by_cases hcap : cap < 0 ∨ 65536 < cap
  · refine pair_tail (x := 5) (y := 6) (d3 := 17) (f := 5) (xs := #[.tmp 16, .const (.int .i64 5), .const (.int .i64 3)]) (ats := #[3, 3, 3]) (vs := #[.int .i64 cap, .int .i64 5, .int .i64 3]) K5 (by kernel_rfl) (by kernel_rfl) (by kernel_rfl) (by kernel_rfl) hv5
      (New.refuses (w := w4) (fuel := 5) (depth := 3) hcap (by decide) (by decide) (by decide)) (fun e w' hr => ⟨_, _, hr.1⟩) t_lw3b rfl rfl fun p q a6 w6 hr K6 => ?_
    obtain ⟨hpq, b6⟩ := hr
    cases hpq
    have bel6 := bel4.trans (b6.mono bel4.size)
    show wpL Tryd.prog ([lw.getD 4 .skip, lw.getD 5 .skip, lw.getD 6 .skip, lw.getD 7 .skip] ++ (.block 0 (.loop (roundOf lw)) :: lw.drop 9)) (LQ W) a6 w6
    rw [wpL_app]
    have ev := (t_lw4a cap (.slice A n c)).trans (show _ = some (Res.ret (.val (.bool true))) by
      by_cases h0 : cap < 0
      · rw [decide_eq_true h0]; rfl
      · rw [decide_eq_false h0, decide_eq_true (by omega : cap > 65536)]; rfl)
    refine pieceZ ev (K6.sr w6) (fun v hv m' a' w' hd hres hb' => ?_) (fun ex d hd => by cases hd)
    cases hv
    rw [@den_val row0] at hres
    exact ⟨hd, _, hres, rfl, bel6.trans (hb'.mono bel6.size)⟩
  · refine pair_tail (x := 5) (y := 6) (d3 := 17) (f := 5) (xs := #[.tmp 16, .const (.int .i64 5), .const (.int .i64 3)]) (ats := #[3, 3, 3]) (vs := #[.int .i64 cap, .int .i64 5, .int .i64 3]) K5 (by kernel_rfl) (by kernel_rfl) (by kernel_rfl) (by kernel_rfl) hv5
      (New.calls (w := w4) (fuel := 5) (depth := 3) (by omega) (by omega) (by decide) (by decide) (by decide)) (fun e w' hr => ?_) t_lw3b rfl rfl fun p q a6 w6 hr K6 => ?_
    · obtain ⟨g, rfl, _⟩ := hr
      exact ⟨_, _, rfl⟩
    obtain ⟨gb, hpq, b6, O6⟩ := hr
    cases hpq
    have bel6 := bel4.trans (b6.mono bel4.size)
    show wpL Tryd.prog ([lw.getD 4 .skip, lw.getD 5 .skip, lw.getD 6 .skip, lw.getD 7 .skip] ++ (.block 0 (.loop (roundOf lw)) :: lw.drop 9)) (LQ W) a6 w6
    rw [wpL_app]
    refine pieceZ (t_lw4b cap (.slice A n c) gb) (K6.sr w6) (fun v hv => by cases hv) (fun ex d hd m a7 w7 hr7 => ?_)
    cases hd
    have b7 := SR.bel hr7
    show (Code.block 0 (.loop (roundOf lw))).wp Tryd.prog _ a7 w7
    refine wp_block (wp_loop_rounds 51 ?_)
    refine law_loop hT hP 51 0 ⟨gb, cap, 5, 3, none, 0, 0, fun _ => 0, fun _ => v0⟩ (.slice none 0 0) a7 w7 (LV.sub hr7) ⟨bel6.trans (b7.mono bel6.size), (O6.mono bel4.size).below b7, ⟨rfl, .inl ⟨rfl, rfl⟩⟩, rfl, rfl, rfl, by
      show ((0 : Nat) : Int) ≤ cap
      omega⟩ (Nat.zero_le _) (by decide) (by decide)
end
end Go.Proofs.YtpjkohpiikcegaaDoor.PDescKinds
