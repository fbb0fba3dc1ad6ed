/- cameolaw07.HeapGrows answers true. -/
import Derived.Test.YtpjkohpiikcegaaDoorH9
set_option linter.unusedSimpArgs false
set_option linter.unusedVariables false
set_option linter.unusedSectionVars false
namespace Go.Proofs.YtpjkohpiikcegaaDoor.PDescKinds
open Go.RowKit Go.Ev Go.Proofs.YtpjkohpiikcegaaDoorV.PrintLast
set_option maxRecDepth 100000
/-- An own row, as_ a row that came in. -/
theorem xrow_own {e : XEnv} {w : World} {b z n c : Nat} {ty : TypeId} {A : Option Addr} {f : Nat → List Value} (hz : ∀ t, (f t).length = z) (h : w.ownsRow b ty z (.slice A n c) n ((List.range n).flatMap f)) : @XRow e w ⟨A, z, n, c, fun j => (f j).map SV.val⟩ := by
  letI := e
  intro j hj
  have hj : j < n := hj
  rcases row_slice h with ⟨_, e, _⟩ | ⟨g, rfl, h1, h2⟩
  · omega
  · refine ⟨by simp [hz], fun s hs mem => ?_, ⟨g, 0, none⟩, rfl, h2, fun k s hk m => ?_⟩
    · obtain ⟨u, _, rfl⟩ := List.mem_map.1 hs
      exact ok_val _ _
    · have hk : ((f j).map SV.val)[k]? = some s := hk
      rw [List.getElem?_map] at hk
      obtain ⟨u, hu, rfl⟩ := Option.map_eq_some_iff.1 hk
      rw [den_val]
      exact own_at hz h hj k u hu
/-- The values that came in, plainly. -/
def PrR (W : World) (A : Option Addr) (n : Nat) (g : Nat → V) : Prop := ∀ j, j < n → ∃ ad : Addr, A = some ad ∧ ad.block < W.heap.size ∧ ∀ k u, (g j).list[k]? = some u → W.cell? (ad.add (j * 5 + k)) = some u
theorem PrR.x {e : XEnv} {W w : World} {A : Option Addr} {n c : Nat} {g : Nat → V} (h : PrR W A n g) (hb : Below W.heap.size W w) : @XRow e w (prX A n c g) := by
  letI := e
  intro j hj
  obtain ⟨ad, h1, h2, h3⟩ := h j hj
  refine ⟨rfl, fun s hs mem => ?_, ad, h1, Nat.lt_of_lt_of_le h2 hb.size, fun k s hk m => ?_⟩
  · have hs : s ∈ (g j).list.map SV.val := hs
    obtain ⟨u, _, rfl⟩ := List.mem_map.1 hs
    exact ok_val _ _
  · have hk : ((g j).list.map SV.val)[k]? = some s := hk
    rw [List.getElem?_map] at hk
    obtain ⟨u, hu, rfl⟩ := Option.map_eq_some_iff.1 hk
    rw [den_val]
    refine (hb.cell ?_).trans (h3 k u hu)
    rw [add_block]
    exact h2
theorem ctxC (A1 A2 : Option Addr) (n c1 c2 : Nat) (p : Nat → V) : @Ctx (rowsC A1 A2 n c1 c2 p) Tryd.prog ext (tab []) (fun w => @XOk (rowsC A1 A2 n c1 c2 p) w) := by
  letI := rowsC A1 A2 n c1 c2 p
  exact ⟨mixed, ext_sound, fun w w' h hb => XOk.below h hb, fun w h => h, tab_sound entries_nil⟩
section
variable {B : Nat} {T : List Nat} {w w' w0 W : World} {h : HD} {a : Act} {Q : Exit → Act → World → Prop}
abbrev CK (v0 v1 v5 v8 v7 v11 : Value) (k : Nat) : List (Nat × Value) := [(0, v0), (1, v1), (5, v5), (7, v7), (8, v8), (11, v11), (12, .int .i64 (k : Int))]
section
variable {v0 v1 v5 v8 : Value} {A1 A2 : Option Addr} {n c1 c2 : Nat} {p : Nat → V}
theorem CK.sr {k : Nat} (hk : Kp 124 (CK v0 v1 v5 v8 (.slice A2 n c2) (.slice A1 n c1) k) a) (w : World) : @SR (rowsC A1 A2 n c1 c2 p) w 124 (fun _ => 0) ((LK v0 v1 v5 v8 k).st 0) a w := by
  letI := rowsC A1 A2 n c1 c2 p
  refine epoch hk.size hk.defers _ _ (fun q hq => ?_) (fun q hq => ?_)
  · simp only [List.mem_cons, List.not_mem_nil, or_false] at hq
    rcases hq with rfl | rfl | rfl | rfl | rfl | rfl | rfl
    · rw [den_val]; exact hk.vals (0, v0) (by simp)
    · rw [den_val]; exact hk.vals (1, v1) (by simp)
    · rw [den_val]; exact hk.vals (5, v5) (by simp)
    · rw [den_xs]; exact hk.vals (7, .slice A2 n c2) (by simp)
    · rw [den_val]; exact hk.vals (8, v8) (by simp)
    · rw [den_xs]; exact hk.vals (11, .slice A1 n c1) (by simp)
    · rw [den_val]; exact hk.vals (12, _) (by simp)
  · simp only [List.mem_cons, List.not_mem_nil, or_false] at hq
    rcases hq with rfl | rfl | rfl | rfl | rfl | rfl | rfl <;> first | exact ok_val _ _ | exact ok_xs
theorem CK.of {k next : Nat} {m : Nat → Nat} (hr : @SR (rowsC A1 A2 n c1 c2 p) w 124 m ((LK v0 v1 v5 v8 k).st next) a w') : Kp 124 (CK v0 v1 v5 v8 (.slice A2 n c2) (.slice A1 n c1) k) a := SR.kp hr fun q hq => by
  simp only [List.mem_cons, List.not_mem_nil, or_false] at hq
  rcases hq with rfl | rfl | rfl | rfl | rfl | rfl | rfl
  · exact ⟨rfl, @den_val (rowsC A1 A2 n c1 c2 p) _ _⟩
  · exact ⟨rfl, @den_val (rowsC A1 A2 n c1 c2 p) _ _⟩
  · exact ⟨rfl, @den_val (rowsC A1 A2 n c1 c2 p) _ _⟩
  · exact ⟨rfl, @den_xs (rowsC A1 A2 n c1 c2 p) _ _⟩
  · exact ⟨rfl, @den_val (rowsC A1 A2 n c1 c2 p) _ _⟩
  · exact ⟨rfl, @den_xs (rowsC A1 A2 n c1 c2 p) _ _⟩
  · exact ⟨rfl, @den_val (rowsC A1 A2 n c1 c2 p) _ _⟩
theorem cmp_loop (hX : @XOk (rowsC A1 A2 n c1 c2 p) w) (hn : n ≤ 1000000) (hk : Kp 124 (CK v0 v1 v5 v8 (.slice A2 n c2) (.slice A1 n c1) 0) a)
    (hQ : ∀ a' w', Kp 124 (CK v0 v1 v5 v8 (.slice A2 n c2) (.slice A1 n c1) n) a' → Below w.heap.size w w' → Q .normal a' w') : (Code.block 2 (.loop (roundOf lwb))).wp Tryd.prog Q a w := by
  letI := rowsC A1 A2 n c1 c2 p
  have C := ctxC A1 A2 n c1 c2 p
  refine wp_block (wp_loop_rounds (n + 1) ?_)
  have loop : ∀ (f k : Nat) (a1 : Act) (w1 : World), Kp 124 (CK v0 v1 v5 v8 (.slice A2 n c2) (.slice A1 n c1) k) a1 → Below w.heap.size w w1 → k ≤ n → n - k < f → Code.rounds Tryd.prog (roundOf lwb) (Exit.inBlock 2 Q) f a1 w1 := by
    intro f
    induction f with
    | zero => intro k a1 w1 _ _ _ h2; omega
    | succ f ih =>
      intro k a1 w1 K1 b1 h1 h2
      rw [rounds_succ]
      refine wpL_flat _ ?_
      show wpL Tryd.prog lwk _ a1 w1
      rw [show lwk = lwk.take 2 ++ lwk.drop 2 by kernel_rfl, wpL_app]
      have hX1 : @XOk (rowsC A1 A2 n c1 c2 p) w1 := XOk.below hX b1
      have ev := t_lwk1 v0 v1 v5 v8 A1 A2 n c1 c2 p k
      by_cases hkn : k < n
      · rw [decide_eq_true (by omega : (k : Int) < (n : Int))] at ev
        refine piece C.mix C.hX C.hs C.hXO C.hG ev (w0 := w1) hX1 (CK.sr K1 w1) (fun v hv => by cases hv) (fun ex d hd m a2 w2 hr => ?_)
        cases hd
        have K2 := CK.of hr
        have b2 := b1.trans (hr.mr.below.mono b1.size)
        show wpL Tryd.prog (lwk.drop 2) _ a2 w2
        have ev2 := t_lwk2' v0 v1 v5 v8 A1 A2 n c1 c2 p k hkn
        unfold LK' at ev2
        rw [wr hkn (by omega)] at ev2
        refine piece C.mix C.hX C.hs C.hXO C.hG ev2 (w0 := w2) (XOk.below hX b2) (CK.sr K2 w2) (fun v hv => by cases hv) (fun ex d hd m a3 w3 hr => ?_)
        cases hd
        exact ih (k + 1) a3 w3 (CK.of hr) (b2.trans (hr.mr.below.mono b2.size)) (by omega) (by omega)
      · obtain rfl : k = n := by omega
        rw [decide_eq_false (by omega : ¬(k : Int) < (k : Int))] at ev
        refine piece C.mix C.hX C.hs C.hXO C.hG ev (w0 := w1) hX1 (CK.sr K1 w1) (fun v hv => by cases hv) (fun ex d hd m a2 w2 hr => ?_)
        cases hd
        exact hQ a2 w2 (CK.of hr) (b1.trans (hr.mr.below.mono b1.size))
  exact loop (n + 1) 0 a w hk (Below.refl _ _) (Nat.zero_le _) (by omega)
end
/-- What stands at the loop's head. -/
structure LI (W : World) (cap : Int) (w : World) (h : HD) (was : Value) : Prop where
  bel : Below W.heap.size W w
  own : OwnH W.heap.size w h
  row : w.ownsRow W.heap.size 38 8 was h.n (shRow h h.n)
  hcap : h.cap = cap
  hfuel : h.fuel = 5
  hdepth : h.depth = 3
  le : (h.n : Int) ≤ cap
theorem LI.below {cap : Int} {was : Value} (hI : LI W cap w h was) (hb : Below w.heap.size w w') : LI W cap w' h was :=
  ⟨hI.bel.trans (hb.mono hI.bel.size), hI.own.below hb, (FrT.of (B := 0) (T := []) hb).row hI.row (by simp), hI.hcap, hI.hfuel, hI.hdepth, hI.le⟩
theorem shRow_more (h : HD) (A : Option Addr) (c g : Nat) (v : V) : shRow (h.more A c g v) (h.n + 1) = shRow h h.n ++ shpV v := by
  unfold shRow
  rw [flat_congr (h.n + 1) (g := fun j => fput (fun j => shpV (h.p j)) h.n (shpV v) j) fun j hj => by
    show shpV (fput h.p h.n v j) = _
    unfold fput
    split <;> rfl, rowPut]
theorem shpV_len (v : V) : (shpV v).length = 8 := rfl
theorem shpV_one (v : V) : ∀ u ∈ shpV v, u.oneCell' = true := by
  intro u hu
  unfold shpV at hu
  simp only [List.mem_cons, List.not_mem_nil, or_false] at hu
  rcases hu with rfl | rfl | rfl | rfl | rfl | rfl | rfl | rfl <;> rfl
/-- Shapes, looked at and compared with what was. -/
theorem tail_cmp {cap : Int} {v1 was p q : Value} {i : Nat} (hT : Tabs W) (hI : LI W cap w h was) (hn : h.n ≤ 1000000) (hk : Kp 124 ((9, p) :: (10, q) :: LV cap v1 was h.hb i) a)
    (hpq : (p = .int .i64 0 ∧ ∃ e, q = .iface 25 (.int .i64 e)) ∨ (p = .int .i64 (h.n : Int) ∧ q = .nilIface))
    (hQ : ∀ a' w', Kp 124 (LV cap v1 was h.hb i) a' → LI W cap w' h was → Q .normal a' w') : wpL Tryd.prog (.region 13 lw13 false :: ((lwb.drop 4).take 3 ++ [.block 2 (.loop (roundOf lwb))])) Q a w := by
  show (Code.region 13 lw13 false).wp Tryd.prog _ a w
  refine wp_region_list ?_
  rw [lw13_eq]
  refine @wpList_readsF row0 _ _ (fun _ => 0) _ _ _ _ _ _ _ a w [9, 10, 0, 1, 5, 7, 8] (xok_0 w) (t_lw13 (.pointer (some ⟨h.hb, 0, none⟩))) (by kernel_rfl) (RP.ar_none (us := [(5, .pointer (some ⟨h.hb, 0, none⟩))]) hk (by simp) w) fun a1 t1 har1 e hk1 => ?_
  simp only [List.map_cons, List.map_nil, List.cons.injEq, and_true] at e
  have K1 : Kp 124 ((65, .pointer (some ⟨h.hb, 0, none⟩)) :: (9, p) :: (10, q) :: LV cap v1 was h.hb i) a1 := ⟨@AR.size row0 _ _ _ _ _ har1, @AR.defers row0 _ _ _ _ _ har1, fun r hr => by
    rcases List.mem_cons.1 hr with rfl | hr
    · exact @ar_eval row0 _ _ _ _ _ har1 _ _ e
    · refine (hk1 r.1 ?_).trans (hk.vals r hr)
      simp only [List.mem_cons, List.not_mem_nil, or_false] at hr
      rcases hr with rfl | rfl | rfl | rfl | rfl | rfl | rfl <;> simp⟩
  refine wpList_plain (by kernel_rfl) fun K hK => ?_
  refine call_op (o := lw13.toList.getD 1 default) (f := 7) (xs := #[.tmp 65]) (ats := #[24]) (vs := #[.pointer (some ⟨h.hb, 0, none⟩)]) (by kernel_rfl) (by kernel_rfl) ?_ (Shapes.calls (tabs_b hT hI.bel) hI.own hn) (fun e w' hr => ?_) fun l w2 hr => ?_
  · rw [List.map_toArray, List.map_cons, List.map_nil, K1.get (d := 65) (v := .pointer (some ⟨h.hb, 0, none⟩)) (by simp)]
  · obtain ⟨v, rfl, _⟩ := hr
    exact ⟨_, rfl⟩
  obtain ⟨l', hl, hrow, b2⟩ := hr
  cases hl
  rw [show (lw13.toList.getD 1 default).dst = some 66 by kernel_rfl]
  refine hK _ _ ?_
  have K2 := K1.put (d := 66) (v := l) rfl
  generalize a1.put (some 66) l = a2 at K2 ⊢
  refine @wpList_readsF row0 _ _ (fun _ => 0) _ _ _ _ _ _ _ a2 w2 [9, 10, 0, 1, 5, 7, 8] (xok_0 w2) (t_lw13b l) (by kernel_rfl) (RP.ar_none (us := [(66, l)]) K2 (by simp) w2) fun a3 t3 har3 e hk3 => ?_
  simp only [List.map_cons, List.map_nil, List.cons.injEq, and_true] at e
  have K3 : Kp 124 ((11, l) :: (9, p) :: (10, q) :: LV cap v1 was h.hb i) a3 := ⟨@AR.size row0 _ _ _ _ _ har3, @AR.defers row0 _ _ _ _ _ har3, fun r hr => by
    rcases List.mem_cons.1 hr with rfl | hr
    · exact @ar_eval row0 _ _ _ _ _ har3 _ _ e
    · refine (hk3 r.1 ?_).trans (K2.vals r (by
        simp only [List.mem_cons, List.not_mem_nil, or_false] at hr ⊢
        exact .inr (.inr hr)))
      simp only [List.mem_cons, List.not_mem_nil, or_false] at hr
      rcases hr with rfl | rfl | rfl | rfl | rfl | rfl | rfl <;> simp⟩
  have I2 := hI.below b2
  obtain ⟨hwas, _⟩ := own_slice I2.row
  obtain ⟨hle, _⟩ := own_slice hrow
  show wpL Tryd.prog ((lwb.drop 4).take 3 ++ [.block 2 (.loop (roundOf lwb))]) Q a3 w2
  rw [wpL_app]
  have hh : h = ⟨h.hb, cap, 5, 3, h.A, h.n, h.c, h.ob, h.p⟩ := by
    have h1 := hI.hcap
    have h2 := hI.hfuel
    have h3 := hI.hdepth
    cases h
    simp only at h1 h2 h3
    subst h1 h2 h3
    rfl
  have hsr : @SR (rowsH h noX1) w2 124 (fun _ => 0) ((LC cap v1 was l i p q).st 0) a3 w2 := by
    letI := rowsH h noX1
    refine epoch K3.size K3.defers _ _ (fun r hr => ?_) (fun r hr => ?_)
    · simp only [List.mem_cons, List.not_mem_nil, or_false] at hr
      rcases hr with rfl | rfl | rfl | rfl | rfl | rfl | rfl | rfl
      · rw [den_val]; exact K3.vals (0, _) (by simp)
      · rw [den_val]; exact K3.vals (1, _) (by simp)
      · rw [den_h0]; exact K3.vals (5, _) (by simp)
      · rw [den_val]; exact K3.vals (7, _) (by simp)
      · rw [den_val]; exact K3.vals (8, _) (by simp)
      · rw [den_val]; exact K3.vals (9, _) (by simp)
      · rw [den_val]; exact K3.vals (10, _) (by simp)
      · rw [den_val]; exact K3.vals (11, _) (by simp)
    · simp only [List.mem_cons, List.not_mem_nil, or_false] at hr
      rcases hr with rfl | rfl | rfl | rfl | rfl | rfl | rfl | rfl <;> first | exact ok_val _ _ | exact ok_h0 _ _ _
  have ev : (letI := rowsH h noX1; evK Tryd.prog ext (tab (L25 ck)) 80 124 (seqL ((lwb.drop 4).take 3)) ((LC cap v1 was l i p q).st 0) (grab Tryd.prog Tryd.f3 [0, 1, 5, 7, 8, 11, 12] [] 0)) = some (.cut .normal (LD cap v1 was l i)) := by
    rw [hwas, hle, hh]
    rcases hpq with ⟨rfl, e, rfl⟩ | ⟨rfl, rfl⟩
    · refine (t_lw14a cap v1 _ _ h.A h.n _ _ h.hb h.c h.ob h.p e i).trans ?_
      rw [show ((h.n : Int) != (h.n : Int)) = false by simp, decide_eq_false (by have := hI.le; omega : ¬(h.n : Int) > cap)]
      rfl
    · refine (t_lw14b cap v1 _ _ h.A h.n _ _ h.hb h.c h.ob h.p i).trans ?_
      rw [show ((h.n : Int) != (h.n : Int)) = false by simp, decide_eq_false (by have := hI.le; omega : ¬(h.n : Int) > cap)]
      rfl
  refine pieceH (tabs_b hT I2.bel) I2.own ev hsr (fun v hv => by cases hv) (fun ex d hd m a4 w4 hr4 => ?_)
  cases hd
  have b4 := SR.bel hr4
  have I4 := I2.below b4
  have row4 := (FrT.of (B := 0) (T := []) b4).row hrow (by simp)
  have K4 : Kp 124 (CK (.int .i64 cap) v1 (.pointer (some ⟨h.hb, 0, none⟩)) (.int .i64 (i : Int)) was l 0) a4 := SR.kp hr4 fun r hr => by
    simp only [List.mem_cons, List.not_mem_nil, or_false] at hr
    rcases hr with rfl | rfl | rfl | rfl | rfl | rfl | rfl
    · exact ⟨rfl, @den_val (rowsH h noX1) _ _⟩
    · exact ⟨rfl, @den_val (rowsH h noX1) _ _⟩
    · exact ⟨rfl, den_h0 _ _ _⟩
    · exact ⟨rfl, @den_val (rowsH h noX1) _ _⟩
    · exact ⟨rfl, @den_val (rowsH h noX1) _ _⟩
    · exact ⟨rfl, @den_val (rowsH h noX1) _ _⟩
    · exact ⟨rfl, @den_val (rowsH h noX1) _ _⟩
  show wpL Tryd.prog [.block 2 (.loop (roundOf lwb))] Q a4 w4
  rw [wpL_one]
  have rw4 := I4.row
  rw [hwas] at K4 rw4
  rw [hle] at K4 row4
  refine cmp_loop (p := h.p) (fun r => ?_) hn K4 fun a5 w5 K5 b5 => ?_
  · cases r with
    | nil => exact xrow_own (f := fun j => shpV (h.p j)) (fun _ => rfl) row4
    | cons x r => exact xrow_own (f := fun j => shpV (h.p j)) (fun _ => rfl) rw4
  · refine hQ a5 w5 ?_ (I4.below b5)
    rw [hwas]
    exact K5.sub (by simp)
end
end Go.Proofs.YtpjkohpiikcegaaDoor.PDescKinds
