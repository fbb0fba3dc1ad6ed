/- DescKeeps: what never changes, over any steps. -/
import Derived.Test.YtaojjpdlfnphiaaDoorK6
set_option linter.unusedSimpArgs false
set_option linter.unusedVariables false
set_option linter.unusedSectionVars false
namespace Go.Proofs.YtaojjpdlfnphiaaDoor.PDescKinds
open Go.RowKit Go.Ev
namespace Keeps
section
variable {w0 : World} {A : Option Addr} {n c : Nat} {g : Nat → D} {x : Bool} {z : D}
theorem loop1 (hn : n ≤ 60) (hraw : RawRow w0 A n g) (ht : Tabs w0) {Q : Exit → Act → World → Prop} (hQ : ∀ L i a w, Chain z L → L.length ≤ 61 → Head w0 A n c x z L i a w → Q .normal a w) :
    ∀ (k : Nat) (i : Int) (L : List D) (a : Act) (w : World), 0 ≤ i → i ≤ n → (n : Int) - i < k → Chain z L → (L.length : Int) ≤ i + 1 → Head w0 A n c x z L i a w → Code.rounds Tryd.prog round1 (Exit.inBlock 0 Q) k a w := by
  intro k
  induction k with
  | zero => intro i L a w h0 h1 h2; exfalso; omega
  | succ k ih =>
    intro i L a w h0 h1 h2 hc hl hh
    have hw : IntKind.i64.wrap (i + 1) = i + 1 := by rw [IntKind.wrap_i64]; omega
    rw [rounds_succ]
    refine wpL_flat _ ?_
    rw [split1, wpL_app]
    obtain ⟨gb, cap, g4, h7, hb0, h4, hb4, hg4, hne4, hI, hst⟩ := hh.enter (g := g) hc.ne hraw ht
    letI := Er A n c g z gb cap g4 L
    have hs := invE_stable A n c g z gb cap g4 L
    have hXO : ∀ w, InvE A n c g z gb cap g4 L w → XOk w := fun _ h => h.2
    have hG := givenE A n c g z gb cap g4 L
    have hev := r1a_ev A n c g (some ⟨gb, 0, none⟩) L.length cap (fun j => L.getD j S.D0) (some ⟨g4, 0, none⟩) z x i
    by_cases hlt : i < n
    · rw [decide_eq_true hlt] at hev
      refine piece mixed ext_sound hs hXO hG hev hI hst (fun v hv => by cases hv) ?_
      intro ex d hd m1 a1 w1 hr1
      cases hd
      show wpL Tryd.prog (Code.block 1 r1b :: r1c) _ a1 w1
      simp only [wpL]
      refine wp_block (wpL_flat _ ?_)
      rw [split1b, wpL_app]
      have hlen0 : 0 < L.length := List.length_pos_iff.2 hc.ne
      have hw1 : IntKind.i64.wrap ((L.length : Int) - 1) = (L.length : Int) - 1 := by rw [IntKind.wrap_i64]; omega
      have hev2 := b1a_ev A n c g (some ⟨gb, 0, none⟩) L.length cap (fun j => L.getD j S.D0) (some ⟨g4, 0, none⟩) z x i
      rw [hw1, decide_eq_true (show (0 : Int) ≤ (L.length : Int) - 1 by omega), decide_eq_true (show (L.length : Int) - 1 < L.length by omega), decide_eq_true h0, decide_eq_true hlt, show ((L.length : Int) - 1).toNat = L.length - 1 by omega] at hev2
      simp only [Bool.and_self, cond_true] at hev2
      cases ho : S.okA (L.getD (L.length - 1) S.D0) (g i.toNat) with
      | false =>
        rw [ho] at hev2
        refine piece mixed ext_sound hs hXO hG hev2 hI hr1 (fun v hv => by cases hv) ?_
        intro ex d hd m2 a2 w2 hr2
        cases hd
        simp only [Ex.out, Exit.then, Exit.inBlock, if_true]
        have hr2' := cut_sound (took_hd x i S.D0) hr2
        have hev3 := r1c_ev A n c g (some ⟨gb, 0, none⟩) L.length cap (fun j => L.getD j S.D0) (some ⟨g4, 0, none⟩) z x i
        rw [hw] at hev3
        refine piece mixed ext_sound hs hXO hG hev3 hI hr2' (fun v hv => by cases hv) ?_
        intro ex d hd m3 a3 w3 hr3
        cases hd
        exact ih (i + 1) L a3 w3 (by omega) (by omega) (by omega) hc (by omega) (hh.leave h7 h4 hb4 hg4 hne4 hr3)
      | true =>
        rw [ho] at hev2
        refine piece mixed ext_sound hs hXO hG hev2 hI hr1 (fun v hv => by cases hv) ?_
        intro ex d hd m2 a2 w2 hr2
        cases hd
        show wpL Tryd.prog [Code.region 11 ops11 false] _ a2 w2
        simp only [wpL]
        refine grow hh hc.ne (by omega) h7 hb0 hb4 hg4 hne4 hI hr2 ?_
        intro a3 w3 hh3
        simp only [Exit.then, Exit.inBlock]
        have hc' := hc.step x ho
        obtain ⟨gb', cap', g4', h7', hb0', h4', hb4', hg4', hne4', hI', hst'⟩ := hh3.enter (g := g) hc'.ne hraw ht
        have hev3 := r1c_ev A n c g (some ⟨gb', 0, none⟩) (L ++ [(S.apply x (L.getD (L.length - 1) S.D0) (g i.toNat)).1]).length cap' (fun j => (L ++ [(S.apply x (L.getD (L.length - 1) S.D0) (g i.toNat)).1]).getD j S.D0) (some ⟨g4', 0, none⟩) z x i
        rw [hw] at hev3
        refine @piece (Er A n c g z gb' cap' g4' (L ++ [(S.apply x (L.getD (L.length - 1) S.D0) (g i.toNat)).1])) _ _ _ _ _ _ _ _ _ _ mixed ext_sound (invE_stable A n c g z gb' cap' g4' _) (fun _ h => h.2) (givenE A n c g z gb' cap' g4' _) _ _ _ _ _ _ _ hev3 hI' hst' _ (fun v hv => by cases hv) ?_
        intro ex d hd m4 a4 w4 hr4
        cases hd
        exact ih (i + 1) _ a4 w4 (by omega) (by omega) (by omega) hc' (by rw [List.length_append, List.length_singleton]; omega) (hh3.leave h7' h4' hb4' hg4' hne4' hr4)
    · rw [decide_eq_false hlt] at hev
      refine piece mixed ext_sound hs hXO hG hev hI hst (fun v hv => by cases hv) ?_
      intro ex d hd m1 a1 w1 hr1
      cases hd
      simp only [Ex.out, Exit.then, Exit.inBlock, if_true]
      exact hQ L i a1 w1 hc (by omega) (hh.leave h7 h4 hb4 hg4 hne4 hr1)
/-- Pairs from one on. -/
theorem loop3 {L : List D} {gb cap g4 : Nat} {w : World} (hc : Chain z L) (hlen : L.length ≤ 61) (hI : InvE A n c g z gb cap g4 L w) {i : Int} (hi : 0 ≤ i) {Q : Exit → Act → World → Prop}
    (hret : ∀ (b : Bool), b = true → ∀ (m' : Nat → Nat) (a' : Act) (w' : World), a'.defers = [] → (results Tryd.f5 a'.tmps).run Tryd.prog w' = .ok (@SV.den (Er A n c g z gb cap g4 L) m' (SV.val (.bool b))) w' → Below w.heap.size w w' → Q .ret a' w')
    (hQ : ∀ j m a' w', @SR (Er A n c g z gb cap g4 L) w 87 m ((hd3 i j).st 0) a' w' → Q .normal a' w') :
    ∀ (k : Nat) (j : Int) (m : Nat → Nat) (a' : Act) (w' : World), i ≤ j → (L.length : Int) - j < k → @SR (Er A n c g z gb cap g4 L) w 87 m ((hd3 i j).st 0) a' w' → j ≤ L.length → Code.rounds Tryd.prog round3 (Exit.inBlock 4 Q) k a' w' := by
  letI := Er A n c g z gb cap g4 L
  have hs := invE_stable A n c g z gb cap g4 L
  have hXO : ∀ w, InvE A n c g z gb cap g4 L w → XOk w := fun _ h => h.2
  have hG := givenE A n c g z gb cap g4 L
  intro k
  induction k with
  | zero => intro j m a' w' h1 h2 _ h3; exfalso; omega
  | succ k ih =>
    intro j m a' w' hij h2 hr h3
    have hw : IntKind.i64.wrap (j + 1) = j + 1 := by rw [IntKind.wrap_i64]; omega
    rw [rounds_succ]
    refine wpL_flat _ ?_
    have hev := r3_ev A n c g (some ⟨gb, 0, none⟩) L.length cap (fun j => L.getD j S.D0) (some ⟨g4, 0, none⟩) z i j
    by_cases hlt : j < L.length
    · rw [decide_eq_true hlt, decide_eq_true hi, decide_eq_true (show i < (L.length : Int) by omega), decide_eq_true (show 0 ≤ j by omega), hw] at hev
      simp only [Bool.and_self, cond_true] at hev
      have gm : ∀ q : Nat, q < L.length → L.getD q S.D0 ∈ L := fun q hq => by
        rw [List.getD_eq_getElem?_getD, List.getElem?_eq_getElem hq]
        exact List.getElem_mem hq
      cases hz : S.wz z with
      | true =>
        obtain ⟨c1, c2⟩ := hc.all hz
        have ho : S.okK (L.getD i.toNat S.D0) (L.getD j.toNat S.D0) = true := by rw [S.okK_eq, c1 _ (gm _ (by omega)), c1 _ (gm _ (by omega))]; rfl
        have hk := c2 i.toNat j.toNat (by omega) (by omega)
        rw [ho, hk] at hev
        refine piece mixed ext_sound hs hXO hG hev hI hr (fun v hv => by cases hv) ?_
        intro ex d hd m1 a1 w1 hr1
        cases hd
        exact ih (j + 1) m1 a1 w1 (by omega) (by omega) hr1 (by omega)
      | false =>
        have e := hc.no hz
        have e1 : L.length = 1 := by rw [e]; rfl
        have hj : j = 0 := by omega
        have hi0 : i = 0 := by omega
        have ho : S.okK (L.getD i.toNat S.D0) (L.getD j.toNat S.D0) = false := by
          rw [hj, hi0, e, S.okK_eq]
          show (S.wz z && S.wz z) = false
          rw [hz]; rfl
        have hwh : S.whole z = false := by
          unfold S.wz at hz
          rw [Bool.or_eq_false_iff] at hz
          exact hz.1
        have e0 : (i == 0) = true := by rw [hi0]; rfl
        rw [ho, hwh, e0] at hev
        refine piece mixed ext_sound hs hXO hG hev hI hr (fun v hv => ?_) (fun ex d hd => by cases hd)
        cases hv
        exact hret _ rfl
    · rw [decide_eq_false hlt] at hev
      refine piece mixed ext_sound hs hXO hG hev hI hr (fun v hv => by cases hv) ?_
      intro ex d hd m1 a1 w1 hr1
      cases hd
      simp only [Ex.out, Exit.then, Exit.inBlock, if_true]
      exact hQ j m1 a1 w1 hr1
/-- All pairs. -/
theorem loop2 {L : List D} {gb cap g4 : Nat} {w : World} (hc : Chain z L) (hlen : L.length ≤ 61) (hI : InvE A n c g z gb cap g4 L w) {Q : Exit → Act → World → Prop}
    (hret : ∀ (b : Bool), b = true → ∀ (m' : Nat → Nat) (a' : Act) (w' : World), a'.defers = [] → (results Tryd.f5 a'.tmps).run Tryd.prog w' = .ok (@SV.den (Er A n c g z gb cap g4 L) m' (SV.val (.bool b))) w' → Below w.heap.size w w' → Q .ret a' w')
    (hQ : ∀ i m a' w', @SR (Er A n c g z gb cap g4 L) w 87 m ((hd2 i).st 0) a' w' → Q .normal a' w') :
    ∀ (k : Nat) (i : Int) (m : Nat → Nat) (a' : Act) (w' : World), 0 ≤ i → (L.length : Int) - i < k → @SR (Er A n c g z gb cap g4 L) w 87 m ((hd2 i).st 0) a' w' → i ≤ L.length → Code.rounds Tryd.prog round2 (Exit.inBlock 2 Q) k a' w' := by
  letI := Er A n c g z gb cap g4 L
  have hs := invE_stable A n c g z gb cap g4 L
  have hXO : ∀ w, InvE A n c g z gb cap g4 L w → XOk w := fun _ h => h.2
  have hG := givenE A n c g z gb cap g4 L
  intro k
  induction k with
  | zero => intro i m a' w' h1 h2 _ h3; exfalso; omega
  | succ k ih =>
    intro i m a' w' hi h2 hr h3
    have hw : IntKind.i64.wrap (i + 1) = i + 1 := by rw [IntKind.wrap_i64]; omega
    rw [rounds_succ]
    refine wpL_flat _ ?_
    rw [split2, wpL_app]
    have hev := r2a_ev A n c g (some ⟨gb, 0, none⟩) L.length cap (fun j => L.getD j S.D0) (some ⟨g4, 0, none⟩) z i
    by_cases hlt : i < L.length
    · rw [decide_eq_true hlt] at hev
      refine piece mixed ext_sound hs hXO hG hev hI hr (fun v hv => by cases hv) ?_
      intro ex d hd m1 a1 w1 hr1
      cases hd
      show wpL Tryd.prog (Code.block 3 r2b :: r2c) _ a1 w1
      simp only [wpL]
      refine wp_block (wpL_flat _ ?_)
      rw [split2b, wpL_app]
      refine piece mixed ext_sound hs hXO hG (b2a_ev A n c g (some ⟨gb, 0, none⟩) L.length cap (fun j => L.getD j S.D0) (some ⟨g4, 0, none⟩) z i) hI hr1 (fun v hv => by cases hv) ?_
      intro ex d hd m2 a2 w2 hr2
      cases hd
      show wpL Tryd.prog [Code.block 4 (.loop round3)] _ a2 w2
      simp only [wpL]
      refine wp_block (wp_loop_rounds (L.length + 1) ?_)
      refine loop3 hc hlen hI hi ?_ ?_ (L.length + 1) i m2 a2 w2 (by omega) (by omega) hr2 (by omega)
      · intro b hb m' a' w' q1 q2 q3
        simp only [Exit.then, Exit.inBlock]
        exact hret b hb m' a' w' q1 q2 q3
      · intro j m3 a3 w3 hr3
        simp only [Exit.then, Exit.inBlock]
        have hev3 := r2c_ev A n c g (some ⟨gb, 0, none⟩) L.length cap (fun j => L.getD j S.D0) (some ⟨g4, 0, none⟩) z i j
        rw [hw] at hev3
        refine piece mixed ext_sound hs hXO hG hev3 hI hr3 (fun v hv => by cases hv) ?_
        intro ex d hd m4 a4 w4 hr4
        cases hd
        exact ih (i + 1) m4 a4 w4 (by omega) (by omega) hr4 (by omega)
    · rw [decide_eq_false hlt] at hev
      refine piece mixed ext_sound hs hXO hG hev hI hr (fun v hv => by cases hv) ?_
      intro ex d hd m1 a1 w1 hr1
      cases hd
      simp only [Ex.out, Exit.then, Exit.inBlock, if_true]
      exact hQ i m1 a1 w1 hr1
theorem calls (A : Option Addr) (n c : Nat) (g : Nat → D) (x : Bool) (z : D) (w : World) (ht : Tabs w) (hraw : RawRow w A n g) :
    Calls Tryd.prog 5 #[.bool x, z.agg, .slice A n c] w (Frozen.Post w) := by
  refine calls_of_wp Tryd.func5 (c := Tryd.f5.body.getD .skip) (by kernel_rfl) ?_
  refine wpL_flat _ ?_
  show wpL Tryd.prog Keeps.code _ _ _
  rw [Keeps.split, wpL_app]
  letI := rowD A n c g
  have hI : Frozen.Inv A n c g w := ⟨ht, fun _ => xrow_of hraw⟩
  have hs := Frozen.inv_stable A n c g
  have hXO : ∀ w, Frozen.Inv A n c g w → XOk w := fun _ h => h.2
  have hG := Frozen.given A n c g
  have hst := start_sound (fn := Tryd.f5) [.val (.bool x), .val z.agg, .xs [0]] (fun x hx => by
    simp only [List.mem_cons, List.not_mem_nil, or_false] at hx
    rcases hx with rfl | rfl | rfl
    · exact ok_val _ _
    · exact ok_val _ _
    · exact ok_xs) w (fun _ => 0)
  have hret : ∀ (b : Bool), b = true → ∀ (u : Value), u = .bool b → ∀ (a' : Act) (w' : World), a'.defers = [] → (results Tryd.f5 a'.tmps).run Tryd.prog w' = .ok u w' → Below w.heap.size w w' → bodyPost Tryd.prog Tryd.f5 (Frozen.Post w) .ret a' w' := by
    intro b hb u hu a' w' h1 h2 h3
    subst hb hu
    exact ⟨h1, _, h2, rfl, h3⟩
  have hev := pre_ev A n c g z x
  by_cases hn : (n : Int) > 60
  · rw [decide_eq_true hn] at hev
    refine piece mixed ext_sound hs hXO hG hev hI hst (fun v hv => ?_) (fun ex d hd => by cases hd)
    cases hv
    exact fun m' a' w' => hret true rfl _ (den_val _ _) a' w'
  · rw [decide_eq_false hn] at hev
    refine piece mixed ext_sound hs hXO hG hev hI hst (fun v hv => by cases hv) ?_
    intro ex d hd m1 a1 w1 hr1
    cases hd
    show wpL Tryd.prog (Code.block 0 (.loop round1) :: mid :: Code.block 2 (.loop round2) :: post) _ a1 w1
    simp only [wpL]
    refine wp_block (wp_loop_rounds (n + 1) ?_)
    have hcells : (z.cells.map (SV.den m1)).toArray = z.list.toArray := by
      have e : z.cells = z.list.map SV.val := rfl
      rw [e, List.map_map, show (SV.den m1 ∘ SV.val) = _root_.id from funext fun v => den_val m1 v, List.map_id]
    have hb0 := hr1.mr.blk 0 ⟨27, z.cells⟩ rfl
    have hb1 := hr1.mr.blk 1 ⟨27, z.cells⟩ rfl
    have h01 : m1 1 ≠ m1 0 := fun e => absurd (hr1.mr.inj 1 0 ⟨27, z.cells⟩ ⟨27, z.cells⟩ rfl rfl e) (by decide)
    rw [hcells] at hb0 hb1
    have e7 : a1.tmps.getD 7 undef = .slice (some ⟨m1 1, 0, none⟩) 1 1 := (hr1.ar.tm 7 rfl).trans (den_slc m1 1 0 1 1)
    have hh : Head w A n c x z [z] 0 a1 w1 := by
      refine ⟨hr1.mr.below, hr1.ar.size, hr1.ar.defers, (hr1.ar.tm 0 rfl).trans (den_val m1 _), (hr1.ar.tm 2 rfl).trans (den_xs m1 [0]), (hr1.ar.tm 8 rfl).trans (den_val m1 _), ?_, m1 0, (hr1.ar.tm 4 rfl).trans (den_ptr m1 0 0), hb0.1, hb0.2.1, ?_⟩
      · rw [e7]
        refine ⟨rfl, .inr ⟨m1 1, 1, z.list.toArray, rfl, hb1.1, hb1.2.1, Nat.le_refl _, by decide +kernel, rfl, rfl⟩⟩
      · rw [e7]
        simpa [Value.ownBlock] using h01
    refine loop1 (by omega) hraw ht ?_ (n + 1) 0 [z] a1 w1 (by omega) (by omega) (by omega) (Chain.one z) (by simp) hh
    intro L i a w2 hc hlen hh2
    obtain ⟨gb, cap, g4, h7, hbb, h4, hb4, hg4, hne4, hI2, hst2⟩ := hh2.enter (g := g) hc.ne hraw ht
    have hs2 := invE_stable A n c g z gb cap g4 L
    have hG2 := givenE A n c g z gb cap g4 L
    simp only [Exit.then]
    have hmid := @piece (Er A n c g z gb cap g4 L) _ _ _ _ _ _ _ _ _ _ mixed ext_sound hs2 (fun _ h => h.2) hG2 _ _ _ _ _ _ _ (mid_ev A n c g (some ⟨gb, 0, none⟩) L.length cap (fun j => L.getD j S.D0) (some ⟨g4, 0, none⟩) z x i) hI2 hst2 (Exit.then (wpL Tryd.prog (Code.block 2 (.loop round2) :: post) (bodyPost Tryd.prog Tryd.f5 (Frozen.Post w))) (bodyPost Tryd.prog Tryd.f5 (Frozen.Post w))) (fun v hv => by cases hv) (by
      intro ex d hd m3 a3 w3 hr3
      cases hd
      show wpL Tryd.prog (Code.block 2 (.loop round2) :: post) _ a3 w3
      simp only [wpL]
      refine wp_block (wp_loop_rounds (L.length + 1) ?_)
      refine loop2 hc hlen hI2 ?_ ?_ (L.length + 1) 0 m3 a3 w3 (by omega) (by omega) hr3 (by omega)
      · intro b hb m' a' w' q1 q2 q3
        exact hret b hb _ (@den_val (Er A n c g z gb cap g4 L) _ _) a' w' q1 q2 (hh2.below.trans (q3.mono hh2.below.size))
      · intro i' m4 a4 w4 hr4
        simp only [Exit.then]
        refine @piece (Er A n c g z gb cap g4 L) _ _ _ _ _ _ _ _ _ _ mixed ext_sound hs2 (fun _ h => h.2) hG2 _ _ _ _ _ _ _ (post_ev A n c g (some ⟨gb, 0, none⟩) L.length cap (fun j => L.getD j S.D0) (some ⟨g4, 0, none⟩) z i') hI2 hr4 _ (fun v hv => ?_) (fun ex d hd => by cases hd)
        cases hv
        exact fun m' a' w' q1 q2 q3 => hret true rfl _ (@den_val (Er A n c g z gb cap g4 L) _ _) a' w' q1 q2 (hh2.below.trans (q3.mono hh2.below.size)))
    simp only [wpL] at hmid
    exact wp_mono hmid fun e a w h => by cases e <;> exact h
end
end Keeps
end Go.Proofs.YtaojjpdlfnphiaaDoor.PDescKinds
