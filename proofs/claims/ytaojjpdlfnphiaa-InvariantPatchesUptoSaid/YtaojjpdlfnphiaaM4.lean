/- cameolaw10.InvariantPatches answers true. -/
import Derived.Test.YtaojjpdlfnphiaaM3
set_option linter.unusedSimpArgs false
set_option linter.unusedVariables false
set_option linter.unusedSectionVars false
namespace Go.Proofs.Ytaojjpdlfnphiaa.PDescKinds
open Go.RowKit Go.Ev
namespace L
theorem patch_bd : ∀ (ds : List Dl) {N : Nat} {l l' : List LS}, Bd N l → patch l ds = some l' → Bd (N + ds.length) l'
  | [], N, l, l', h, e => by
    simp only [patch, List.foldlM_nil] at e
    cases e
    exact h
  | δ :: ds, N, l, l', h, e => by
    unfold patch at e
    rw [List.foldlM_cons] at e
    obtain ⟨l1, h1, h2⟩ := Option.bind_eq_some_iff.1 e
    have := patch_bd ds (apply_bd h h1) h2
    rw [List.length_cons]
    rw [show N + (ds.length + 1) = N + 1 + ds.length by omega]
    exact this
def code (l : List LS) (ds : List Dl) : Int := if (patch l ds).isSome then 0 else 7
def res (l : List LS) (ds : List Dl) : List LS := (patch l ds).getD []
theorem res_bd {N : Nat} {l : List LS} {ds : List Dl} (h : Bd N l) : Bd (N + ds.length) (res l ds) := by
  unfold res
  cases e : patch l ds with
  | none => exact ⟨Nat.zero_le _, fun s hs => by cases hs⟩
  | some l' => exact patch_bd ds h e
theorem code_or (l : List LS) (ds : List Dl) : code l ds = 0 ∨ code l ds = 7 := by
  unfold code
  split
  · exact .inl rfl
  · exact .inr rfl
end L
/-- A patch's answer, whichever. -/
theorem out_uni {x : Mo} {ds : List Dl} {w0 w' : World} {e : Ending} (h : Pa.Out x ds w0 e w') : ∃ y : Mo, e = .returned (.tuple #[.slice y.A y.n y.c, .int .i64 (L.code x.ls ds)]) ∧ Below w0.heap.size w0 w' ∧ OwnMo w0.heap.size w' y ∧ y.ls = L.res x.ls ds := by
  obtain ⟨hb, ⟨mo, h1, h2, h3⟩ | ⟨h1, h2⟩⟩ := h
  · exact ⟨mo, by rw [h2]; unfold L.code; rw [h1]; rfl, hb, h3, by unfold L.res; rw [h1]; rfl⟩
  · exact ⟨Mo0, by rw [h2]; unfold L.code; rw [h1]; rfl, hb, ownMo0 _ _, by unfold L.res; rw [h1]; rfl⟩
theorem fit_small {m : Mo} (h : Small m) : FitM m := ⟨by have := h.1; omega, fun j => by have := h.2 j; omega⟩
namespace Lw
set_option maxRecDepth 100000
theorem l11 (M : Nat → Mo) (bx : Nat → XR) : letI := rowsB M bx
    evK Try.prog ext G9 80 103 (seqL (lw.drop 11)) ((⟨[(0, .xs [0]), (5, .xs [1]), (9, .xs [3]), (11, .xs [4])], []⟩ : Cut).st 0) (grab Try.prog Try.f3 [] [] 0) = some (.ret (.val (.bool true))) := by kernel_rfl
theorem l7a (v0 v1 : Value) : letI := row0
    (reads Try.prog 103 (p7.toList.take 2) (pickT ([(0, v0), (1, v1)].map fun p => (p.1, .val p.2)))).map (fun t => [48, 49].map t) = some [.val v0, .val v1] := by kernel_rfl
theorem l7b (u v : Value) : letI := row0
    (reads Try.prog 103 (p7.toList.drop 3) (pickT [(50, .val (.tuple #[u, v]))])).map (fun t => [11, 12].map t) = some [.val u, .val v] := by kernel_rfl
section
variable {x : Mo} {n c : Nat} {A : Option Addr} {g : Nat → Dl} {w0 : World}
theorem calls (hT : Tabs w0) (hx : RawMo w0 x) (hs : Small x) (hX : @XOk (rowL A n c g) w0) (hnil : A = none → n = 0 ∧ c = 0) : Calls Try.prog 3 #[V x, .slice A n c] w0 (fun e w' => e = .returned (.bool true) ∧ Below w0.heap.size w0 w') := by
  refine calls_of_wp Try.func3 (c := Try.f3.body.getD .skip) (by kernel_rfl) ?_
  refine wpL_flat _ ?_
  show wpL Try.prog lw _ _ _
  rw [lw_eq, wpL_app]
  have fin : ∀ a' w' m, a'.defers = [] → (results Try.f3 a'.tmps).run Try.prog w' = .ok (@SV.den row0 m (.val (.bool true))) w' → Below w0.heap.size w0 w' → bodyPost Try.prog Try.f3 (fun e w' => e = .returned (.bool true) ∧ Below w0.heap.size w0 w') .ret a' w' := by
    intro a' w' m g1 g2 g3
    rw [@den_val row0] at g2
    exact ⟨g1, _, g2, rfl, g3⟩
  have hM0 : Fit (fun _ => x) := fun _ => fit_small hs
  have e0 := l0 A n c g (fun _ => x)
  obtain ⟨b20, e0', hb20⟩ : ∃ b20 : Bool, (letI := rowsB (fun _ => x) (bxL A n c g); evK Try.prog ext (tab2 BvL5 [(5, noMem (onM fun a => LB (S.few x)))]) 80 103 (seqL (lw.take 2)) (⟨argS [.xs [0], .xs [0, 0, 0]], fun _ => none, 0⟩) (grab Try.prog Try.f3 [0, 1, 20] [] 0) = some (.cut .normal ⟨[(0, .xs [0]), (1, .xs [0, 0, 0]), (20, .val (.bool b20))], []⟩)) ∧ (b20 = false → S.few x = true ∧ n ≤ 400) := by
    cases hf : S.few x with
    | false =>
      refine ⟨true, ?_, fun h => by cases h⟩
      rw [hf] at e0
      exact e0
    | true =>
      refine ⟨decide ((n : Int) > 400), ?_, fun h => ⟨rfl, ?_⟩⟩
      · rw [hf] at e0
        exact e0
      · have := of_decide_eq_false h
        omega
  have first : ∀ (Q : Exit → Act → World → Prop), (∀ a' w', Kp 103 [(0, V x), (1, .slice A n c)] a' → a'.eval (.tmp 20) = .bool b20 → Below w0.heap.size w0 w' → Q .normal a' w') → wpL Try.prog (lw.take 2) Q { tmps := #[V x, .slice A n c] ++ Array.replicate (Try.f3.ntmps - (#[V x, .slice A n c] : Array Value).size) undef, defers := [] } w0 := by
    intro Q hQ
    letI := rowsB (fun _ => x) (bxL A n c g)
    have C := ctxB (fun _ => x) (bxL A n c g) Bvents5 (entsS_cons (ent_few35 (fun _ => x) (bxL A n c g) hM0) entsS_nil)
    have hst := start_sound (fn := Try.f3) [.xs [0], .xs [0, 0, 0]] (fun y hy => by
      simp only [List.mem_cons, List.not_mem_nil, or_false] at hy
      rcases hy with rfl | rfl <;> exact ok_xs) w0 (fun _ => 0)
    simp only [List.map_cons, List.map_nil, den_xs] at hst
    refine piece C.mix C.hX C.hs C.hXO C.hG e0' (w0 := w0) ⟨hT, xok_box (xok_raw fun _ => hx) fun _ => rowL_any hX _⟩ hst (fun v hv => by cases hv) (fun ex d hd m a1 w1 hr => ?_)
    cases hd
    refine hQ a1 w1 ⟨hr.ar.size, hr.ar.defers, fun p hp => ?_⟩ ((hr.ar.tm 20 rfl).trans (den_val _ _)) hr.mr.below
    simp only [List.mem_cons, List.not_mem_nil, or_false] at hp
    rcases hp with rfl | rfl
    · exact (hr.ar.tm 0 rfl).trans (den_xs _ [0])
    · exact (hr.ar.tm 1 rfl).trans (den_xs _ [0, 0, 0])
  refine first _ fun a1 w1 K1 q20 b1 => ?_
  show wpL Try.prog (.cond (.tmp 20) (thenOf (lw.getD 2 .skip)) .skip :: .region 3 p3 false :: .region 4 p4 false :: .region 5 p5 false :: .region 6 p6 false :: .region 7 p7 false :: .region 8 p8 false :: .cond (.tmp 92) (thenOf (lw.getD 9 .skip)) .skip :: .region 10 p10 false :: lw.drop 11) _ a1 w1
  cases hb : b20 with
  | true =>
    rw [hb] at q20
    refine wp_cond_true q20 (wpL_flat _ ?_)
    refine pieceZ l2 (@epoch row0 _ _ w1 K1.size K1.defers [] (fun _ => 0) (fun p hp => by cases hp) fun p hp => by cases hp) (fun v hv m' a' w' g1 g2 g3 => ?_) (fun ex d hd => by cases hd)
    cases hv
    exact fin a' w' m' g1 g2 (b1.trans (g3.mono b1.size))
  | false =>
    rw [hb] at q20
    obtain ⟨hfew, hn⟩ := hb20 hb
    obtain ⟨hx1, hx2⟩ := few_spec hs hfew
    refine wp_cond_false q20 (wp_skip ?_)
    -- the copy
    show (Code.region 3 p3 false).wp Try.prog (Exit.then (wpL Try.prog (.region 4 p4 false :: .region 5 p5 false :: .region 6 p6 false :: .region 7 p7 false :: .region 8 p8 false :: .cond (.tmp 92) (thenOf (lw.getD 9 .skip)) .skip :: .region 10 p10 false :: lw.drop 11) _) _) a1 w1
    refine call_region (ops := p3) (mv := p3.toList.getD 0 default) (cl := p3.toList.getD 1 default) (asg := p3.toList.getD 2 default) (src := 0) (d1 := 21) (d2 := 22) (d3 := 5) (f := 6) (ats := #[22]) (N := 103) (by kernel_rfl) (by kernel_rfl) (by kernel_rfl) (by kernel_rfl) (by kernel_rfl) (by kernel_rfl) (by kernel_rfl) (by kernel_rfl) (by kernel_rfl) (by kernel_rfl) (by kernel_rfl) K1.size (by decide) (by decide) (K1.get (by simp))
      (RC.calls (tabs_stable _ _ hT b1) (hx.below b1) (by omega) (fun j hj => by have := hx2 j hj; omega)) (fun e w' ⟨mo, he, _⟩ => ⟨_, he⟩) (fun v w2 ⟨b, he, b2, hOb, hbl⟩ => ?_)
    cases he
    have K2 := (((K1.put (d := 21) (v := V x) rfl).put (d := 22) (v := V b) rfl).put (d := 5) (v := V b) rfl).sub (us := [(0, V x), (1, .slice A n c), (5, V b)]) (by simp)
    generalize hA2 : ((a1.put (some 21) (V x)).put (some 22) (V b)).put (some 5) (V b) = a2 at K2
    have B2 : Below w0.heap.size w0 w2 := b1.trans (b2.mono b1.size)
    have hbn : b.n = x.n := by rw [← ls_len b, ← ls_len x, hbl]
    have hbp : ∀ j, j < b.n → (b.g j).n ≤ 400 := by
      intro j hj
      have := congrArg (fun l => l[j]?) hbl
      simp only [ls_at b hj, ls_at x (show j < x.n by omega), Option.some.injEq] at this
      rw [← ps_len (b.g j), this, ps_len]
      exact hx2 j (by omega)
    -- the deltas
    show (Code.region 4 p4 false).wp Try.prog (Exit.then (wpL Try.prog (.region 5 p5 false :: .region 6 p6 false :: .region 7 p7 false :: .region 8 p8 false :: .cond (.tmp 92) (thenOf (lw.getD 9 .skip)) .skip :: .region 10 p10 false :: lw.drop 11) _) _) _ w2
    refine reg4 K2 (@XOk.below (rowL A n c g) _ _ hX B2) hnil (by omega) fun a3 w3 gd cd K3 b3 hD => ?_
    have B3 : Below w0.heap.size w0 w3 := B2.trans (b3.mono B2.size)
    have hOb3 := hOb.below b3
    have hcd : n + 1 ≤ cd := by
      rcases hD.2 with ⟨e, _⟩ | ⟨g', cap, cur, e, _, _, x4, _⟩
      · cases e
      · cases e
        exact x4
    obtain ⟨ds, hds⟩ : ∃ ds, ds = (List.range n).map g := ⟨_, rfl⟩
    have hds' : (List.range n).map (fput g n D7) = ds := by
      rw [hds]
      refine List.map_congr_left fun t ht => ?_
      have := List.mem_range.1 ht
      simp only [fput]
      rw [if_neg (by omega)]
    have hdl : ds.length = n := by rw [hds]; simp
    have hbd : L.Bd 400 x.ls := by
      refine ⟨by rw [ls_len]; omega, fun s hs => ?_⟩
      obtain ⟨j, hj, rfl⟩ := List.mem_map.1 hs
      rw [ps_len]
      exact hx2 j (List.mem_range.1 hj)
    have hrb : L.Bd 800 (L.res x.ls ds) := by
      have := L.res_bd (ds := ds) hbd
      exact ⟨by have := this.1; omega, fun s hs => by have := this.2 s hs; omega⟩
    -- the first patch
    show (Code.region 5 p5 false).wp Try.prog (Exit.then (wpL Try.prog (.region 6 p6 false :: .region 7 p7 false :: .region 8 p8 false :: .cond (.tmp 92) (thenOf (lw.getD 9 .skip)) .skip :: .region 10 p10 false :: lw.drop 11) _) _) a3 w3
    refine sliceCall (ops := p5) (s1 := 30) (s2 := 31) (s3 := 33) (s4 := 34) (tp := 35) (d1 := 7) (d2 := 8) (ats := #[22, 23]) p5_eq (l5a (V b) (.slice (some ⟨gd, 0, none⟩) (n + 1) cd) A n c) l5b (by kernel_rfl) (by kernel_rfl) (by kernel_rfl) (by kernel_rfl) (by kernel_rfl) (by kernel_rfl) (by kernel_rfl) (by kernel_rfl) rfl rfl K3 (by simp) (by simp) (by simp) hcd
      (Pa.calls (tabs_stable _ _ hT B3) hOb3.raw (by omega) (fun j hj => by have := hbp j hj; omega) (own_rowD hD (Nat.le_succ n)) (by omega)) fun e w4 hR => ?_
    rw [hds'] at hR
    obtain ⟨y, he, b4, hOy, hyl⟩ := out_uni hR
    rw [hbl] at he hyl
    refine ⟨_, _, he, fun a4 K4 => ?_⟩
    have B4 : Below w0.heap.size w0 w4 := B3.trans (b4.mono B3.size)
    have hOb4 := hOb3.below b4
    have hD4 := hD.kept (grown_of b4 none) (by simp [Value.ownBlock])
    -- the second
    show (Code.region 6 p6 false).wp Try.prog (Exit.then (wpL Try.prog (.region 7 p7 false :: .region 8 p8 false :: .cond (.tmp 92) (thenOf (lw.getD 9 .skip)) .skip :: .region 10 p10 false :: lw.drop 11) _) _) a4 w4
    refine sliceCall (ops := p6) (s1 := 39) (s2 := 40) (s3 := 42) (s4 := 43) (tp := 44) (d1 := 9) (d2 := 10) (ats := #[22, 23]) p6_eq (l6a (V b) (.slice (some ⟨gd, 0, none⟩) (n + 1) cd) A n c) l6b (by kernel_rfl) (by kernel_rfl) (by kernel_rfl) (by kernel_rfl) (by kernel_rfl) (by kernel_rfl) (by kernel_rfl) (by kernel_rfl) rfl rfl K4 (by simp) (by simp) (by simp) hcd
      (Pa.calls (tabs_stable _ _ hT B4) hOb4.raw (by omega) (fun j hj => by have := hbp j hj; omega) (own_rowD hD4 (Nat.le_succ n)) (by omega)) fun e w5 hR => ?_
    rw [hds'] at hR
    obtain ⟨z, he, b5, hOz, hzl⟩ := out_uni hR
    rw [hbl] at he hzl
    refine ⟨_, _, he, fun a5 K5 => ?_⟩
    have B5 : Below w0.heap.size w0 w5 := B4.trans (b5.mono B4.size)
    have hOb5 := hOb4.below b5
    have hOy5 := hOy.below b5
    have hD5 := hD4.kept (grown_of b5 none) (by simp [Value.ownBlock])
    -- the reference
    show (Code.region 7 p7 false).wp Try.prog (Exit.then (wpL Try.prog (.region 8 p8 false :: .cond (.tmp 92) (thenOf (lw.getD 9 .skip)) .skip :: .region 10 p10 false :: lw.drop 11) _) _) a5 w5
    refine pairR (f := 8) (m1 := 48) (m2 := 49) (tp := 50) (d1 := 11) (d2 := 12) (ats := #[22, 23]) (N := 103) (ts := [(0, V x), (1, .slice A n c)]) [0, 1, 5, 6, 7, 8, 9, 10] (by kernel_rfl) (by kernel_rfl) (by kernel_rfl) (by kernel_rfl) (by kernel_rfl) (by decide) (by decide) (l7a (V x) (.slice A n c)) l7b (by kernel_rfl) (by kernel_rfl) K5.size K5.defers (fun p hp => K5.vals p (by
        simp only [List.mem_cons, List.not_mem_nil, or_false] at hp
        rcases hp with rfl | rfl <;> simp))
      (RP.calls (tabs_stable _ _ hT B5) (hx.below B5) (by omega) (fun j hj => by have := hx2 j hj; omega) (@XOk.below (rowL A n c g) _ _ hX B5) (by omega)) fun e w6 hR => ?_
    rw [← hds] at hR
    obtain ⟨t, he, b6, hOt, htl⟩ := out_uni (x := x) (ds := ds) hR
    refine ⟨_, _, he, fun a6 s6 f6 k6 q11 q12 => ?_⟩
    have K6 : Kp 103 (K9 x b y z t A n c (some ⟨gd, 0, none⟩) (n + 1) cd ++ [(8, .int .i64 (L.code x.ls ds)), (10, .int .i64 (L.code x.ls ds)), (12, .int .i64 (L.code x.ls ds))]) a6 := by
      refine ⟨s6, f6, fun p hp => ?_⟩
      simp only [List.cons_append, List.nil_append, List.mem_cons, List.not_mem_nil, or_false] at hp
      rcases hp with rfl | rfl | rfl | rfl | rfl | rfl | rfl | rfl | rfl | rfl
      · exact (k6 0 (by simp)).trans (K5.get (by simp))
      · exact (k6 1 (by simp)).trans (K5.get (by simp))
      · exact (k6 5 (by simp)).trans (K5.get (by simp))
      · exact (k6 6 (by simp)).trans (K5.get (by simp))
      · exact (k6 7 (by simp)).trans (K5.get (by simp))
      · exact (k6 9 (by simp)).trans (K5.get (by simp))
      · exact q11
      · exact (k6 8 (by simp)).trans (K5.get (by simp))
      · exact (k6 10 (by simp)).trans (K5.get (by simp))
      · exact q12
    have B6 : Below w0.heap.size w0 w6 := B5.trans (b6.mono B5.size)
    have hOb6 := hOb5.below b6
    have hOy6 := hOy5.below b6
    have hOz6 := hOz.below b6
    have hD6 := hD5.kept (grown_of b6 none) (by simp [Value.ownBlock])
    have hSt : St x b y z t A n c g (some ⟨gd, 0, none⟩) (n + 1) cd (fput g n D7) w6 :=
      ⟨tabs_stable _ _ hT B6, hx.below B6, hOb6.raw, hOy6.raw, hOz6.raw, hOt.raw, @XOk.below (rowL A n c g) _ _ hX B6, own_rowD hD6 (Nat.le_refl _)⟩
    have hyt := sameM_ls (hyl.trans htl.symm)
    have hzt := sameM_ls (hzl.trans htl.symm)
    have hbx := sameM_ls hbl
    have hfy := hOy6.fit
    have hM5 := fit5 (fit_small hs) hOb6.fit hfy hOz6.fit hOt.fit
    -- the questions
    show (Code.region 8 p8 false).wp Try.prog (Exit.then (wpL Try.prog (.cond (.tmp 92) (thenOf (lw.getD 9 .skip)) .skip :: .region 10 p10 false :: lw.drop 11) _) _) a6 w6
    refine reg8 (L.code_or x.ls ds) K6 hSt hcd (by omega) hM5 hyt hzt hbx fun a7 w7 K7 b7 => ?_
    have B7 : Below w0.heap.size w0 w7 := B6.trans (b7.mono B6.size)
    show (Code.cond (.tmp 92) (thenOf (lw.getD 9 .skip)) .skip).wp Try.prog (Exit.then (wpL Try.prog (.region 10 p10 false :: lw.drop 11) _) _) a7 w7
    refine wp_cond_false (K7.get (by simp)) (wp_skip ?_)
    -- spoil
    show (Code.region 10 p10 false).wp Try.prog (Exit.then (wpL Try.prog (lw.drop 11) _) _) a7 w7
    have hOy7 := hOy6.below b7
    obtain ⟨yb1, yb2⟩ := Ap.OwnMo.blocks hOy
    obtain ⟨bb1, bb2⟩ := Ap.OwnMo.blocks hOb
    obtain ⟨zb1, zb2⟩ := Ap.OwnMo.blocks hOz
    obtain ⟨tb1, tb2⟩ := Ap.OwnMo.blocks hOt
    obtain ⟨hyn, hyp⟩ := Bd.mo (by rw [hyl]; exact hrb) hOy
    have s23 := b3.size
    have s34 := b4.size
    have s45 := b5.size
    have s56 := b6.size
    have s67 := b7.size
    refine reg10 (y := y) (us := K9 x b y z t A n c (some ⟨gd, 0, none⟩) (n + 1) cd) (K7.sub (by simp)) (by simp) rfl (Sp.calls (B := w3.heap.size) (hi := w4.heap.size) hOy7 (by omega) (by omega) yb1 yb2 (by omega) (fun j => by have := hyp j; omega)) (fun e w' h => h.1) fun v a8 w8 hR K8 => ?_
    have hmid := hR.2
    have B8 : Below w0.heap.size w0 w8 := B7.trans (hmid.below (C := w0.heap.size) B3.size B7.size)
    show wpL Try.prog (lw.drop 11) _ a8 w8
    have hOb8 := (hOb6.below b7).mid (D := w2.heap.size) hmid (fun k h1 h2 => .inl (by omega)) bb1 bb2
    have hOz8 := (hOz6.below b7).mid (D := w5.heap.size) hmid (fun k h1 h2 => .inr h1) zb1 zb2
    have hOt8 := (hOt.below b7).mid (D := w6.heap.size) hmid (fun k h1 h2 => .inr (by omega)) tb1 tb2
    have hM6 := fit5 (fit_small hs) hOb6.fit hOz6.fit hOz6.fit hOt.fit
    letI := rowsB (five x b z z t) noBox
    have C := ctxB (five x b z z t) noBox Bvents5 (entsS_cons (ent_alike _ _ hM6 (ok5 hzt hzt hbx)) entsS_nil)
    have hI : Inv (five x b z z t) noBox w8 := ⟨tabs_stable _ _ hT B8, xok_raw fun k => by
      match k with
      | 0 => exact hx.below B8
      | 1 => exact hOb8.raw
      | 2 => exact hOz8.raw
      | 3 => exact hOz8.raw
      | _ + 4 => exact hOt8.raw⟩
    refine piece C.mix C.hX C.hs C.hXO C.hG (l11 (five x b z z t) noBox) hI (epoch K8.size K8.defers _ (fun _ => 0) (fun p hp => ?_) fun p hp => ?_) (fun v hv m' a' w' g1 g2 g3 => ?_) (fun ex d hd => by cases hd)
    · simp only [List.mem_cons, List.not_mem_nil, or_false] at hp
      rcases hp with rfl | rfl | rfl | rfl
      · exact (K8.get (d := 0) (v := V x) (by simp)).trans (den_xs _ [0]).symm
      · exact (K8.get (d := 5) (v := V b) (by simp)).trans (den_xs _ [1]).symm
      · exact (K8.get (d := 9) (v := V z) (by simp)).trans (den_xs _ [3]).symm
      · exact (K8.get (d := 11) (v := V t) (by simp)).trans (den_xs _ [4]).symm
    · simp only [List.mem_cons, List.not_mem_nil, or_false] at hp
      rcases hp with rfl | rfl | rfl | rfl <;> exact ok_xs
    cases hv
    rw [den_val] at g2
    exact fin a' w' m' g1 (by rw [@den_val row0]; exact g2) (B8.trans (g3.mono B8.size))
end
end Lw
end Go.Proofs.Ytaojjpdlfnphiaa.PDescKinds
