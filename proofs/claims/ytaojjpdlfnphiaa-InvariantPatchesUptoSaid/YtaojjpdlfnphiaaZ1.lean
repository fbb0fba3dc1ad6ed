/- cameoref10.Patch: its contract. -/
import Derived.Test.YtaojjpdlfnphiaaZ0
set_option linter.unusedSimpArgs false
set_option linter.unusedVariables false
set_option linter.unusedSectionVars false
namespace Go.Proofs.Ytaojjpdlfnphiaa.PDescKinds
open Go.RowKit Go.Ev
/-- A row of deltas in another setting. -/
theorem rowL_any {A : Option Addr} {n c : Nat} {g : Nat → Dl} {w : World} (h : @XOk (rowL A n c g) w) (e : XEnv) : @XRow e w ⟨A, 29, n, c, fun j => (g j).cells⟩ := by
  intro j hj
  obtain ⟨h1, h2, a, h3, h4, h5⟩ := h [] j hj
  have hv : ∀ s ∈ (g j).cells, ∃ v, s = .val v := fun s hs => by
    obtain ⟨v, _, rfl⟩ := List.mem_map.1 hs
    exact ⟨v, rfl⟩
  refine ⟨h1, fun s hs mem => ?_, a, h3, h4, fun k s hk m => ?_⟩
  · obtain ⟨v, rfl⟩ := hv s hs
    exact ok_val _ _
  · obtain ⟨v, rfl⟩ := hv s (List.mem_of_getElem? hk)
    have := h5 k _ hk m
    rw [@den_val (rowL A n c g)] at this
    rw [den_val]
    exact this
theorem wpL_one {P : Program} {c : Code} {Q : Exit → Act → World → Prop} {a : Act} {w : World} : wpL P [c] Q a w = c.wp P Q a w := by
  show c.wp P (Exit.then (wpL P [] Q) Q) a w = _
  rw [then_nil]
/-- A piece that looks at no row. -/
theorem pieceZ {N k : Nat} {l : List Code} {fn : Func} {st : St} {ts bs : List Nat} {next : Nat} {r : Res} {m : Nat → Nat} {a : Act} {w : World} {Q : Exit → Act → World → Prop} (h : @evK row0 _ Try.prog ext (tab []) k N (seqL l) st (grab Try.prog fn ts bs next) = some r) (hr : @SR row0 w N m st a w)
    (hret : ∀ v, r = .ret v → ∀ m' a' w', a'.defers = [] → (results fn a'.tmps).run Try.prog w' = .ok (@SV.den row0 m' v) w' → Below w.heap.size w w' → Q .ret a' w')
    (hcut : ∀ ex d, r = .cut ex d → ∀ m' a' w', @SR row0 w N m' (d.st next) a' w' → Q ex.out a' w') : wpL Try.prog l Q a w := by
  letI := row0
  exact piece Ap.ctx0.mix Ap.ctx0.hX Ap.ctx0.hs Ap.ctx0.hXO Ap.ctx0.hG h (w0 := w) trivial hr hret hcut
namespace RP
set_option maxRecDepth 100000
theorem q0a (v0 v1 : Value) : letI := row0
    evK Try.prog ext (tab []) 80 150 (seqL [rf.getD 0 .skip]) (⟨argS [.val v0, .val v1], fun _ => none, 0⟩) (grab Try.prog Try.f8 [0, 1] [] 0) = some (.cut .normal ⟨[(0, .val v0), (1, .val v1)], []⟩) := by kernel_rfl
theorem q0c (v1 v6 : Value) : letI := row0
    evK Try.prog ext (tab []) 80 150 (seqL [rf.getD 2 .skip]) ((⟨[(1, .val v1), (6, .val v6)], []⟩ : Cut).st 0) (grab Try.prog Try.f8 [1, 6, 7] [] 0) = some (.cut .normal ⟨[(1, .val v1), (6, .val v6), (7, .val (.int .i64 ((0 : Nat) : Int)))], []⟩) := by kernel_rfl
section
variable {x mo : Mo} {n c j K : Nat} {A : Option Addr} {g : Nat → Dl} {a : Act} {w w0 : World} {Q : Exit → Act → World → Prop}
abbrev HL (A : Option Addr) (n c : Nat) (mo : Mo) (j : Nat) : List (Nat × Value) := [(1, .slice A n c), (6, .slice mo.A mo.n mo.c), (7, .int .i64 (j : Int))]
/-- At the loop's head. -/
structure Lp (x : Mo) (A : Option Addr) (n c : Nat) (g : Nat → Dl) (w0 : World) (K j : Nat) (mo : Mo) (a : Act) (w : World) : Prop where
  kp : Kp 150 (HL A n c mo j) a
  below : Below w0.heap.size w0 w
  own : OwnMo w0.heap.size w mo
  ls : L.patch x.ls ((List.range j).map g) = some mo.ls
  bd : L.Bd (K + j) mo.ls
theorem kpSR (h : Kp 150 (HL A n c mo j) a) (w : World) : @SR (rowsB (fun _ => mo) (bxL A n c g)) w 150 (fun _ => 0) ((⟨H j, []⟩ : Cut).st 0) a w := by
  letI := rowsB (fun _ => mo) (bxL A n c g)
  refine epoch h.size h.defers _ _ (fun p hp => ?_) (fun p hp => ?_)
  · simp only [List.mem_cons, List.not_mem_nil, or_false] at hp
    rcases hp with rfl | rfl | rfl
    · exact (h.get (d := 1) (v := .slice A n c) (by simp)).trans (den_xs _ [0, 0, 0]).symm
    · exact (h.get (d := 6) (v := .slice mo.A mo.n mo.c) (by simp)).trans (den_xs _ [0]).symm
    · exact (h.get (d := 7) (v := .int .i64 (j : Int)) (by simp)).trans (den_val _ _).symm
  · simp only [List.mem_cons, List.not_mem_nil, or_false] at hp
    rcases hp with rfl | rfl | rfl <;> first | exact ok_val _ _ | exact ok_xs
theorem kpBack {m : Nat → Nat} {a' : Act} {t : Nat → SV} {mem : Mem} (har : @AR (rowsB (fun _ => mo) (bxL A n c g)) 150 m t mem a') (h1 : t 1 = .xs [0, 0, 0]) (h6 : t 6 = .xs [0]) (h7 : t 7 = .val (.int .i64 (j : Int))) : Kp 150 (HL A n c mo j) a' := by
  letI := rowsB (fun _ => mo) (bxL A n c g)
  refine ⟨har.size, har.defers, fun p hp => ?_⟩
  simp only [List.mem_cons, List.not_mem_nil, or_false] at hp
  rcases hp with rfl | rfl | rfl
  · exact (har.tm 1 (by rw [h1]; rfl)).trans (by rw [h1]; exact den_xs _ [0, 0, 0])
  · exact (har.tm 6 (by rw [h6]; rfl)).trans (by rw [h6]; exact den_xs _ [0])
  · exact (har.tm 7 (by rw [h7]; rfl)).trans (by rw [h7]; exact den_val _ _)
theorem invM (hT : Tabs w) (hX : @XOk (rowL A n c g) w) (hO : OwnMo w0.heap.size w mo) : Inv (fun _ => mo) (bxL A n c g) w :=
  ⟨hT, xok_box (xok_raw fun _ => hO.raw) fun _ => rowL_any hX _⟩
/-- The next delta. -/
theorem nextJ {v1 v6 : Value} (h : Kp 150 [(1, v1), (6, v6), (7, .int .i64 (j : Int))] a) (hj : j < 500000) (hQ : ∀ a' w', Kp 150 [(1, v1), (6, v6), (7, .int .i64 ((j + 1 : Nat) : Int))] a' → Below w.heap.size w w' → Q .normal a' w') : wpL Try.prog (rd.drop 3) Q a w := by
  letI := row0
  have e := q4 v1 v6 j
  rw [wr hj (by omega)] at e
  refine piece Ap.ctx0.mix Ap.ctx0.hX Ap.ctx0.hs Ap.ctx0.hXO Ap.ctx0.hG e (w0 := w) trivial (epoch h.size h.defers _ (fun _ => 0) (fun p hp => ?_) fun p hp => ?_) (fun v hv => by cases hv) (fun ex d hd m a1 w1 hr => ?_)
  · simp only [List.mem_cons, List.not_mem_nil, or_false] at hp
    rcases hp with rfl | rfl | rfl
    · exact (h.get (d := 1) (v := v1) (by simp)).trans (den_val _ _).symm
    · exact (h.get (d := 6) (v := v6) (by simp)).trans (den_val _ _).symm
    · exact (h.get (d := 7) (v := .int .i64 (j : Int)) (by simp)).trans (den_val _ _).symm
  · simp only [List.mem_cons, List.not_mem_nil, or_false] at hp
    rcases hp with rfl | rfl | rfl <;> exact ok_val _ _
  cases hd
  refine hQ a1 w1 ⟨hr.ar.size, hr.ar.defers, fun p hp => ?_⟩ hr.mr.below
  simp only [List.mem_cons, List.not_mem_nil, or_false] at hp
  rcases hp with rfl | rfl | rfl
  · exact (hr.ar.tm 1 rfl).trans (den_val _ _)
  · exact (hr.ar.tm 6 rfl).trans (den_val _ _)
  · exact (hr.ar.tm 7 rfl).trans (den_val _ _)
theorem round (hT : Tabs w0) (hX : @XOk (rowL A n c g) w0) (hn : n ≤ 400000) (hK : K ≤ 400000) (h : Lp x A n c g w0 K j mo a w) (hj : j < n)
    (hQ : ∀ mo' a' w', Lp x A n c g w0 K (j + 1) mo' a' w' → Q .normal a' w')
    (hR : ∀ a' w' m, a'.defers = [] → (results Try.f8 a'.tmps).run Try.prog w' = .ok ((@SV.den row0 m (.val (.tuple #[.slice none 0 0, .int .i64 7])))) w' → Below w0.heap.size w0 w' → L.patch x.ls ((List.range (j + 1)).map g) = none → Q .ret a' w') : wpL Try.prog rd Q a w := by
  letI := rowsB (fun _ => mo) (bxL A n c g)
  have hx : ∀ w', Below w0.heap.size w0 w' → @XOk (rowL A n c g) w' := fun w' hb => @XOk.below (rowL A n c g) _ _ hX hb
  obtain ⟨hm1, hm2⟩ := Bd.mo h.bd h.own
  have hM : Fit (fun _ => mo) := Ap.fit1 (by omega) (fun t => by have := hm2 t; omega)
  have C := ctxB (fun _ => mo) (bxL A n c g) Bvents5 (entsS_cons (ent_find48 (fun _ => mo) (bxL A n c g) hM) entsS_nil)
  have hps : L.patch x.ls ((List.range (j + 1)).map g) = L.apply mo.ls (g j) := by rw [Pa.patch_succ, h.ls]; rfl
  rw [rd_eq, wpL_app]
  have e1 := q1 (fun _ => mo) A n c g j
  rw [show decide ((j : Int) < (n : Int)) = true from decide_eq_true (by omega)] at e1
  refine piece C.mix C.hX C.hs C.hXO C.hG e1 (invM (tabs_stable _ _ hT h.below) (hx w h.below) h.own) (kpSR h.kp w) (fun v hv => by cases hv) (fun ex d hd m a1 w1 hr1 => ?_)
  cases hd
  have K1 : Kp 150 (HL A n c mo j) a1 := kpBack hr1.ar rfl rfl rfl
  have b1 : Below w0.heap.size w0 w1 := h.below.trans (hr1.mr.below.mono h.below.size)
  have hO1 := h.own.below hr1.mr.below
  show wpL Try.prog (.block 1 (inB (rd.getD 2 .skip)) :: rd.drop 3) Q a1 w1
  simp only [wpL]
  refine wp_block (wpL_flat _ ?_)
  show wpL Try.prog inn _ a1 w1
  rw [inn_eq, wpL_app]
  have hI1 := invM (tabs_stable _ _ hT b1) (hx w1 b1) hO1
  have e2 := q2 (fun _ => mo) A n c g j
  rw [show decide (0 ≤ (j : Int)) = true from decide_eq_true (by omega), show decide ((j : Int) < (n : Int)) = true from decide_eq_true (by omega)] at e2
  have hwr : IntKind.i64.wrap ((mo.n : Int) + 1) = (mo.n : Int) + 1 := wr (n := 5000000000) (i := mo.n) (by omega) (by omega)
  obtain ⟨b33, hb33, e2'⟩ : ∃ b33, b33 = ((g j).what == 1 && ((g j).o == (mo.n : Int) + 1)) ∧ evK Try.prog ext (tab2 BvL5 [(17, noMem (onPK fun a b k => LI (S.find (mo.g b) k)))]) 80 150 (seqL (inn.take 2)) ((⟨H j, []⟩ : Cut).st 0) (grab Try.prog Try.f8 [1, 6, 7, 8, 33] [0] 1) =
      some (.cut .normal ⟨[(1, .xs [0, 0, 0]), (6, .xs [0]), (7, .val (.int .i64 (j : Int))), (8, .ptr 0 0), (33, .val (.bool b33))], [(0, ⟨35, (g j).cells⟩)]⟩) := by
    refine ⟨_, rfl, Eq.trans e2 ?_⟩
    rw [hwr]
    cases ((g j).what == 1) <;> rfl
  refine piece C.mix C.hX C.hs C.hXO C.hG e2' hI1 (kpSR K1 w1) (fun v hv => by cases hv) (fun ex d hd m a2 w2 hr2 => ?_)
  cases hd
  have K2 : Kp 150 (HL A n c mo j) a2 := kpBack hr2.ar rfl rfl rfl
  have p8 : a2.tmps.getD 8 undef = .pointer (some ⟨m 0, 0, none⟩) := (hr2.ar.tm 8 rfl).trans (den_ptr _ _ _)
  have p33 : a2.eval (.tmp 33) = .bool b33 := (hr2.ar.tm 33 rfl).trans (den_val _ _)
  have b2 : Below w0.heap.size w0 w2 := b1.trans (hr2.mr.below.mono b1.size)
  have hO2 := hO1.below hr2.mr.below
  have hbk := hr2.mr.blk 0 ⟨35, (g j).cells⟩ rfl
  have hbx : Boxed w2 (m 0) (g j) := by
    have := hbk.2.1
    simp only [Dl.cells, List.map_map] at this
    rw [show (SV.den m ∘ SV.val) = _root_.id from funext fun v => den_val m v, List.map_id] at this
    exact this
  show wpL Try.prog (.cond (.tmp 33) (thenOf (inn.getD 2 .skip)) .skip :: ((inn.drop 3).take 4 ++ [.block 2 (inB (inn.getD 7 .skip)), .region 26 o26 false])) _ a2 w2
  simp only [wpL]
  cases hb : b33 with
  | true =>
    rw [hb] at p33 hb33
    have hb33 := hb33.symm
    simp only [Bool.and_eq_true, beq_iff_eq] at hb33
    refine wp_cond_true p33 (wpL_flat _ ?_)
    show wpL Try.prog t33 _ a2 w2
    rw [t33_eq]
    show (Code.region 7 o7 false).wp Try.prog (Exit.then (wpL Try.prog [.exit 1] _) _) a2 w2
    have K2' : Kp 150 [(1, .slice A n c), (6, .slice mo.A mo.n mo.c), (7, .int .i64 (j : Int)), (8, .pointer (some ⟨m 0, 0, none⟩))] a2 := (K2.join (us := [(8, .pointer (some ⟨m 0, 0, none⟩))]) ⟨K2.size, K2.defers, fun p hp => by
      obtain rfl := List.mem_singleton.1 hp
      exact p8⟩).sub (by simp)
    refine reg7 K2' hO2 hbx b2.size (by omega) (fun v a3 w3 K3 b3 hv hO3 => ?_)
    show wpL Try.prog [.exit 1] _ a3 w3
    simp only [wpL]
    refine wp_exit ?_
    show wpL Try.prog (rd.drop 3) Q a3 w3
    refine nextJ K3 (by omega) (fun a4 w4 K4 b4 => hQ ⟨slA v, mo.n + 1, slC v, fput mo.g mo.n (Ap.newS (g j))⟩ a4 w4 ?_)
    have hap : L.apply mo.ls (g j) = some (⟨slA v, mo.n + 1, slC v, fput mo.g mo.n (Ap.newS (g j))⟩ : Mo).ls := by
      unfold L.apply
      rw [if_pos hb33.1, if_pos (by rw [ls_len]; exact hb33.2), Pa.ls_fput_n]
      rfl
    refine ⟨?_, (b2.trans b3).trans (b4.mono (Nat.le_trans b2.size b3.size)), hO3.below b4, by rw [hps, hap], L.apply_bd h.bd hap⟩
    show Kp 150 [(1, .slice A n c), (6, .slice (slA v) (mo.n + 1) (slC v)), (7, .int .i64 ((j + 1 : Nat) : Int))] a4
    rw [← hv]
    exact K4
  | false =>
    rw [hb] at p33 hb33
    subst hb
    refine wp_cond_false p33 (wp_skip ?_)
    show wpL Try.prog ((inn.drop 3).take 4 ++ [.block 2 (inB (inn.getD 7 .skip)), .region 26 o26 false]) _ a2 w2
    rw [wpL_app]
    have e3 := q3 (fun _ => mo) A n c g j
    have ret : L.apply mo.ls (g j) = none → ∀ v, Res.ret (SV.val (Value.tuple #[Value.slice none 0 0, Value.int .i64 7])) = .ret v → ∀ m' a' w', a'.defers = [] → (results Try.f8 a'.tmps).run Try.prog w' = .ok (v.den m') w' → Below w1.heap.size w1 w' → Q .ret a' w' := by
      intro hc v hv m' a' w' g1 g2 g3
      cases hv
      rw [den_val] at g2
      exact hR a' w' m' g1 (by rw [@den_val row0]; exact g2) (b1.trans (g3.mono b1.size)) (by rw [hps, hc])
    have none1 : (g j).what = 1 → L.apply mo.ls (g j) = none := by
      intro hw
      unfold L.apply
      rw [if_pos hw, if_neg (by
        rw [ls_len]
        intro ho
        rw [hw, ho] at hb33
        simp at hb33)]
    have noneO : ((g j).o < 1 ∨ (mo.n : Int) < (g j).o) → L.apply mo.ls (g j) = none := by
      intro ho
      by_cases hw : (g j).what = 1
      · exact none1 hw
      · unfold L.apply
        rw [if_neg hw, if_pos (by rw [ls_len]; exact ho)]
    by_cases h1 : (g j).o < 1
    · rw [decide_eq_true h1] at e3
      exact piece C.mix C.hX C.hs C.hXO C.hG e3 hI1 hr2 (ret (noneO (.inl h1))) (fun ex d hd => by cases hd)
    by_cases h2 : (g j).o > (mo.n : Int)
    · rw [decide_eq_false h1, decide_eq_true h2] at e3
      exact piece C.mix C.hX C.hs C.hXO C.hG e3 hI1 hr2 (ret (noneO (.inr h2))) (fun ex d hd => by cases hd)
    obtain ⟨k, hk⟩ : ∃ k : Nat, (g j).o = (k : Int) + 1 := ⟨((g j).o - 1).toNat, by omega⟩
    have hkn : k < mo.n := by omega
    have hw : IntKind.i64.wrap ((g j).o - 1) = (k : Int) := by rw [show (g j).o - 1 = (k : Int) by omega]; exact Ap.wrap_nat (by omega)
    rw [decide_eq_false h1, decide_eq_false h2, hw, decide_eq_true (by omega : (0 : Int) ≤ (k : Int)), decide_eq_true (by omega : (k : Int) < (mo.n : Int)), Int.toNat_natCast] at e3
    refine piece C.mix C.hX C.hs C.hXO C.hG e3 hI1 hr2 (fun v hv => by cases hv) (fun ex d hd m' a3 w3 hr3 => ?_)
    cases hd
    have K3 : Kp 150 (HL A n c mo j) a3 := kpBack hr3.ar rfl rfl rfl
    have b13 := hr3.mr.below
    have b3 : Below w0.heap.size w0 w3 := b1.trans (b13.mono b1.size)
    have hO3 := hO1.below b13
    have hk0 := hr3.mr.blk 0 ⟨35, (g j).cells⟩ rfl
    have hk1 := hr3.mr.blk 1 ⟨52, shCells (mo.g k).cl (mo.g k).p (mo.g k).x [0, k]⟩ rfl
    have hbx3 : Boxed w3 (m' 0) (g j) := by
      have := hk0.2.1
      simp only [Dl.cells, List.map_map] at this
      rw [show (SV.den m' ∘ SV.val) = _root_.id from funext fun v => den_val m' v, List.map_id] at this
      exact this
    have hsd : (shCells (mo.g k).cl (mo.g k).p (mo.g k).x [0, k]).map (SV.den m') = shVals (mo.g k) (mo.g k).row := by
      have := Pa.sh_den mo k m'
      exact this
    have hbs : Pa.BoxS w0.heap.size w3 (m' 1) (mo.g k) (mo.g k).row := Pa.BoxS.of (by
      have := hk1.2.1
      rw [hsd] at this
      exact this) (Nat.le_trans b1.size hk1.1)
    have hrs : Rs (.slice A n c) (.slice mo.A mo.n mo.c) (.int .i64 (j : Int)) (m' 0) (m' 1) (S.find (mo.g k) (g j).k) a3 :=
      ⟨hr3.ar.size, hr3.ar.defers, K3.get (by simp), K3.get (by simp), K3.get (by simp), (hr3.ar.tm 8 rfl).trans (den_ptr _ _ _), (hr3.ar.tm 9 rfl).trans (den_ptr _ _ _), (hr3.ar.tm 10 rfl).trans (den_val _ _)⟩
    have h9 : Box9 w0.heap.size w0 w3 (m' 1) mo k (mo.g k) := ⟨hbs, hO3.props k, hO3, fun b hb e => by
      have := (hO1.row.lt b hb).2
      have := hk1.1
      omega, .inl rfl⟩
    show wpL Try.prog [.block 2 (inB (inn.getD 7 .skip)), .region 26 o26 false] _ a3 w3
    simp only [wpL]
    refine wp_block (wpL_flat _ ?_)
    show wpL Try.prog l0 _ a3 w3
    by_cases hw1 : (g j).what = 1
    · -- a first delta at a place that is taken: no such change
      refine block2 hrs h9 hbx3 b3.size (by have := hm2 k; omega) (fun a4 w4 s' x1 x2 x3 x4 x5 => ?_) (fun a4 w4 m4 x1 x2 x3 x4 => ?_)
      · exfalso
        unfold L.shape at x2
        rw [hw1] at x2
        simp at x2
      · exact hR a4 w4 m4 x1 x2 (b3.trans x3) (by rw [hps, none1 hw1])
    have hap := Ap.apply_at (δ := g j) hkn hk hw1
    refine block2 hrs h9 hbx3 b3.size (by have := hm2 k; omega) (fun a4 w4 s' x1 x2 x3 x4 x5 => ?_) (fun a4 w4 m4 x1 x2 x3 x4 => ?_)
    · show (Code.region 26 o26 false).wp Try.prog (Exit.then (wpL Try.prog [] (Exit.inBlock 1 (Exit.then (wpL Try.prog (rd.drop 3) Q) Q))) (Exit.inBlock 1 (Exit.then (wpL Try.prog (rd.drop 3) Q) Q))) a4 w4
      rw [then_nil]
      refine reg26 x1 x3 x4 (Nat.le_trans b3.size x5.size) hkn hw (fun a5 w5 K5 hO5 b5 => ?_)
      show wpL Try.prog (rd.drop 3) Q a5 w5
      refine nextJ K5 (by omega) (fun a6 w6 K6 b6 => hQ { mo with g := fput mo.g k s' } a6 w6 ?_)
      have hap' : L.apply mo.ls (g j) = some ({ mo with g := fput mo.g k s' } : Mo).ls := by rw [hap, x2, Option.map_some, ls_fput]
      have B5 := (b3.trans x5).trans b5
      exact ⟨K6, B5.trans (b6.mono B5.size), hO5.below b6, by rw [hps, hap'], L.apply_bd h.bd hap'⟩
    · exact hR a4 w4 m4 x1 x2 (b3.trans x3) (by rw [hps, hap, x4]; rfl)
/-- What the reference answers. -/
def Out (x : Mo) (ds : List Dl) (w0 : World) : Ending → World → Prop := fun e w' => Below w0.heap.size w0 w' ∧
  ((∃ mo, L.patch x.ls ds = some mo.ls ∧ e = .returned (.tuple #[.slice mo.A mo.n mo.c, .int .i64 0]) ∧ OwnMo w0.heap.size w' mo) ∨ L.patch x.ls ds = none ∧ e = .returned (.tuple #[.slice none 0 0, .int .i64 7]))
theorem calls (hT : Tabs w0) (hx : RawMo w0 x) (hxn : x.n ≤ 400000) (hxp : ∀ j, j < x.n → (x.g j).n ≤ 400000) (hX : @XOk (rowL A n c g) w0) (hn : n ≤ 400000) : Calls Try.prog 8 #[.slice x.A x.n x.c, .slice A n c] w0 (Out x ((List.range n).map g) w0) := by
  have hbd : L.Bd 400000 x.ls := by
    refine ⟨by rw [ls_len]; exact hxn, fun s hs => ?_⟩
    obtain ⟨j, hj, rfl⟩ := List.mem_map.1 hs
    rw [ps_len]
    exact hxp j (List.mem_range.1 hj)
  refine calls_of_wp Try.func8 (c := Try.f8.body.getD .skip) (by kernel_rfl) ?_
  refine wpL_flat _ ?_
  show wpL Try.prog rf _ _ _
  rw [rf_eq]
  show wpL Try.prog ([rf.getD 0 .skip] ++ ([rf.getD 1 .skip] ++ ([rf.getD 2 .skip] ++ (.block 0 (.loop (roundOf rf)) :: rf.drop 4)))) _ _ _
  rw [wpL_app]
  have hst := @start_sound row0 Try.f8 [.val (.slice x.A x.n x.c), .val (.slice A n c)] (fun y hy => by
    simp only [List.mem_cons, List.not_mem_nil, or_false] at hy
    rcases hy with rfl | rfl <;> exact @ok_val row0 _ _) w0 (fun _ => 0)
  simp only [List.map_cons, List.map_nil, @den_val row0] at hst
  refine pieceZ (q0a (.slice x.A x.n x.c) (.slice A n c)) hst (fun v hv => by cases hv) (fun ex d hd m a1 w1 hr => ?_)
  cases hd
  have K1 : Kp 150 [(0, .slice x.A x.n x.c), (1, .slice A n c)] a1 := by
    letI := row0
    refine ⟨hr.ar.size, hr.ar.defers, fun p hp => ?_⟩
    simp only [List.mem_cons, List.not_mem_nil, or_false] at hp
    rcases hp with rfl | rfl
    · exact (hr.ar.tm 0 rfl).trans (den_val _ _)
    · exact (hr.ar.tm 1 rfl).trans (den_val _ _)
  have b1 : Below w0.heap.size w0 w1 := (@SR.mr row0 _ _ _ _ _ _ hr).below
  have hx1 := hx.below b1
  show wpL Try.prog ([rf.getD 1 .skip] ++ ([rf.getD 2 .skip] ++ (.block 0 (.loop (roundOf rf)) :: rf.drop 4))) _ a1 w1
  rw [wpL_app]
  have e1 : rf.getD 1 .skip = .region 1 (opsOf (rf.getD 1 .skip)) false := by kernel_rfl
  rw [e1, wpL_one]
  refine call_region (ops := opsOf (rf.getD 1 .skip)) (mv := (opsOf (rf.getD 1 .skip)).toList.getD 0 default) (cl := (opsOf (rf.getD 1 .skip)).toList.getD 1 default) (asg := (opsOf (rf.getD 1 .skip)).toList.getD 2 default) (src := 0) (d1 := 11) (d2 := 12) (d3 := 6) (f := 6) (ats := #[22]) (N := 150) (by kernel_rfl) (by kernel_rfl) (by kernel_rfl) (by kernel_rfl) (by kernel_rfl) (by kernel_rfl) (by kernel_rfl) (by kernel_rfl) (by kernel_rfl) (by kernel_rfl) (by kernel_rfl) K1.size (by decide) (by decide) (K1.get (by simp))
    (RC.calls (tabs_stable _ _ hT b1) hx1 (by omega) (fun j hj => by have := hxp j hj; omega)) (fun e w' ⟨mo, he, _⟩ => ⟨_, he⟩) (fun v w2 ⟨mo, he, b2, hO2, hl⟩ => ?_)
  cases he
  have K2 := ((K1.put (d := 11) (v := .slice x.A x.n x.c) rfl).put (d := 12) (v := .slice mo.A mo.n mo.c) rfl).put (d := 6) (v := .slice mo.A mo.n mo.c) rfl
  generalize hA2 : ((a1.put (some 11) (.slice x.A x.n x.c)).put (some 12) (.slice mo.A mo.n mo.c)).put (some 6) (.slice mo.A mo.n mo.c) = a2 at K2 ⊢
  have hO2' : OwnMo w0.heap.size w2 mo := ⟨own_base hO2.row b1.size, fun j => own_base (hO2.props j) b1.size, hO2.sep, hO2.rest⟩
  have b2' : Below w0.heap.size w0 w2 := b1.trans (b2.mono b1.size)
  show wpL Try.prog ([rf.getD 2 .skip] ++ (.block 0 (.loop (roundOf rf)) :: rf.drop 4)) _ a2 w2
  rw [wpL_app]
  refine pieceZ (q0c (.slice A n c) (.slice mo.A mo.n mo.c)) (@epoch row0 _ _ w2 K2.size K2.defers [(1, .val (.slice A n c)), (6, .val (.slice mo.A mo.n mo.c))] (fun _ => 0) (fun p hp => ?_) fun p hp => ?_) (fun v hv => by cases hv) (fun ex d hd m a3 w3 hr3 => ?_)
  · simp only [List.mem_cons, List.not_mem_nil, or_false] at hp
    rcases hp with rfl | rfl
    · exact (K2.get (d := 1) (v := .slice A n c) (by simp)).trans (@den_val row0 _ _).symm
    · exact (K2.get (d := 6) (v := .slice mo.A mo.n mo.c) (by simp)).trans (@den_val row0 _ _).symm
  · simp only [List.mem_cons, List.not_mem_nil, or_false] at hp
    rcases hp with rfl | rfl <;> exact @ok_val row0 _ _
  cases hd
  have b23 := (@SR.mr row0 _ _ _ _ _ _ hr3).below
  have h3 : Lp x A n c g w0 400000 0 mo a3 w3 := by
    refine ⟨?_, b2'.trans (b23.mono b2'.size), hO2'.below b23, by rw [hl]; rfl, by rw [hl]; exact hbd⟩
    letI := row0
    refine ⟨hr3.ar.size, hr3.ar.defers, fun p hp => ?_⟩
    simp only [List.mem_cons, List.not_mem_nil, or_false] at hp
    rcases hp with rfl | rfl | rfl
    · exact (hr3.ar.tm 1 rfl).trans (den_val _ _)
    · exact (hr3.ar.tm 6 rfl).trans (den_val _ _)
    · exact (hr3.ar.tm 7 rfl).trans (den_val _ _)
  show wpL Try.prog (.block 0 (.loop (roundOf rf)) :: rf.drop 4) _ a3 w3
  simp only [wpL]
  refine wp_block (wp_loop_rounds (n + 1) ?_)
  have loop : ∀ (k j : Nat) (mo : Mo) (a : Act) (w : World), Lp x A n c g w0 400000 j mo a w → j ≤ n → n - j < k →
      Code.rounds Try.prog (roundOf rf) (Exit.inBlock 0 (Exit.then (wpL Try.prog (rf.drop 4) (bodyPost Try.prog Try.f8 (Out x ((List.range n).map g) w0))) (bodyPost Try.prog Try.f8 (Out x ((List.range n).map g) w0)))) k a w := by
    intro k
    induction k with
    | zero => intro j mo a w h h1 h2; omega
    | succ k ih =>
      intro j mo a w h h1 h2
      rw [rounds_succ]
      refine wpL_flat _ ?_
      show wpL Try.prog rd _ a w
      by_cases hj : j < n
      · refine round hT hX hn (Nat.le_refl _) h hj (fun mo' a' w' h' => ih (j + 1) mo' a' w' h' (by omega) (by omega)) (fun a' w' m g1 g2 g3 g4 => ?_)
        rw [@den_val row0] at g2
        exact ⟨g1, _, g2, g3, .inr ⟨Pa.patch_none g4 (by omega), rfl⟩⟩
      · obtain rfl : j = n := by omega
        obtain ⟨hm1, hm2⟩ := Bd.mo h.bd h.own
        have hM : Fit (fun _ => mo) := Ap.fit1 (by omega) (fun t => by have := hm2 t; omega)
        letI := rowsB (fun _ => mo) (bxL A j c g)
        have C := ctxB (fun _ => mo) (bxL A j c g) Bvents5 (entsS_cons (ent_find48 (fun _ => mo) (bxL A j c g) hM) entsS_nil)
        rw [rd_eq, wpL_app]
        have e1 := q1 (fun _ => mo) A j c g j
        rw [show decide ((j : Int) < (j : Int)) = false from decide_eq_false (by omega)] at e1
        refine piece C.mix C.hX C.hs C.hXO C.hG e1 (invM (tabs_stable _ _ hT h.below) (@XOk.below (rowL A j c g) _ _ hX h.below) h.own) (kpSR h.kp w) (fun v hv => by cases hv) (fun ex d hd m a1 w1 hr1 => ?_)
        cases hd
        have K1 : Kp 150 (HL A j c mo j) a1 := kpBack hr1.ar rfl rfl rfl
        have b1 : Below w0.heap.size w0 w1 := h.below.trans (hr1.mr.below.mono h.below.size)
        have hO1 := h.own.below hr1.mr.below
        show wpL Try.prog (rf.drop 4) _ a1 w1
        refine pieceZ (q5 (.slice mo.A mo.n mo.c)) (@epoch row0 _ _ w1 K1.size K1.defers [(6, .val (.slice mo.A mo.n mo.c))] (fun _ => 0) (fun p hp => ?_) fun p hp => ?_) (fun v hv m' a' w' g1 g2 g3 => ?_) (fun ex d hd => by cases hd)
        · obtain rfl := List.mem_singleton.1 hp
          exact (K1.get (d := 6) (v := .slice mo.A mo.n mo.c) (by simp)).trans (@den_val row0 _ _).symm
        · obtain rfl := List.mem_singleton.1 hp
          exact @ok_val row0 _ _
        cases hv
        rw [@den_val row0] at g2
        exact ⟨g1, _, g2, b1.trans (g3.mono b1.size), .inl ⟨mo, h.ls, rfl, hO1.below g3⟩⟩
  exact loop (n + 1) 0 mo a3 w3 h3 (Nat.zero_le _) (by omega)
end
end RP
end Go.Proofs.Ytaojjpdlfnphiaa.PDescKinds
