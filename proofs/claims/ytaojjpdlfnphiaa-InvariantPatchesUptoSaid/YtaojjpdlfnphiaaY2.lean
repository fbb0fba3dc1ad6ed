/- cameoref10.Copy, as an own moment. -/
import Derived.Test.YtaojjpdlfnphiaaY1
set_option linter.unusedSimpArgs false
set_option linter.unusedVariables false
set_option linter.unusedSectionVars false
namespace Go.Proofs.Ytaojjpdlfnphiaa.PDescKinds
open Go.RowKit Go.Ev
namespace RC
noncomputable def rc : List Code := bodyOf Try.f6
noncomputable def rd : List Code := flat (roundOf rc)
noncomputable def inn : List Code := flat (inB (rd.getD 2 .skip))
noncomputable def o6 : Array Oper := opsOf (inn.getD 1 .skip)
noncomputable def o7 : Array Oper := opsOf (inn.getD 2 .skip)
set_option maxRecDepth 100000
theorem rc_eq : rc = rc.take 3 ++ (.block 0 (.loop (roundOf rc)) :: rc.drop 4) := by kernel_rfl
theorem rd_eq : rd = rd.take 2 ++ (.block 1 (inB (rd.getD 2 .skip)) :: rd.drop 3) := by kernel_rfl
theorem inn_eq : inn = inn.take 1 ++ [.region 6 o6 false, .region 7 o7 false] := by kernel_rfl
theorem o6_eq : o6.toList = o6.toList.getD 0 default :: ((o6.toList.drop 1).take 2 ++ (o6.toList.getD 3 default :: ([o6.toList.getD 4 default] ++ [o6.toList.getD 5 default]))) := by kernel_rfl
theorem o7_eq : o7.toList = o7.toList.take 2 ++ (o7.toList.getD 2 default :: o7.toList.getD 3 default :: ([o7.toList.getD 4 default] ++ [])) := by kernel_rfl
abbrev H1 (v : Value) (i : Nat) : List (Nat × SV) := [(0, .xs [0]), (3, .val v), (4, .val (.int .i64 (i : Int)))]
theorem k0 (M : Nat → Mo) : letI := rowsB M noBox
    evK Try.prog ext (tab []) 80 26 (seqL (rc.take 3)) (⟨argS [.xs [0]], fun _ => none, 0⟩) (grab Try.prog Try.f6 [0, 3, 4] [] 0) =
    some (.cut .normal ⟨H1 (.slice none 0 0) 0, []⟩) := by kernel_rfl
theorem k1 (M : Nat → Mo) (v : Value) (i : Nat) : letI := rowsB M noBox
    evK Try.prog ext (tab []) 80 26 (seqL (rd.take 2)) ((⟨H1 v i, []⟩ : Cut).st 0) (grab Try.prog Try.f6 [0, 3, 4] [] 0) =
    bif decide ((i : Int) < ((M 0).n : Int)) then some (.cut .normal ⟨H1 v i, []⟩) else some (.cut (.exit 0) ⟨H1 v i, []⟩) := by kernel_rfl
theorem k2 (M : Nat → Mo) (v : Value) (i : Nat) : letI := rowsB M noBox
    evK Try.prog ext (tab []) 80 26 (seqL (inn.take 1)) ((⟨H1 v i, []⟩ : Cut).st 0) (grab Try.prog Try.f6 [0, 3, 4, 5] [0] 1) =
    bif decide (0 ≤ (i : Int)) && decide ((i : Int) < ((M 0).n : Int)) then some (.cut .normal ⟨[(0, .xs [0]), (3, .val v), (4, .val (.int .i64 (i : Int))), (5, .ptr 0 0)], [(0, ⟨52, shCells ((M 0).g i).cl ((M 0).g i).p ((M 0).g i).x [0, i]⟩)]⟩) else none := by kernel_rfl
theorem k3 (M : Nat → Mo) (v : Value) (i : Nat) : letI := rowsB M noBox
    evK Try.prog ext (tab []) 80 26 (seqL (rd.drop 3)) ((⟨H1 v i, []⟩ : Cut).st 0) (grab Try.prog Try.f6 [0, 3, 4] [] 0) =
    some (.cut .normal ⟨[(0, .xs [0]), (3, .val v), (4, .val (.int .i64 (IntKind.i64.wrap ((i : Int) + 1))))], []⟩) := by kernel_rfl
theorem k4 (v : Value) : letI := row0
    evK Try.prog ext (tab []) 80 26 (seqL (rc.drop 4)) ((⟨[(3, .val v)], []⟩ : Cut).st 0) (grab Try.prog Try.f6 [] [] 0) = some (.ret (.val v)) := by kernel_rfl
theorem c6n : letI := row0
    evOp Try.prog ext (fun _ _ _ _ => none) (Ev.look (pickT [])) (fun _ => none) 0 (o6.toList.getD 0 default) = some (.slc 0 0 0 0, .new ⟨55, []⟩) := by kernel_rfl
theorem c6b (bA : Option Addr) (s : Sh) (A : Option Addr) (n c : Nat) : letI := rowsX bA ((shVals s (.slice A n c)).map SV.val) bA ((shVals s (.slice A n c)).map SV.val)
    (reads Try.prog 26 ((o6.toList.drop 1).take 2) (pickT [(5, .xp [] 0 0)])).map (fun t => [18].map t) = some [.val (.slice A n c)] := by kernel_rfl
theorem c6c (P : Addr) (v : Value) : letI := row0
    (reads Try.prog 26 [o6.toList.getD 4 default] (pickT [(5, .val (.pointer (some P))), (19, .val v)])).map (fun t => [19, 20].map t) = some [.val v, .val (.pointer (some (P.add 7)))] := by kernel_rfl
theorem c7a (bA : Option Addr) (s : Sh) (A : Option Addr) (n c : Nat) (v : Value) : letI := rowsX bA ((shVals s (.slice A n c)).map SV.val) bA ((shVals s (.slice A n c)).map SV.val)
    (reads Try.prog 26 (o7.toList.take 2) (pickT [(3, .val v), (5, .xp [] 0 0)])).map (fun t => [21, 22].map t) = some [.val v, .val (.agg (shVals s (.slice A n c)).toArray)] := by kernel_rfl
theorem c7n (s : Sh) (u : Value) : letI := row0
    evOp Try.prog ext (fun _ _ _ _ => none) (Ev.look (pickT [(22, .val (.agg (shVals s u).toArray))])) (fun _ => none) 0 (o7.toList.getD 2 default) = some (.slc 0 0 1 1, .new ⟨52, (shVals s u).map SV.val⟩) := by kernel_rfl
theorem c7b (v : Value) : letI := row0
    (reads Try.prog 26 [o7.toList.getD 4 default] (pickT [(24, .val v)])).map (fun t => [3].map t) = some [.val v] := by kernel_rfl
/-- What stays in a round of the copy. -/
structure Ts (x : Mo) (v : Value) (i : Nat) (a : Act) : Prop where
  size : a.tmps.size = 26
  defers : a.defers = []
  t0 : a.tmps.getD 0 undef = .slice x.A x.n x.c
  t3 : a.tmps.getD 3 undef = v
  t4 : a.tmps.getD 4 undef = .int .i64 (i : Int)
section
variable {x mo : Mo} {v : Value} {i : Nat} {a : Act} {w w0 : World} {Q : Exit → Act → World → Prop}
theorem Ts.next {a' : Act} (h : Ts x v i a) (hs : a'.tmps.size = 26) (hd : a'.defers = []) (hk : ∀ t ∈ [0, 3, 4], a'.tmps.getD t undef = a.tmps.getD t undef) : Ts x v i a' :=
  ⟨hs, hd, (hk 0 (by simp)).trans h.t0, (hk 3 (by simp)).trans h.t3, (hk 4 (by simp)).trans h.t4⟩
theorem Ts.sr (h : Ts x v i a) (w : World) : @SR (rowsB (fun _ => x) noBox) w 26 (fun _ => 0) ((⟨H1 v i, []⟩ : Cut).st 0) a w := by
  letI := rowsB (fun _ => x) noBox
  refine epoch h.size h.defers _ _ (fun p hp => ?_) (fun p hp => ?_)
  · simp only [List.mem_cons, List.not_mem_nil, or_false] at hp
    rcases hp with rfl | rfl | rfl
    · exact h.t0.trans (den_xs _ [0]).symm
    · exact h.t3.trans (den_val _ _).symm
    · exact h.t4.trans (den_val _ _).symm
  · simp only [List.mem_cons, List.not_mem_nil, or_false] at hp
    rcases hp with rfl | rfl | rfl <;> first | exact ok_val _ _ | exact ok_xs
theorem Ts.back {m : Nat → Nat} {a' : Act} {tl : List (Nat × SV)} {mem : Mem} (har : @AR (rowsB (fun _ => x) noBox) 26 m (pickT (H1 v i ++ tl)) mem a') : Ts x v i a' := by
  letI := rowsB (fun _ => x) noBox
  exact ⟨har.size, har.defers, (har.tm 0 rfl).trans (den_xs _ [0]), (har.tm 3 rfl).trans (den_val _ _), (har.tm 4 rfl).trans (den_val _ _)⟩
/-- The properties are cloned. -/
theorem reg6 {B gb : Nat} {s : Sh} (h : Ts x v i a) (h8 : a.tmps.getD 5 undef = .pointer (some ⟨gb, 0, none⟩)) (hbx : Pa.BoxS B w gb s s.row) (hB : B ≤ w.heap.size) (hnil : s.A = none → s.n = 0 ∧ s.c = 0) (hcell : ∀ t, t < s.n → ∃ a, s.A = some a ∧ ∀ k u, ((s.g t).list)[k]? = some u → w.cell? (a.add (t * 20 + k)) = some u)
    (hlt : ∀ a, s.A = some a → 0 < s.n → a.block < w.heap.size) (hn : s.n ≤ 2000000)
    (hQ : ∀ u a' w' w1, Ts x v i a' → a'.tmps.getD 5 undef = .pointer (some ⟨gb, 0, none⟩) → Below w.heap.size w w1 → w1.grownBy w' (some gb) → w'.ownsRow w.heap.size 55 20 u s.n (Copy.rowOf s) → Pa.BoxS B w' gb s u → Q .normal a' w') : (Code.region 6 o6 false).wp Try.prog Q a w := by
  refine wp_region_list ?_
  rw [o6_eq]
  refine wpList_plain (by kernel_rfl) fun K hK => ?_
  refine build0 (Pa.ar_vals (ts := []) w h.size h.defers fun p hp => by cases hp) c6n fun g w1 b1 hg hh => hK _ _ ?_
  rw [show (o6.toList.getD 0 default).dst = some 16 by kernel_rfl]
  obtain ⟨s1, f1, x1, r1⟩ := put_all a 26 16 (.slice (some ⟨g, 0, none⟩) 0 0) h.size (by decide)
  generalize hA1 : a.put (some 16) (.slice (some ⟨g, 0, none⟩) 0 0) = a1 at s1 f1 x1 r1 ⊢
  have T1 := h.next s1 (f1.trans h.defers) (fun t ht => r1 t (by
    simp only [List.mem_cons, List.not_mem_nil, or_false] at ht
    omega))
  have hbx1 : Pa.BoxS B w1 gb s s.row := hbx.kept (grown_of b1 none) (.inr (by simp [Value.ownBlock]))
  have har := Pa.ar_box (s := s) (u := s.row) (ts := []) w1 T1.size T1.defers ((r1 5 (by decide)).trans h8) (fun p hp => by cases hp)
  refine @wpList_readsF (rowsX (some ⟨gb, 0, none⟩) ((shVals s s.row).map SV.val) (some ⟨gb, 0, none⟩) ((shVals s s.row).map SV.val)) _ _ _ _ _ _ _ _ _ _ _ _ [0, 3, 4, 5, 16] hbx1.xok (c6b (some ⟨gb, 0, none⟩) s s.A s.n s.c) (by kernel_rfl) har fun a2 t2 har2 e hk2 => ?_
  simp only [List.map_cons, List.map_nil, List.cons.injEq, and_true] at e
  have q18 : a2.eval (.tmp 18) = s.row := @ar_eval (rowsX (some ⟨gb, 0, none⟩) ((shVals s s.row).map SV.val) (some ⟨gb, 0, none⟩) ((shVals s s.row).map SV.val)) _ _ _ _ _ har2 _ _ e
  have T2 := T1.next (@AR.size (rowsX (some ⟨gb, 0, none⟩) ((shVals s s.row).map SV.val) (some ⟨gb, 0, none⟩) ((shVals s s.row).map SV.val)) _ _ _ _ _ har2) (@AR.defers (rowsX (some ⟨gb, 0, none⟩) ((shVals s s.row).map SV.val) (some ⟨gb, 0, none⟩) ((shVals s s.row).map SV.val)) _ _ _ _ _ har2) (fun t ht => hk2 t (by
    simp only [List.mem_cons, List.not_mem_nil, or_false] at ht ⊢
    omega))
  have q16 : a2.eval (.tmp 16) = .slice (some ⟨g, 0, none⟩) 0 0 := (hk2 16 (by simp)).trans x1
  have q5 : a2.tmps.getD 5 undef = .pointer (some ⟨gb, 0, none⟩) := (hk2 5 (by simp)).trans ((r1 5 (by decide)).trans h8)
  have hlit : w1.ownsRow w.heap.size 55 20 (.slice (some ⟨g, 0, none⟩) 0 0) 0 [] := ⟨rfl, .inr ⟨g, 0, #[], rfl, hg, hh, Nat.le_refl _, Nat.zero_le _, rfl, rfl⟩⟩
  -- behind the append
  have tail : ∀ (u : Value) (w2 : World), w2.ownsRow w.heap.size 55 20 u s.n (Copy.rowOf s) → Below w.heap.size w w2 → wpList Try.prog o6 Q ([o6.toList.getD 4 default] ++ [o6.toList.getD 5 default]) (a2.put (o6.toList.getD 3 default).dst u) w2 := by
    intro u w2 hown hb2
    rw [show (o6.toList.getD 3 default).dst = some 19 by kernel_rfl]
    obtain ⟨s3, f3, x3, r3⟩ := put_all a2 26 19 u T2.size (by decide)
    generalize hA3 : a2.put (some 19) u = a3 at s3 f3 x3 r3 ⊢
    have T3 := T2.next s3 (f3.trans T2.defers) (fun t ht => r3 t (by
      simp only [List.mem_cons, List.not_mem_nil, or_false] at ht
      omega))
    have p5 : a3.tmps.getD 5 undef = .pointer (some ⟨gb, 0, none⟩) := (r3 5 (by decide)).trans q5
    letI := row0
    refine wpList_readsF [0, 3, 4, 5] (xok_0 w2) (c6c ⟨gb, 0, none⟩ u) (by kernel_rfl) (Pa.ar_vals (ts := [(5, .pointer (some ⟨gb, 0, none⟩)), (19, u)]) w2 s3 T3.defers (fun p hp => ?_)) fun a4 t4 har4 e hk4 => ?_
    · simp only [List.mem_cons, List.not_mem_nil, or_false] at hp
      rcases hp with rfl | rfl
      · exact p5
      · exact x3
    simp only [List.map_cons, List.map_nil, List.cons.injEq, and_true] at e
    obtain ⟨e19, e20⟩ := e
    rw [add_none] at e20
    have T4 := T3.next har4.size har4.defers (fun t ht => hk4 t (by
      simp only [List.mem_cons, List.not_mem_nil, or_false] at ht ⊢
      omega))
    have hbx2 : Pa.BoxS B w2 gb s s.row := hbx.kept (grown_of hb2 none) (.inr (by simp [Value.ownBlock]))
    have hcs : u.cells.toList = [u] := by rw [(own_slice hown).1]; rfl
    have hcz : u.cells.size = 1 := by rw [← Array.length_toList, hcs]; rfl
    obtain ⟨w3, hst, hown3, hgr⟩ := own_splice (P := Try.prog) (ty := 50) (x := u) (t := 0) (o := 7) hbx2 (fun t => shVals_length _ _) (by decide) (by rw [hcz]; kernel_rfl) (by rw [hcz]; exact Nat.le_refl 8) (fun y hy => by
      rw [hcs] at hy
      obtain rfl := List.mem_singleton.1 hy
      rw [(own_slice hown).1]
      rfl)
    refine wpList_store (t := 50) (x := .tmp 20) (y := .tmp 19) (by kernel_rfl) (by kernel_rfl) (by kernel_rfl) (ar_eval har4 e20) (ar_eval har4 e19) hst (hQ u a4 w3 w2 T4 ((hk4 5 (by simp)).trans p5) hb2 hgr ?_ ?_)
    · refine hown.kept hgr ?_
      cases hu : u.ownBlock with
      | none => exact .inl rfl
      | some b =>
        refine .inr fun e => ?_
        have h1 := (hown.lt b hu).1
        have h2 := (hbx.lt gb rfl).2
        simp only [Option.some.injEq] at e
        omega
    · have : ((List.range 1).flatMap (fput (fun _ => shVals s s.row) 0 (splice (shVals s s.row) 7 u.cells.toList))) = ((List.range 1).flatMap fun _ => shVals s u) := by
        rw [hcs]
        rfl
      rw [this] at hown3
      exact hown3
  obtain ⟨i66, z66, hi1, hi2, hi3, hi4, hi5⟩ := Copy.info66
  have hM : maxLen = 9223372036854775807 := by decide +kernel
  cases hA : s.A with
  | none =>
    obtain ⟨h0, h0c⟩ := hnil hA
    have e18 : a2.eval (.tmp 18) = .slice none 0 0 := by rw [q18]; unfold Sh.row; rw [hA, h0, h0c]
    refine wpList_append_own_none (by kernel_rfl) (.tmp 16) (.tmp 18) 50 (by kernel_rfl) w.heap.size 55 i66 20 Try.underlying50 hi1 _ 0 [] q16 hlit e18 ?_
    refine tail _ w1 ?_ b1
    have e : Copy.rowOf s = [] := by unfold Copy.rowOf; rw [h0]; rfl
    rw [e, h0]
    exact hlit
  | some ad =>
    have e18 : a2.eval (.tmp 18) = .slice (some ad) s.n s.c := by rw [q18]; unfold Sh.row; rw [hA]
    refine wpList_append_own w1 (by kernel_rfl) (.tmp 16) (.tmp 18) 50 (by kernel_rfl) w.heap.size 55 i66 z66 20 192 Try.underlying50 hi1 hi2 hi3 hi4 hi5 (by decide) _ 0 [] q16 hlit ad s.n s.c (Copy.rowOf s) e18 (flat_len (fun t => Pr.list_length _) _) (fun j u hu => ?_) (fun u hu => ?_) (by omega) (by omega) b1.size fun v' w4 hown hgr hnilv => ?_
    · obtain ⟨t, k, ht, rfl, hk⟩ := flat_out (fun t => Pr.list_length _) _ _ _ hu
      obtain ⟨A', hA', hc⟩ := hcell t ht
      rw [hA] at hA'
      cases hA'
      rw [← hc k u hk]
      exact b1.cell (by rw [add_block]; exact hlt ad hA (by omega))
    · obtain ⟨t, _, hu⟩ := List.mem_flatMap.1 hu
      exact Pr.list_one _ u hu
    rw [Nat.zero_add, List.nil_append] at hown
    exact tail v' w4 hown (b1.trans (below_own b1.size hlit hgr))
/-- The shape joins the copy. -/
theorem reg7 {B gb : Nat} {s : Sh} (h : Ts x v i a) (h8 : a.tmps.getD 5 undef = .pointer (some ⟨gb, 0, none⟩)) (hbx : Pa.BoxS B w gb s s.row) (hB : B ≤ w.heap.size) (hO : OwnMo w0.heap.size w mo) (hB0 : w0.heap.size ≤ w.heap.size) (hv : v = .slice mo.A mo.n mo.c) (hn : mo.n ≤ 2000000)
    (hrow : ∀ A n c, s.row = .slice A n c → s.A = A ∧ s.n = n ∧ s.c = c)
    (hown : w.ownsRow w0.heap.size 55 20 s.row s.n (Copy.rowOf s)) (hf : ∀ t b c, s.row.ownBlock = some b → (mo.g t).row.ownBlock = some c → b ≠ c)
    (hQ : ∀ v' a' w', Ts x v' i a' → Below w0.heap.size w w' → v' = .slice (slA v') (mo.n + 1) (slC v') → OwnMo w0.heap.size w' ⟨slA v', mo.n + 1, slC v', fput mo.g mo.n s⟩ → Q .normal a' w') : (Code.region 7 o7 false).wp Try.prog Q a w := by
  refine wp_region_list ?_
  rw [o7_eq]
  have har := Pa.ar_box' (s := s) (u := s.row) (p := (3, v)) w h.size h.defers h8 h.t3
  refine @wpList_readsF (rowsX (some ⟨gb, 0, none⟩) ((shVals s s.row).map SV.val) (some ⟨gb, 0, none⟩) ((shVals s s.row).map SV.val)) _ _ _ _ _ _ _ _ _ _ _ _ [0, 3, 4] hbx.xok (c7a (some ⟨gb, 0, none⟩) s s.A s.n s.c v) (by kernel_rfl) har fun a1 t1 har1 e hk1 => ?_
  simp only [List.map_cons, List.map_nil, List.cons.injEq, and_true] at e
  obtain ⟨e21, e22⟩ := e
  have p21 : a1.tmps.getD 21 undef = v := @ar_eval (rowsX (some ⟨gb, 0, none⟩) ((shVals s s.row).map SV.val) (some ⟨gb, 0, none⟩) ((shVals s s.row).map SV.val)) _ _ _ _ _ har1 _ _ e21
  have p22 : a1.tmps.getD 22 undef = .agg (shVals s s.row).toArray := @ar_eval (rowsX (some ⟨gb, 0, none⟩) ((shVals s s.row).map SV.val) (some ⟨gb, 0, none⟩) ((shVals s s.row).map SV.val)) _ _ _ _ _ har1 _ _ e22
  have T1 := h.next (@AR.size (rowsX (some ⟨gb, 0, none⟩) ((shVals s s.row).map SV.val) (some ⟨gb, 0, none⟩) ((shVals s s.row).map SV.val)) _ _ _ _ _ har1) (@AR.defers (rowsX (some ⟨gb, 0, none⟩) ((shVals s s.row).map SV.val) (some ⟨gb, 0, none⟩) ((shVals s s.row).map SV.val)) _ _ _ _ _ har1) hk1
  letI := row0
  refine wpList_plain (by kernel_rfl) fun K hK => ?_
  refine build1 (Pa.ar_vals (ts := [(22, .agg (shVals s s.row).toArray)]) w T1.size T1.defers (fun p hp => by
    obtain rfl := List.mem_singleton.1 hp
    exact p22)) (c7n s s.row) fun gn w1 b1 b2 b3 => hK _ _ ?_
  rw [show (o7.toList.getD 2 default).dst = some 23 by kernel_rfl]
  obtain ⟨s2, f2, x2, r2⟩ := put_all a1 26 23 (.slice (some ⟨gn, 0, none⟩) 1 1) T1.size (by decide)
  generalize hA2 : a1.put (some 23) (.slice (some ⟨gn, 0, none⟩) 1 1) = a2 at s2 f2 x2 r2 ⊢
  have T2 := T1.next s2 (f2.trans T1.defers) (fun t ht => r2 t (by
    simp only [List.mem_cons, List.not_mem_nil, or_false] at ht
    omega))
  have hO1 := hO.below b1
  have hB1 : w0.heap.size ≤ w1.heap.size := Nat.le_trans hB0 b1.size
  obtain ⟨i60, z60, q1, q2, q3, q4, q5⟩ := Copy.info60
  have hM : maxLen = 9223372036854775807 := by decide +kernel
  refine wpList_append_own w1 (by kernel_rfl) (.tmp 21) (.tmp 23) 22 (by kernel_rfl) w0.heap.size 52 i60 z60 8 88 (by kernel_rfl) q1 q2 q3 q4 q5 (by decide) (.slice mo.A mo.n mo.c) mo.n _ ((r2 21 (by decide)).trans (p21.trans hv)) hO1.row ⟨gn, 0, none⟩ 1 1 (shVals s s.row) x2 (shVals_length _ _) (fun j u hu => ?_) (Ap.shVals_one _) (by omega) (by omega) hB1 fun v' w2 hown2 hgr hnil => ?_
  · rw [add_none, cell_of_row w1 gn _ _ 52 (0, 0) b3]
    simpa using hu
  rw [show (o7.toList.getD 3 default).dst = some 24 by kernel_rfl]
  obtain ⟨s3, f3, x3, r3⟩ := put_all a2 26 24 v' s2 (by decide)
  generalize hA3 : a2.put (some 24) v' = a3 at s3 f3 x3 r3 ⊢
  have T3 := T2.next s3 (f3.trans T2.defers) (fun t ht => r3 t (by
    simp only [List.mem_cons, List.not_mem_nil, or_false] at ht
    omega))
  refine wpList_readsF [0, 4] (xok_0 w2) (c7b v') (by kernel_rfl) (Pa.ar_vals (ts := [(24, v')]) w2 s3 T3.defers (fun p hp => by
    obtain rfl := List.mem_singleton.1 hp
    exact x3)) fun a4 t4 har4 e hk4 => ?_
  simp only [List.map_cons, List.map_nil, List.cons.injEq, and_true] at e
  obtain ⟨hv', hmo⟩ := hO1.snoc (s := s) hgr ((hown.kept (grown_of b1 none) (by cases s.row.ownBlock <;> simp)).kept hgr (own_ne hO1.row (hown.kept (grown_of b1 none) (by cases s.row.ownBlock <;> simp)))) hf hown2
  exact hQ v' a4 w2 ⟨har4.size, har4.defers, (hk4 0 (by simp)).trans T3.t0, ar_eval har4 e, (hk4 4 (by simp)).trans T3.t4⟩ ((b1.mono hB0).trans (below_own hB1 hO1.row hgr)) hv' hmo
/-- At the copy's head. -/
structure Lp (x : Mo) (w0 : World) (i : Nat) (mo : Mo) (a : Act) (w : World) : Prop where
  ts : Ts x (.slice mo.A mo.n mo.c) i a
  below : Below w0.heap.size w0 w
  own : OwnMo w0.heap.size w mo
  n : mo.n = i
  ls : mo.ls = x.ls.take i
theorem round (hI : Inv (fun _ => x) noBox w0) (hx : RawMo w0 x) (hn : x.n ≤ 1000000) (hp : ∀ j, j < x.n → (x.g j).n ≤ 1000000) (h : Lp x w0 i mo a w) (hi : i < x.n) (hQ : ∀ mo' a' w', Lp x w0 (i + 1) mo' a' w' → Q .normal a' w') : wpL Try.prog rd Q a w := by
  letI := rowsB (fun _ => x) noBox
  have C := ctxB (fun _ => x) noBox entries_nil entsS_nil
  have C : Ctx Try.prog ext (tab []) (Inv (fun _ => x) noBox) := ⟨C.mix, C.hX, C.hs, C.hXO, tab_sound entries_nil⟩
  rw [rd_eq, wpL_app]
  have e1 := k1 (fun _ => x) (.slice mo.A mo.n mo.c) i
  rw [show decide ((i : Int) < (x.n : Int)) = true from decide_eq_true (by omega)] at e1
  refine piece C.mix C.hX C.hs C.hXO C.hG e1 (inv_stable _ _ _ _ hI h.below) (h.ts.sr w) (fun v hv => by cases hv) (fun ex d hd m a1 w1 hr1 => ?_)
  cases hd
  have T1 : Ts x (.slice mo.A mo.n mo.c) i a1 := Ts.back (tl := []) hr1.ar
  have b1 : Below w0.heap.size w0 w1 := h.below.trans (hr1.mr.below.mono h.below.size)
  have hO1 := h.own.below hr1.mr.below
  show wpL Try.prog (.block 1 (inB (rd.getD 2 .skip)) :: rd.drop 3) Q a1 w1
  simp only [wpL]
  refine wp_block (wpL_flat _ ?_)
  show wpL Try.prog inn _ a1 w1
  rw [inn_eq, wpL_app]
  have e2 := k2 (fun _ => x) (.slice mo.A mo.n mo.c) i
  rw [show decide (0 ≤ (i : Int)) = true from decide_eq_true (by omega), show decide ((i : Int) < (x.n : Int)) = true from decide_eq_true (by omega)] at e2
  refine piece C.mix C.hX C.hs C.hXO C.hG e2 (inv_stable _ _ _ _ hI b1) (T1.sr w1) (fun v hv => by cases hv) (fun ex d hd m2 a2 w2 hr2 => ?_)
  cases hd
  have T2 : Ts x (.slice mo.A mo.n mo.c) i a2 := Ts.back (tl := [(5, .ptr 0 0)]) hr2.ar
  have p8 : a2.tmps.getD 5 undef = .pointer (some ⟨m2 0, 0, none⟩) := (hr2.ar.tm 5 rfl).trans (den_ptr _ _ _)
  have b2 : Below w0.heap.size w0 w2 := b1.trans (hr2.mr.below.mono b1.size)
  have hO2 := hO1.below hr2.mr.below
  have hb := hr2.mr.blk 0 ⟨52, shCells (x.g i).cl (x.g i).p (x.g i).x [0, i]⟩ rfl
  have hbx : Pa.BoxS w1.heap.size w2 (m2 0) (x.g i) (x.g i).row := Pa.BoxS.of (by
    have := hb.2.1
    rw [Pa.sh_den] at this
    exact this) hb.1
  have hx2 := hx.below (b2.mono (Nat.le_refl _))
  show (Code.region 6 o6 false).wp Try.prog (Exit.then (wpL Try.prog [.region 7 o7 false] _) _) a2 w2
  refine reg6 (s := x.g i) T2 p8 hbx hr2.mr.below.size (hx2.nils i) (fun t ht => ?_) (fun ad hA h0 => ?_) (by have := hp i hi; omega) fun u a3 w3 w23 T3 q8 b3 hgr hown hbx3 => ?_
  · obtain ⟨ad, h1, h2, h3⟩ := hx2.row i t ht
    exact ⟨ad, h1, h3⟩
  · obtain ⟨ad', h1, h2, h3⟩ := hx2.row i 0 h0
    rw [hA] at h1
    cases h1
    exact h2
  show wpL Try.prog [.region 7 o7 false] _ a3 w3
  simp only [wpL]
  have hu := (own_slice hown).1
  obtain ⟨s', hs'⟩ : ∃ s' : Sh, s' = { x.g i with A := slA u, c := slC u } := ⟨_, rfl⟩
  have hrow' : s'.row = u := by rw [hs']; exact hu.symm
  have hg8 : w1.heap.size ≤ m2 0 := hb.1
  have b3' : Below w1.heap.size w2 w3 := (b3.mono hr2.mr.below.size).trans ⟨hgr.os, hgr.tape, hgr.output, hgr.size, fun k hk => hgr.block k (Nat.lt_of_lt_of_le (Nat.lt_of_lt_of_le hk hr2.mr.below.size) b3.size) (fun e => by
    simp only [Option.some.injEq] at e
    omega)⟩
  have hb13 : Below w1.heap.size w1 w3 := hr2.mr.below.trans b3'
  have hO3 := hO1.below hb13
  refine reg7 (w0 := w0) (mo := mo) (gb := m2 0) (B := w1.heap.size) (s := s') T3 q8 (by
    rw [hrow']
    have : shVals s' u = shVals (x.g i) u := by rw [hs']; rfl
    unfold Pa.BoxS
    rw [this]
    exact hbx3) hb13.size hO3 (Nat.le_trans b1.size hb13.size) rfl (by have := h.n; omega) (fun A n c hr => by
      unfold Sh.row at hr
      cases hr
      exact ⟨rfl, rfl, rfl⟩) ?_ ?_ fun v' a4 w4 T4 b4 hv' hmo => ?_
  · rw [hrow']
    have : Copy.rowOf s' = Copy.rowOf (x.g i) := by rw [hs']; rfl
    rw [this, show s'.n = (x.g i).n by rw [hs']]
    exact own_base hown (Nat.le_trans b1.size hr2.mr.below.size)
  · intro t b c h1 h2
    rw [hrow'] at h1
    have l1 := (hown.lt b h1).1
    have l2 := ((hO1.props t).lt c h2).2
    have := hr2.mr.below.size
    omega
  show wpL Try.prog (rd.drop 3) Q a4 w4
  have b04 : Below w0.heap.size w0 w4 := (b1.trans (hb13.mono b1.size)).trans b4
  have e3 := k3 (fun _ => x) v' i
  rw [wr hi (by omega)] at e3
  refine piece C.mix C.hX C.hs C.hXO C.hG e3 (inv_stable _ _ _ _ hI b04) (T4.sr w4) (fun v hv => by cases hv) (fun ex d hd m5 a5 w5 hr5 => ?_)
  cases hd
  refine hQ ⟨slA v', mo.n + 1, slC v', fput mo.g mo.n s'⟩ a5 w5 ⟨?_, b04.trans (hr5.mr.below.mono b04.size), hmo.below hr5.mr.below, by have := h.n; show mo.n + 1 = _; omega, ?_⟩
  · rw [← hv']
    exact ⟨hr5.ar.size, hr5.ar.defers, (hr5.ar.tm 0 rfl).trans (den_xs _ [0]), (hr5.ar.tm 3 rfl).trans (den_val _ _), (hr5.ar.tm 4 rfl).trans (den_val _ _)⟩
  · rw [Pa.ls_fput_n, h.ls, List.take_add_one, ls_at x hi]
    have : s'.ls = (x.g i).ls := by rw [hs']; rfl
    rw [this]
    rfl
theorem ends (hs : a.tmps.size = 26) (hd : a.defers = []) (h3 : a.tmps.getD 3 undef = v) (hQ : ∀ a' w' m, a'.defers = [] → (results Try.f6 a'.tmps).run Try.prog w' = .ok (@SV.den row0 m (.val v)) w' → Below w.heap.size w w' → Q .ret a' w') : wpL Try.prog (rc.drop 4) Q a w := by
  letI := row0
  refine piece Ap.ctx0.mix Ap.ctx0.hX Ap.ctx0.hs Ap.ctx0.hXO Ap.ctx0.hG (k4 v) (w0 := w) trivial (epoch hs hd [(3, .val v)] (fun _ => 0) (fun p hp => ?_) fun p hp => ?_) (fun u hu m' a' w' g1 g2 g3 => ?_) (fun ex d hd => by cases hd)
  · obtain rfl := List.mem_singleton.1 hp
    exact h3.trans (den_val _ _).symm
  · obtain rfl := List.mem_singleton.1 hp
    exact ok_val _ _
  cases hu
  exact hQ a' w' m' g1 g2 g3
/-- A copy is an own moment that reads alike. -/
def Out (x : Mo) (w0 : World) : Ending → World → Prop := fun e w' => ∃ mo, e = .returned (.slice mo.A mo.n mo.c) ∧ Below w0.heap.size w0 w' ∧ OwnMo w0.heap.size w' mo ∧ mo.ls = x.ls
theorem calls (hT : Tabs w0) (hx : RawMo w0 x) (hn : x.n ≤ 1000000) (hp : ∀ j, j < x.n → (x.g j).n ≤ 1000000) : Calls Try.prog 6 #[.slice x.A x.n x.c] w0 (Out x w0) := by
  have hI : Inv (fun _ => x) noBox w0 := ⟨hT, xok_raw fun _ => hx⟩
  letI := rowsB (fun _ => x) noBox
  have C := ctxB (fun _ => x) noBox entries_nil entsS_nil
  have C : Ctx Try.prog ext (tab []) (Inv (fun _ => x) noBox) := ⟨C.mix, C.hX, C.hs, C.hXO, tab_sound entries_nil⟩
  refine calls_of_wp Try.func6 (c := Try.f6.body.getD .skip) (by kernel_rfl) ?_
  refine wpL_flat _ ?_
  show wpL Try.prog rc _ _ _
  rw [rc_eq, wpL_app]
  have hst := start_sound (fn := Try.f6) [.xs [0]] (fun x hx => by
    obtain rfl := List.mem_singleton.1 hx
    exact ok_xs) w0 (fun _ => 0)
  simp only [List.map_cons, List.map_nil, den_xs] at hst
  refine piece C.mix C.hX C.hs C.hXO C.hG (k0 (fun _ => x)) hI hst (fun v hv => by cases hv) (fun ex d hd m a1 w1 hr => ?_)
  cases hd
  have h1 : Lp x w0 0 Mo0 a1 w1 := ⟨Ts.back (tl := []) hr.ar, hr.mr.below, ownMo0 _ _, rfl, by simp [Mo.ls, Mo0]⟩
  show wpL Try.prog (.block 0 (.loop (roundOf rc)) :: rc.drop 4) _ a1 w1
  simp only [wpL]
  refine wp_block (wp_loop_rounds (x.n + 1) ?_)
  have loop : ∀ (k i : Nat) (mo : Mo) (a : Act) (w : World), Lp x w0 i mo a w → i ≤ x.n → x.n - i < k →
      Code.rounds Try.prog (roundOf rc) (Exit.inBlock 0 (Exit.then (wpL Try.prog (rc.drop 4) (bodyPost Try.prog Try.f6 (Out x w0))) (bodyPost Try.prog Try.f6 (Out x w0)))) k a w := by
    intro k
    induction k with
    | zero => intro i mo a w h h1 h2; omega
    | succ k ih =>
      intro i mo a w h h1 h2
      rw [rounds_succ]
      refine wpL_flat _ ?_
      show wpL Try.prog rd _ a w
      by_cases hi : i < x.n
      · exact round hI hx hn hp h hi (fun mo' a' w' h' => ih (i + 1) mo' a' w' h' (by omega) (by omega))
      · obtain rfl : i = x.n := by omega
        rw [rd_eq, wpL_app]
        have e1 := k1 (fun _ => x) (.slice mo.A mo.n mo.c) x.n
        rw [show decide ((x.n : Int) < (x.n : Int)) = false from decide_eq_false (by omega)] at e1
        refine piece C.mix C.hX C.hs C.hXO C.hG e1 (inv_stable _ _ _ _ hI h.below) (h.ts.sr w) (fun v hv => by cases hv) (fun ex d hd m a2 w2 hr2 => ?_)
        cases hd
        have T2 : Ts x (.slice mo.A mo.n mo.c) x.n a2 := Ts.back (tl := []) hr2.ar
        have b2 : Below w0.heap.size w0 w2 := h.below.trans (hr2.mr.below.mono h.below.size)
        have hO2 := h.own.below hr2.mr.below
        show wpL Try.prog (rc.drop 4) _ a2 w2
        refine ends T2.size T2.defers T2.t3 fun a' w' m' g1 g2 g3 => ?_
        rw [@den_val row0] at g2
        exact ⟨g1, _, g2, mo, rfl, b2.trans (g3.mono b2.size), hO2.below g3, by rw [h.ls, ← ls_len x, List.take_length]⟩
  exact loop (x.n + 1) 0 Mo0 a1 w1 h1 (Nat.zero_le _) (by omega)
end
end RC
end Go.Proofs.Ytaojjpdlfnphiaa.PDescKinds
