/- cameolaw10.InvariantPatches: the questions, and what spoil leaves. -/
import Derived.Test.YtaojjpdlfnphiaaM2
set_option linter.unusedSimpArgs false
set_option linter.unusedVariables false
set_option linter.unusedSectionVars false
namespace Go.Proofs.Ytaojjpdlfnphiaa.PDescKinds
open Go.RowKit Go.Ev
/-! Moments that read alike -/
theorem sameSh_ls {s t : Sh} (h : s.ls = t.ls) : R.sameSh s t = true := by
  unfold Sh.ls at h
  simp only [LS.mk.injEq] at h
  obtain ⟨h1, h2, h3, h4⟩ := h
  have hn : s.n = t.n := by
    have := congrArg List.length h4
    simpa using this
  have hg : ∀ j, j < s.n → s.g j = t.g j := by
    intro j hj
    have := congrArg (fun l => l[j]?) h4
    simpa [List.getElem?_map, List.getElem?_range hj, List.getElem?_range (show j < t.n by omega)] using this
  unfold R.sameSh
  have e : seek (fun i => bif !S.keq (s.g i).k (t.g i).k || !R.eqDR (s.g i).d (t.g i).d then some false else none) s.n 0 = none := by
    refine (S.seek_none _ _).2 fun j h1 h2 => ?_
    rw [hg j (by omega), keq_refl, eqDR_refl]
    rfl
  rw [e, h1, h2, h3, hn, eqR_refl]
  simp
theorem sameM_ls {a b : Mo} (h : a.ls = b.ls) : R.sameM a b = true := by
  have hn : a.n = b.n := by rw [← ls_len a, ← ls_len b, h]
  unfold R.sameM
  have e : seek (fun i => bif !R.sameSh (a.g i) (b.g i) then some false else none) a.n 0 = none := by
    refine (S.seek_none _ _).2 fun j h1 h2 => ?_
    have hj : j < a.n := by omega
    have := congrArg (fun l => l[j]?) h
    simp only [ls_at a hj, ls_at b (show j < b.n by omega), Option.some.injEq] at this
    rw [sameSh_ls this]
    rfl
  rw [e, hn]
  simp
namespace Lw
set_option maxRecDepth 100000
theorem ent_alike (M : Nat → Mo) (bx : Nat → XR) (hM : Fit M) (h : ∀ a b, okP a b = true → R.sameM (M a) (M b) = true) : Ent M bx (9, noMem (onMM fun a b => bif okP a b then LB true else .bad)) := by
  intro args mem t v h1 h2 h3
  have h1' : onMM (fun a b => bif okP a b then LB true else .bad) args = some t := h1
  obtain ⟨a, b, rfl, rfl⟩ := onMM_eq h1'
  cases hk : okP a b with
  | false => rw [hk] at h2; cases h2
  | true =>
    rw [hk] at h2
    refine ent_same40 M bx hM [.xs [a], .xs [b]] mem (LB (R.sameM (M a) (M b))) v rfl ?_ h3
    rw [h a b hk]
    exact h2
abbrev V (m : Mo) : Value := .slice m.A m.n m.c
section
variable {x b y z t : Mo} {N n c n' c' : Nat} {A A' : Option Addr} {g g' : Nat → Dl} {a : Act} {w w0 w1 : World} {Q : Exit → Act → World → Prop}
/-- What stands at the questions. -/
structure St (x b y z t : Mo) (A : Option Addr) (n c : Nat) (g : Nat → Dl) (A' : Option Addr) (n' c' : Nat) (g' : Nat → Dl) (w : World) : Prop where
  tabs : Tabs w
  x : RawMo w x
  b : RawMo w b
  y : RawMo w y
  z : RawMo w z
  t : RawMo w t
  l : @XOk (rowL A n c g) w
  d : @XOk (rowL A' n' c' g') w
theorem St.inv (h : St x b y z t A n c g A' n' c' g' w) : Inv (five x b y z t) (two A n c g A' n' c' g') w := by
  refine ⟨h.tabs, xok_box (M := five x b y z t) (bx := noBox) (xok_raw fun k => ?_) fun k => ?_⟩
  · match k with
    | 0 => exact h.x
    | 1 => exact h.b
    | 2 => exact h.y
    | 3 => exact h.z
    | _ + 4 => exact h.t
  · match k with
    | 0 => exact rowL_any h.l _
    | _ + 1 => exact rowL_any h.d _
theorem St.step (h : St x b y z t A n c g A' n' c' g' w) (hb : Below w.heap.size w w1) : St x b y z t A n c g A' n' c' g' w1 :=
  ⟨tabs_stable _ _ h.tabs hb, h.x.below hb, h.b.below hb, h.y.below hb, h.z.below hb, h.t.below hb, @XOk.below (rowL A n c g) _ _ h.l hb, @XOk.below (rowL A' n' c' g') _ _ h.d hb⟩
theorem fit5 (hx : FitM x) (hb : FitM b) (hy : FitM y) (hz : FitM z) (ht : FitM t) : Fit (five x b y z t) := by
  intro k
  match k with
  | 0 => exact hx
  | 1 => exact hb
  | 2 => exact hy
  | 3 => exact hz
  | _ + 4 => exact ht
theorem ok5 (hyt : R.sameM y t = true) (hzt : R.sameM z t = true) (hbx : R.sameM b x = true) : ∀ a b', okP a b' = true → R.sameM (five x b y z t a) (five x b y z t b') = true := by
  intro a b' h
  unfold okP at h
  simp only [Bool.or_eq_true, Bool.and_eq_true] at h
  rcases h with ⟨h1, h2⟩ | ⟨h1, h2⟩ | ⟨h1, h2⟩ <;> rw [Nat.eq_of_beq_eq_true h1, Nat.eq_of_beq_eq_true h2]
  · exact hyt
  · exact hzt
  · exact hbx
abbrev K9 (x b y z t : Mo) (A : Option Addr) (n c : Nat) (A' : Option Addr) (n' c' : Nat) : List (Nat × Value) := [(0, V x), (1, .slice A n c), (5, V b), (6, .slice A' n' c'), (7, V y), (9, V z), (11, V t)]
theorem srList {us : List (Nat × Value)} (h : Kp 103 (K9 x b y z t A n c A' n' c' ++ us) a) (w : World) : @SR (rowsB (five x b y z t) (two A n c g A' n' c' g')) w 103 (fun _ => 0) ((⟨R9 ++ us.map fun p => (p.1, .val p.2), []⟩ : Cut).st 0) a w := by
  letI := rowsB (five x b y z t) (two A n c g A' n' c' g')
  refine epoch h.size h.defers _ _ (fun p hp => ?_) (fun p hp => ?_)
  · rcases List.mem_append.1 hp with hp | hp
    · simp only [List.mem_cons, List.not_mem_nil, or_false] at hp
      rcases hp with rfl | rfl | rfl | rfl | rfl | rfl | rfl
      · exact (h.get (d := 0) (v := V x) (by simp)).trans (den_xs _ [0]).symm
      · exact (h.get (d := 1) (v := .slice A n c) (by simp)).trans (den_xs _ [0, 0, 0]).symm
      · exact (h.get (d := 5) (v := V b) (by simp)).trans (den_xs _ [1]).symm
      · exact (h.get (d := 6) (v := .slice A' n' c') (by simp)).trans (den_xs _ [1, 0, 0]).symm
      · exact (h.get (d := 7) (v := V y) (by simp)).trans (den_xs _ [2]).symm
      · exact (h.get (d := 9) (v := V z) (by simp)).trans (den_xs _ [3]).symm
      · exact (h.get (d := 11) (v := V t) (by simp)).trans (den_xs _ [4]).symm
    · obtain ⟨q, hq, rfl⟩ := List.mem_map.1 hp
      rw [den_val]
      exact h.vals q (List.mem_append.2 (.inr hq))
  · rcases List.mem_append.1 hp with hp | hp
    · simp only [List.mem_cons, List.not_mem_nil, or_false] at hp
      rcases hp with rfl | rfl | rfl | rfl | rfl | rfl | rfl <;> exact ok_xs
    · obtain ⟨q, hq, rfl⟩ := List.mem_map.1 hp
      exact ok_val _ _
theorem kpList {us : List (Nat × Value)} {m : Nat → Nat} {a' : Act} {t' : Nat → SV} {mem : Mem} (har : @AR (rowsB (five x b y z t) (two A n c g A' n' c' g')) 103 m t' mem a') (h0 : [0, 1, 5, 6, 7, 9, 11].map t' = [.xs [0], .xs [0, 0, 0], .xs [1], .xs [1, 0, 0], .xs [2], .xs [3], .xs [4]]) (hu : ∀ p ∈ us, t' p.1 = .val p.2) : Kp 103 (K9 x b y z t A n c A' n' c' ++ us) a' := by
  letI := rowsB (five x b y z t) (two A n c g A' n' c' g')
  simp only [List.map_cons, List.map_nil, List.cons.injEq, and_true] at h0
  obtain ⟨e0, e1, e5, e6, e7, e9, e11⟩ := h0
  refine ⟨har.size, har.defers, fun p hp => ?_⟩
  rcases List.mem_append.1 hp with hp | hp
  · simp only [List.mem_cons, List.not_mem_nil, or_false] at hp
    rcases hp with rfl | rfl | rfl | rfl | rfl | rfl | rfl
    · exact (har.tm 0 (by rw [e0]; rfl)).trans (by rw [e0]; exact den_xs _ [0])
    · exact (har.tm 1 (by rw [e1]; rfl)).trans (by rw [e1]; exact den_xs _ [0, 0, 0])
    · exact (har.tm 5 (by rw [e5]; rfl)).trans (by rw [e5]; exact den_xs _ [1])
    · exact (har.tm 6 (by rw [e6]; rfl)).trans (by rw [e6]; exact den_xs _ [1, 0, 0])
    · exact (har.tm 7 (by rw [e7]; rfl)).trans (by rw [e7]; exact den_xs _ [2])
    · exact (har.tm 9 (by rw [e9]; rfl)).trans (by rw [e9]; exact den_xs _ [3])
    · exact (har.tm 11 (by rw [e11]; rfl)).trans (by rw [e11]; exact den_xs _ [4])
  · have := hu p hp
    exact (har.tm p.1 (by rw [this]; rfl)).trans (by rw [this]; exact den_val _ _)
theorem wanted_false {os : Array Oper} {o : Oper} {j t : Nat} {a : Act} (hg : o.guard = some (j, false)) (hj : (os[j]?).bind (·.dst) = some t) (hs : t < a.tmps.size) (hv : a.tmps.getD t undef = .bool false) : Region.wanted o (yielded os a.tmps) = true := by
  have e : a.tmps[t]? = some (.bool false) := by
    rw [Array.getElem?_eq_getElem hs]
    simp only [Array.getD, hs, dite_true] at hv
    rw [← hv]
    rfl
  have hy : yielded os a.tmps j = some false := by
    unfold yielded
    rw [hj, Option.bind_some, e]
  unfold Region.wanted
  rw [hg]
  simp [hy]
theorem wpList_wanted {P : Program} {os : Array Oper} {rest : List Oper} {o : Oper} (hw : Region.wanted o (yielded os a.tmps) = true) (h : ∀ K : Act → World → Prop, (∀ a w, wpList P os Q rest a w → K a w) → o.wp P a w K Q) : wpList P os Q (o :: rest) a w :=
  wpList_step fun K hK => by
    simp only [hw, if_true]
    exact h K hK
/-- The questions are answered. -/
theorem reg8 {e : Int} {gd cd : Nat} (he : e = 0 ∨ e = 7) (h : Kp 103 (K9 x b y z t A n c (some ⟨gd, 0, none⟩) (n + 1) cd ++ [(8, .int .i64 e), (10, .int .i64 e), (12, .int .i64 e)]) a) (hS : St x b y z t A n c g (some ⟨gd, 0, none⟩) (n + 1) cd (fput g n D7) w) (hcd : n + 1 ≤ cd) (hn : n ≤ 2000)
    (hM : Fit (five x b y z t)) (hyt : R.sameM y t = true) (hzt : R.sameM z t = true) (hbx : R.sameM b x = true)
    (hQ : ∀ a' w', Kp 103 (K9 x b y z t A n c (some ⟨gd, 0, none⟩) (n + 1) cd ++ [(92, .bool false)]) a' → Below w.heap.size w w' → Q .normal a' w') : (Code.region 8 p8 false).wp Try.prog Q a w := by
  have C : @Ctx (rowsB (five x b y z t) (two A n c g (some ⟨gd, 0, none⟩) (n + 1) cd (fput g n D7))) Try.prog ext G9 (Inv (five x b y z t) (two A n c g (some ⟨gd, 0, none⟩) (n + 1) cd (fput g n D7))) :=
    ctxB _ _ Bvents5 (entsS_cons (ent_alike _ _ hM (ok5 hyt hzt hbx)) entsS_nil)
  letI := rowsB (five x b y z t) (two A n c g (some ⟨gd, 0, none⟩) (n + 1) cd (fput g n D7))
  refine wp_region_list ?_
  rw [p8_eq]
  have e8 : evOpsK Try.prog ext (callWithK Try.prog G9 (evK Try.prog ext G9 80)) p8 103 (p8.toList.take 26) ((⟨R8 e, []⟩ : Cut).st 0) (fun st => cutS [0, 1, 5, 6, 7, 9, 11, 75, 76, 78] [] 0 st) = some ⟨R9 ++ [(75, .val (.bool false)), (76, .xs [1, 0, 0]), (78, .val (.int .i64 (n : Int)))], []⟩ := by
    rcases he with rfl | rfl
    · exact l8a0 x b y z t A n c g (some ⟨gd, 0, none⟩) (n + 1) cd (fput g n D7)
    · exact l8a7 x b y z t A n c g (some ⟨gd, 0, none⟩) (n + 1) cd (fput g n D7)
  have hsr : SR w 103 (fun _ => 0) ((⟨R8 e, []⟩ : Cut).st 0) a w := by
    have h0 := srList (g := g) (g' := fput g n D7) h w
    refine epoch h.size h.defers _ _ (fun p hp => ?_) (fun p hp => ?_)
    · simp only [List.mem_cons, List.not_mem_nil, or_false] at hp
      rcases hp with rfl | rfl | rfl | rfl | rfl | rfl | rfl | rfl | rfl | rfl
      · exact h0.ar.tm 0 rfl
      · exact h0.ar.tm 1 rfl
      · exact h0.ar.tm 5 rfl
      · exact h0.ar.tm 6 rfl
      · exact h0.ar.tm 7 rfl
      · exact h0.ar.tm 8 rfl
      · exact h0.ar.tm 9 rfl
      · exact h0.ar.tm 10 rfl
      · exact h0.ar.tm 11 rfl
      · exact h0.ar.tm 12 rfl
    · simp only [List.mem_cons, List.not_mem_nil, or_false] at hp
      rcases hp with rfl | rfl | rfl | rfl | rfl | rfl | rfl | rfl | rfl | rfl <;> first | exact ok_val _ _ | exact ok_xs
  refine opsPiece C.mix C.hX C.hs C.hXO C.hG e8 hS.inv hsr fun m1 a1 w1 hr1 => ?_
  have b1 := hr1.mr.below
  have K1 : Kp 103 (K9 x b y z t A n c (some ⟨gd, 0, none⟩) (n + 1) cd ++ [(75, .bool false), (78, .int .i64 (n : Int))]) a1 := kpList (g := g) (g' := fput g n D7) hr1.ar rfl (by
    intro p hp
    simp only [List.mem_cons, List.not_mem_nil, or_false] at hp
    rcases hp with rfl | rfl <;> rfl)
  have q76 : a1.eval (.tmp 76) = .slice (some ⟨gd, 0, none⟩) (n + 1) cd := (hr1.ar.tm 76 rfl).trans (den_xs _ [1, 0, 0])
  -- the slice
  have hsl : sliced (some ⟨gd, 0, none⟩) 0 n cd 29 = .slice (some ⟨gd, 0, none⟩) n cd := by
    unfold sliced
    rw [if_neg (by omega)]
    simp [add_none]
  refine wpList_wanted (wanted_false (j := 22) (t := 75) (by kernel_rfl) (by kernel_rfl) (by rw [K1.size]; decide) (K1.get (by simp))) fun K hK => ?_
  unfold Oper.wp
  rw [run_sl_h (A := some ⟨gd, 0, none⟩) (n := n + 1) (c := cd) (t := 23) (x := 76) (y := 78) (s := 29) (j := n) (by kernel_rfl) (by kernel_rfl) (by kernel_rfl) q76 (K1.get (by simp)) (by omega), Oper.upon_value, hsl]
  refine hK _ _ ?_
  rw [show (p8.toList.getD 26 default).dst = some 79 by kernel_rfl]
  have K2 := K1.put (d := 79) (v := .slice (some ⟨gd, 0, none⟩) n cd) rfl
  generalize hA2 : a1.put (some 79) (.slice (some ⟨gd, 0, none⟩) n cd) = a2 at K2 ⊢
  have hS1 := hS.step b1
  -- the move
  refine opsPiece C.mix C.hX C.hs C.hXO C.hG (l8b x b y z t A n c g (some ⟨gd, 0, none⟩) (n + 1) cd (fput g n D7) (.slice (some ⟨gd, 0, none⟩) n cd)) hS1.inv (srList (us := [(75, .bool false), (79, .slice (some ⟨gd, 0, none⟩) n cd)]) (g := g) (g' := fput g n D7) (K2.sub (by simp)) w1) fun m3 a3 w3 hr3 => ?_
  have b3 := hr3.mr.below
  have K3 : Kp 103 (K9 x b y z t A n c (some ⟨gd, 0, none⟩) (n + 1) cd ++ [(75, .bool false), (79, .slice (some ⟨gd, 0, none⟩) n cd)]) a3 := kpList (g := g) (g' := fput g n D7) hr3.ar rfl (by
    intro p hp
    simp only [List.mem_cons, List.not_mem_nil, or_false] at hp
    rcases hp with rfl | rfl <;> rfl)
  have q80 : a3.eval (.tmp 80) = .slice A n c := (hr3.ar.tm 80 rfl).trans (den_xs _ [0, 0, 0])
  have q79 : a3.eval (.tmp 79) = .slice (some ⟨gd, 0, none⟩) n cd := K3.get (by simp)
  have hS3 := hS1.step b3
  -- the call
  have hrun : (execOp a3.eval (p8.toList.getD 28 default)).run Try.prog w3 = .ok (.enter 11 #[.slice (some ⟨gd, 0, none⟩) n cd, .slice A n c]) w3 := by
    rw [← run_enters (P := Try.prog) (f := 11) (by kernel_rfl)]
    have hop : (p8.toList.getD 28 default).op = .call { callee := .value (.func 11), args := #[.tmp 79, .tmp 80], argTypes := #[23, 23] } := by kernel_rfl
    have em : (#[Operand.tmp 79, .tmp 80] : Array Operand).map a3.eval = #[.slice (some ⟨gd, 0, none⟩) n cd, .slice A n c] := by
      simp only [List.map_toArray, List.map_cons, List.map_nil, q79, q80]
    unfold execOp
    simp only [hop, resolve, em, Act.eval, Deferred.ofValue, Sem.run_bind, Sem.run_pure, Result.andThen_ok, invoke]
    simp
  refine wpList_wanted (wanted_false (j := 22) (t := 75) (by kernel_rfl) (by kernel_rfl) (by rw [K3.size]; decide) (K3.get (by simp))) fun K hK => ?_
  unfold Oper.wp
  rw [hrun, Oper.upon_enter]
  have hX2 : @XOk (rowD2 (some ⟨gd, 0, none⟩) A n cd c g) w3 := by
    intro r
    have hl := rowL_any hS3.l
    have hd := rowL_any hS3.d
    cases r with
    | nil =>
      intro j hj
      have hj : j < n := hj
      obtain ⟨x1, x2, ad, x3, x4, x5⟩ := hd (rowD2 (some ⟨gd, 0, none⟩) A n cd c g) j (show j < n + 1 by omega)
      have eg : fput g n D7 j = g j := by simp only [fput]; rw [if_neg (by omega)]
      simp only [eg] at x1 x2 x5
      exact ⟨x1, x2, ad, x3, x4, x5⟩
    | cons i r => exact hl (rowD2 (some ⟨gd, 0, none⟩) A n cd c g)
  refine Calls.mono (Sd.calls (some ⟨gd, 0, none⟩) A n cd c g (by omega) hX2) fun e' w4 ⟨he', b4⟩ => ?_
  subst he'
  refine hK _ _ ?_
  rw [show (p8.toList.getD 28 default).dst = some 81 by kernel_rfl]
  have K4 := K3.put (d := 81) (v := .bool true) rfl
  generalize hA4 : a3.put (some 81) (.bool true) = a4 at K4 ⊢
  have hS4 := hS3.step b4
  -- the rest
  have ec := l8c x b y z t A n c g (some ⟨gd, 0, none⟩) (n + 1) cd (fput g n D7)
  rw [decide_eq_true (by omega : (0 : Int) ≤ (n : Int)), decide_eq_true (by omega : (n : Int) < ((n + 1 : Nat) : Int)), Int.toNat_natCast, show fput g n D7 n = D7 by simp [fput], show ((D7).o != -7) = false by rfl] at ec
  refine opsPiece C.mix C.hX C.hs C.hXO C.hG ec hS4.inv (srList (us := [(75, .bool false), (81, .bool true)]) (g := g) (g' := fput g n D7) (K4.sub (by simp)) w4) fun m5 a5 w5 hr5 => ?_
  have b5 := hr5.mr.below
  show Q .normal a5 w5
  refine hQ a5 w5 (kpList (g := g) (g' := fput g n D7) hr5.ar rfl (by
    intro p hp
    obtain rfl := List.mem_singleton.1 hp
    rfl)) (((b1.trans (b3.mono b1.size)).trans (b4.mono ?_)).trans (b5.mono ?_))
  · exact Nat.le_trans b1.size b3.size
  · exact Nat.le_trans (Nat.le_trans b1.size b3.size) b4.size
/-- spoil is called. -/
theorem reg10 {us : List (Nat × Value)} {R : Ending → World → Prop} (h : Kp 103 us a) (m7 : (7, V y) ∈ us) (hus : ((us.all fun p => (93 : Nat) != p.1) && us.all fun p => (94 : Nat) != p.1) = true) (hc : Calls Try.prog 12 #[V y] w R) (hR : ∀ e w', R e w' → ∃ v, e = .returned v) (hQ : ∀ v a' w', R (.returned v) w' → Kp 103 us a' → Q .normal a' w') : (Code.region 10 p10 false).wp Try.prog Q a w := by
  have hops : p10.toList = [p10.toList.getD 0 default, p10.toList.getD 1 default] := by kernel_rfl
  simp only [Bool.and_eq_true] at hus
  refine wp_region_list ?_
  rw [hops]
  have q7 : a.eval (.tmp 7) = V y := h.get m7
  have hr0 : (execOp a.eval (p10.toList.getD 0 default)).run Try.prog w = .ok (.value (V y)) w := by
    have ho : (p10.toList.getD 0 default).op = .move (.tmp 7) := by kernel_rfl
    unfold execOp
    simp only [ho, q7, Sem.run_pure]
  refine wpList_val (by kernel_rfl) hr0 ?_
  rw [show (p10.toList.getD 0 default).dst = some 93 by kernel_rfl]
  have K1 := h.put (d := 93) (v := V y) (by rw [Bool.and_eq_true]; exact ⟨rfl, hus.1⟩)
  generalize hA1 : a.put (some 93) (V y) = a1 at K1 ⊢
  have q93 : a1.eval (.tmp 93) = V y := K1.get (by simp)
  have hrun : (execOp a1.eval (p10.toList.getD 1 default)).run Try.prog w = .ok (.enter 12 #[V y]) w := by
    rw [← run_enters (P := Try.prog) (f := 12) (by kernel_rfl)]
    have hop : (p10.toList.getD 1 default).op = .call { callee := .value (.func 12), args := #[.tmp 93], argTypes := #[22] } := by kernel_rfl
    have em : (#[Operand.tmp 93] : Array Operand).map a1.eval = #[V y] := by
      simp only [List.map_toArray, List.map_cons, List.map_nil, q93]
    unfold execOp
    simp only [hop, resolve, em, Act.eval, Deferred.ofValue, Sem.run_bind, Sem.run_pure, Result.andThen_ok, invoke]
    simp
  refine wpList_plain (by kernel_rfl) fun K hK => ?_
  unfold Oper.wp
  rw [hrun, Oper.upon_enter]
  refine Calls.mono hc fun e w4 hr => ?_
  obtain ⟨v, rfl⟩ := hR e w4 hr
  refine hK _ _ ?_
  rw [show (p10.toList.getD 1 default).dst = some 94 by kernel_rfl]
  have K2 := (K1.sub (us := us) (by intro p hp; simp [hp])).put (d := 94) (v := v) (by rw [Bool.and_eq_true]; exact ⟨rfl, hus.2⟩)
  exact hQ v _ w4 hr (K2.sub (by intro p hp; simp [hp]))
end
end Lw
end Go.Proofs.Ytaojjpdlfnphiaa.PDescKinds
