/- cameolaw10.spoil: its contract. -/
import Derived.Test.YtaojjpdlfnphiaaS1
set_option linter.unusedSimpArgs false
set_option linter.unusedVariables false
set_option linter.unusedSectionVars false
namespace Go.Proofs.Ytaojjpdlfnphiaa.PDescKinds
open Go.RowKit Go.Ev
namespace Sp
set_option maxRecDepth 100000
theorem s7 (A : Option Addr) (n c : Nat) (g : Nat → Sh) (i : Nat) : letI := rowO A n c g
    evK Try.prog ext (tab []) 80 49 (seqL [inn.getD 2 .skip, inn.getD 3 .skip]) ((⟨[(0, .xs []), (2, .val (.int .i64 (i : Int)))], []⟩ : Cut).st 0) (grab Try.prog Try.f12 [0, 2, 4, 5] [] 0) =
    bif decide (0 ≤ (i : Int)) && decide ((i : Int) < (n : Int)) then some (.cut .normal ⟨[(0, .xs []), (2, .val (.int .i64 (i : Int))), (4, .val (.slice (g (i : Int).toNat).A (g (i : Int).toNat).n (g (i : Int).toNat).c)), (5, .val (.int .i64 ((0 : Nat) : Int)))], []⟩) else none := by kernel_rfl
theorem s6b (A : Option Addr) (n c : Nat) (g : Nat → Sh) (i : Nat) : letI := rowO A n c g
    evP Try.prog (Ev.look (pickT [(22, .xs []), (23, .val (.int .i64 (i : Int)))])) (o6.toList.getD 2 default) = bif decide (0 ≤ (i : Int)) && decide ((i : Int) < (n : Int)) then some (.xp [] (i : Int).toNat 0) else none := by kernel_rfl
theorem s6c (A : Option Addr) (n c : Nat) (g : Nat → Sh) (i : Nat) (j : Int) : letI := rowO A n c g
    (reads Try.prog 49 ((o6.toList.drop 3).take 5) (pickT [(24, .xp [] i 0), (3, .val (.int .i64 j))])).map (fun t => [26, 27, 29].map t) = some [.val (.slice (g i).A (g i).n (g i).c), .val (.int .i64 j), .val (Pr.agg (badP (-9)))] := by kernel_rfl
theorem o6_eq2 : o6.toList = o6.toList.take 2 ++ (o6.toList.getD 2 default :: ((o6.toList.drop 3).take 5 ++ (o6.toList.getD 8 default :: [o6.toList.getD 9 default]))) := by kernel_rfl
theorem o12_eq2 : o12.toList = o12.toList.take 2 ++ (o12.toList.getD 2 default :: o12.toList.getD 3 default :: [o12.toList.getD 4 default]) := by kernel_rfl
section
variable {B hi i j : Nat} {w0 w w' : World} {mo : Mo} {a : Act} {Q : Exit → Act → World → Prop}
abbrev V0 (mo : Mo) : Value := .slice mo.A mo.n mo.c
abbrev T1 (mo : Mo) (i : Nat) : List (Nat × Value) := [(0, V0 mo), (2, .int .i64 (i : Int))]
abbrev T2 (mo : Mo) (i j : Nat) : List (Nat × Value) := [(0, V0 mo), (2, .int .i64 (i : Int)), (3, .int .i64 (j : Int))]
abbrev T4 (mo : Mo) (i : Nat) (v : Value) (j : Nat) : List (Nat × Value) := [(0, V0 mo), (2, .int .i64 (i : Int)), (4, v), (5, .int .i64 (j : Int))]
theorem vals_SR {ts : List (Nat × Value)} (h : Kp 49 ts a) (w : World) : @SR row0 w 49 (fun _ => 0) ((⟨ts.map fun p => (p.1, .val p.2), []⟩ : Cut).st 0) a w := by
  letI := row0
  refine epoch h.size h.defers _ _ (fun p hp => ?_) (fun p hp => ?_)
  · obtain ⟨q, hq, rfl⟩ := List.mem_map.1 hp
    rw [den_val]
    exact h.vals q hq
  · obtain ⟨q, hq, rfl⟩ := List.mem_map.1 hp
    exact ok_val _ _
theorem SR_vals {ts : List (Nat × Value)} {m : Nat → Nat} {a' : Act} {w w' : World} (hr : @SR row0 w 49 m ((⟨ts.map fun p => (p.1, .val p.2), []⟩ : Cut).st 0) a' w') (hk : ∀ p ∈ ts, pickT (ts.map fun p => (p.1, SV.val p.2)) p.1 = .val p.2) : Kp 49 ts a' := by
  letI := row0
  refine ⟨hr.ar.size, hr.ar.defers, fun p hp => ?_⟩
  have h1 : ((⟨ts.map fun p => (p.1, .val p.2), []⟩ : Cut).st 0).tmps p.1 = .val p.2 := hk p hp
  exact (hr.ar.tm p.1 (by rw [h1]; rfl)).trans (by rw [h1]; exact den_val _ _)
/-- A piece over values alone. -/
theorem pieceV {l : List Code} {fn : Func} {ns : List Nat} {us ts : List (Nat × Value)} {ex : Ex} (hev : @evK row0 _ Try.prog ext (tab []) 80 49 (seqL l) ((⟨us.map fun p => (p.1, .val p.2), []⟩ : Cut).st 0) (grab Try.prog fn ns [] 0) = some (.cut ex ⟨ts.map fun p => (p.1, .val p.2), []⟩)) (h : Kp 49 us a)
    (hk : ∀ p ∈ ts, pickT (ts.map fun p => (p.1, SV.val p.2)) p.1 = .val p.2) (hQ : ∀ a' w', Kp 49 ts a' → Below w.heap.size w w' → Q ex.out a' w') : wpL Try.prog l Q a w := by
  refine pieceZ hev (vals_SR h w) (fun v hv => by cases hv) (fun ex' d hd m a' w' hr => ?_)
  cases hd
  exact hQ a' w' (SR_vals hr hk) (@SR.mr row0 _ _ _ _ _ _ hr).below
theorem hk1 {v0 v2 : Value} : ∀ p ∈ [((0 : Nat), v0), (2, v2)], pickT ([((0 : Nat), v0), (2, v2)].map fun p => (p.1, SV.val p.2)) p.1 = .val p.2 := by
  intro p hp
  simp only [List.mem_cons, List.not_mem_nil, or_false] at hp
  rcases hp with rfl | rfl <;> rfl
theorem hk2 {v0 v2 v3 : Value} : ∀ p ∈ [((0 : Nat), v0), (2, v2), (3, v3)], pickT ([((0 : Nat), v0), (2, v2), (3, v3)].map fun p => (p.1, SV.val p.2)) p.1 = .val p.2 := by
  intro p hp
  simp only [List.mem_cons, List.not_mem_nil, or_false] at hp
  rcases hp with rfl | rfl | rfl <;> rfl
theorem hk4 {v0 v2 v4 v5 : Value} : ∀ p ∈ [((0 : Nat), v0), (2, v2), (4, v4), (5, v5)], pickT ([((0 : Nat), v0), (2, v2), (4, v4), (5, v5)].map fun p => (p.1, SV.val p.2)) p.1 = .val p.2 := by
  intro p hp
  simp only [List.mem_cons, List.not_mem_nil, or_false] at hp
  rcases hp with rfl | rfl | rfl | rfl <;> rfl
/-- The moment's row, then values. -/
theorem rowSR {ts : List (Nat × Value)} (h : Kp 49 ((0, V0 mo) :: ts) a) (w : World) : @SR (rowO mo.A mo.n mo.c mo.g) w 49 (fun _ => 0) ((⟨(0, .xs []) :: ts.map fun p => (p.1, .val p.2), []⟩ : Cut).st 0) a w := by
  letI := rowO mo.A mo.n mo.c mo.g
  refine epoch h.size h.defers _ _ (fun p hp => ?_) (fun p hp => ?_)
  · rcases List.mem_cons.1 hp with rfl | hp
    · exact (h.get (d := 0) (v := V0 mo) (by simp)).trans (den_xs _ []).symm
    · obtain ⟨q, hq, rfl⟩ := List.mem_map.1 hp
      rw [den_val]
      exact h.vals q (by simp [hq])
  · rcases List.mem_cons.1 hp with rfl | hp
    · exact ok_xs
    · obtain ⟨q, hq, rfl⟩ := List.mem_map.1 hp
      exact ok_val _ _
theorem SR_row {ts : List (Nat × Value)} {m : Nat → Nat} {a' : Act} {w w' : World} (hr : @SR (rowO mo.A mo.n mo.c mo.g) w 49 m ((⟨(0, .xs []) :: ts.map fun p => (p.1, .val p.2), []⟩ : Cut).st 0) a' w') (hk : ∀ p ∈ (0, V0 mo) :: ts, pickT (((0, V0 mo) :: ts).map fun p => (p.1, SV.val p.2)) p.1 = .val p.2) (h0 : ∀ p ∈ ts, p.1 ≠ 0) : Kp 49 ((0, V0 mo) :: ts) a' := by
  letI := rowO mo.A mo.n mo.c mo.g
  refine ⟨hr.ar.size, hr.ar.defers, fun p hp => ?_⟩
  rcases List.mem_cons.1 hp with rfl | hp'
  · exact (hr.ar.tm 0 rfl).trans (den_xs _ [])
  · have h1 : ((⟨(0, .xs []) :: ts.map fun p => (p.1, .val p.2), []⟩ : Cut).st 0).tmps p.1 = .val p.2 := by
      have := hk p hp
      rw [List.map_cons, pickT_cons (h0 p hp')] at this
      show pickT ((0, SV.xs []) :: ts.map fun p => (p.1, .val p.2)) p.1 = .val p.2
      rw [pickT_cons (h0 p hp')]
      exact this
    exact (hr.ar.tm p.1 (by rw [h1]; rfl)).trans (by rw [h1]; exact den_val _ _)
theorem ctxO : @Ctx (rowO mo.A mo.n mo.c mo.g) Try.prog ext (tab []) (fun w => @XOk (rowO mo.A mo.n mo.c mo.g) w) := by
  letI := rowO mo.A mo.n mo.c mo.g
  exact ⟨mixed, ext_sound, fun w w' h hb => XOk.below h hb, fun w h => h, tab_sound entries_nil⟩
/-- A piece over the moment's row. -/
theorem pieceO {l : List Code} {fn : Func} {ns : List Nat} {us ts : List (Nat × Value)} {ex : Ex} (hI : Iv B hi w0 w mo i) (hev : @evK (rowO mo.A mo.n mo.c mo.g) _ Try.prog ext (tab []) 80 49 (seqL l) ((⟨(0, .xs []) :: us.map fun p => (p.1, .val p.2), []⟩ : Cut).st 0) (grab Try.prog fn ns [] 0) = some (.cut ex ⟨(0, .xs []) :: ts.map fun p => (p.1, .val p.2), []⟩)) (h : Kp 49 ((0, V0 mo) :: us) a)
    (hk : ∀ p ∈ (0, V0 mo) :: ts, pickT (((0, V0 mo) :: ts).map fun p => (p.1, SV.val p.2)) p.1 = .val p.2) (h0 : ∀ p ∈ ts, p.1 ≠ 0) (hQ : ∀ a' w', Kp 49 ((0, V0 mo) :: ts) a' → Below w.heap.size w w' → Q ex.out a' w') : wpL Try.prog l Q a w := by
  letI := rowO mo.A mo.n mo.c mo.g
  have C := ctxO (mo := mo)
  refine piece C.mix C.hX C.hs C.hXO C.hG hev hI.xok (rowSR h w) (fun v hv => by cases hv) (fun ex' d hd m a' w' hr => ?_)
  cases hd
  exact hQ a' w' (SR_row hr hk h0) hr.mr.below
/-- A property is written over. -/
theorem reg6 (hI : Iv B hi w0 w mo i) (h : Kp 49 (T2 mo i j) a) (hi' : i < mo.n) (hj : j < (mo.g i).n) (hQ : ∀ a' w' mo', Kp 49 (T2 mo' i j) a' → Iv B hi w0 w' mo' i → mo'.n = mo.n → (∀ t, (mo'.g t).n = (mo.g t).n) → Q .normal a' w') : (Code.region 6 o6 false).wp Try.prog Q a w := by
  letI := rowO mo.A mo.n mo.c mo.g
  refine wp_region_list ?_
  rw [o6_eq2]
  have hsr := rowSR h w
  refine wpList_readsF (m := fun _ => 0) [0, 2, 3] hI.xok (s6a mo.A mo.n mo.c mo.g i j) (by kernel_rfl) (ar_of w h.size h.defers (fun p hp => ?_) (fun p hp => ?_)) fun a1 t1 har1 e hk1 => ?_
  · simp only [List.mem_cons, List.not_mem_nil, or_false] at hp
    rcases hp with rfl | rfl | rfl
    · exact (h.get (d := 0) (v := V0 mo) (by simp)).trans (den_xs (fun _ => 0) []).symm
    · exact (h.get (d := 2) (v := .int .i64 (i : Int)) (by simp)).trans (den_val _ _).symm
    · exact (h.get (d := 3) (v := .int .i64 (j : Int)) (by simp)).trans (den_val _ _).symm
  · simp only [List.mem_cons, List.not_mem_nil, or_false] at hp
    rcases hp with rfl | rfl | rfl <;> first | exact ok_val _ _ | exact ok_xs
  simp only [List.map_cons, List.map_nil, List.cons.injEq, and_true] at e
  obtain ⟨e22, e23⟩ := e
  have K1 : Kp 49 (T2 mo i j) a1 := h.moved har1.size har1.defers (fun p hp => hk1 p.1 (by
    simp only [List.mem_cons, List.not_mem_nil, or_false] at hp ⊢
    rcases hp with rfl | rfl | rfl <;> simp))
  have har1' : AR 49 (fun _ => 0) (pickT [(22, .xs []), (23, .val (.int .i64 (i : Int)))]) (fun _ => none) a1 := by
    refine ar_of w har1.size har1.defers (fun p hp => ?_) (fun p hp => ?_)
    · simp only [List.mem_cons, List.not_mem_nil, or_false] at hp
      rcases hp with rfl | rfl
      · exact ar_get har1 e22 rfl
      · exact ar_get har1 e23 rfl
    · simp only [List.mem_cons, List.not_mem_nil, or_false] at hp
      rcases hp with rfl | rfl <;> first | exact ok_val _ _ | exact ok_xs
  have hev := s6b mo.A mo.n mo.c mo.g i
  rw [decide_eq_true (by omega), decide_eq_true (by omega), Int.toNat_natCast] at hev
  have hrun := (evP_run (m := fun _ => 0) (w := w) hI.xok (fun x => har1'.look_ok x) (fun x hk => har1'.eval x hk) hev).1
  refine wpList_val (by kernel_rfl) hrun ?_
  rw [show (o6.toList.getD 2 default).dst = some 24 by kernel_rfl]
  have K2 := K1.put (d := 24) (v := SV.den (fun _ => 0) (SV.xp [] i 0)) rfl
  generalize hA2 : a1.put (some 24) (SV.den (fun _ => 0) (SV.xp [] i 0)) = a2 at K2 ⊢
  refine wpList_readsF (m := fun _ => 0) [0, 2, 3] hI.xok (s6c mo.A mo.n mo.c mo.g i (j : Int)) (by kernel_rfl) (ar_of w K2.size K2.defers (fun p hp => ?_) (fun p hp => ?_)) fun a3 t3 har3 e hk3 => ?_
  · simp only [List.mem_cons, List.not_mem_nil, or_false] at hp
    rcases hp with rfl | rfl
    · exact K2.get (by simp)
    · exact (K2.get (d := 3) (v := .int .i64 (j : Int)) (by simp)).trans (den_val _ _).symm
  · simp only [List.mem_cons, List.not_mem_nil, or_false] at hp
    rcases hp with rfl | rfl
    · exact ok_xp.2 (by show i < mo.n; omega)
    · exact ok_val _ _
  simp only [List.map_cons, List.map_nil, List.cons.injEq, and_true] at e
  obtain ⟨e26, e27, e29⟩ := e
  obtain ⟨w', g2, hA2', hst, hI'⟩ := hI.put hi' hj (badP (-9))
  have q26 : a3.eval (.tmp 26) = .slice (some ⟨g2, 0, none⟩) (mo.g i).n (mo.g i).c := by rw [← hA2']; exact ar_eval har3 e26
  have q27 : a3.eval (.tmp 27) = .int .i64 (j : Int) := ar_eval har3 e27
  have q29 : a3.eval (.tmp 29) = Pr.agg (badP (-9)) := ar_eval har3 e29
  have K3 : Kp 49 ([(26, .slice (some ⟨g2, 0, none⟩) (mo.g i).n (mo.g i).c), (27, .int .i64 (j : Int)), (29, Pr.agg (badP (-9)))] ++ T2 mo i j) a3 := Kp.join ⟨har3.size, har3.defers, fun p hp => by
    simp only [List.mem_cons, List.not_mem_nil, or_false] at hp
    rcases hp with rfl | rfl | rfl
    · exact q26
    · exact q27
    · exact q29⟩ ((K2.sub (us := T2 mo i j) (by simp)).moved har3.size har3.defers (fun p hp => hk3 p.1 (by
    simp only [List.mem_cons, List.not_mem_nil, or_false] at hp ⊢
    rcases hp with rfl | rfl | rfl <;> simp)))
  have hrun8 : (execOp a3.eval (o6.toList.getD 8 default)).run Try.prog w = .ok (.value (.pointer (some ⟨g2, j * 20, none⟩))) w := by
    letI := row0
    have har4 := RP.ar_none (us := [(26, .slice (some ⟨g2, 0, none⟩) (mo.g i).n (mo.g i).c), (27, .int .i64 (j : Int))]) K3 (by simp) w
    have hev := s6i ⟨g2, 0, none⟩ (mo.g i).n (mo.g i).c (j : Int)
    rw [decide_eq_true (by omega), decide_eq_true (by omega), add_none, Int.toNat_natCast, Nat.zero_add] at hev
    have := (evP_run (m := fun _ => 0) (xok_0 w) (fun x => har4.look_ok x) (fun x hk => har4.eval x hk) hev).1
    rw [den_val] at this
    exact this
  refine wpList_val (by kernel_rfl) hrun8 ?_
  rw [show (o6.toList.getD 8 default).dst = some 30 by kernel_rfl]
  have K4 := K3.put (d := 30) (v := .pointer (some ⟨g2, j * 20, none⟩)) rfl
  generalize hA4 : a3.put (some 30) (.pointer (some ⟨g2, j * 20, none⟩)) = a4 at K4 ⊢
  refine wpList_store (t := 55) (x := .tmp 30) (y := .tmp 29) (by kernel_rfl) (by kernel_rfl) (by kernel_rfl) (K4.get (by simp)) (K4.get (by simp)) hst (hQ a4 w' _ (K4.sub (by simp)) hI' rfl fun t => ?_)
  simp only [fput]
  split
  · rename_i e; rw [e]
  · rfl
/-- A class is written over. -/
theorem reg12 (hI : Iv B hi w0 w mo (i + 1)) (h : Kp 49 (T1 mo i) a) (hi' : i < mo.n) (hQ : ∀ a' w' mo', Kp 49 (T1 mo' i) a' → Iv B hi w0 w' mo' (i + 1) → mo'.n = mo.n → (∀ t, (mo'.g t).n = (mo.g t).n) → Q .normal a' w') : (Code.region 12 o12 false).wp Try.prog Q a w := by
  obtain ⟨w', g, hA, hst, hI'⟩ := hI.class hi' (-9)
  letI := row0
  refine wp_region_list ?_
  rw [o12_eq2]
  have h' : Kp 49 [(0, .slice (some ⟨g, 0, none⟩) mo.n mo.c), (2, .int .i64 (i : Int))] a := by rw [← hA]; exact h
  refine wpList_readsF [0, 2] (xok_0 w) (s12i ⟨g, 0, none⟩ mo.n mo.c (i : Int)) (by kernel_rfl) (RP.ar_none (us := [(0, .slice (some ⟨g, 0, none⟩) mo.n mo.c), (2, .int .i64 (i : Int))]) h' (by simp) w) fun a1 t1 har1 e hk1 => ?_
  simp only [List.map_cons, List.map_nil, List.cons.injEq, and_true] at e
  obtain ⟨e45, e46⟩ := e
  have K1 : Kp 49 ([(45, .slice (some ⟨g, 0, none⟩) mo.n mo.c), (46, .int .i64 (i : Int))] ++ T1 mo i) a1 := Kp.join ⟨har1.size, har1.defers, fun p hp => by
    simp only [List.mem_cons, List.not_mem_nil, or_false] at hp
    rcases hp with rfl | rfl
    · exact ar_eval har1 e45
    · exact ar_eval har1 e46⟩ (h.moved har1.size har1.defers (fun p hp => hk1 p.1 (by
    simp only [List.mem_cons, List.not_mem_nil, or_false] at hp ⊢
    rcases hp with rfl | rfl <;> simp)))
  have har2 := RP.ar_none (us := [(45, .slice (some ⟨g, 0, none⟩) mo.n mo.c), (46, .int .i64 (i : Int))]) K1 (by simp) w
  have hev := s12j ⟨g, 0, none⟩ mo.n mo.c (i : Int)
  rw [decide_eq_true (by omega), decide_eq_true (by omega), add_none, Int.toNat_natCast, Nat.zero_add] at hev
  have hrun := (evP_run (m := fun _ => 0) (w := w) (xok_0 w) (fun x => har2.look_ok x) (fun x hk => har2.eval x hk) hev).1
  rw [den_val] at hrun
  refine wpList_val (by kernel_rfl) hrun ?_
  rw [show (o12.toList.getD 2 default).dst = some 47 by kernel_rfl]
  have K2 := K1.put (d := 47) (v := .pointer (some ⟨g, i * 8, none⟩)) rfl
  generalize hA2 : a1.put (some 47) (.pointer (some ⟨g, i * 8, none⟩)) = a2 at K2 ⊢
  have har3 := RP.ar_none (us := [(47, .pointer (some ⟨g, i * 8, none⟩))]) K2 (by simp) w
  have hev := s12k ⟨g, i * 8, none⟩
  rw [add_none, Nat.add_zero] at hev
  have hrun := (evP_run (m := fun _ => 0) (w := w) (xok_0 w) (fun x => har3.look_ok x) (fun x hk => har3.eval x hk) hev).1
  rw [den_val] at hrun
  refine wpList_val (by kernel_rfl) hrun ?_
  rw [show (o12.toList.getD 3 default).dst = some 48 by kernel_rfl]
  have K3 := K2.put (d := 48) (v := .pointer (some ⟨g, i * 8, none⟩)) rfl
  generalize hA3 : a2.put (some 48) (.pointer (some ⟨g, i * 8, none⟩)) = a3 at K3 ⊢
  refine wpList_store (t := 3) (x := .tmp 48) (y := .const (.int .i64 (-9))) (by kernel_rfl) (by kernel_rfl) (by kernel_rfl) (K3.get (by simp)) rfl hst (hQ a3 w' _ (K3.sub (by simp)) hI' rfl fun t => ?_)
  simp only [fput]
  split
  · rename_i e; rw [e]
  · rfl
/-- A property joins the row that was read. -/
theorem reg11 {v : Value} {n : Nat} {xs : List Value} (hI : Iv B hi w0 w mo (i + 1)) (h : Kp 49 (T4 mo i v j) a) (hv : w.ownsRow B 55 20 v n xs) (hb : ∀ b, v.ownBlock = some b → (mo.g i).row.ownBlock = some b ∨ w0.heap.size ≤ b) (hB : B ≤ w.heap.size) (hn : n ≤ 2000000)
    (hQ : ∀ a' w' v' xs', Kp 49 (T4 mo i v' j) a' → Iv B hi w0 w' mo (i + 1) → w'.ownsRow B 55 20 v' (n + 1) xs' → (∀ b, v'.ownBlock = some b → (mo.g i).row.ownBlock = some b ∨ w0.heap.size ≤ b) → B ≤ w'.heap.size → Q .normal a' w') : (Code.region 11 o11 false).wp Try.prog Q a w := by
  letI := row0
  refine wp_region_list ?_
  rw [o11_eq]
  refine wpList_readsF [0, 2, 5] (xok_0 w) (s11 v) (by kernel_rfl) (RP.ar_none (us := [(4, v)]) h (by simp) w) fun a1 t1 har1 e hk1 => ?_
  simp only [List.map_cons, List.map_nil, List.cons.injEq, and_true] at e
  obtain ⟨e40, e42⟩ := e
  have K1 : Kp 49 ([(40, v), (42, Pr.agg (badP (-8)))] ++ [(0, V0 mo), (2, .int .i64 (i : Int)), (5, .int .i64 (j : Int))]) a1 := Kp.join ⟨har1.size, har1.defers, fun p hp => by
    simp only [List.mem_cons, List.not_mem_nil, or_false] at hp
    rcases hp with rfl | rfl
    · exact ar_eval har1 e40
    · exact ar_eval har1 e42⟩ ((h.sub (us := [(0, V0 mo), (2, .int .i64 (i : Int)), (5, .int .i64 (j : Int))]) (by simp)).moved har1.size har1.defers (fun p hp => hk1 p.1 (by
    simp only [List.mem_cons, List.not_mem_nil, or_false] at hp ⊢
    rcases hp with rfl | rfl | rfl <;> simp)))
  refine wpList_plain (by kernel_rfl) fun K hK => ?_
  refine build1 (RP.ar_none (us := [(42, Pr.agg (badP (-8)))]) K1 (by simp) w) (s11n (badP (-8))) fun gn w1 b1 b2 b3 => hK _ _ ?_
  rw [show (o11.toList.getD 3 default).dst = some 43 by kernel_rfl]
  have K2 := K1.put (d := 43) (v := .slice (some ⟨gn, 0, none⟩) 1 1) rfl
  generalize hA2 : a1.put (some 43) (.slice (some ⟨gn, 0, none⟩) 1 1) = a2 at K2 ⊢
  have hI1 := hI.below b1
  have hv1 : w1.ownsRow B 55 20 v n xs := hv.kept (grown_of b1 none) (by cases v.ownBlock <;> simp)
  have hB1 : B ≤ w1.heap.size := Nat.le_trans hB b1.size
  obtain ⟨i66, z66, p1, p2, p3, p4, p5⟩ := Copy.info66
  have hM : maxLen = 9223372036854775807 := by decide +kernel
  refine wpList_plain (by kernel_rfl) fun K hK => ?_
  refine wp_append_fresh (w := w1) (o := o11.toList.getD 4 default) (.tmp 40) (.tmp 43) 50 (by kernel_rfl) B 55 i66 z66 20 192 Try.underlying50 p1 p2 p3 p4 p5 (by decide) v n xs (K2.get (by simp)) hv1 ⟨gn, 0, none⟩ 1 1 (Pr.list (badP (-8))) (K2.get (by simp)) (Pr.list_length _) (fun t u hu => ?_) (Pr.list_one _) (by omega) (by omega) hB1 fun v' w2 hown hgr hf => hK _ _ ?_
  · rw [add_none, cell_of_row w1 gn _ _ 55 (0, 0) b3]
    simpa using hu
  rw [show (o11.toList.getD 4 default).dst = some 44 by kernel_rfl]
  have K3 := K2.put (d := 44) (v := v') rfl
  generalize hA3 : a2.put (some 44) v' = a3 at K3 ⊢
  refine wpList_readsF [0, 2, 5] (xok_0 w2) (s11b v') (by kernel_rfl) (RP.ar_none (us := [(44, v')]) K3 (by simp) w2) fun a4 t4 har4 e hk4 => ?_
  simp only [List.map_cons, List.map_nil, List.cons.injEq, and_true] at e
  refine hQ a4 w2 v' _ ⟨har4.size, har4.defers, fun p hp => ?_⟩ (hI1.app hv1 hb hgr) hown (fun b hb' => ?_) (Nat.le_trans hB1 hgr.size)
  · simp only [List.mem_cons, List.not_mem_nil, or_false] at hp
    rcases hp with rfl | rfl | rfl | rfl
    · exact (hk4 0 (by simp)).trans (K3.get (by simp))
    · exact (hk4 2 (by simp)).trans (K3.get (by simp))
    · exact ar_eval har4 e
    · exact (hk4 5 (by simp)).trans (K3.get (by simp))
  · rcases hf with hf | ⟨g, hf, hlt⟩
    · exact hb b (by rw [← hf]; exact hb')
    · rw [hf] at hb'
      obtain rfl := Option.some.inj hb'
      have := hI1.mid.size
      exact .inr (by omega)
/-- What spoil leaves. -/
def Out (B hi : Nat) (w0 : World) : Ending → World → Prop := fun e w' => (∃ v, e = .returned v) ∧ Mid B hi w0 w'
noncomputable def c2 : Code := match inn.getD 1 .skip with | .block _ (.loop c) => c | _ => .skip
noncomputable def c4 : Code := match inn.getD 4 .skip with | .block _ (.loop c) => c | _ => .skip
/-- All properties of a shape are written over. -/
theorem loopA {N : Nat} (hN : N ≤ 2000000) (hn : mo.n ≤ 1000000) (hi' : i < mo.n) (hQ : ∀ a' w' mo', Kp 49 (T2 mo' i N) a' → Iv B hi w0 w' mo' i → mo'.n = mo.n → (∀ t, (mo'.g t).n = (mo.g t).n) → Q (.exit 2) a' w') (hNn : N = (mo.g i).n) :
    ∀ (k j : Nat) (mo' : Mo) (a : Act) (w : World), Kp 49 (T2 mo' i j) a → Iv B hi w0 w mo' i → mo'.n = mo.n → (∀ t, (mo'.g t).n = (mo.g t).n) → j ≤ N → N - j < k → Code.rounds Try.prog c2 Q k a w := by
  intro k
  induction k with
  | zero => intro j mo' a w hk hI e1 e2 h1 h2; omega
  | succ k ih =>
    intro j mo' a w hk hI e1 e2 h1 h2
    rw [rounds_succ]
    refine wpL_flat _ ?_
    show wpL Try.prog r2 _ a w
    rw [r2_eq, wpL_app]
    have ev := s4 mo'.A mo'.n mo'.c mo'.g i j
    rw [decide_eq_true (by omega : (0 : Int) ≤ (i : Int)), decide_eq_true (by omega : (i : Int) < (mo'.n : Int)), Int.toNat_natCast, e2 i, ← hNn] at ev
    by_cases hj : j < N
    · rw [decide_eq_true (by omega : (j : Int) < (N : Int))] at ev
      refine pieceO (us := [(2, .int .i64 (i : Int)), (3, .int .i64 (j : Int))]) (ts := [(2, .int .i64 (i : Int)), (3, .int .i64 (j : Int))]) hI ev hk hk2 (by simp) (fun a1 w1 K1 d1 => ?_)
      have I1 := hI.below d1
      show wpL Try.prog (.block 3 (inB (r2.getD 2 .skip)) :: r2.drop 3) _ a1 w1
      simp only [wpL]
      refine wp_block (wpL_flat _ ?_)
      show wpL Try.prog i2 _ a1 w1
      rw [i2_eq, wpL_one]
      refine reg6 I1 K1 (by omega) (by rw [e2 i]; omega) (fun a2 w2 mo2 K2 I2 f1 f2 => ?_)
      show wpL Try.prog (r2.drop 3) _ a2 w2
      have ev5 := s5 (V0 mo2) i j
      rw [wr (n := N) hj (by omega)] at ev5
      refine pieceV (us := T2 mo2 i j) (ts := T2 mo2 i (j + 1)) ev5 K2 hk2 (fun a3 w3 K3 d3 => ?_)
      exact ih (j + 1) mo2 a3 w3 K3 (I2.below d3) (f1.trans e1) (fun t => (f2 t).trans (e2 t)) (by omega) (by omega)
    · obtain rfl : j = N := by omega
      rw [decide_eq_false (by omega : ¬ (j : Int) < (j : Int))] at ev
      refine pieceO (us := [(2, .int .i64 (i : Int)), (3, .int .i64 (j : Int))]) (ts := [(2, .int .i64 (i : Int)), (3, .int .i64 (j : Int))]) hI ev hk hk2 (by simp) (fun a1 w1 K1 d1 => ?_)
      exact hQ a1 w1 mo' K1 (hI.below d1) e1 e2
/-- Eight properties more. -/
theorem loopB {N : Nat} (hN : N ≤ 1000000) (hQ : ∀ a' w', Kp 49 (T1 mo i) a' → Iv B hi w0 w' mo (i + 1) → Q (.exit 4) a' w') :
    ∀ (k j : Nat) (v : Value) (xs : List Value) (a : Act) (w : World), Kp 49 (T4 mo i v j) a → Iv B hi w0 w mo (i + 1) → w.ownsRow B 55 20 v (N + j) xs → (∀ b, v.ownBlock = some b → (mo.g i).row.ownBlock = some b ∨ w0.heap.size ≤ b) → B ≤ w.heap.size → j ≤ 8 → 8 - j < k → Code.rounds Try.prog c4 Q k a w := by
  intro k
  induction k with
  | zero => intro j v xs a w hk hI hv hb hB h1 h2; omega
  | succ k ih =>
    intro j v xs a w hk hI hv hb hB h1 h2
    rw [rounds_succ]
    refine wpL_flat _ ?_
    show wpL Try.prog r4 _ a w
    rw [r4_eq, wpL_app]
    have ev := s9 (V0 mo) v i j
    by_cases hj : j < 8
    · rw [decide_eq_true (by omega : (j : Int) < 8)] at ev
      refine pieceV (us := T4 mo i v j) (ts := T4 mo i v j) ev hk hk4 (fun a1 w1 K1 d1 => ?_)
      have I1 := hI.below d1
      have hv1 : w1.ownsRow B 55 20 v (N + j) xs := hv.kept (grown_of d1 none) (by cases v.ownBlock <;> simp)
      show wpL Try.prog (.block 5 (inB (r4.getD 2 .skip)) :: r4.drop 3) _ a1 w1
      simp only [wpL]
      refine wp_block (wpL_flat _ ?_)
      show wpL Try.prog i4 _ a1 w1
      rw [i4_eq, wpL_one]
      refine reg11 I1 K1 hv1 hb (Nat.le_trans hB d1.size) (by omega) (fun a2 w2 v' xs' K2 I2 hv2 hb2 hB2 => ?_)
      show wpL Try.prog (r4.drop 3) _ a2 w2
      have ev5 := s10 (V0 mo) v' i j
      rw [wr (n := 8) hj (by omega)] at ev5
      refine pieceV (us := T4 mo i v' j) (ts := T4 mo i v' (j + 1)) ev5 K2 hk4 (fun a3 w3 K3 d3 => ?_)
      exact ih (j + 1) v' xs' a3 w3 K3 (I2.below d3) (hv2.kept (grown_of d3 none) (by cases v'.ownBlock <;> simp)) hb2 (Nat.le_trans hB2 d3.size) (by omega) (by omega)
    · obtain rfl : j = 8 := by omega
      rw [decide_eq_false (by omega : ¬ ((8 : Nat) : Int) < 8)] at ev
      refine pieceV (us := T4 mo i v 8) (ts := T4 mo i v 8) ev hk hk4 (fun a1 w1 K1 d1 => ?_)
      exact hQ a1 w1 (K1.sub (by simp)) (hI.below d1)
/-- One shape. -/
theorem round (hB : B ≤ w0.heap.size) (hn : mo.n ≤ 1000000) (hp : ∀ j, (mo.g j).n ≤ 1000000) (hI : Iv B hi w0 w mo i) (hk : Kp 49 (T1 mo i) a) (hi' : i < mo.n) (hQ : ∀ a' w' mo', Kp 49 (T1 mo' (i + 1)) a' → Iv B hi w0 w' mo' (i + 1) → mo'.n = mo.n → (∀ t, (mo'.g t).n = (mo.g t).n) → Q .normal a' w') : wpL Try.prog rd Q a w := by
  rw [rd_eq, wpL_app]
  have ev1 := s1 mo.A mo.n mo.c mo.g i
  rw [decide_eq_true (by omega)] at ev1
  refine pieceO (us := [(2, .int .i64 (i : Int))]) (ts := [(2, .int .i64 (i : Int))]) hI ev1 hk hk1 (by simp) (fun a1 w1 K1 d1 => ?_)
  have I1 := hI.below d1
  show wpL Try.prog (.block 1 (inB (rd.getD 2 .skip)) :: rd.drop 3) _ a1 w1
  simp only [wpL]
  refine wp_block (wpL_flat _ ?_)
  show wpL Try.prog inn _ a1 w1
  have hQ1 : ∀ a' w' mo', Kp 49 (T1 mo' i) a' → Iv B hi w0 w' mo' (i + 1) → mo'.n = mo.n → (∀ t, (mo'.g t).n = (mo.g t).n) → Exit.inBlock 1 (Exit.then (wpL Try.prog (rd.drop 3) Q) Q) .normal a' w' := by
    intro a' w' mo' K' I' f1 f2
    show wpL Try.prog (rd.drop 3) Q a' w'
    have ev2 := s2 (V0 mo') i
    rw [wr (n := mo.n) hi' (by omega)] at ev2
    refine pieceV (us := T1 mo' i) (ts := T1 mo' (i + 1)) ev2 K' hk1 (fun a3 w3 K3 d3 => hQ a3 w3 mo' K3 (I'.below d3) f1 f2)
  generalize Exit.inBlock 1 (Exit.then (wpL Try.prog (rd.drop 3) Q) Q) = Q1 at hQ1 ⊢
  rw [inn_eq, wpL_app]
  refine pieceV (us := T1 mo i) (ts := T2 mo i 0) (s3 (V0 mo) i) K1 hk2 (fun a2 w2 K2 d2 => ?_)
  have I2 := I1.below d2
  show wpL Try.prog (.block 2 (.loop c2) :: ([inn.getD 2 .skip, inn.getD 3 .skip] ++ [.block 4 (.loop c4), .region 12 o12 false])) Q1 a2 w2
  simp only [wpL]
  refine wp_block (wp_loop_rounds ((mo.g i).n + 1) ?_)
  refine loopA (mo := mo) (N := (mo.g i).n) (by have := hp i; omega) hn hi' (fun a3 w3 mo3 K3 I3 f1 f2 => ?_) rfl ((mo.g i).n + 1) 0 mo a2 w2 K2 I2 rfl (fun _ => rfl) (Nat.zero_le _) (by omega)
  show wpL Try.prog ([inn.getD 2 .skip, inn.getD 3 .skip] ++ [.block 4 (.loop c4), .region 12 o12 false]) Q1 a3 w3
  rw [wpL_app]
  have ev7 := s7 mo3.A mo3.n mo3.c mo3.g i
  rw [decide_eq_true (by omega : (0 : Int) ≤ (i : Int)), decide_eq_true (by omega : (i : Int) < (mo3.n : Int)), Int.toNat_natCast] at ev7
  refine pieceO (us := [(2, .int .i64 (i : Int))]) (ts := [(2, .int .i64 (i : Int)), (4, (mo3.g i).row), (5, .int .i64 ((0 : Nat) : Int))]) I3 ev7 (K3.sub (by simp)) hk4 (by simp) (fun a4 w4 K4 d4 => ?_)
  have I4 := I3.below d4
  show wpL Try.prog [.block 4 (.loop c4), .region 12 o12 false] Q1 a4 w4
  simp only [wpL]
  refine wp_block (wp_loop_rounds 9 ?_)
  refine loopB (mo := mo3) (N := (mo3.g i).n) (by rw [f2 i]; exact hp i) (fun a5 w5 K5 I5 => ?_) 9 0 (mo3.g i).row _ a4 w4 K4 I4.next (I4.props i (Nat.le_refl _)) (fun b hb => .inl hb) (Nat.le_trans hB I4.mid.size) (by omega) (by omega)
  show wpL Try.prog [.region 12 o12 false] Q1 a5 w5
  rw [wpL_one]
  exact reg12 I5 K5 (by omega) (fun a6 w6 mo6 K6 I6 g1 g2 => hQ1 a6 w6 mo6 K6 I6 (g1.trans f1) (fun t => (g2 t).trans (f2 t)))
theorem calls (hO : OwnMo B w0 mo) (hB : B ≤ w0.heap.size) (htop : hi ≤ w0.heap.size) (h1 : ∀ b, (Value.slice mo.A mo.n mo.c).ownBlock = some b → b < hi) (h2 : ∀ j b, (mo.g j).row.ownBlock = some b → b < hi) (hn : mo.n ≤ 1000000) (hp : ∀ j, (mo.g j).n ≤ 1000000) : Calls Try.prog 12 #[.slice mo.A mo.n mo.c] w0 (Out B hi w0) := by
  have I0 : Iv B hi w0 w0 mo 0 := ⟨hO.row, fun j _ => hO.props j, hO.sep, Mid.refl _ _ _, htop, fun b hb => ⟨(hO.row.lt b hb).1, h1 b hb⟩, fun j b hb => ⟨((hO.props j).lt b hb).1, h2 j b hb⟩⟩
  refine calls_of_wp Try.func12 (c := Try.f12.body.getD .skip) (by kernel_rfl) ?_
  refine wpL_flat _ ?_
  show wpL Try.prog sf _ _ _
  rw [sf_eq, wpL_app]
  have hst := @start_sound row0 Try.f12 [.val (.slice mo.A mo.n mo.c)] (fun y hy => by
    obtain rfl := List.mem_singleton.1 hy
    exact @ok_val row0 _ _) w0 (fun _ => 0)
  simp only [List.map_cons, List.map_nil, @den_val row0] at hst
  refine pieceZ (s0 (.slice mo.A mo.n mo.c)) hst (fun v hv => by cases hv) (fun ex d hd m a1 w1 hr => ?_)
  cases hd
  have K1 : Kp 49 (T1 mo 0) a1 := SR_vals (ts := T1 mo 0) hr hk1
  have I1 := I0.below (@SR.mr row0 _ _ _ _ _ _ hr).below
  show wpL Try.prog [.block 0 (.loop (roundOf sf))] _ a1 w1
  rw [wpL_one]
  refine wp_block (wp_loop_rounds (mo.n + 1) ?_)
  have fin : ∀ (a : Act) (w : World), a.defers = [] → Mid B hi w0 w → bodyPost Try.prog Try.f12 (Out B hi w0) .normal a w := by
    intro a w hd hm
    have hres : (results Try.f12 a.tmps).run Try.prog w = .ok (.tuple #[]) w := by
      have e : Try.f12.results = #[] := by kernel_rfl
      unfold results
      rw [e, Sem.run_bind, Array.mapM_eq_mapM_toList, Sem.run_map]
      rfl
    exact ⟨hd, .tuple #[], hres, ⟨_, rfl⟩, hm⟩
  have loop : ∀ (k i : Nat) (mo' : Mo) (a : Act) (w : World), Kp 49 (T1 mo' i) a → Iv B hi w0 w mo' i → mo'.n = mo.n → (∀ t, (mo'.g t).n = (mo.g t).n) → i ≤ mo.n → mo.n - i < k →
      Code.rounds Try.prog (roundOf sf) (Exit.inBlock 0 (bodyPost Try.prog Try.f12 (Out B hi w0))) k a w := by
    intro k
    induction k with
    | zero => intro i mo' a w hk hI e1 e2 h1 h2; omega
    | succ k ih =>
      intro i mo' a w hk hI e1 e2 h1 h2
      rw [rounds_succ]
      refine wpL_flat _ ?_
      show wpL Try.prog rd _ a w
      by_cases hi : i < mo.n
      · exact round hB (by omega) (fun j => by rw [e2 j]; exact hp j) hI hk (by omega) (fun a' w' mo2 K2 I2 f1 f2 => ih (i + 1) mo2 a' w' K2 I2 (f1.trans e1) (fun t => (f2 t).trans (e2 t)) (by omega) (by omega))
      · obtain rfl : i = mo.n := by omega
        rw [rd_eq, wpL_app]
        have ev1 := s1 mo'.A mo'.n mo'.c mo'.g mo.n
        rw [decide_eq_false (by omega)] at ev1
        refine pieceO (us := [(2, .int .i64 (mo.n : Int))]) (ts := [(2, .int .i64 (mo.n : Int))]) hI ev1 hk hk1 (by simp) (fun a1 w1 K1 d1 => ?_)
        exact fin a1 w1 K1.defers (hI.below d1).mid
  exact loop (mo.n + 1) 0 mo a1 w1 K1 I1 rfl (fun _ => rfl) (Nat.zero_le _) (by omega)
end
end Sp
end Go.Proofs.Ytaojjpdlfnphiaa.PDescKinds
