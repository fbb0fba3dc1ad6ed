-- Printed by a program of this session over the translation; Lean checks it.
import Derived.Test.YtlliefodchfpfaaDoorPA
import Derived.Test.YtlliefodchfpfaaDoorPB
namespace Go.Proofs.YtlliefodchfpfaaDoor.PDescKinds
open Go.RowKit Go.Proofs.YtlliefodchfpfaaDoorW.PrintWords Go.Proofs.YtlliefodchfpfaaDoorW.PrintLast Go.Proofs.YtlliefodchfpfaaDoorW.PrintMore
attribute [local go_sem] max2_int min2_int max_two min_two max_three min_three max_four min_four   -- for this text's walks alone
set_option linter.unusedVariables false
set_option linter.unusedSimpArgs false

/-! ### value_Check: function 17 -/
def value_Check.strOk (s : ByteArray) : Bool := decide (s.size ≤ 1048576) && units_Valid.val (s.size + 1) s 0 0
def value_Check.idOk (id : Int) : Bool := decide (1 ≤ id) && decide (id ≤ 65536)
def value_Check.one (k : Int) (b : Bool) (n : Nat) (s : ByteArray) (id : Int) : Value :=
  if k = 1 then .iface 110 (.agg #[]) else if k = 2 then .iface 111 (.agg #[]) else if k = 3 then .iface 112 (.bool b) else if k = 4 then .iface 113 (.float .f64 n)
  else if k = 5 then (if value_Check.strOk s = true then .iface 114 (.string s) else .nilIface)
  else if k = 6 then (if value_Check.idOk id = true then .iface 115 (.int .i64 id) else .nilIface)
  else if k = 7 then (if value_Check.idOk id = true then .iface 116 (.int .i64 id) else .nilIface) else .nilIface
set_option maxHeartbeats 1600000 in
set_option maxRecDepth 100000 in
theorem value_Check.inn (k : Int) (b : Bool) (n : Nat) (s : ByteArray) (id : Int) (w : World) (ht : Tabs w) :
    Calls Tryd.prog 56 #[.agg #[.int .i64 k, .bool b, .float .f64 n, .string s, .int .i64 id]] w fun e w' => e = .returned (value_Check.one k b n s id) ∧ Below w.heap.size w w' := by
  have hu24 := Tryd.underlying26
  have HT := Aside0.mk ht
  clear ht
  unfold value_Check.one
  go_enter Tryd.func56, Tryd.ntmps56
  by_cases h1 : k = 1
  · rw [if_pos h1]
    have c1 : (k == 1) = true := by simp [h1]
    clear h1
    go_wp2_with fail
    go_ret
    exact ⟨rfl, by repeat (first | exact Below.refl _ _ | apply below_alloc | apply pw_below_drewN | apply below_drew1)⟩
  have d1 : (k == 1) = false := by simp [h1]
  rw [if_neg h1]
  clear h1
  by_cases h2 : k = 2
  · rw [if_pos h2]
    have c2 : (k == 2) = true := by simp [h2]
    clear h2
    go_wp2_with fail
    go_ret
    exact ⟨rfl, by repeat (first | exact Below.refl _ _ | apply below_alloc | apply pw_below_drewN | apply below_drew1)⟩
  have d2 : (k == 2) = false := by simp [h2]
  rw [if_neg h2]
  clear h2
  by_cases h3 : k = 3
  · rw [if_pos h3]
    have c3 : (k == 3) = true := by simp [h3]
    clear h3
    go_wp2_with fail
    go_ret
    exact ⟨rfl, by repeat (first | exact Below.refl _ _ | apply below_alloc | apply pw_below_drewN | apply below_drew1)⟩
  have d3 : (k == 3) = false := by simp [h3]
  rw [if_neg h3]
  clear h3
  by_cases h4 : k = 4
  · rw [if_pos h4]
    have c4 : (k == 4) = true := by simp [h4]
    clear h4
    go_wp2_with fail
    go_ret
    exact ⟨rfl, by repeat (first | exact Below.refl _ _ | apply below_alloc | apply pw_below_drewN | apply below_drew1)⟩
  have d4 : (k == 4) = false := by simp [h4]
  rw [if_neg h4]
  clear h4
  by_cases h5 : k = 5
  · rw [if_pos h5]
    have c5 : (k == 5) = true := by simp [h5]
    clear h5
    by_cases hl : s.size ≤ 1048576
    · have cl : decide ((s.size : Int) ≤ 1048576) = true := decide_eq_true (by omega)
      cases hv : units_Valid.val (s.size + 1) s 0 0
      · have HV := Aside0.mk (show units_Valid.f s = some false by unfold units_Valid.f; rw [if_pos (by omega), hv])
        have e_ : value_Check.strOk s = false := by unfold value_Check.strOk; rw [hv]; simp [hl]
        rw [e_]
        clear hv e_ hl
        go_wp2_with (first | (go_at_call 32; (with_reducible refine (units_Valid.calls s false _ (tabs_b HT.out (by repeat (first | exact Below.refl _ _ | apply below_alloc | apply pw_below_drewN | apply below_drew1))) HV.out).mono ?_); rintro e w3 ⟨rfl, hb3⟩; have hc3 : w3.cell? ⟨w.heap.size, 3, none⟩ = some (.string s) := (hb3.cell (by simp)).trans ((blk_cell (heap_alloc_new w _) 3).trans rfl); have HB : Aside0 (Below w.heap.size w w3) := ⟨below_step (by repeat (first | exact Below.refl _ _ | apply below_alloc | apply pw_below_drewN | apply below_drew1)) hb3⟩; clear hb3) | fail)
        go_ret
        exact ⟨rfl, by repeat (first | exact HB.out | apply below_alloc | apply pw_below_drewN | apply below_drew1)⟩
      · have HV := Aside0.mk (show units_Valid.f s = some true by unfold units_Valid.f; rw [if_pos (by omega), hv])
        have e_ : value_Check.strOk s = true := by unfold value_Check.strOk; rw [hv]; simp [hl]
        rw [e_]
        clear hv e_ hl
        go_wp2_with (first | (go_at_call 32; (with_reducible refine (units_Valid.calls s true _ (tabs_b HT.out (by repeat (first | exact Below.refl _ _ | apply below_alloc | apply pw_below_drewN | apply below_drew1))) HV.out).mono ?_); rintro e w3 ⟨rfl, hb3⟩; have hc3 : w3.cell? ⟨w.heap.size, 3, none⟩ = some (.string s) := (hb3.cell (by simp)).trans ((blk_cell (heap_alloc_new w _) 3).trans rfl); have HB : Aside0 (Below w.heap.size w w3) := ⟨below_step (by repeat (first | exact Below.refl _ _ | apply below_alloc | apply pw_below_drewN | apply below_drew1)) hb3⟩; clear hb3) | fail)
        go_ret
        exact ⟨rfl, by repeat (first | exact HB.out | apply below_alloc | apply pw_below_drewN | apply below_drew1)⟩
    · have cl : decide ((s.size : Int) ≤ 1048576) = false := decide_eq_false (by omega)
      have e_ : value_Check.strOk s = false := by unfold value_Check.strOk; simp [hl]
      rw [e_]
      clear e_ hl
      go_wp2_with fail
      go_ret
      exact ⟨rfl, by repeat (first | exact Below.refl _ _ | apply below_alloc | apply pw_below_drewN | apply below_drew1)⟩
  have d5 : (k == 5) = false := by simp [h5]
  rw [if_neg h5]
  clear h5
  by_cases h6 : k = 6
  · rw [if_pos h6]
    have c6 : (k == 6) = true := by simp [h6]
    clear h6
    by_cases ha : 1 ≤ id
    · have ca : decide (1 ≤ id) = true := decide_eq_true ha
      by_cases hz : id ≤ 65536
      · have cz : decide (id ≤ 65536) = true := decide_eq_true hz
        have e_ : value_Check.idOk id = true := by unfold value_Check.idOk; rw [ca, cz]; rfl
        rw [e_]
        clear e_ ha hz
        go_wp2_with fail
        go_ret
        exact ⟨rfl, by repeat (first | exact Below.refl _ _ | apply below_alloc | apply pw_below_drewN | apply below_drew1)⟩
      · have cz : decide (id ≤ 65536) = false := decide_eq_false hz
        have e_ : value_Check.idOk id = false := by unfold value_Check.idOk; rw [ca, cz]; rfl
        rw [e_]
        clear e_ ha hz
        go_wp2_with fail
        go_ret
        exact ⟨rfl, by repeat (first | exact Below.refl _ _ | apply below_alloc | apply pw_below_drewN | apply below_drew1)⟩
    · have ca : decide (1 ≤ id) = false := decide_eq_false ha
      have e_ : value_Check.idOk id = false := by unfold value_Check.idOk; rw [ca]; rfl
      rw [e_]
      clear e_ ha
      go_wp2_with fail
      go_ret
      exact ⟨rfl, by repeat (first | exact Below.refl _ _ | apply below_alloc | apply pw_below_drewN | apply below_drew1)⟩
  have d6 : (k == 6) = false := by simp [h6]
  rw [if_neg h6]
  clear h6
  by_cases h7 : k = 7
  · rw [if_pos h7]
    have c7 : (k == 7) = true := by simp [h7]
    clear h7
    by_cases ha : 1 ≤ id
    · have ca : decide (1 ≤ id) = true := decide_eq_true ha
      by_cases hz : id ≤ 65536
      · have cz : decide (id ≤ 65536) = true := decide_eq_true hz
        have e_ : value_Check.idOk id = true := by unfold value_Check.idOk; rw [ca, cz]; rfl
        rw [e_]
        clear e_ ha hz
        go_wp2_with fail
        go_ret
        exact ⟨rfl, by repeat (first | exact Below.refl _ _ | apply below_alloc | apply pw_below_drewN | apply below_drew1)⟩
      · have cz : decide (id ≤ 65536) = false := decide_eq_false hz
        have e_ : value_Check.idOk id = false := by unfold value_Check.idOk; rw [ca, cz]; rfl
        rw [e_]
        clear e_ ha hz
        go_wp2_with fail
        go_ret
        exact ⟨rfl, by repeat (first | exact Below.refl _ _ | apply below_alloc | apply pw_below_drewN | apply below_drew1)⟩
    · have ca : decide (1 ≤ id) = false := decide_eq_false ha
      have e_ : value_Check.idOk id = false := by unfold value_Check.idOk; rw [ca]; rfl
      rw [e_]
      clear e_ ha
      go_wp2_with fail
      go_ret
      exact ⟨rfl, by repeat (first | exact Below.refl _ _ | apply below_alloc | apply pw_below_drewN | apply below_drew1)⟩
  have d7 : (k == 7) = false := by simp [h7]
  rw [if_neg h7]
  clear h7
  go_wp2_with fail
  go_ret
  exact ⟨rfl, by repeat (first | exact Below.refl _ _ | apply below_alloc | apply pw_below_drewN | apply below_drew1)⟩
theorem value_Check.nz (n : Nat) : (((n : Nat) : Int) == 0) = decide (n = 0) := by cases n with
  | zero => rfl
  | succ n => rw [decide_eq_false (by omega)]; exact beq_eq_false_iff_ne.2 (by omega)
theorem value_Check.m124 (w : World)  : (method 311 110 (.agg #[]) "cameo/value.open").run Tryd.prog w = .ok (93, .agg #[]) w := by kernel_rfl
theorem value_Check.m141 (w : World)  : (method 311 111 (.agg #[]) "cameo/value.open").run Tryd.prog w = .ok (94, .agg #[]) w := by kernel_rfl
theorem value_Check.m142 (w : World) (b : Bool) : (method 311 112 (.bool b) "cameo/value.open").run Tryd.prog w = .ok (95, .bool b) w := by kernel_rfl
theorem value_Check.m139 (w : World) (n : Nat) : (method 311 113 (.float .f64 n) "cameo/value.open").run Tryd.prog w = .ok (96, .float .f64 n) w := by kernel_rfl
theorem value_Check.m143 (w : World) (s : ByteArray) : (method 311 114 (.string s) "cameo/value.open").run Tryd.prog w = .ok (97, .string s) w := by kernel_rfl
theorem value_Check.m144 (w : World) (id : Int) : (method 311 115 (.int .i64 id) "cameo/value.open").run Tryd.prog w = .ok (98, .int .i64 id) w := by kernel_rfl
theorem value_Check.m145 (w : World) (id : Int) : (method 311 116 (.int .i64 id) "cameo/value.open").run Tryd.prog w = .ok (99, .int .i64 id) w := by kernel_rfl
set_option maxRecDepth 100000 in
theorem value_Check.o115  (w : World) : Calls Tryd.prog 93 #[.agg #[]] w fun e w' => e = .returned (.agg #[.int .i64 1, .bool false, .float .f64 0, .string ⟨#[]⟩, .int .i64 0]) ∧ Below w.heap.size w w' := by
  have hu24 := Tryd.underlying26
  go_enter Tryd.func93, Tryd.ntmps93
  go_wp2_with fail
  refine bodyPost_ret (results_cell_row rfl _ _ (w.heap.size + 1) 26 #[.int .i64 1, .bool false, .float .f64 0, .string ⟨#[]⟩, .int .i64 0] (0, 0) _ rfl (by have h_ := heap_alloc_new (w.alloc (.cells #[] 110)) (.cells #[.int .i64 1, .bool false, .float .f64 0, .string ⟨#[]⟩, .int .i64 0] 26); rwa [show (w.alloc (.cells #[] 110)).heap.size = w.heap.size + 1 from Array.size_push ..] at h_) Tryd.underlying26 rfl (by kernel_rfl)) rfl ?_
  exact ⟨rfl, by repeat (first | exact Below.refl _ _ | apply below_alloc | apply pw_below_drewN | apply below_drew1)⟩
set_option maxRecDepth 100000 in
theorem value_Check.o154  (w : World) : Calls Tryd.prog 94 #[.agg #[]] w fun e w' => e = .returned (.agg #[.int .i64 2, .bool false, .float .f64 0, .string ⟨#[]⟩, .int .i64 0]) ∧ Below w.heap.size w w' := by
  have hu24 := Tryd.underlying26
  go_enter Tryd.func94, Tryd.ntmps94
  go_wp2_with fail
  refine bodyPost_ret (results_cell_row rfl _ _ (w.heap.size + 1) 26 #[.int .i64 2, .bool false, .float .f64 0, .string ⟨#[]⟩, .int .i64 0] (0, 0) _ rfl (by have h_ := heap_alloc_new (w.alloc (.cells #[] 111)) (.cells #[.int .i64 2, .bool false, .float .f64 0, .string ⟨#[]⟩, .int .i64 0] 26); rwa [show (w.alloc (.cells #[] 111)).heap.size = w.heap.size + 1 from Array.size_push ..] at h_) Tryd.underlying26 rfl (by kernel_rfl)) rfl ?_
  exact ⟨rfl, by repeat (first | exact Below.refl _ _ | apply below_alloc | apply pw_below_drewN | apply below_drew1)⟩
set_option maxRecDepth 100000 in
theorem value_Check.o155 (b : Bool) (w : World) : Calls Tryd.prog 95 #[.bool b] w fun e w' => e = .returned (.agg #[.int .i64 3, .bool b, .float .f64 0, .string ⟨#[]⟩, .int .i64 0]) ∧ Below w.heap.size w w' := by
  have hu24 := Tryd.underlying26
  go_enter Tryd.func95, Tryd.ntmps95
  go_wp2_with fail
  refine bodyPost_ret (results_cell_row rfl _ _ _ 26 _ (0, 0) _ rfl (heap_alloc_new _ _) Tryd.underlying26 rfl (by kernel_rfl)) rfl ?_
  exact ⟨rfl, by repeat (first | exact Below.refl _ _ | apply below_alloc | apply pw_below_drewN | apply below_drew1)⟩
set_option maxRecDepth 100000 in
theorem value_Check.o153 (n : Nat) (w : World) : Calls Tryd.prog 96 #[.float .f64 n] w fun e w' => e = .returned (.agg #[.int .i64 4, .bool false, .float .f64 n, .string ⟨#[]⟩, .int .i64 0]) ∧ Below w.heap.size w w' := by
  have hu24 := Tryd.underlying26
  go_enter Tryd.func96, Tryd.ntmps96
  go_wp2_with fail
  refine bodyPost_ret (results_cell_row rfl _ _ _ 26 _ (0, 0) _ rfl (heap_alloc_new _ _) Tryd.underlying26 rfl (by kernel_rfl)) rfl ?_
  exact ⟨rfl, by repeat (first | exact Below.refl _ _ | apply below_alloc | apply pw_below_drewN | apply below_drew1)⟩
set_option maxRecDepth 100000 in
theorem value_Check.o156 (s : ByteArray) (w : World) : Calls Tryd.prog 97 #[.string s] w fun e w' => e = .returned (.agg #[.int .i64 5, .bool false, .float .f64 0, .string s, .int .i64 0]) ∧ Below w.heap.size w w' := by
  have hu24 := Tryd.underlying26
  go_enter Tryd.func97, Tryd.ntmps97
  go_wp2_with fail
  refine bodyPost_ret (results_cell_row rfl _ _ _ 26 _ (0, 0) _ rfl (heap_alloc_new _ _) Tryd.underlying26 rfl (by kernel_rfl)) rfl ?_
  exact ⟨rfl, by repeat (first | exact Below.refl _ _ | apply below_alloc | apply pw_below_drewN | apply below_drew1)⟩
set_option maxRecDepth 100000 in
theorem value_Check.o157 (id : Int) (w : World) : Calls Tryd.prog 98 #[.int .i64 id] w fun e w' => e = .returned (.agg #[.int .i64 6, .bool false, .float .f64 0, .string ⟨#[]⟩, .int .i64 id]) ∧ Below w.heap.size w w' := by
  have hu24 := Tryd.underlying26
  go_enter Tryd.func98, Tryd.ntmps98
  go_wp2_with fail
  refine bodyPost_ret (results_cell_row rfl _ _ _ 26 _ (0, 0) _ rfl (heap_alloc_new _ _) Tryd.underlying26 rfl (by kernel_rfl)) rfl ?_
  exact ⟨rfl, by repeat (first | exact Below.refl _ _ | apply below_alloc | apply pw_below_drewN | apply below_drew1)⟩
set_option maxRecDepth 100000 in
theorem value_Check.o158 (id : Int) (w : World) : Calls Tryd.prog 99 #[.int .i64 id] w fun e w' => e = .returned (.agg #[.int .i64 7, .bool false, .float .f64 0, .string ⟨#[]⟩, .int .i64 id]) ∧ Below w.heap.size w w' := by
  have hu24 := Tryd.underlying26
  go_enter Tryd.func99, Tryd.ntmps99
  go_wp2_with fail
  refine bodyPost_ret (results_cell_row rfl _ _ _ 26 _ (0, 0) _ rfl (heap_alloc_new _ _) Tryd.underlying26 rfl (by kernel_rfl)) rfl ?_
  exact ⟨rfl, by repeat (first | exact Below.refl _ _ | apply below_alloc | apply pw_below_drewN | apply below_drew1)⟩
set_option maxHeartbeats 1600000 in
set_option maxRecDepth 100000 in
theorem value_Check.good1 (b : Bool) (n : Nat) (s : ByteArray) (id : Int) (w : World) (ht : Tabs w) :
    Calls Tryd.prog 34 #[.agg #[.int .i64 1, .bool b, .float .f64 n, .string s, .int .i64 id]] w fun e w' => e = .returned (.tuple #[.iface 110 (.agg #[]), .bool ((!b) && s.toList.isEmpty && decide (id = 0) && decide (n = 0))]) ∧ Below w.heap.size w w' := by
  have hu24 := Tryd.underlying26
  have hm := value_Check.m124
  have HI := Aside0.mk (value_Check.inn 1 b n s id ·)
  rw [show value_Check.one 1 b n s id = .iface 110 (.agg #[]) from rfl] at HI
  have hfb := fun (b : Nat) (W : World) => run_f64bits (P := Tryd.prog) (f := 57) Tryd.func57 (by kernel_rfl) (by kernel_rfl) (by kernel_rfl) rfl b W
  have HT := Aside0.mk ht
  clear ht
  go_enter Tryd.func34, Tryd.ntmps34
  go_wp2_with (first | (go_at_call 56; (refine (HI.out _ (tabs_b HT.out (by repeat (first | exact Below.refl _ _ | apply below_alloc | apply pw_below_drewN | apply below_drew1)))).mono ?_); rintro e w3 ⟨rfl, hb3⟩; have hc0 : w3.cell? ⟨w.heap.size, 0, none⟩ = some (.int .i64 1) := (hb3.cell (by simp)).trans ((blk_cell (heap_alloc_new w _) 0).trans rfl); have hc1 : w3.cell? ⟨w.heap.size, 1, none⟩ = some (.bool b) := (hb3.cell (by simp)).trans ((blk_cell (heap_alloc_new w _) 1).trans rfl); have hc2 : w3.cell? ⟨w.heap.size, 2, none⟩ = some (.float .f64 n) := (hb3.cell (by simp)).trans ((blk_cell (heap_alloc_new w _) 2).trans rfl); have hc3 : w3.cell? ⟨w.heap.size, 3, none⟩ = some (.string s) := (hb3.cell (by simp)).trans ((blk_cell (heap_alloc_new w _) 3).trans rfl); have hc4 : w3.cell? ⟨w.heap.size, 4, none⟩ = some (.int .i64 id) := (hb3.cell (by simp)).trans ((blk_cell (heap_alloc_new w _) 4).trans rfl); have HB : Aside0 (Below w.heap.size w w3) := ⟨below_step (by repeat (first | exact Below.refl _ _ | apply below_alloc | apply pw_below_drewN | apply below_drew1)) hb3⟩; clear hb3) | (go_at_call 93; (refine (value_Check.o115 _).mono ?_); rintro e w4 ⟨rfl, hb4⟩; have HB2 : Aside0 (Below w.heap.size w w4) := ⟨below_step (by repeat (first | exact HB.out | apply below_alloc | apply pw_below_drewN | apply below_drew1)) hb4⟩; have hd0 := (hb4.cell (World.block_lt_of_cell? _ _ hc0)).trans hc0; have hd1 := (hb4.cell (World.block_lt_of_cell? _ _ hc1)).trans hc1; have hd2 := (hb4.cell (World.block_lt_of_cell? _ _ hc2)).trans hc2; have hd3 := (hb4.cell (World.block_lt_of_cell? _ _ hc3)).trans hc3; have hd4 := (hb4.cell (World.block_lt_of_cell? _ _ hc4)).trans hc4; clear hb4 hc0 hc1 hc2 hc3 hc4) | ((with_reducible refine gate_dst (N := 5) rfl ?_); refine allocstore_event ?hg (N := 5) ?hd (zs := #[.int .i64 0, .bool false, .float .f64 0, .string (⟨#[]⟩ : ByteArray), .int .i64 0]) (cs := #[.int .i64 1, .bool false, .float .f64 0, .string ⟨#[]⟩, .int .i64 0]) (t := 26) (x := .tmp 12) ?hr ?hg2 ?hd2 ?ho ?hN ?hx (n := 5) ?hi ?hn ?hz ?h1 ?_; (case hd => rfl); (case hg => rfl); (case hg2 => rfl); (case hd2 => rfl); (case ho => rfl); (case hN => first | (simp; done) | (simp [Act.put]; done) | (go_simp; done)); (case hx => intro _; rfl); (case hi => kernel_rfl); (case hn => rfl); (case hz => rfl); (case h1 => simp [Value.oneCell']; done); (case hr => first | (go_simp; done) | (go_simp; rfl)); intro gb hg w5 hbox hb5; clear hg; have he0 := (hb5.cell (World.block_lt_of_cell? _ _ hd0)).trans hd0; have he1 := (hb5.cell (World.block_lt_of_cell? _ _ hd1)).trans hd1; have he2 := (hb5.cell (World.block_lt_of_cell? _ _ hd2)).trans hd2; have he3 := (hb5.cell (World.block_lt_of_cell? _ _ hd3)).trans hd3; have he4 := (hb5.cell (World.block_lt_of_cell? _ _ hd4)).trans hd4; have hy0 : w5.cell? ⟨gb, 0, none⟩ = some (.int .i64 1) := (blk_cell hbox 0).trans rfl; have hy1 : w5.cell? ⟨gb, 1, none⟩ = some (.bool false) := (blk_cell hbox 1).trans rfl; have hy2 : w5.cell? ⟨gb, 2, none⟩ = some (.float .f64 0) := (blk_cell hbox 2).trans rfl; have hy3 : w5.cell? ⟨gb, 3, none⟩ = some (.string ⟨#[]⟩) := (blk_cell hbox 3).trans rfl; have hy4 : w5.cell? ⟨gb, 4, none⟩ = some (.int .i64 0) := (blk_cell hbox 4).trans rfl; have HB3 : Aside0 (Below w.heap.size w w5) := ⟨below_step (by repeat (first | exact HB2.out | apply below_alloc | apply pw_below_drewN | apply below_drew1)) hb5⟩; clear hb5 hbox hd0 hd1 hd2 hd3 hd4) | fail)
  all_goals go_ret2
  all_goals (refine ⟨?_, by repeat (first | exact HB3.out | apply below_alloc | apply pw_below_drewN | apply below_drew1)⟩)
  all_goals first | rfl | (simp_all [value_Check.nz]; done)
set_option maxHeartbeats 1600000 in
set_option maxRecDepth 100000 in
theorem value_Check.good2 (b : Bool) (n : Nat) (s : ByteArray) (id : Int) (w : World) (ht : Tabs w) :
    Calls Tryd.prog 34 #[.agg #[.int .i64 2, .bool b, .float .f64 n, .string s, .int .i64 id]] w fun e w' => e = .returned (.tuple #[.iface 111 (.agg #[]), .bool ((!b) && s.toList.isEmpty && decide (id = 0) && decide (n = 0))]) ∧ Below w.heap.size w w' := by
  have hu24 := Tryd.underlying26
  have hm := value_Check.m141
  have HI := Aside0.mk (value_Check.inn 2 b n s id ·)
  rw [show value_Check.one 2 b n s id = .iface 111 (.agg #[]) from rfl] at HI
  have hfb := fun (b : Nat) (W : World) => run_f64bits (P := Tryd.prog) (f := 57) Tryd.func57 (by kernel_rfl) (by kernel_rfl) (by kernel_rfl) rfl b W
  have HT := Aside0.mk ht
  clear ht
  go_enter Tryd.func34, Tryd.ntmps34
  go_wp2_with (first | (go_at_call 56; (refine (HI.out _ (tabs_b HT.out (by repeat (first | exact Below.refl _ _ | apply below_alloc | apply pw_below_drewN | apply below_drew1)))).mono ?_); rintro e w3 ⟨rfl, hb3⟩; have hc0 : w3.cell? ⟨w.heap.size, 0, none⟩ = some (.int .i64 2) := (hb3.cell (by simp)).trans ((blk_cell (heap_alloc_new w _) 0).trans rfl); have hc1 : w3.cell? ⟨w.heap.size, 1, none⟩ = some (.bool b) := (hb3.cell (by simp)).trans ((blk_cell (heap_alloc_new w _) 1).trans rfl); have hc2 : w3.cell? ⟨w.heap.size, 2, none⟩ = some (.float .f64 n) := (hb3.cell (by simp)).trans ((blk_cell (heap_alloc_new w _) 2).trans rfl); have hc3 : w3.cell? ⟨w.heap.size, 3, none⟩ = some (.string s) := (hb3.cell (by simp)).trans ((blk_cell (heap_alloc_new w _) 3).trans rfl); have hc4 : w3.cell? ⟨w.heap.size, 4, none⟩ = some (.int .i64 id) := (hb3.cell (by simp)).trans ((blk_cell (heap_alloc_new w _) 4).trans rfl); have HB : Aside0 (Below w.heap.size w w3) := ⟨below_step (by repeat (first | exact Below.refl _ _ | apply below_alloc | apply pw_below_drewN | apply below_drew1)) hb3⟩; clear hb3) | (go_at_call 94; (refine (value_Check.o154 _).mono ?_); rintro e w4 ⟨rfl, hb4⟩; have HB2 : Aside0 (Below w.heap.size w w4) := ⟨below_step (by repeat (first | exact HB.out | apply below_alloc | apply pw_below_drewN | apply below_drew1)) hb4⟩; have hd0 := (hb4.cell (World.block_lt_of_cell? _ _ hc0)).trans hc0; have hd1 := (hb4.cell (World.block_lt_of_cell? _ _ hc1)).trans hc1; have hd2 := (hb4.cell (World.block_lt_of_cell? _ _ hc2)).trans hc2; have hd3 := (hb4.cell (World.block_lt_of_cell? _ _ hc3)).trans hc3; have hd4 := (hb4.cell (World.block_lt_of_cell? _ _ hc4)).trans hc4; clear hb4 hc0 hc1 hc2 hc3 hc4) | ((with_reducible refine gate_dst (N := 5) rfl ?_); refine allocstore_event ?hg (N := 5) ?hd (zs := #[.int .i64 0, .bool false, .float .f64 0, .string (⟨#[]⟩ : ByteArray), .int .i64 0]) (cs := #[.int .i64 2, .bool false, .float .f64 0, .string ⟨#[]⟩, .int .i64 0]) (t := 26) (x := .tmp 12) ?hr ?hg2 ?hd2 ?ho ?hN ?hx (n := 5) ?hi ?hn ?hz ?h1 ?_; (case hd => rfl); (case hg => rfl); (case hg2 => rfl); (case hd2 => rfl); (case ho => rfl); (case hN => first | (simp; done) | (simp [Act.put]; done) | (go_simp; done)); (case hx => intro _; rfl); (case hi => kernel_rfl); (case hn => rfl); (case hz => rfl); (case h1 => simp [Value.oneCell']; done); (case hr => first | (go_simp; done) | (go_simp; rfl)); intro gb hg w5 hbox hb5; clear hg; have he0 := (hb5.cell (World.block_lt_of_cell? _ _ hd0)).trans hd0; have he1 := (hb5.cell (World.block_lt_of_cell? _ _ hd1)).trans hd1; have he2 := (hb5.cell (World.block_lt_of_cell? _ _ hd2)).trans hd2; have he3 := (hb5.cell (World.block_lt_of_cell? _ _ hd3)).trans hd3; have he4 := (hb5.cell (World.block_lt_of_cell? _ _ hd4)).trans hd4; have hy0 : w5.cell? ⟨gb, 0, none⟩ = some (.int .i64 2) := (blk_cell hbox 0).trans rfl; have hy1 : w5.cell? ⟨gb, 1, none⟩ = some (.bool false) := (blk_cell hbox 1).trans rfl; have hy2 : w5.cell? ⟨gb, 2, none⟩ = some (.float .f64 0) := (blk_cell hbox 2).trans rfl; have hy3 : w5.cell? ⟨gb, 3, none⟩ = some (.string ⟨#[]⟩) := (blk_cell hbox 3).trans rfl; have hy4 : w5.cell? ⟨gb, 4, none⟩ = some (.int .i64 0) := (blk_cell hbox 4).trans rfl; have HB3 : Aside0 (Below w.heap.size w w5) := ⟨below_step (by repeat (first | exact HB2.out | apply below_alloc | apply pw_below_drewN | apply below_drew1)) hb5⟩; clear hb5 hbox hd0 hd1 hd2 hd3 hd4) | fail)
  all_goals go_ret2
  all_goals (refine ⟨?_, by repeat (first | exact HB3.out | apply below_alloc | apply pw_below_drewN | apply below_drew1)⟩)
  all_goals first | rfl | (simp_all [value_Check.nz]; done)
set_option maxHeartbeats 1600000 in
set_option maxRecDepth 100000 in
theorem value_Check.good3 (b : Bool) (n : Nat) (s : ByteArray) (id : Int) (w : World) (ht : Tabs w) :
    Calls Tryd.prog 34 #[.agg #[.int .i64 3, .bool b, .float .f64 n, .string s, .int .i64 id]] w fun e w' => e = .returned (.tuple #[.iface 112 (.bool b), .bool (true && s.toList.isEmpty && decide (id = 0) && decide (n = 0))]) ∧ Below w.heap.size w w' := by
  have hu24 := Tryd.underlying26
  have hm := value_Check.m142
  have HI := Aside0.mk (value_Check.inn 3 b n s id ·)
  rw [show value_Check.one 3 b n s id = .iface 112 (.bool b) from rfl] at HI
  have hfb := fun (b : Nat) (W : World) => run_f64bits (P := Tryd.prog) (f := 57) Tryd.func57 (by kernel_rfl) (by kernel_rfl) (by kernel_rfl) rfl b W
  have HT := Aside0.mk ht
  clear ht
  go_enter Tryd.func34, Tryd.ntmps34
  go_wp2_with (first | (go_at_call 56; (refine (HI.out _ (tabs_b HT.out (by repeat (first | exact Below.refl _ _ | apply below_alloc | apply pw_below_drewN | apply below_drew1)))).mono ?_); rintro e w3 ⟨rfl, hb3⟩; have hc0 : w3.cell? ⟨w.heap.size, 0, none⟩ = some (.int .i64 3) := (hb3.cell (by simp)).trans ((blk_cell (heap_alloc_new w _) 0).trans rfl); have hc1 : w3.cell? ⟨w.heap.size, 1, none⟩ = some (.bool b) := (hb3.cell (by simp)).trans ((blk_cell (heap_alloc_new w _) 1).trans rfl); have hc2 : w3.cell? ⟨w.heap.size, 2, none⟩ = some (.float .f64 n) := (hb3.cell (by simp)).trans ((blk_cell (heap_alloc_new w _) 2).trans rfl); have hc3 : w3.cell? ⟨w.heap.size, 3, none⟩ = some (.string s) := (hb3.cell (by simp)).trans ((blk_cell (heap_alloc_new w _) 3).trans rfl); have hc4 : w3.cell? ⟨w.heap.size, 4, none⟩ = some (.int .i64 id) := (hb3.cell (by simp)).trans ((blk_cell (heap_alloc_new w _) 4).trans rfl); have HB : Aside0 (Below w.heap.size w w3) := ⟨below_step (by repeat (first | exact Below.refl _ _ | apply below_alloc | apply pw_below_drewN | apply below_drew1)) hb3⟩; clear hb3) | (go_at_call 95; (refine (value_Check.o155 b _).mono ?_); rintro e w4 ⟨rfl, hb4⟩; have HB2 : Aside0 (Below w.heap.size w w4) := ⟨below_step (by repeat (first | exact HB.out | apply below_alloc | apply pw_below_drewN | apply below_drew1)) hb4⟩; have hd0 := (hb4.cell (World.block_lt_of_cell? _ _ hc0)).trans hc0; have hd1 := (hb4.cell (World.block_lt_of_cell? _ _ hc1)).trans hc1; have hd2 := (hb4.cell (World.block_lt_of_cell? _ _ hc2)).trans hc2; have hd3 := (hb4.cell (World.block_lt_of_cell? _ _ hc3)).trans hc3; have hd4 := (hb4.cell (World.block_lt_of_cell? _ _ hc4)).trans hc4; clear hb4 hc0 hc1 hc2 hc3 hc4) | ((with_reducible refine gate_dst (N := 5) rfl ?_); refine allocstore_event ?hg (N := 5) ?hd (zs := #[.int .i64 0, .bool false, .float .f64 0, .string (⟨#[]⟩ : ByteArray), .int .i64 0]) (cs := #[.int .i64 3, .bool b, .float .f64 0, .string ⟨#[]⟩, .int .i64 0]) (t := 26) (x := .tmp 12) ?hr ?hg2 ?hd2 ?ho ?hN ?hx (n := 5) ?hi ?hn ?hz ?h1 ?_; (case hd => rfl); (case hg => rfl); (case hg2 => rfl); (case hd2 => rfl); (case ho => rfl); (case hN => first | (simp; done) | (simp [Act.put]; done) | (go_simp; done)); (case hx => intro _; rfl); (case hi => kernel_rfl); (case hn => rfl); (case hz => rfl); (case h1 => simp [Value.oneCell']; done); (case hr => first | (go_simp; done) | (go_simp; rfl)); intro gb hg w5 hbox hb5; clear hg; have he0 := (hb5.cell (World.block_lt_of_cell? _ _ hd0)).trans hd0; have he1 := (hb5.cell (World.block_lt_of_cell? _ _ hd1)).trans hd1; have he2 := (hb5.cell (World.block_lt_of_cell? _ _ hd2)).trans hd2; have he3 := (hb5.cell (World.block_lt_of_cell? _ _ hd3)).trans hd3; have he4 := (hb5.cell (World.block_lt_of_cell? _ _ hd4)).trans hd4; have hy0 : w5.cell? ⟨gb, 0, none⟩ = some (.int .i64 3) := (blk_cell hbox 0).trans rfl; have hy1 : w5.cell? ⟨gb, 1, none⟩ = some (.bool b) := (blk_cell hbox 1).trans rfl; have hy2 : w5.cell? ⟨gb, 2, none⟩ = some (.float .f64 0) := (blk_cell hbox 2).trans rfl; have hy3 : w5.cell? ⟨gb, 3, none⟩ = some (.string ⟨#[]⟩) := (blk_cell hbox 3).trans rfl; have hy4 : w5.cell? ⟨gb, 4, none⟩ = some (.int .i64 0) := (blk_cell hbox 4).trans rfl; have HB3 : Aside0 (Below w.heap.size w w5) := ⟨below_step (by repeat (first | exact HB2.out | apply below_alloc | apply pw_below_drewN | apply below_drew1)) hb5⟩; clear hb5 hbox hd0 hd1 hd2 hd3 hd4) | fail)
  all_goals go_ret2
  all_goals (refine ⟨?_, by repeat (first | exact HB3.out | apply below_alloc | apply pw_below_drewN | apply below_drew1)⟩)
  all_goals first | rfl | (simp_all [value_Check.nz]; done)
set_option maxHeartbeats 1600000 in
set_option maxRecDepth 100000 in
theorem value_Check.good4 (b : Bool) (n : Nat) (s : ByteArray) (id : Int) (w : World) (ht : Tabs w) :
    Calls Tryd.prog 34 #[.agg #[.int .i64 4, .bool b, .float .f64 n, .string s, .int .i64 id]] w fun e w' => e = .returned (.tuple #[.iface 113 (.float .f64 n), .bool ((!b) && s.toList.isEmpty && decide (id = 0) && true)]) ∧ Below w.heap.size w w' := by
  have hu24 := Tryd.underlying26
  have hm := value_Check.m139
  have HI := Aside0.mk (value_Check.inn 4 b n s id ·)
  rw [show value_Check.one 4 b n s id = .iface 113 (.float .f64 n) from rfl] at HI
  have hfb := fun (b : Nat) (W : World) => run_f64bits (P := Tryd.prog) (f := 57) Tryd.func57 (by kernel_rfl) (by kernel_rfl) (by kernel_rfl) rfl b W
  have HT := Aside0.mk ht
  clear ht
  go_enter Tryd.func34, Tryd.ntmps34
  go_wp2_with (first | (go_at_call 56; (refine (HI.out _ (tabs_b HT.out (by repeat (first | exact Below.refl _ _ | apply below_alloc | apply pw_below_drewN | apply below_drew1)))).mono ?_); rintro e w3 ⟨rfl, hb3⟩; have hc0 : w3.cell? ⟨w.heap.size, 0, none⟩ = some (.int .i64 4) := (hb3.cell (by simp)).trans ((blk_cell (heap_alloc_new w _) 0).trans rfl); have hc1 : w3.cell? ⟨w.heap.size, 1, none⟩ = some (.bool b) := (hb3.cell (by simp)).trans ((blk_cell (heap_alloc_new w _) 1).trans rfl); have hc2 : w3.cell? ⟨w.heap.size, 2, none⟩ = some (.float .f64 n) := (hb3.cell (by simp)).trans ((blk_cell (heap_alloc_new w _) 2).trans rfl); have hc3 : w3.cell? ⟨w.heap.size, 3, none⟩ = some (.string s) := (hb3.cell (by simp)).trans ((blk_cell (heap_alloc_new w _) 3).trans rfl); have hc4 : w3.cell? ⟨w.heap.size, 4, none⟩ = some (.int .i64 id) := (hb3.cell (by simp)).trans ((blk_cell (heap_alloc_new w _) 4).trans rfl); have HB : Aside0 (Below w.heap.size w w3) := ⟨below_step (by repeat (first | exact Below.refl _ _ | apply below_alloc | apply pw_below_drewN | apply below_drew1)) hb3⟩; clear hb3) | (go_at_call 96; (refine (value_Check.o153 n _).mono ?_); rintro e w4 ⟨rfl, hb4⟩; have HB2 : Aside0 (Below w.heap.size w w4) := ⟨below_step (by repeat (first | exact HB.out | apply below_alloc | apply pw_below_drewN | apply below_drew1)) hb4⟩; have hd0 := (hb4.cell (World.block_lt_of_cell? _ _ hc0)).trans hc0; have hd1 := (hb4.cell (World.block_lt_of_cell? _ _ hc1)).trans hc1; have hd2 := (hb4.cell (World.block_lt_of_cell? _ _ hc2)).trans hc2; have hd3 := (hb4.cell (World.block_lt_of_cell? _ _ hc3)).trans hc3; have hd4 := (hb4.cell (World.block_lt_of_cell? _ _ hc4)).trans hc4; clear hb4 hc0 hc1 hc2 hc3 hc4) | ((with_reducible refine gate_dst (N := 5) rfl ?_); refine allocstore_event ?hg (N := 5) ?hd (zs := #[.int .i64 0, .bool false, .float .f64 0, .string (⟨#[]⟩ : ByteArray), .int .i64 0]) (cs := #[.int .i64 4, .bool false, .float .f64 n, .string ⟨#[]⟩, .int .i64 0]) (t := 26) (x := .tmp 12) ?hr ?hg2 ?hd2 ?ho ?hN ?hx (n := 5) ?hi ?hn ?hz ?h1 ?_; (case hd => rfl); (case hg => rfl); (case hg2 => rfl); (case hd2 => rfl); (case ho => rfl); (case hN => first | (simp; done) | (simp [Act.put]; done) | (go_simp; done)); (case hx => intro _; rfl); (case hi => kernel_rfl); (case hn => rfl); (case hz => rfl); (case h1 => simp [Value.oneCell']; done); (case hr => first | (go_simp; done) | (go_simp; rfl)); intro gb hg w5 hbox hb5; clear hg; have he0 := (hb5.cell (World.block_lt_of_cell? _ _ hd0)).trans hd0; have he1 := (hb5.cell (World.block_lt_of_cell? _ _ hd1)).trans hd1; have he2 := (hb5.cell (World.block_lt_of_cell? _ _ hd2)).trans hd2; have he3 := (hb5.cell (World.block_lt_of_cell? _ _ hd3)).trans hd3; have he4 := (hb5.cell (World.block_lt_of_cell? _ _ hd4)).trans hd4; have hy0 : w5.cell? ⟨gb, 0, none⟩ = some (.int .i64 4) := (blk_cell hbox 0).trans rfl; have hy1 : w5.cell? ⟨gb, 1, none⟩ = some (.bool false) := (blk_cell hbox 1).trans rfl; have hy2 : w5.cell? ⟨gb, 2, none⟩ = some (.float .f64 n) := (blk_cell hbox 2).trans rfl; have hy3 : w5.cell? ⟨gb, 3, none⟩ = some (.string ⟨#[]⟩) := (blk_cell hbox 3).trans rfl; have hy4 : w5.cell? ⟨gb, 4, none⟩ = some (.int .i64 0) := (blk_cell hbox 4).trans rfl; have HB3 : Aside0 (Below w.heap.size w w5) := ⟨below_step (by repeat (first | exact HB2.out | apply below_alloc | apply pw_below_drewN | apply below_drew1)) hb5⟩; clear hb5 hbox hd0 hd1 hd2 hd3 hd4) | fail)
  all_goals go_ret2
  all_goals (refine ⟨?_, by repeat (first | exact HB3.out | apply below_alloc | apply pw_below_drewN | apply below_drew1)⟩)
  all_goals first | rfl | (simp_all [value_Check.nz]; done)
set_option maxHeartbeats 1600000 in
set_option maxRecDepth 100000 in
theorem value_Check.good5 (b : Bool) (n : Nat) (s : ByteArray) (id : Int) (w : World) (hv : value_Check.strOk s = true) (ht : Tabs w) :
    Calls Tryd.prog 34 #[.agg #[.int .i64 5, .bool b, .float .f64 n, .string s, .int .i64 id]] w fun e w' => e = .returned (.tuple #[.iface 114 (.string s), .bool ((!b) && true && decide (id = 0) && decide (n = 0))]) ∧ Below w.heap.size w w' := by
  have hu24 := Tryd.underlying26
  have hm := value_Check.m143
  have HI := Aside0.mk (value_Check.inn 5 b n s id ·)
  rw [show value_Check.one 5 b n s id = .iface 114 (.string s) from by simp [value_Check.one, hv]] at HI
  have hfb := fun (b : Nat) (W : World) => run_f64bits (P := Tryd.prog) (f := 57) Tryd.func57 (by kernel_rfl) (by kernel_rfl) (by kernel_rfl) rfl b W
  have HT := Aside0.mk ht
  clear ht hv
  go_enter Tryd.func34, Tryd.ntmps34
  go_wp2_with (first | (go_at_call 56; (refine (HI.out _ (tabs_b HT.out (by repeat (first | exact Below.refl _ _ | apply below_alloc | apply pw_below_drewN | apply below_drew1)))).mono ?_); rintro e w3 ⟨rfl, hb3⟩; have hc0 : w3.cell? ⟨w.heap.size, 0, none⟩ = some (.int .i64 5) := (hb3.cell (by simp)).trans ((blk_cell (heap_alloc_new w _) 0).trans rfl); have hc1 : w3.cell? ⟨w.heap.size, 1, none⟩ = some (.bool b) := (hb3.cell (by simp)).trans ((blk_cell (heap_alloc_new w _) 1).trans rfl); have hc2 : w3.cell? ⟨w.heap.size, 2, none⟩ = some (.float .f64 n) := (hb3.cell (by simp)).trans ((blk_cell (heap_alloc_new w _) 2).trans rfl); have hc3 : w3.cell? ⟨w.heap.size, 3, none⟩ = some (.string s) := (hb3.cell (by simp)).trans ((blk_cell (heap_alloc_new w _) 3).trans rfl); have hc4 : w3.cell? ⟨w.heap.size, 4, none⟩ = some (.int .i64 id) := (hb3.cell (by simp)).trans ((blk_cell (heap_alloc_new w _) 4).trans rfl); have HB : Aside0 (Below w.heap.size w w3) := ⟨below_step (by repeat (first | exact Below.refl _ _ | apply below_alloc | apply pw_below_drewN | apply below_drew1)) hb3⟩; clear hb3) | (go_at_call 97; (refine (value_Check.o156 s _).mono ?_); rintro e w4 ⟨rfl, hb4⟩; have HB2 : Aside0 (Below w.heap.size w w4) := ⟨below_step (by repeat (first | exact HB.out | apply below_alloc | apply pw_below_drewN | apply below_drew1)) hb4⟩; have hd0 := (hb4.cell (World.block_lt_of_cell? _ _ hc0)).trans hc0; have hd1 := (hb4.cell (World.block_lt_of_cell? _ _ hc1)).trans hc1; have hd2 := (hb4.cell (World.block_lt_of_cell? _ _ hc2)).trans hc2; have hd3 := (hb4.cell (World.block_lt_of_cell? _ _ hc3)).trans hc3; have hd4 := (hb4.cell (World.block_lt_of_cell? _ _ hc4)).trans hc4; clear hb4 hc0 hc1 hc2 hc3 hc4) | ((with_reducible refine gate_dst (N := 5) rfl ?_); refine allocstore_event ?hg (N := 5) ?hd (zs := #[.int .i64 0, .bool false, .float .f64 0, .string (⟨#[]⟩ : ByteArray), .int .i64 0]) (cs := #[.int .i64 5, .bool false, .float .f64 0, .string s, .int .i64 0]) (t := 26) (x := .tmp 12) ?hr ?hg2 ?hd2 ?ho ?hN ?hx (n := 5) ?hi ?hn ?hz ?h1 ?_; (case hd => rfl); (case hg => rfl); (case hg2 => rfl); (case hd2 => rfl); (case ho => rfl); (case hN => first | (simp; done) | (simp [Act.put]; done) | (go_simp; done)); (case hx => intro _; rfl); (case hi => kernel_rfl); (case hn => rfl); (case hz => rfl); (case h1 => simp [Value.oneCell']; done); (case hr => first | (go_simp; done) | (go_simp; rfl)); intro gb hg w5 hbox hb5; clear hg; have he0 := (hb5.cell (World.block_lt_of_cell? _ _ hd0)).trans hd0; have he1 := (hb5.cell (World.block_lt_of_cell? _ _ hd1)).trans hd1; have he2 := (hb5.cell (World.block_lt_of_cell? _ _ hd2)).trans hd2; have he3 := (hb5.cell (World.block_lt_of_cell? _ _ hd3)).trans hd3; have he4 := (hb5.cell (World.block_lt_of_cell? _ _ hd4)).trans hd4; have hy0 : w5.cell? ⟨gb, 0, none⟩ = some (.int .i64 5) := (blk_cell hbox 0).trans rfl; have hy1 : w5.cell? ⟨gb, 1, none⟩ = some (.bool false) := (blk_cell hbox 1).trans rfl; have hy2 : w5.cell? ⟨gb, 2, none⟩ = some (.float .f64 0) := (blk_cell hbox 2).trans rfl; have hy3 : w5.cell? ⟨gb, 3, none⟩ = some (.string s) := (blk_cell hbox 3).trans rfl; have hy4 : w5.cell? ⟨gb, 4, none⟩ = some (.int .i64 0) := (blk_cell hbox 4).trans rfl; have HB3 : Aside0 (Below w.heap.size w w5) := ⟨below_step (by repeat (first | exact HB2.out | apply below_alloc | apply pw_below_drewN | apply below_drew1)) hb5⟩; clear hb5 hbox hd0 hd1 hd2 hd3 hd4) | fail)
  all_goals go_ret2
  all_goals (refine ⟨?_, by repeat (first | exact HB3.out | apply below_alloc | apply pw_below_drewN | apply below_drew1)⟩)
  all_goals first | rfl | (simp_all [value_Check.nz]; done)
set_option maxHeartbeats 1600000 in
set_option maxRecDepth 100000 in
theorem value_Check.good6 (b : Bool) (n : Nat) (s : ByteArray) (id : Int) (w : World) (hv : value_Check.idOk id = true) (ht : Tabs w) :
    Calls Tryd.prog 34 #[.agg #[.int .i64 6, .bool b, .float .f64 n, .string s, .int .i64 id]] w fun e w' => e = .returned (.tuple #[.iface 115 (.int .i64 id), .bool ((!b) && s.toList.isEmpty && true && decide (n = 0))]) ∧ Below w.heap.size w w' := by
  have hu24 := Tryd.underlying26
  have hm := value_Check.m144
  have HI := Aside0.mk (value_Check.inn 6 b n s id ·)
  rw [show value_Check.one 6 b n s id = .iface 115 (.int .i64 id) from by simp [value_Check.one, hv]] at HI
  have hfb := fun (b : Nat) (W : World) => run_f64bits (P := Tryd.prog) (f := 57) Tryd.func57 (by kernel_rfl) (by kernel_rfl) (by kernel_rfl) rfl b W
  have HT := Aside0.mk ht
  clear ht hv
  go_enter Tryd.func34, Tryd.ntmps34
  go_wp2_with (first | (go_at_call 56; (refine (HI.out _ (tabs_b HT.out (by repeat (first | exact Below.refl _ _ | apply below_alloc | apply pw_below_drewN | apply below_drew1)))).mono ?_); rintro e w3 ⟨rfl, hb3⟩; have hc0 : w3.cell? ⟨w.heap.size, 0, none⟩ = some (.int .i64 6) := (hb3.cell (by simp)).trans ((blk_cell (heap_alloc_new w _) 0).trans rfl); have hc1 : w3.cell? ⟨w.heap.size, 1, none⟩ = some (.bool b) := (hb3.cell (by simp)).trans ((blk_cell (heap_alloc_new w _) 1).trans rfl); have hc2 : w3.cell? ⟨w.heap.size, 2, none⟩ = some (.float .f64 n) := (hb3.cell (by simp)).trans ((blk_cell (heap_alloc_new w _) 2).trans rfl); have hc3 : w3.cell? ⟨w.heap.size, 3, none⟩ = some (.string s) := (hb3.cell (by simp)).trans ((blk_cell (heap_alloc_new w _) 3).trans rfl); have hc4 : w3.cell? ⟨w.heap.size, 4, none⟩ = some (.int .i64 id) := (hb3.cell (by simp)).trans ((blk_cell (heap_alloc_new w _) 4).trans rfl); have HB : Aside0 (Below w.heap.size w w3) := ⟨below_step (by repeat (first | exact Below.refl _ _ | apply below_alloc | apply pw_below_drewN | apply below_drew1)) hb3⟩; clear hb3) | (go_at_call 98; (refine (value_Check.o157 id _).mono ?_); rintro e w4 ⟨rfl, hb4⟩; have HB2 : Aside0 (Below w.heap.size w w4) := ⟨below_step (by repeat (first | exact HB.out | apply below_alloc | apply pw_below_drewN | apply below_drew1)) hb4⟩; have hd0 := (hb4.cell (World.block_lt_of_cell? _ _ hc0)).trans hc0; have hd1 := (hb4.cell (World.block_lt_of_cell? _ _ hc1)).trans hc1; have hd2 := (hb4.cell (World.block_lt_of_cell? _ _ hc2)).trans hc2; have hd3 := (hb4.cell (World.block_lt_of_cell? _ _ hc3)).trans hc3; have hd4 := (hb4.cell (World.block_lt_of_cell? _ _ hc4)).trans hc4; clear hb4 hc0 hc1 hc2 hc3 hc4) | ((with_reducible refine gate_dst (N := 5) rfl ?_); refine allocstore_event ?hg (N := 5) ?hd (zs := #[.int .i64 0, .bool false, .float .f64 0, .string (⟨#[]⟩ : ByteArray), .int .i64 0]) (cs := #[.int .i64 6, .bool false, .float .f64 0, .string ⟨#[]⟩, .int .i64 id]) (t := 26) (x := .tmp 12) ?hr ?hg2 ?hd2 ?ho ?hN ?hx (n := 5) ?hi ?hn ?hz ?h1 ?_; (case hd => rfl); (case hg => rfl); (case hg2 => rfl); (case hd2 => rfl); (case ho => rfl); (case hN => first | (simp; done) | (simp [Act.put]; done) | (go_simp; done)); (case hx => intro _; rfl); (case hi => kernel_rfl); (case hn => rfl); (case hz => rfl); (case h1 => simp [Value.oneCell']; done); (case hr => first | (go_simp; done) | (go_simp; rfl)); intro gb hg w5 hbox hb5; clear hg; have he0 := (hb5.cell (World.block_lt_of_cell? _ _ hd0)).trans hd0; have he1 := (hb5.cell (World.block_lt_of_cell? _ _ hd1)).trans hd1; have he2 := (hb5.cell (World.block_lt_of_cell? _ _ hd2)).trans hd2; have he3 := (hb5.cell (World.block_lt_of_cell? _ _ hd3)).trans hd3; have he4 := (hb5.cell (World.block_lt_of_cell? _ _ hd4)).trans hd4; have hy0 : w5.cell? ⟨gb, 0, none⟩ = some (.int .i64 6) := (blk_cell hbox 0).trans rfl; have hy1 : w5.cell? ⟨gb, 1, none⟩ = some (.bool false) := (blk_cell hbox 1).trans rfl; have hy2 : w5.cell? ⟨gb, 2, none⟩ = some (.float .f64 0) := (blk_cell hbox 2).trans rfl; have hy3 : w5.cell? ⟨gb, 3, none⟩ = some (.string ⟨#[]⟩) := (blk_cell hbox 3).trans rfl; have hy4 : w5.cell? ⟨gb, 4, none⟩ = some (.int .i64 id) := (blk_cell hbox 4).trans rfl; have HB3 : Aside0 (Below w.heap.size w w5) := ⟨below_step (by repeat (first | exact HB2.out | apply below_alloc | apply pw_below_drewN | apply below_drew1)) hb5⟩; clear hb5 hbox hd0 hd1 hd2 hd3 hd4) | fail)
  all_goals go_ret2
  all_goals (refine ⟨?_, by repeat (first | exact HB3.out | apply below_alloc | apply pw_below_drewN | apply below_drew1)⟩)
  all_goals first | rfl | (simp_all [value_Check.nz]; done)
set_option maxHeartbeats 1600000 in
set_option maxRecDepth 100000 in
theorem value_Check.good7 (b : Bool) (n : Nat) (s : ByteArray) (id : Int) (w : World) (hv : value_Check.idOk id = true) (ht : Tabs w) :
    Calls Tryd.prog 34 #[.agg #[.int .i64 7, .bool b, .float .f64 n, .string s, .int .i64 id]] w fun e w' => e = .returned (.tuple #[.iface 116 (.int .i64 id), .bool ((!b) && s.toList.isEmpty && true && decide (n = 0))]) ∧ Below w.heap.size w w' := by
  have hu24 := Tryd.underlying26
  have hm := value_Check.m145
  have HI := Aside0.mk (value_Check.inn 7 b n s id ·)
  rw [show value_Check.one 7 b n s id = .iface 116 (.int .i64 id) from by simp [value_Check.one, hv]] at HI
  have hfb := fun (b : Nat) (W : World) => run_f64bits (P := Tryd.prog) (f := 57) Tryd.func57 (by kernel_rfl) (by kernel_rfl) (by kernel_rfl) rfl b W
  have HT := Aside0.mk ht
  clear ht hv
  go_enter Tryd.func34, Tryd.ntmps34
  go_wp2_with (first | (go_at_call 56; (refine (HI.out _ (tabs_b HT.out (by repeat (first | exact Below.refl _ _ | apply below_alloc | apply pw_below_drewN | apply below_drew1)))).mono ?_); rintro e w3 ⟨rfl, hb3⟩; have hc0 : w3.cell? ⟨w.heap.size, 0, none⟩ = some (.int .i64 7) := (hb3.cell (by simp)).trans ((blk_cell (heap_alloc_new w _) 0).trans rfl); have hc1 : w3.cell? ⟨w.heap.size, 1, none⟩ = some (.bool b) := (hb3.cell (by simp)).trans ((blk_cell (heap_alloc_new w _) 1).trans rfl); have hc2 : w3.cell? ⟨w.heap.size, 2, none⟩ = some (.float .f64 n) := (hb3.cell (by simp)).trans ((blk_cell (heap_alloc_new w _) 2).trans rfl); have hc3 : w3.cell? ⟨w.heap.size, 3, none⟩ = some (.string s) := (hb3.cell (by simp)).trans ((blk_cell (heap_alloc_new w _) 3).trans rfl); have hc4 : w3.cell? ⟨w.heap.size, 4, none⟩ = some (.int .i64 id) := (hb3.cell (by simp)).trans ((blk_cell (heap_alloc_new w _) 4).trans rfl); have HB : Aside0 (Below w.heap.size w w3) := ⟨below_step (by repeat (first | exact Below.refl _ _ | apply below_alloc | apply pw_below_drewN | apply below_drew1)) hb3⟩; clear hb3) | (go_at_call 99; (refine (value_Check.o158 id _).mono ?_); rintro e w4 ⟨rfl, hb4⟩; have HB2 : Aside0 (Below w.heap.size w w4) := ⟨below_step (by repeat (first | exact HB.out | apply below_alloc | apply pw_below_drewN | apply below_drew1)) hb4⟩; have hd0 := (hb4.cell (World.block_lt_of_cell? _ _ hc0)).trans hc0; have hd1 := (hb4.cell (World.block_lt_of_cell? _ _ hc1)).trans hc1; have hd2 := (hb4.cell (World.block_lt_of_cell? _ _ hc2)).trans hc2; have hd3 := (hb4.cell (World.block_lt_of_cell? _ _ hc3)).trans hc3; have hd4 := (hb4.cell (World.block_lt_of_cell? _ _ hc4)).trans hc4; clear hb4 hc0 hc1 hc2 hc3 hc4) | ((with_reducible refine gate_dst (N := 5) rfl ?_); refine allocstore_event ?hg (N := 5) ?hd (zs := #[.int .i64 0, .bool false, .float .f64 0, .string (⟨#[]⟩ : ByteArray), .int .i64 0]) (cs := #[.int .i64 7, .bool false, .float .f64 0, .string ⟨#[]⟩, .int .i64 id]) (t := 26) (x := .tmp 12) ?hr ?hg2 ?hd2 ?ho ?hN ?hx (n := 5) ?hi ?hn ?hz ?h1 ?_; (case hd => rfl); (case hg => rfl); (case hg2 => rfl); (case hd2 => rfl); (case ho => rfl); (case hN => first | (simp; done) | (simp [Act.put]; done) | (go_simp; done)); (case hx => intro _; rfl); (case hi => kernel_rfl); (case hn => rfl); (case hz => rfl); (case h1 => simp [Value.oneCell']; done); (case hr => first | (go_simp; done) | (go_simp; rfl)); intro gb hg w5 hbox hb5; clear hg; have he0 := (hb5.cell (World.block_lt_of_cell? _ _ hd0)).trans hd0; have he1 := (hb5.cell (World.block_lt_of_cell? _ _ hd1)).trans hd1; have he2 := (hb5.cell (World.block_lt_of_cell? _ _ hd2)).trans hd2; have he3 := (hb5.cell (World.block_lt_of_cell? _ _ hd3)).trans hd3; have he4 := (hb5.cell (World.block_lt_of_cell? _ _ hd4)).trans hd4; have hy0 : w5.cell? ⟨gb, 0, none⟩ = some (.int .i64 7) := (blk_cell hbox 0).trans rfl; have hy1 : w5.cell? ⟨gb, 1, none⟩ = some (.bool false) := (blk_cell hbox 1).trans rfl; have hy2 : w5.cell? ⟨gb, 2, none⟩ = some (.float .f64 0) := (blk_cell hbox 2).trans rfl; have hy3 : w5.cell? ⟨gb, 3, none⟩ = some (.string ⟨#[]⟩) := (blk_cell hbox 3).trans rfl; have hy4 : w5.cell? ⟨gb, 4, none⟩ = some (.int .i64 id) := (blk_cell hbox 4).trans rfl; have HB3 : Aside0 (Below w.heap.size w w5) := ⟨below_step (by repeat (first | exact HB2.out | apply below_alloc | apply pw_below_drewN | apply below_drew1)) hb5⟩; clear hb5 hbox hd0 hd1 hd2 hd3 hd4) | fail)
  all_goals go_ret2
  all_goals (refine ⟨?_, by repeat (first | exact HB3.out | apply below_alloc | apply pw_below_drewN | apply below_drew1)⟩)
  all_goals first | rfl | (simp_all [value_Check.nz]; done)
def value_Check.good (k : Int) (b : Bool) (n : Nat) (s : ByteArray) (id : Int) : Bool :=
  if k = 1 then ((!b) && s.toList.isEmpty && decide (id = 0) && decide (n = 0)) else if k = 2 then ((!b) && s.toList.isEmpty && decide (id = 0) && decide (n = 0)) else if k = 3 then (true && s.toList.isEmpty && decide (id = 0) && decide (n = 0)) else if k = 4 then ((!b) && s.toList.isEmpty && decide (id = 0) && true) else if k = 5 then (if value_Check.strOk s = true then ((!b) && true && decide (id = 0) && decide (n = 0)) else false) else if k = 6 then (if value_Check.idOk id = true then ((!b) && s.toList.isEmpty && true && decide (n = 0)) else false) else if k = 7 then (if value_Check.idOk id = true then ((!b) && s.toList.isEmpty && true && decide (n = 0)) else false) else false
set_option maxHeartbeats 1600000 in
set_option maxRecDepth 100000 in
theorem value_Check.good0 (k : Int) (b : Bool) (n : Nat) (s : ByteArray) (id : Int) (w : World) (hv : value_Check.one k b n s id = .nilIface) (ht : Tabs w) :
    Calls Tryd.prog 34 #[.agg #[.int .i64 k, .bool b, .float .f64 n, .string s, .int .i64 id]] w fun e w' => e = .returned (.tuple #[.nilIface, .bool false]) ∧ Below w.heap.size w w' := by
  have hu24 := Tryd.underlying26
  have HI := Aside0.mk (value_Check.inn k b n s id ·)
  rw [hv] at HI
  have HT := Aside0.mk ht
  clear ht hv
  go_enter Tryd.func34, Tryd.ntmps34
  go_wp2_with (first | (go_at_call 56; (refine (HI.out _ (tabs_b HT.out (by repeat (first | exact Below.refl _ _ | apply below_alloc | apply pw_below_drewN | apply below_drew1)))).mono ?_); rintro e w3 ⟨rfl, hb3⟩; have HB : Aside0 (Below w.heap.size w w3) := ⟨below_step (by repeat (first | exact Below.refl _ _ | apply below_alloc | apply pw_below_drewN | apply below_drew1)) hb3⟩; clear hb3) | fail)
  go_ret2
  exact ⟨rfl, by repeat (first | exact HB.out | apply below_alloc | apply pw_below_drewN | apply below_drew1)⟩
theorem value_Check.goods (k : Int) (b : Bool) (n : Nat) (s : ByteArray) (id : Int) (w : World) (ht : Tabs w) :
    Calls Tryd.prog 34 #[.agg #[.int .i64 k, .bool b, .float .f64 n, .string s, .int .i64 id]] w fun e w' => e = .returned (.tuple #[value_Check.one k b n s id, .bool (value_Check.good k b n s id)]) ∧ Below w.heap.size w w' := by
  by_cases h1 : k = 1
  · subst h1
    exact value_Check.good1 b n s id w ht
  by_cases h2 : k = 2
  · subst h2
    exact value_Check.good2 b n s id w ht
  by_cases h3 : k = 3
  · subst h3
    exact value_Check.good3 b n s id w ht
  by_cases h4 : k = 4
  · subst h4
    exact value_Check.good4 b n s id w ht
  by_cases h5 : k = 5
  · subst h5
    cases hv : value_Check.strOk s
    · have ho : value_Check.one 5 b n s id = .nilIface := by simp [value_Check.one, hv]
      have hg : value_Check.good 5 b n s id = false := by simp [value_Check.good, hv]
      rw [ho, hg]
      exact value_Check.good0 _ b n s id w ho ht
    · have ho : value_Check.one 5 b n s id = .iface 114 (.string s) := by simp [value_Check.one, hv]
      have hg : value_Check.good 5 b n s id = ((!b) && true && decide (id = 0) && decide (n = 0)) := by simp [value_Check.good, hv]
      rw [ho, hg]
      exact value_Check.good5 b n s id w hv ht
  by_cases h6 : k = 6
  · subst h6
    cases hv : value_Check.idOk id
    · have ho : value_Check.one 6 b n s id = .nilIface := by simp [value_Check.one, hv]
      have hg : value_Check.good 6 b n s id = false := by simp [value_Check.good, hv]
      rw [ho, hg]
      exact value_Check.good0 _ b n s id w ho ht
    · have ho : value_Check.one 6 b n s id = .iface 115 (.int .i64 id) := by simp [value_Check.one, hv]
      have hg : value_Check.good 6 b n s id = ((!b) && s.toList.isEmpty && true && decide (n = 0)) := by simp [value_Check.good, hv]
      rw [ho, hg]
      exact value_Check.good6 b n s id w hv ht
  by_cases h7 : k = 7
  · subst h7
    cases hv : value_Check.idOk id
    · have ho : value_Check.one 7 b n s id = .nilIface := by simp [value_Check.one, hv]
      have hg : value_Check.good 7 b n s id = false := by simp [value_Check.good, hv]
      rw [ho, hg]
      exact value_Check.good0 _ b n s id w ho ht
    · have ho : value_Check.one 7 b n s id = .iface 116 (.int .i64 id) := by simp [value_Check.one, hv]
      have hg : value_Check.good 7 b n s id = ((!b) && s.toList.isEmpty && true && decide (n = 0)) := by simp [value_Check.good, hv]
      rw [ho, hg]
      exact value_Check.good7 b n s id w hv ht
  have ho : value_Check.one k b n s id = .nilIface := by simp [value_Check.one, h1, h2, h3, h4, h5, h6, h7]
  have hg : value_Check.good k b n s id = false := by simp [value_Check.good, h1, h2, h3, h4, h5, h6, h7]
  rw [ho, hg]
  exact value_Check.good0 _ b n s id w ho ht
def value_Check.f (a0_0 : Int) (a0_1 : Bool) (a0_2 : Nat) (a0_3 : ByteArray) (a0_4 : Int) : Option Int := some (if value_Check.good a0_0 a0_1 a0_2 a0_3 a0_4 = true then 0 else 5)
set_option maxHeartbeats 800000 in
set_option maxRecDepth 100000 in
theorem value_Check.calls (a0_0 : Int) (a0_1 : Bool) (a0_2 : Nat) (a0_3 : ByteArray) (a0_4 : Int) (r : Int) (w : World) (ht : Tabs w) (h : value_Check.f a0_0 a0_1 a0_2 a0_3 a0_4 = some r) :
    Calls Tryd.prog 17 #[.agg #[.int .i64 a0_0, .bool a0_1, .float .f64 a0_2, .string a0_3, .int .i64 a0_4]] w fun e w' => e = .returned (.int .i64 r) ∧ Below w.heap.size w w' := by
  unfold value_Check.f at h
  have hu24 := Tryd.underlying26
  have HG := Aside0.mk (value_Check.goods a0_0 a0_1 a0_2 a0_3 a0_4 ·)
  have HT := Aside0.mk ht
  clear ht
  cases hg : value_Check.good a0_0 a0_1 a0_2 a0_3 a0_4
  all_goals rw [hg] at HG h
  all_goals first | rw [if_pos rfl] at h | rw [if_neg (by simp)] at h
  all_goals obtain rfl := Option.some.inj h
  all_goals clear h hg
  all_goals go_enter Tryd.func17, Tryd.ntmps17
  all_goals go_wp2_with (first | (go_at_call 34; (refine (HG.out _ (tabs_b HT.out (by repeat (first | exact Below.refl _ _ | apply below_alloc | apply pw_below_drewN | apply below_drew1)))).mono ?_); rintro e w3 ⟨rfl, hb3⟩; have HB : Aside0 (Below w.heap.size w w3) := ⟨below_step (by repeat (first | exact Below.refl _ _ | apply below_alloc | apply pw_below_drewN | apply below_drew1)) hb3⟩; clear hb3) | fail)
  all_goals go_ret
  all_goals exact ⟨rfl, by repeat (first | exact HB.out | apply below_alloc | apply pw_below_drewN | apply below_drew1)⟩
end Go.Proofs.YtlliefodchfpfaaDoor.PDescKinds
