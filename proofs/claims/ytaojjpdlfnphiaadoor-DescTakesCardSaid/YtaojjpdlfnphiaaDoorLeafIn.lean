/- The contract of value.in: which of the seven types a value is of. -/
import Derived.Test.YtaojjpdlfnphiaaDoorPDescKindsx2
namespace Go.Proofs.YtaojjpdlfnphiaaDoor.PDescKinds
open Go.RowKit Go.Proofs.YtaojjpdlfnphiaaDoorW.PrintWords Go.Proofs.YtaojjpdlfnphiaaDoorW.PrintLast Go.Proofs.YtaojjpdlfnphiaaDoorW.PrintMore
set_option linter.unusedVariables false
set_option linter.unusedSimpArgs false
def leafIn.strOk (s : ByteArray) : Bool := decide (s.size ≤ 1048576) && units_Valid.val (s.size + 1) s 0 0
def leafIn.idOk (id : Int) : Bool := decide (1 ≤ id) && decide (id ≤ 65536)
def leafIn.one (k : Int) (b : Bool) (n : Nat) (s : ByteArray) (id : Int) : Value :=
  if k = 1 then .iface 124 (.agg #[]) else if k = 2 then .iface 141 (.agg #[]) else if k = 3 then .iface 142 (.bool b) else if k = 4 then .iface 139 (.float .f64 n)
  else if k = 5 then (if leafIn.strOk s = true then .iface 143 (.string s) else .nilIface)
  else if k = 6 then (if leafIn.idOk id = true then .iface 144 (.int .i64 id) else .nilIface)
  else if k = 7 then (if leafIn.idOk id = true then .iface 145 (.int .i64 id) else .nilIface) else .nilIface
set_option maxHeartbeats 1600000 in
set_option maxRecDepth 100000 in
theorem leafIn.inn (k : Int) (b : Bool) (n : Nat) (s : ByteArray) (id : Int) (w : World) (ht : Tabs w) :
    Calls Tryd.prog 123 #[.agg #[.int .i64 k, .bool b, .float .f64 n, .string s, .int .i64 id]] w fun e w' => e = .returned (leafIn.one k b n s id) ∧ Below w.heap.size w w' := by
  have hu24 := Tryd.underlying24
  have HT := Aside0.mk ht
  clear ht
  unfold leafIn.one
  go_enter Tryd.func123, Tryd.ntmps123
  by_cases h1 : k = 1
  · rw [if_pos h1]
    have c1 : (k == 1) = true := by simp [h1]
    clear h1
    go_wp2_with fail
    go_ret
    exact ⟨rfl, by repeat (first | exact Below.refl _ _ | apply below_alloc | apply pw_below_drewN | apply below_drew1)⟩
  have d1 : (k == 1) = false := by simp [h1]
  rw [if_neg h1]
  clear h1
  by_cases h2 : k = 2
  · rw [if_pos h2]
    have c2 : (k == 2) = true := by simp [h2]
    clear h2
    go_wp2_with fail
    go_ret
    exact ⟨rfl, by repeat (first | exact Below.refl _ _ | apply below_alloc | apply pw_below_drewN | apply below_drew1)⟩
  have d2 : (k == 2) = false := by simp [h2]
  rw [if_neg h2]
  clear h2
  by_cases h3 : k = 3
  · rw [if_pos h3]
    have c3 : (k == 3) = true := by simp [h3]
    clear h3
    go_wp2_with fail
    go_ret
    exact ⟨rfl, by repeat (first | exact Below.refl _ _ | apply below_alloc | apply pw_below_drewN | apply below_drew1)⟩
  have d3 : (k == 3) = false := by simp [h3]
  rw [if_neg h3]
  clear h3
  by_cases h4 : k = 4
  · rw [if_pos h4]
    have c4 : (k == 4) = true := by simp [h4]
    clear h4
    go_wp2_with fail
    go_ret
    exact ⟨rfl, by repeat (first | exact Below.refl _ _ | apply below_alloc | apply pw_below_drewN | apply below_drew1)⟩
  have d4 : (k == 4) = false := by simp [h4]
  rw [if_neg h4]
  clear h4
  by_cases h5 : k = 5
  · rw [if_pos h5]
    have c5 : (k == 5) = true := by simp [h5]
    clear h5
    by_cases hl : s.size ≤ 1048576
    · have cl : decide ((s.size : Int) ≤ 1048576) = true := decide_eq_true (by omega)
      cases hv : units_Valid.val (s.size + 1) s 0 0
      · have HV := Aside0.mk (show units_Valid.f s = some false by unfold units_Valid.f; rw [if_pos (by omega), hv])
        have e_ : leafIn.strOk s = false := by unfold leafIn.strOk; rw [hv]; simp [hl]
        rw [e_]
        clear hv e_ hl
        go_wp2_with (first | (go_at_call 127; (with_reducible refine (units_Valid.calls s false _ (tabs_b HT.out (by repeat (first | exact Below.refl _ _ | apply below_alloc | apply pw_below_drewN | apply below_drew1))) HV.out).mono ?_); rintro e w3 ⟨rfl, hb3⟩; have hc3 : w3.cell? ⟨w.heap.size, 3, none⟩ = some (.string s) := (hb3.cell (by simp)).trans ((blk_cell (heap_alloc_new w _) 3).trans rfl); have HB : Aside0 (Below w.heap.size w w3) := ⟨below_step (by repeat (first | exact Below.refl _ _ | apply below_alloc | apply pw_below_drewN | apply below_drew1)) hb3⟩; clear hb3) | fail)
        go_ret
        exact ⟨rfl, by repeat (first | exact HB.out | apply below_alloc | apply pw_below_drewN | apply below_drew1)⟩
      · have HV := Aside0.mk (show units_Valid.f s = some true by unfold units_Valid.f; rw [if_pos (by omega), hv])
        have e_ : leafIn.strOk s = true := by unfold leafIn.strOk; rw [hv]; simp [hl]
        rw [e_]
        clear hv e_ hl
        go_wp2_with (first | (go_at_call 127; (with_reducible refine (units_Valid.calls s true _ (tabs_b HT.out (by repeat (first | exact Below.refl _ _ | apply below_alloc | apply pw_below_drewN | apply below_drew1))) HV.out).mono ?_); rintro e w3 ⟨rfl, hb3⟩; have hc3 : w3.cell? ⟨w.heap.size, 3, none⟩ = some (.string s) := (hb3.cell (by simp)).trans ((blk_cell (heap_alloc_new w _) 3).trans rfl); have HB : Aside0 (Below w.heap.size w w3) := ⟨below_step (by repeat (first | exact Below.refl _ _ | apply below_alloc | apply pw_below_drewN | apply below_drew1)) hb3⟩; clear hb3) | fail)
        go_ret
        exact ⟨rfl, by repeat (first | exact HB.out | apply below_alloc | apply pw_below_drewN | apply below_drew1)⟩
    · have cl : decide ((s.size : Int) ≤ 1048576) = false := decide_eq_false (by omega)
      have e_ : leafIn.strOk s = false := by unfold leafIn.strOk; simp [hl]
      rw [e_]
      clear e_ hl
      go_wp2_with fail
      go_ret
      exact ⟨rfl, by repeat (first | exact Below.refl _ _ | apply below_alloc | apply pw_below_drewN | apply below_drew1)⟩
  have d5 : (k == 5) = false := by simp [h5]
  rw [if_neg h5]
  clear h5
  by_cases h6 : k = 6
  · rw [if_pos h6]
    have c6 : (k == 6) = true := by simp [h6]
    clear h6
    by_cases ha : 1 ≤ id
    · have ca : decide (1 ≤ id) = true := decide_eq_true ha
      by_cases hz : id ≤ 65536
      · have cz : decide (id ≤ 65536) = true := decide_eq_true hz
        have e_ : leafIn.idOk id = true := by unfold leafIn.idOk; rw [ca, cz]; rfl
        rw [e_]
        clear e_ ha hz
        go_wp2_with fail
        go_ret
        exact ⟨rfl, by repeat (first | exact Below.refl _ _ | apply below_alloc | apply pw_below_drewN | apply below_drew1)⟩
      · have cz : decide (id ≤ 65536) = false := decide_eq_false hz
        have e_ : leafIn.idOk id = false := by unfold leafIn.idOk; rw [ca, cz]; rfl
        rw [e_]
        clear e_ ha hz
        go_wp2_with fail
        go_ret
        exact ⟨rfl, by repeat (first | exact Below.refl _ _ | apply below_alloc | apply pw_below_drewN | apply below_drew1)⟩
    · have ca : decide (1 ≤ id) = false := decide_eq_false ha
      have e_ : leafIn.idOk id = false := by unfold leafIn.idOk; rw [ca]; rfl
      rw [e_]
      clear e_ ha
      go_wp2_with fail
      go_ret
      exact ⟨rfl, by repeat (first | exact Below.refl _ _ | apply below_alloc | apply pw_below_drewN | apply below_drew1)⟩
  have d6 : (k == 6) = false := by simp [h6]
  rw [if_neg h6]
  clear h6
  by_cases h7 : k = 7
  · rw [if_pos h7]
    have c7 : (k == 7) = true := by simp [h7]
    clear h7
    by_cases ha : 1 ≤ id
    · have ca : decide (1 ≤ id) = true := decide_eq_true ha
      by_cases hz : id ≤ 65536
      · have cz : decide (id ≤ 65536) = true := decide_eq_true hz
        have e_ : leafIn.idOk id = true := by unfold leafIn.idOk; rw [ca, cz]; rfl
        rw [e_]
        clear e_ ha hz
        go_wp2_with fail
        go_ret
        exact ⟨rfl, by repeat (first | exact Below.refl _ _ | apply below_alloc | apply pw_below_drewN | apply below_drew1)⟩
      · have cz : decide (id ≤ 65536) = false := decide_eq_false hz
        have e_ : leafIn.idOk id = false := by unfold leafIn.idOk; rw [ca, cz]; rfl
        rw [e_]
        clear e_ ha hz
        go_wp2_with fail
        go_ret
        exact ⟨rfl, by repeat (first | exact Below.refl _ _ | apply below_alloc | apply pw_below_drewN | apply below_drew1)⟩
    · have ca : decide (1 ≤ id) = false := decide_eq_false ha
      have e_ : leafIn.idOk id = false := by unfold leafIn.idOk; rw [ca]; rfl
      rw [e_]
      clear e_ ha
      go_wp2_with fail
      go_ret
      exact ⟨rfl, by repeat (first | exact Below.refl _ _ | apply below_alloc | apply pw_below_drewN | apply below_drew1)⟩
  have d7 : (k == 7) = false := by simp [h7]
  rw [if_neg h7]
  clear h7
  go_wp2_with fail
  go_ret
  exact ⟨rfl, by repeat (first | exact Below.refl _ _ | apply below_alloc | apply pw_below_drewN | apply below_drew1)⟩
end Go.Proofs.YtaojjpdlfnphiaaDoor.PDescKinds
