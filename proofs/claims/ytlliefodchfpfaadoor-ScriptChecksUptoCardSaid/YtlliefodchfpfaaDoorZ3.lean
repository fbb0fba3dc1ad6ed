/- Parts of the proof, joined (3). -/
import Derived.Lib.DecodeN
import Derived.Lib.Bytes
import Derived.Test.YtlliefodchfpfaaDoorZ2
section
-- Printed by a program of this session over the translation; Lean checks it.
namespace Go.Proofs.YtlliefodchfpfaaDoor.PDescKinds
open Go.RowKit Go.Proofs.YtlliefodchfpfaaDoorW.PrintWords Go.Proofs.YtlliefodchfpfaaDoorW.PrintLast Go.Proofs.YtlliefodchfpfaaDoorW.PrintMore
attribute [local go_sem] max2_int min2_int max_two min_two max_three min_three max_four min_four   -- for this text's walks alone
set_option linter.unusedVariables false
set_option linter.unusedSimpArgs false
/-! ### cameoref01_tail: function 68 -/
def cameoref01_tail.l0 : Nat → ByteArray → Int → Int → Int → Int → Option (Int)
  | 0, _, _, _, _, _ => none
  | k + 1, x0, x1, x2, x7, x8 => if x8 < x2 then (if (wrap64 (x1 + x8)) ≥ (x0.size : Int) then (some (-1)) else (if 0 ≤ (wrap64 (x1 + x8)) then (if (wrap64 (x1 + x8)) < (x0.size : Int) then (if (bt x0 (wrap64 (x1 + x8))) < 128 then (some (-1)) else (if (bt x0 (wrap64 (x1 + x8))) > 191 then (some (-1)) else (cameoref01_tail.l0 k x0 x1 x2 (wrap64 ((wrap64 ((wrap64 (64 * x7)) + (wrap64 (bt x0 (wrap64 (x1 + x8)))))) - 128)) (wrap64 (x8 + 1))))) else (none)) else (none))) else (some x7)
def cameoref01_tail.f (k : Nat) (a0 : ByteArray) (a1 : Int) (a2 : Int) : Option (Int) := cameoref01_tail.l0 k a0 a1 a2 0 0
set_option maxHeartbeats 8000000 in
set_option maxRecDepth 100000 in
theorem cameoref01_tail.calls (k : Nat) (a0 : ByteArray) (a1 : Int) (a2 : Int) (r : Int) (w : World) (h : cameoref01_tail.f k a0 a1 a2 = some r) :
    Calls Tryd.prog 68 #[.string a0, .int .i64 a1, .int .i64 a2] w fun e w' => e = .returned (.int .i64 r) ∧ Drawn0 w w' := by
  have H : (cameoref01_tail.l0 k a0 a1 a2 0 0) = some r := h
  clear h
  have H' := Aside0.mk H
  clear H
  go_enter Tryd.func68, Tryd.ntmps68
  go_wp2
  go_loopg [7, 8] k (fun kq v7 v8 w' => ∃ (x7_1 : Int) (x8_1 : Int), v7 = .int .i64 x7_1 ∧ v8 = .int .i64 x8_1 ∧ Aside0 (cameoref01_tail.l0 kq a0 a1 a2 x7_1 x8_1 = some r) ∧ Aside0 (kq ≤ k) ∧ Drawn0 w w')
  case atStart => exact ⟨(0), (0), (by first | rfl | (simp; done) | (simp [*]; done)), (by first | rfl | (simp; done) | (simp [*]; done)), H', ⟨Nat.le_refl _⟩, by repeat (first | exact Drawn0.refl _ | apply Drawn0.step)⟩
  case round =>
    clear H'
    try clear p2
    obtain ⟨x7_1, x8_1, rfl, rfl, HA, HK1, ⟨m1, rfl⟩⟩ := hrel
    cases gk with
    | zero => exact absurd HA.out (by simp [cameoref01_tail.l0])
    | succ k1 =>
      have H := HA.out
      clear HA
      simp only [cameoref01_tail.l0] at H
      by_cases c4 : x8_1 < a2
      · rw [if_pos c4] at H
        have c4b0 : decide (x8_1 < a2) = true := decide_eq_true c4
        clear c4
        by_cases c5 : (wrap64 (a1 + x8_1)) ≥ (a0.size : Int)
        · rw [if_pos c5] at H
          have c5b0 : decide ((a0.size : Int) ≤ (wrap64 (a1 + x8_1))) = true := decide_eq_true c5
          clear c5
          obtain rfl := Option.some.inj H
          go_wp2
          go_ret
          exact ⟨by first | rfl | (simp; done) | (simp [*]; done), by repeat (first | exact Drawn0.refl _ | apply Drawn0.step)⟩
        · rw [if_neg c5] at H
          have c5b0 : decide ((a0.size : Int) ≤ (wrap64 (a1 + x8_1))) = false := decide_eq_false c5
          clear c5
          obtain ⟨ji6, hji6⟩ : ∃ j_ : Int, (wrap64 (a1 + x8_1)) = j_ := ⟨_, rfl⟩
          replace H : (if 0 ≤ (ji6) then (if (ji6) < (a0.size : Int) then (if (bt a0 (ji6)) < 128 then (some (-1)) else (if (bt a0 (ji6)) > 191 then (some (-1)) else (cameoref01_tail.l0 k1 a0 a1 a2 (wrap64 ((wrap64 ((wrap64 (64 * x7_1)) + (wrap64 (bt a0 (ji6))))) - 128)) (wrap64 (x8_1 + 1))))) else (none)) else (none)) = some r := by first | (rw [hji6] at H; exact H) | (simp only [hji6] at H ⊢; exact H)
          (try rw [hji6] at c5b0)
          have hji6w : (IntKind.i64.wrap (a1 + x8_1)) = ji6 := (i64_w _).trans hji6
          by_cases c7 : 0 ≤ (ji6)
          · rw [if_pos c7] at H
            have c7b0 : decide (0 ≤ (ji6)) = true := decide_eq_true c7
            clear c7
            by_cases c8 : (ji6) < (a0.size : Int)
            · rw [if_pos c8] at H
              have c8b0 : decide ((ji6) < (a0.size : Int)) = true := decide_eq_true c8
              clear c8
              by_cases c10 : (bt a0 (ji6)) < 128
              · rw [if_pos c10] at H
                have c10b0 : decide ((bt a0 (ji6)) < 128) = true := decide_eq_true c10
                clear c10
                obtain rfl := Option.some.inj H
                have p9 : 0 ≤ ((ji6) : Int) := of_decide_eq_true (by first | (with_reducible assumption) | assumption)
                have q9 : (ji6) < (a0.size : Int) := of_decide_eq_true (by first | (with_reducible assumption) | assumption)
                have hx9 := bt_at a0 (ji6)
                replace p9 := eq_true p9
                replace q9 := eq_true q9
                go_wp2
                go_ret
                exact ⟨by first | rfl | (simp; done) | (simp only [← hji6] <;> (first | rfl | simp)) | (simp [*]; done), by repeat (first | exact Drawn0.refl _ | apply Drawn0.step)⟩
              · rw [if_neg c10] at H
                have c10b0 : decide ((bt a0 (ji6)) < 128) = false := decide_eq_false c10
                clear c10
                by_cases c12 : (bt a0 (ji6)) > 191
                · rw [if_pos c12] at H
                  have c12b0 : decide (191 < (bt a0 (ji6))) = true := decide_eq_true c12
                  clear c12
                  obtain rfl := Option.some.inj H
                  have p9 : 0 ≤ ((ji6) : Int) := of_decide_eq_true (by first | (with_reducible assumption) | assumption)
                  have q9 : (ji6) < (a0.size : Int) := of_decide_eq_true (by first | (with_reducible assumption) | assumption)
                  have hx9 := bt_at a0 (ji6)
                  replace p9 := eq_true p9
                  replace q9 := eq_true q9
                  have p11 : 0 ≤ ((ji6) : Int) := of_decide_eq_true (by first | (with_reducible assumption) | assumption)
                  have q11 : (ji6) < (a0.size : Int) := of_decide_eq_true (by first | (with_reducible assumption) | assumption)
                  have hx11 := bt_at a0 (ji6)
                  replace p11 := eq_true p11
                  replace q11 := eq_true q11
                  go_wp2
                  go_ret
                  exact ⟨by first | rfl | (simp; done) | (simp only [← hji6] <;> (first | rfl | simp)) | (simp [*]; done), by repeat (first | exact Drawn0.refl _ | apply Drawn0.step)⟩
                · rw [if_neg c12] at H
                  have c12b0 : decide (191 < (bt a0 (ji6))) = false := decide_eq_false c12
                  clear c12
                  have H' := Aside0.mk H
                  clear H
                  have p9 : 0 ≤ ((ji6) : Int) := of_decide_eq_true (by first | (with_reducible assumption) | assumption)
                  have q9 : (ji6) < (a0.size : Int) := of_decide_eq_true (by first | (with_reducible assumption) | assumption)
                  have hx9 := bt_at a0 (ji6)
                  replace p9 := eq_true p9
                  replace q9 := eq_true q9
                  have p11 : 0 ≤ ((ji6) : Int) := of_decide_eq_true (by first | (with_reducible assumption) | assumption)
                  have q11 : (ji6) < (a0.size : Int) := of_decide_eq_true (by first | (with_reducible assumption) | assumption)
                  have hx11 := bt_at a0 (ji6)
                  replace p11 := eq_true p11
                  replace q11 := eq_true q11
                  have p13 : 0 ≤ ((ji6) : Int) := of_decide_eq_true (by first | (with_reducible assumption) | assumption)
                  have q13 : (ji6) < (a0.size : Int) := of_decide_eq_true (by first | (with_reducible assumption) | assumption)
                  have hx13 := bt_at a0 (ji6)
                  replace p13 := eq_true p13
                  replace q13 := eq_true q13
                  go_wp2
                  go_roundg k1
                  case measure => have := HK1.out; omega
                  case rel => exact ⟨(wrap64 ((wrap64 ((wrap64 (64 * x7_1)) + (wrap64 (bt a0 (ji6))))) - 128)), (wrap64 (x8_1 + 1)), (by first | rfl | (simp; done) | (simp only [← hji6] <;> (first | rfl | simp)) | (simp [*]; done)), (by first | rfl | (simp; done) | (simp [*]; done)), H', ⟨by have := HK1.out; omega⟩, by repeat (first | exact Drawn0.refl _ | apply Drawn0.step)⟩
            · rw [if_neg c8] at H
              exact absurd H (by simp)
          · rw [if_neg c7] at H
            exact absurd H (by simp)
      · rw [if_neg c4] at H
        have c4b0 : decide (x8_1 < a2) = false := decide_eq_false c4
        clear c4
        obtain rfl := Option.some.inj H
        go_wp2
        go_ret
        exact ⟨by first | rfl | (simp; done) | (simp [*]; done), by repeat (first | exact Drawn0.refl _ | apply Drawn0.step)⟩
/-! ### cameoref01_read: function 58 -/
mutual
def cameoref01_read.l0 : Nat → ByteArray → List Int → Int → Option (List Int × Bool)
  | 0, _, _, _ => none
  | k + 1, x0, x4, x5 => if x5 < (x0.size : Int) then (if 0 ≤ x5 then (if (wrap64 (bt x0 x5)) < 128 then (cameoref01_read.j3 k x0 x4 x5 0 (wrap64 (bt x0 x5))) else (if (wrap64 (bt x0 x5)) ≥ 192 then (cameoref01_read.j1 k x0 x4 x5 (wrap64 (bt x0 x5)) (decide ((wrap64 (bt x0 x5)) < 224))) else (cameoref01_read.j1 k x0 x4 x5 (wrap64 (bt x0 x5)) false))) else (none)) else (some (x4, true))
def cameoref01_read.j3 : Nat → ByteArray → List Int → Int → Int → Int → Option (List Int × Bool)
  | 0, _, _, _, _, _ => none
  | k + 1, x0, x4, x5, x7, x8 => (cameoref01_tail.f k x0 (wrap64 (x5 + 1)) x7).bind fun t194 => (if t194 < 0 then (some (([] : List Int), false)) else (cameoref01_read.l1 k x0 x4 x5 x7 x8 t194 0))
def cameoref01_read.l1 : Nat → ByteArray → List Int → Int → Int → Int → Int → Int → Option (List Int × Bool)
  | 0, _, _, _, _, _, _, _ => none
  | k + 1, x0, x4, x5, x7, x8, x9, x10 => if x10 < x7 then (cameoref01_read.l1 k x0 x4 x5 x7 (wrap64 (x8 * 64)) x9 (wrap64 (x10 + 1))) else (if (wrap64 (x9 + x8)) > 1114111 then (some (([] : List Int), false)) else (if (wrap64 (x9 + x8)) ≥ 65536 then ((some (([IntKind.u16.wrap (wrap64 (55296 + (wrap64 (Int.tdiv (wrap64 ((wrap64 (x9 + x8)) - 65536)) 1024)))), IntKind.u16.wrap (wrap64 (56320 + (Int.tmod (wrap64 ((wrap64 (x9 + x8)) - 65536)) 1024)))] : List Int) : List Int)).bind fun y195 => (if x4.length + y195.length < 70368744177664 then (cameoref01_read.l0 k x0 (x4 ++ y195) (wrap64 (x5 + (wrap64 (1 + x7))))) else (none))) else (if x4.length < 70368744177664 then (cameoref01_read.l0 k x0 (x4 ++ [IntKind.u16.wrap (wrap64 (x9 + x8))]) (wrap64 (x5 + (wrap64 (1 + x7))))) else (none))))
def cameoref01_read.j1 : Nat → ByteArray → List Int → Int → Int → Bool → Option (List Int × Bool)
  | 0, _, _, _, _, _ => none
  | k + 1, x0, x4, x5, x6, x23 => if x23 = true then (cameoref01_read.j3 k x0 x4 x5 1 (wrap64 (x6 - 192))) else (if x6 ≥ 224 then (cameoref01_read.j2 k x0 x4 x5 x6 (decide (x6 < 240))) else (cameoref01_read.j2 k x0 x4 x5 x6 false))
def cameoref01_read.j2 : Nat → ByteArray → List Int → Int → Int → Bool → Option (List Int × Bool)
  | 0, _, _, _, _, _ => none
  | k + 1, x0, x4, x5, x6, x32 => if x32 = true then (cameoref01_read.j3 k x0 x4 x5 2 (wrap64 (x6 - 224))) else (if x6 ≥ 240 then (if x6 < 248 then (cameoref01_read.j3 k x0 x4 x5 3 (wrap64 (x6 - 240))) else (some (([] : List Int), false))) else (some (([] : List Int), false)))
end
def cameoref01_read.f (k : Nat) (a0 : ByteArray) : Option (List Int × Bool) := cameoref01_read.l0 k a0 ([] : List Int) 0
set_option maxHeartbeats 8000000 in
set_option maxRecDepth 100000 in
theorem cameoref01_read.calls (k : Nat) (a0 : ByteArray) (r1 : List Int) (r2 : Bool) (w : World) (h : cameoref01_read.f k a0 = some (r1, r2)) :
    Calls Tryd.prog 58 #[.string a0] w fun e w' => ∃ v0_ : Value, e = .returned (.tuple #[v0_, .bool r2]) ∧ Kd.R (Kd.int .u16) 118 w' w.heap.size (fun _ => True) v0_ r1 ∧ Below w.heap.size w w' := by
  have HB := Aside0.mk (Below.refl w.heap.size w)
  have H : (cameoref01_read.l0 k a0 ([] : List Int) 0) = some (r1, r2) := h
  clear h
  have H' := Aside0.mk H
  clear H
  go_enter Tryd.func58, Tryd.ntmps58
  go_wp2
  go_loopg [4, 5] k (fun kq v4 v5 w' => ∃ (x4_1 : List Int) (x5_1 : Int), v5 = .int .i64 x5_1 ∧ Aside0 (cameoref01_read.l0 kq a0 x4_1 x5_1 = some (r1, r2)) ∧ Aside0 (kq ≤ k) ∧ Aside0 (Kd.R (Kd.int .u16) 118 w' w.heap.size (fun _ => True) v4 x4_1) ∧ Aside0 (Below w.heap.size w w'))
  case atStart => exact ⟨(([] : List Int)), (0), (by first | rfl | (simp; done) | (simp [*]; done)), H', ⟨Nat.le_refl _⟩, ⟨by first | exact Kd.R_nil _ _ _ _ _ | exact Kd.N_nil _ _ _ _ _ | exact Kd.V_nil _ _ _ _ _ | exact Kd.Q_nil _ _ _ _ _ | exact Kd.S_nil _ _ _ _ _⟩, ⟨by repeat (first | (with_reducible first | exact HB.out | apply below_alloc | apply pw_below_drewN | apply below_drew1) | exact HB.out)⟩⟩
  case round =>
    clear H'
    obtain ⟨x4_1, x5_1, rfl, HA, HK1, HO_4, HB⟩ := hrel
    cases gk with
    | zero => exact absurd HA.out (by simp [cameoref01_read.l0])
    | succ k1 =>
      have H := HA.out
      clear HA
      simp only [cameoref01_read.l0] at H
      by_cases c2 : x5_1 < (a0.size : Int)
      · rw [if_pos c2] at H
        have c2b0 : decide (x5_1 < (a0.size : Int)) = true := decide_eq_true c2
        clear c2
        by_cases c3 : 0 ≤ x5_1
        · rw [if_pos c3] at H
          have c3b0 : decide (0 ≤ x5_1) = true := decide_eq_true c3
          clear c3
          have HC5 := Aside0.mk H
          clear H
          have p4 : 0 ≤ (x5_1 : Int) := of_decide_eq_true (by first | (with_reducible assumption) | assumption)
          have q4 : x5_1 < (a0.size : Int) := of_decide_eq_true (by first | (with_reducible assumption) | assumption)
          have hx4 := bt_at a0 x5_1
          replace p4 := eq_true p4
          replace q4 := eq_true q4
          go_upto_block 2 with (fail)
          go_cut [7, 8] (fun v7 v8 wc => ∃ (kq : Nat) (x7_4 : Int) (x8_4 : Int), v7 = .int .i64 x7_4 ∧ v8 = .int .i64 x8_4 ∧ Aside0 (cameoref01_read.j3 kq a0 x4_1 x5_1 x7_4 x8_4 = some (r1, r2)) ∧ Aside0 (kq ≤ k1) ∧ Aside0 (Kd.R (Kd.int .u16) 118 wc w.heap.size (fun _ => True) u4 x4_1) ∧ Aside0 (Below w.heap.size w wc))
          case first =>
            have H := HC5.out
            clear HC5
            by_cases c6 : (wrap64 (bt a0 x5_1)) < 128
            · rw [if_pos c6] at H
              have c6b0 : decide ((wrap64 (bt a0 x5_1)) < 128) = true := decide_eq_true c6
              clear c6
              (first | rw [c6b0] | (simp only [i64_w, i32_w]; rw [c6b0]) | rw [c6b2] | skip)
              have H' := Aside0.mk H
              clear H
              go_wp2
              go_meet
              case rel => exact ⟨_, (0), (wrap64 (bt a0 x5_1)), (by first | rfl | (simp; done) | (simp [*]; done)), (by first | rfl | (simp; done) | (simp [*]; done)), H', ⟨by have := HK1.out; first | omega | exact Nat.le_refl _⟩, ⟨by (with_reducible repeat (first | apply Kd.R_alloc | apply Kd.R_drewN | apply Kd.R_drew)); exact HO_4.out⟩, ⟨by repeat (first | (with_reducible first | exact HB.out | apply below_alloc | apply pw_below_drewN | apply below_drew1) | exact HB.out)⟩⟩
            · rw [if_neg c6] at H
              have c6b0 : decide ((wrap64 (bt a0 x5_1)) < 128) = false := decide_eq_false c6
              clear c6
              (first | rw [c6b0] | (simp only [i64_w, i32_w]; rw [c6b0]) | rw [c6b2] | skip)
              have HC7 := Aside0.mk H
              clear H
              go_upto_region 9 with (fail)
              go_cut [23] (fun v23 wc => ∃ (kq : Nat) (x23_6 : Bool), v23 = .bool x23_6 ∧ Aside0 (cameoref01_read.j1 kq a0 x4_1 x5_1 (wrap64 (bt a0 x5_1)) x23_6 = some (r1, r2)) ∧ Aside0 (kq ≤ k1) ∧ Aside0 (Kd.R (Kd.int .u16) 118 wc w.heap.size (fun _ => True) u4 x4_1) ∧ Aside0 (Below w.heap.size w wc))
              case first =>
                have H := HC7.out
                clear HC7
                by_cases c8 : (wrap64 (bt a0 x5_1)) ≥ 192
                · rw [if_pos c8] at H
                  have c8b0 : decide (192 ≤ (wrap64 (bt a0 x5_1))) = true := decide_eq_true c8
                  clear c8
                  (first | rw [c8b0] | (simp only [i64_w, i32_w]; rw [c8b0]) | rw [c8b2] | skip)
                  have H' := Aside0.mk H
                  clear H
                  go_wp2
                  go_meet
                  case rel => exact ⟨_, (decide ((wrap64 (bt a0 x5_1)) < 224)), (by first | rfl | (simp; done) | (simp [*]; done)), H', ⟨by have := HK1.out; first | omega | exact Nat.le_refl _⟩, ⟨by (with_reducible repeat (first | apply Kd.R_alloc | apply Kd.R_drewN | apply Kd.R_drew)); exact HO_4.out⟩, ⟨by repeat (first | (with_reducible first | exact HB.out | apply below_alloc | apply pw_below_drewN | apply below_drew1) | exact HB.out)⟩⟩
                · rw [if_neg c8] at H
                  have c8b0 : decide (192 ≤ (wrap64 (bt a0 x5_1))) = false := decide_eq_false c8
                  clear c8
                  (first | rw [c8b0] | (simp only [i64_w, i32_w]; rw [c8b0]) | rw [c8b2] | skip)
                  have H' := Aside0.mk H
                  clear H
                  go_wp2
                  go_meet
                  case rel => exact ⟨_, (false), (by first | rfl | (simp; done) | (simp [*]; done)), H', ⟨by have := HK1.out; first | omega | exact Nat.le_refl _⟩, ⟨by (with_reducible repeat (first | apply Kd.R_alloc | apply Kd.R_drewN | apply Kd.R_drew)); exact HO_4.out⟩, ⟨by repeat (first | (with_reducible first | exact HB.out | apply below_alloc | apply pw_below_drewN | apply below_drew1) | exact HB.out)⟩⟩
              case rest =>
                clear HC7
                try clear c2
                try clear c2b0
                try clear p2
                try clear c3
                try clear c3b0
                try clear p4
                try clear q4
                try clear hx4
                try clear c5
                try clear c6
                try clear c6b0
                try clear c6b2
                try clear p6
                try clear c8
                try clear c8b0
                try clear c8b2
                try clear p4
                try clear q4
                obtain ⟨kq, x23_6, rfl, HA, HJ6, HO_4, HB⟩ := hcut
                cases kq with
                | zero => exact absurd HA.out (by simp [cameoref01_read.j1])
                | succ kj6 =>
                  have H := HA.out
                  clear HA
                  simp only [cameoref01_read.j1] at H
                  by_cases c9 : x23_6 = true
                  · subst c9
                    have H1 : (cameoref01_read.j3 kj6 a0 x4_1 x5_1 1 (wrap64 ((wrap64 (bt a0 x5_1)) - 192))) = some (r1, r2) := by rw [if_pos rfl] at H; exact H
                    clear H
                    have H := H1
                    clear H1
                    have H' := Aside0.mk H
                    clear H
                    go_wp2
                    go_meet
                    case rel => exact ⟨_, (1), (wrap64 ((wrap64 (bt a0 x5_1)) - 192)), (by first | rfl | (simp; done) | (simp [*]; done)), (by first | rfl | (simp; done) | (simp [*]; done)), H', ⟨by have := HK1.out; have := HJ6.out; first | omega | exact Nat.le_refl _⟩, ⟨by (with_reducible repeat (first | apply Kd.R_alloc | apply Kd.R_drewN | apply Kd.R_drew)); exact HO_4.out⟩, ⟨by repeat (first | (with_reducible first | exact HB.out | apply below_alloc | apply pw_below_drewN | apply below_drew1) | exact HB.out)⟩⟩
                  · replace c9 := Bool.eq_false_iff.mpr c9
                    subst c9
                    have H1 : (if (wrap64 (bt a0 x5_1)) ≥ 224 then (cameoref01_read.j2 kj6 a0 x4_1 x5_1 (wrap64 (bt a0 x5_1)) (decide ((wrap64 (bt a0 x5_1)) < 240))) else (cameoref01_read.j2 kj6 a0 x4_1 x5_1 (wrap64 (bt a0 x5_1)) false)) = some (r1, r2) := by rw [if_neg (show ¬ (false = true) by decide)] at H; exact H
                    clear H
                    have H := H1
                    clear H1
                    have HC10 := Aside0.mk H
                    clear H
                    go_upto_region 12 with (fail)
                    go_cut [32] (fun v32 wc => ∃ (kq : Nat) (x32_9 : Bool), v32 = .bool x32_9 ∧ Aside0 (cameoref01_read.j2 kq a0 x4_1 x5_1 (wrap64 (bt a0 x5_1)) x32_9 = some (r1, r2)) ∧ Aside0 (kq ≤ kj6) ∧ Aside0 (Kd.R (Kd.int .u16) 118 wc w.heap.size (fun _ => True) u4 x4_1) ∧ Aside0 (Below w.heap.size w wc))
                    case first =>
                      have H := HC10.out
                      clear HC10
                      by_cases c11 : (wrap64 (bt a0 x5_1)) ≥ 224
                      · rw [if_pos c11] at H
                        have c11b0 : decide (224 ≤ (wrap64 (bt a0 x5_1))) = true := decide_eq_true c11
                        clear c11
                        (first | rw [c11b0] | (simp only [i64_w, i32_w]; rw [c11b0]) | rw [c11b2] | skip)
                        have H' := Aside0.mk H
                        clear H
                        go_wp2
                        go_meet
                        case rel => exact ⟨_, (decide ((wrap64 (bt a0 x5_1)) < 240)), (by first | rfl | (simp; done) | (simp [*]; done)), H', ⟨by have := HK1.out; have := HJ6.out; first | omega | exact Nat.le_refl _⟩, ⟨by (with_reducible repeat (first | apply Kd.R_alloc | apply Kd.R_drewN | apply Kd.R_drew)); exact HO_4.out⟩, ⟨by repeat (first | (with_reducible first | exact HB.out | apply below_alloc | apply pw_below_drewN | apply below_drew1) | exact HB.out)⟩⟩
                      · rw [if_neg c11] at H
                        have c11b0 : decide (224 ≤ (wrap64 (bt a0 x5_1))) = false := decide_eq_false c11
                        clear c11
                        (first | rw [c11b0] | (simp only [i64_w, i32_w]; rw [c11b0]) | rw [c11b2] | skip)
                        have H' := Aside0.mk H
                        clear H
                        go_wp2
                        go_meet
                        case rel => exact ⟨_, (false), (by first | rfl | (simp; done) | (simp [*]; done)), H', ⟨by have := HK1.out; have := HJ6.out; first | omega | exact Nat.le_refl _⟩, ⟨by (with_reducible repeat (first | apply Kd.R_alloc | apply Kd.R_drewN | apply Kd.R_drew)); exact HO_4.out⟩, ⟨by repeat (first | (with_reducible first | exact HB.out | apply below_alloc | apply pw_below_drewN | apply below_drew1) | exact HB.out)⟩⟩
                    case rest =>
                      clear HC10
                      try clear c1
                      try clear c2
                      try clear c2b0
                      try clear p2
                      try clear c3
                      try clear c3b0
                      try clear p4
                      try clear q4
                      try clear hx4
                      try clear c5
                      try clear c6
                      try clear c6b0
                      try clear c6b2
                      try clear p6
                      try clear c8
                      try clear c8b0
                      try clear c8b2
                      try clear c9
                      try clear c11
                      try clear c11b0
                      try clear c11b2
                      try clear p2
                      try clear p4
                      try clear p6
                      try clear q4
                      obtain ⟨kq, x32_9, rfl, HA, HJ9, HO_4, HB⟩ := hcut
                      cases kq with
                      | zero => exact absurd HA.out (by simp [cameoref01_read.j2])
                      | succ kj9 =>
                        have H := HA.out
                        clear HA
                        simp only [cameoref01_read.j2] at H
                        by_cases c12 : x32_9 = true
                        · subst c12
                          have H1 : (cameoref01_read.j3 kj9 a0 x4_1 x5_1 2 (wrap64 ((wrap64 (bt a0 x5_1)) - 224))) = some (r1, r2) := by rw [if_pos rfl] at H; exact H
                          clear H
                          have H := H1
                          clear H1
                          have H' := Aside0.mk H
                          clear H
                          go_wp2
                          go_meet
                          case rel => exact ⟨_, (2), (wrap64 ((wrap64 (bt a0 x5_1)) - 224)), (by first | rfl | (simp; done) | (simp [*]; done)), (by first | rfl | (simp; done) | (simp [*]; done)), H', ⟨by have := HK1.out; have := HJ6.out; have := HJ9.out; first | omega | exact Nat.le_refl _⟩, ⟨by (with_reducible repeat (first | apply Kd.R_alloc | apply Kd.R_drewN | apply Kd.R_drew)); exact HO_4.out⟩, ⟨by repeat (first | (with_reducible first | exact HB.out | apply below_alloc | apply pw_below_drewN | apply below_drew1) | exact HB.out)⟩⟩
                        · replace c12 := Bool.eq_false_iff.mpr c12
                          subst c12
                          have H1 : (if (wrap64 (bt a0 x5_1)) ≥ 240 then (if (wrap64 (bt a0 x5_1)) < 248 then (cameoref01_read.j3 kj9 a0 x4_1 x5_1 3 (wrap64 ((wrap64 (bt a0 x5_1)) - 240))) else (some (([] : List Int), false))) else (some (([] : List Int), false))) = some (r1, r2) := by rw [if_neg (show ¬ (false = true) by decide)] at H; exact H
                          clear H
                          have H := H1
                          clear H1
                          by_cases c13 : (wrap64 (bt a0 x5_1)) ≥ 240
                          · rw [if_pos c13] at H
                            have c13b0 : decide (240 ≤ (wrap64 (bt a0 x5_1))) = true := decide_eq_true c13
                            clear c13
                            by_cases c14 : (wrap64 (bt a0 x5_1)) < 248
                            · rw [if_pos c14] at H
                              have c14b0 : decide ((wrap64 (bt a0 x5_1)) < 248) = true := decide_eq_true c14
                              clear c14
                              have H' := Aside0.mk H
                              clear H
                              go_wp2
                              go_meet
                              case rel => exact ⟨_, (3), (wrap64 ((wrap64 (bt a0 x5_1)) - 240)), (by first | rfl | (simp; done) | (simp [*]; done)), (by first | rfl | (simp; done) | (simp [*]; done)), H', ⟨by have := HK1.out; have := HJ6.out; have := HJ9.out; first | omega | exact Nat.le_refl _⟩, ⟨by (with_reducible repeat (first | apply Kd.R_alloc | apply Kd.R_drewN | apply Kd.R_drew)); exact HO_4.out⟩, ⟨by repeat (first | (with_reducible first | exact HB.out | apply below_alloc | apply pw_below_drewN | apply below_drew1) | exact HB.out)⟩⟩
                            · rw [if_neg c14] at H
                              have c14b0 : decide ((wrap64 (bt a0 x5_1)) < 248) = false := decide_eq_false c14
                              clear c14
                              simp only [Option.some.injEq, Prod.mk.injEq] at H
                              obtain ⟨rfl, rfl⟩ := H
                              go_wp2
                              go_ret2
                              exact ⟨_, by first | rfl | (simp [errW_none, errW_some] <;> rfl) | (simp [*, errW_none, errW_some] <;> rfl), by first | exact Kd.R_nil _ _ _ _ _ | exact Kd.N_nil _ _ _ _ _ | exact Kd.V_nil _ _ _ _ _ | exact Kd.Q_nil _ _ _ _ _ | exact Kd.S_nil _ _ _ _ _, by repeat (first | (with_reducible first | exact HB.out | apply below_alloc | apply pw_below_drewN | apply below_drew1) | exact HB.out)⟩
                          · rw [if_neg c13] at H
                            have c13b0 : decide (240 ≤ (wrap64 (bt a0 x5_1))) = false := decide_eq_false c13
                            clear c13
                            simp only [Option.some.injEq, Prod.mk.injEq] at H
                            obtain ⟨rfl, rfl⟩ := H
                            go_wp2
                            go_ret2
                            exact ⟨_, by first | rfl | (simp [errW_none, errW_some] <;> rfl) | (simp [*, errW_none, errW_some] <;> rfl), by first | exact Kd.R_nil _ _ _ _ _ | exact Kd.N_nil _ _ _ _ _ | exact Kd.V_nil _ _ _ _ _ | exact Kd.Q_nil _ _ _ _ _ | exact Kd.S_nil _ _ _ _ _, by repeat (first | (with_reducible first | exact HB.out | apply below_alloc | apply pw_below_drewN | apply below_drew1) | exact HB.out)⟩
          case rest =>
            clear HC5
            try clear c1
            try clear c2
            try clear c2b0
            try clear p2
            try clear c3
            try clear c3b0
            try clear p4
            try clear q4
            try clear hx4
            try clear c5
            try clear c6
            try clear c6b0
            try clear c6b2
            try clear p6
            try clear c8
            try clear c8b0
            try clear c8b2
            try clear c9
            try clear c11
            try clear c11b0
            try clear c11b2
            try clear c12
            try clear c13
            try clear c13b0
            try clear c14
            try clear c14b0
            try clear p2
            try clear p4
            try clear p6
            try clear q4
            obtain ⟨kq, x7_4, x8_4, rfl, rfl, HA, HJ4, HO_4, HB⟩ := hcut
            cases kq with
            | zero => exact absurd HA.out (by simp [cameoref01_read.j3])
            | succ kj4 =>
              have H := HA.out
              clear HA
              simp only [cameoref01_read.j3] at H
              replace H := Option.bind_eq_some_iff.mp H
              obtain ⟨t194, A150, H⟩ := H
              replace H : (if t194 < 0 then (some (([] : List Int), false)) else (cameoref01_read.l1 kj4 a0 x4_1 x5_1 x7_4 x8_4 t194 0)) = some (r1, r2) := H
              have A15 := Aside0.mk A150
              clear A150
              by_cases c16 : t194 < 0
              · rw [if_pos c16] at H
                have c16b0 : decide (t194 < 0) = true := decide_eq_true c16
                clear c16
                simp only [Option.some.injEq, Prod.mk.injEq] at H
                obtain ⟨rfl, rfl⟩ := H
                go_wp2_with (first | ((with_reducible refine gate_callee (f := 68) rfl ?_); refine goesL_ (some 54) rfl rfl Tryd.func68 (by kernel_rfl) rfl #[.string a0, .int .i64 (wrap64 (x5_1 + 1)), .int .i64 x7_4] rfl (by (try simp only [List.map_toArray, List.map_cons, List.map_nil]); first | done | rfl | (simp only [List.length_drop, List.length_take]; rfl)) ?_; (with_reducible refine (cameoref01_tail.calls kj4 a0 (wrap64 (x5_1 + 1)) x7_4 t194 _ A15.out).mono ?_); rintro e w' ⟨rfl, ⟨nd, rfl⟩⟩; refine ⟨_, rfl, ?_⟩))
                go_ret2
                exact ⟨_, by first | rfl | (simp [errW_none, errW_some] <;> rfl) | (simp [*, errW_none, errW_some] <;> rfl), by first | exact Kd.R_nil _ _ _ _ _ | exact Kd.N_nil _ _ _ _ _ | exact Kd.V_nil _ _ _ _ _ | exact Kd.Q_nil _ _ _ _ _ | exact Kd.S_nil _ _ _ _ _, by repeat (first | (with_reducible first | exact HB.out | apply below_alloc | apply pw_below_drewN | apply below_drew1) | exact HB.out)⟩
              · rw [if_neg c16] at H
                have c16b0 : decide (t194 < 0) = false := decide_eq_false c16
                clear c16
                have H' := Aside0.mk H
                clear H
                go_wp2_with (first | ((with_reducible refine gate_callee (f := 68) rfl ?_); refine goesL_ (some 54) rfl rfl Tryd.func68 (by kernel_rfl) rfl #[.string a0, .int .i64 (wrap64 (x5_1 + 1)), .int .i64 x7_4] rfl (by (try simp only [List.map_toArray, List.map_cons, List.map_nil]); first | done | rfl | (simp only [List.length_drop, List.length_take]; rfl)) ?_; (with_reducible refine (cameoref01_tail.calls kj4 a0 (wrap64 (x5_1 + 1)) x7_4 t194 _ A15.out).mono ?_); rintro e w' ⟨rfl, ⟨nd, rfl⟩⟩; refine ⟨_, rfl, ?_⟩))
                go_loopg [8, 10] kj4 (fun kq v8 v10 w' => ∃ (x8_3 : Int) (x10_3 : Int), v8 = .int .i64 x8_3 ∧ v10 = .int .i64 x10_3 ∧ Aside0 (cameoref01_read.l1 kq a0 x4_1 x5_1 x7_4 x8_3 t194 x10_3 = some (r1, r2)) ∧ Aside0 (kq ≤ kj4) ∧ Aside0 (Kd.R (Kd.int .u16) 118 w' w.heap.size (fun _ => True) u4 x4_1) ∧ Aside0 (Below w.heap.size w w'))
                case atStart => exact ⟨(x8_4), (0), (by first | rfl | (simp; done) | (simp [*]; done)), (by first | rfl | (simp; done) | (simp [*]; done)), H', ⟨Nat.le_refl _⟩, ⟨by (with_reducible repeat (first | apply Kd.R_alloc | apply Kd.R_drewN | apply Kd.R_drew)); exact HO_4.out⟩, ⟨by repeat (first | (with_reducible first | exact HB.out | apply below_alloc | apply pw_below_drewN | apply below_drew1) | exact HB.out)⟩⟩
                case round =>
                  clear H'
                  try clear c1
                  try clear c2
                  try clear c2b0
                  try clear p2
                  try clear c3
                  try clear c3b0
                  try clear p4
                  try clear q4
                  try clear hx4
                  try clear c5
                  try clear c6
                  try clear c6b0
                  try clear c6b2
                  try clear p6
                  try clear c8
                  try clear c8b0
                  try clear c8b2
                  try clear c9
                  try clear c11
                  try clear c11b0
                  try clear c11b2
                  try clear c12
                  try clear c13
                  try clear c13b0
                  try clear c14
                  try clear c14b0
                  try clear c16
                  try clear c16b0
                  try clear p2
                  try clear p4
                  try clear p6
                  try clear q4
                  obtain ⟨x8_3, x10_3, rfl, rfl, HA, HK3, HO_4, HB⟩ := hrel
                  cases gk with
                  | zero => exact absurd HA.out (by simp [cameoref01_read.l1])
                  | succ k3 =>
                    have H := HA.out
                    clear HA
                    simp only [cameoref01_read.l1] at H
                    by_cases c17 : x10_3 < x7_4
                    · rw [if_pos c17] at H
                      have c17b0 : decide (x10_3 < x7_4) = true := decide_eq_true c17
                      clear c17
                      have H' := Aside0.mk H
                      clear H
                      go_wp2
                      go_roundg k3
                      case measure => have := HK1.out; have := HJ4.out; have := HK3.out; omega
                      case rel => exact ⟨(wrap64 (x8_3 * 64)), (wrap64 (x10_3 + 1)), (by first | rfl | (simp; done) | (simp [*]; done)), (by first | rfl | (simp; done) | (simp [*]; done)), H', ⟨by have := HK1.out; have := HJ4.out; have := HK3.out; omega⟩, ⟨by (with_reducible repeat (first | apply Kd.R_alloc | apply Kd.R_drewN | apply Kd.R_drew)); exact HO_4.out⟩, ⟨by repeat (first | (with_reducible first | exact HB.out | apply below_alloc | apply pw_below_drewN | apply below_drew1) | exact HB.out)⟩⟩
                    · rw [if_neg c17] at H
                      have c17b0 : decide (x10_3 < x7_4) = false := decide_eq_false c17
                      clear c17
                      by_cases c18 : (wrap64 (t194 + x8_3)) > 1114111
                      · rw [if_pos c18] at H
                        have c18b0 : decide (1114111 < (wrap64 (t194 + x8_3))) = true := decide_eq_true c18
                        clear c18
                        simp only [Option.some.injEq, Prod.mk.injEq] at H
                        obtain ⟨rfl, rfl⟩ := H
                        go_wp2
                        go_ret2
                        exact ⟨_, by first | rfl | (simp [errW_none, errW_some] <;> rfl) | (simp [*, errW_none, errW_some] <;> rfl), by first | exact Kd.R_nil _ _ _ _ _ | exact Kd.N_nil _ _ _ _ _ | exact Kd.V_nil _ _ _ _ _ | exact Kd.Q_nil _ _ _ _ _ | exact Kd.S_nil _ _ _ _ _, by repeat (first | (with_reducible first | exact HB.out | apply below_alloc | apply pw_below_drewN | apply below_drew1) | exact HB.out)⟩
                      · rw [if_neg c18] at H
                        have c18b0 : decide (1114111 < (wrap64 (t194 + x8_3))) = false := decide_eq_false c18
                        clear c18
                        by_cases c19 : (wrap64 (t194 + x8_3)) ≥ 65536
                        · rw [if_pos c19] at H
                          have c19b0 : decide (65536 ≤ (wrap64 (t194 + x8_3))) = true := decide_eq_true c19
                          clear c19
                          obtain ⟨y195, hy195⟩ : ∃ y_ : List Int, y_ = (([IntKind.u16.wrap (wrap64 (55296 + (wrap64 (Int.tdiv (wrap64 ((wrap64 (t194 + x8_3)) - 65536)) 1024)))), IntKind.u16.wrap (wrap64 (56320 + (Int.tmod (wrap64 ((wrap64 (t194 + x8_3)) - 65536)) 1024)))] : List Int)) := ⟨_, rfl⟩
                          replace H : (if x4_1.length + y195.length < 70368744177664 then (cameoref01_read.l0 k3 a0 (x4_1 ++ y195) (wrap64 (x5_1 + (wrap64 (1 + x7_4))))) else (none)) = some (r1, r2) := by first | (rw [hy195]; with_reducible exact H) | (have H2_ := (Option.bind_some _ _).symm.trans H; rw [hy195]; with_reducible exact H2_) | (have H2_ := (Option.bind_some _ _).symm.trans H; with_reducible exact H2_) | with_reducible exact H | (rw [hy195]; exact H) | exact H
                          have Ny195 := Aside0.mk hy195
                          clear hy195
                          by_cases c20 : x4_1.length + y195.length < 70368744177664
                          · rw [if_pos c20] at H
                            have LMc20 := Aside0.mk c20
                            clear c20
                            obtain ⟨y198, hy198⟩ : ∃ y_ : List Int, y_ = (x4_1 ++ y195) := ⟨_, rfl⟩
                            replace H : (cameoref01_read.l0 k3 a0 y198 (wrap64 (x5_1 + (wrap64 (1 + x7_4))))) = some (r1, r2) := by first | (rw [hy198]; with_reducible exact H) | (have H2_ := (Option.bind_some _ _).symm.trans H; rw [hy198]; with_reducible exact H2_) | (have H2_ := (Option.bind_some _ _).symm.trans H; with_reducible exact H2_) | with_reducible exact H | (rw [hy198]; exact H) | exact H
                            have Ny198 := Aside0.mk hy198
                            clear hy198
                            have H' := Aside0.mk H
                            clear H
                            go_wp2_with (first | ((with_reducible refine gate_dst (N := 82) rfl ?_); refine Kd.R_lit (Kd.int .u16) _ 118 ?hg (N := 82) ?hd (xs := ([IntKind.u16.wrap (wrap64 (55296 + (wrap64 (Int.tdiv (wrap64 ((wrap64 (t194 + x8_3)) - 65536)) 1024)))), IntKind.u16.wrap (wrap64 (56320 + (Int.tmod (wrap64 ((wrap64 (t194 + x8_3)) - 65536)) 1024)))] : List Int)) (inner := [.int .u16 (IntKind.u16.wrap (wrap64 (55296 + (wrap64 (Int.tdiv (wrap64 ((wrap64 (t194 + x8_3)) - 65536)) 1024))))), .int .u16 (IntKind.u16.wrap (wrap64 (56320 + (Int.tmod (wrap64 ((wrap64 (t194 + x8_3)) - 65536)) 1024))))]) (ok := fun _ => True) (okp := fun _ => True) ?hr ?hp (fun _ hk => hk) trivial (Below.refl _ _) (Nat.le_refl _) (by simp) ?_; (case hd => rfl); (case hg => rfl); (case hr => first | (go_simp; done) | (go_simp; rfl)); (case hp => exact (Reps.one (show Kd.M (Kd.int .u16) _ _ _ (IntKind.u16.wrap (wrap64 (55296 + (wrap64 (Int.tdiv (wrap64 ((wrap64 (t194 + x8_3)) - 65536)) 1024))))) [.int .u16 (IntKind.u16.wrap (wrap64 (55296 + (wrap64 (Int.tdiv (wrap64 ((wrap64 (t194 + x8_3)) - 65536)) 1024)))))] from rfl) (Reps.one (show Kd.M (Kd.int .u16) _ _ _ (IntKind.u16.wrap (wrap64 (56320 + (Int.tmod (wrap64 ((wrap64 (t194 + x8_3)) - 65536)) 1024)))) [.int .u16 (IntKind.u16.wrap (wrap64 (56320 + (Int.tmod (wrap64 ((wrap64 (t194 + x8_3)) - 65536)) 1024))))] from rfl) (Reps.none _ _)))); intro v196 w21 ho22 hb hg_ hnew_; clear hg_ hnew_; (first | rw [← Ny195.out] at ho22 | (simp only [Int.reduceToNat] at ho22; rw [← Ny195.out] at ho22)); have n0_ := Aside0.mk (Kd.R_elder' (by (with_reducible repeat (first | apply Kd.R_alloc | apply Kd.R_drewN | apply Kd.R_drew)); exact HO_4.out) (Kd.R_base ho22) hb); have n1_ := Aside0.mk (Kd.R_lower (Kd.R_new' ho22 (Kd.R_lt (by (with_reducible repeat (first | apply Kd.R_alloc | apply Kd.R_drewN | apply Kd.R_drew)); exact HO_4.out))) (below_size (by repeat (first | (with_reducible first | exact HB.out | apply below_alloc | apply pw_below_drewN | apply below_drew1) | exact HB.out)))); have n2_ := Aside0.mk (below_step (by repeat (first | (with_reducible first | exact HB.out | apply below_alloc | apply pw_below_drewN | apply below_drew1) | exact HB.out)) hb); clear HO_4; clear HB; have HO_4 := n0_; have HO197 := n1_; have HB := n2_; clear n0_ n1_ n2_; clear hb ho22; obtain ⟨Ao24, co24, eo24⟩ := Kd.R_slice HO197.out; subst eo24) | ((with_reducible refine gate_builtin (b := .append) (xs := #[.tmp 71, .tmp 82]) rfl ?_); at_builtin; refine Kd.R_append_rows (Kd.int .u16) (w0 := w) w.heap.size rfl (.tmp 71) (.tmp 82) 97 118 (.int .u16 0) 2 rfl Tryd.underlying97 info118 rfl (by decide) (by omega) u4 x4_1 y195 _ _ _ (fun k_ => some k_ ≠ (.slice Ao24 y195.length co24 : Value).ownBlock) (fun _ => False) rfl rfl ?aO ?aR (fun _ _ h => h) (fun _ h => h.elim) ?aF ?aB ?aS ?aL ?_; (case aR => repeat (first | exact (Kd.R_reads' HO197.out).2.2 | (with_reducible refine Kd.C_alloc ?_ _) | (with_reducible refine Kd.C_drewN ?_ _) | (with_reducible refine Kd.C_drew ?_))); (case aB => exact (by repeat (first | (with_reducible first | exact HB.out | apply below_alloc | apply pw_below_drewN | apply below_drew1) | exact HB.out))); (case aF => exact (fun k_ hk => Kd.fresh' (Kd.R_lt (by (with_reducible repeat (first | apply Kd.R_alloc | apply Kd.R_drewN | apply Kd.R_drew)); exact HO197.out)) k_ hk)); (case aO => exact (by (with_reducible repeat (first | apply Kd.R_alloc | apply Kd.R_drewN | apply Kd.R_drew)); exact Kd.R_mono HO_4.out (fun _ hk => hk.2))); (case aS => exact (below_size (by repeat (first | (with_reducible first | exact HB.out | apply below_alloc | apply pw_below_drewN | apply below_drew1) | exact HB.out)))); (case aL => have := LMc20.out; omega); intro v199 w23 ho hb hg hat; rw [← Ny198.out] at ho; have n0_ := Aside0.mk (Kd.R_after (ok := (fun _ => True)) (by (with_reducible repeat (first | apply Kd.R_alloc | apply Kd.R_drewN | apply Kd.R_drew)); exact HO197.out) hg hat); have n1_ := Aside0.mk (hb); have n2_ := Aside0.mk (ho); clear HO197; clear HB; clear HO_4; have HO197 := n0_; have HB := n1_; have HO200 := n2_; clear n0_ n1_ n2_; clear ho hb hg hat))
                            go_roundg k3
                            case measure => have := HK1.out; have := HJ4.out; have := HK3.out; omega
                            case rel => exact ⟨(y198), (wrap64 (x5_1 + (wrap64 (1 + x7_4)))), (by first | rfl | (simp; done) | (simp [*]; done)), H', ⟨by have := HK1.out; have := HJ4.out; have := HK3.out; omega⟩, ⟨by (with_reducible repeat (first | apply Kd.R_alloc | apply Kd.R_drewN | apply Kd.R_drew)); exact Kd.R_mono HO200.out (fun _ hk => trivial)⟩, ⟨by repeat (first | (with_reducible first | exact HB.out | apply below_alloc | apply pw_below_drewN | apply below_drew1) | exact HB.out)⟩⟩
                          · rw [if_neg c20] at H
                            exact absurd H (by simp)
                        · rw [if_neg c19] at H
                          have c19b0 : decide (65536 ≤ (wrap64 (t194 + x8_3))) = false := decide_eq_false c19
                          clear c19
                          by_cases c25 : x4_1.length < 70368744177664
                          · rw [if_pos c25] at H
                            have LMc25 := Aside0.mk c25
                            clear c25
                            obtain ⟨y201, hy201⟩ : ∃ y_ : List Int, y_ = (x4_1 ++ [IntKind.u16.wrap (wrap64 (t194 + x8_3))]) := ⟨_, rfl⟩
                            replace H : (cameoref01_read.l0 k3 a0 y201 (wrap64 (x5_1 + (wrap64 (1 + x7_4))))) = some (r1, r2) := by first | (rw [hy201]; with_reducible exact H) | (have H2_ := (Option.bind_some _ _).symm.trans H; rw [hy201]; with_reducible exact H2_) | (have H2_ := (Option.bind_some _ _).symm.trans H; with_reducible exact H2_) | with_reducible exact H | (rw [hy201]; exact H) | exact H
                            have Ny201 := Aside0.mk hy201
                            clear hy201
                            have H' := Aside0.mk H
                            clear H
                            go_wp2_with (first | ((with_reducible refine gate_builtin (b := .append) (xs := #[.tmp 84, .tmp 87]) rfl ?_); at_builtin; refine Kd.R_append (Kd.int .u16) (w0 := w) w.heap.size rfl (.tmp 84) (.tmp 87) 97 118 (.int .u16 0) 2 rfl Tryd.underlying97 info118 rfl (by decide) (by omega) u4 x4_1 (IntKind.u16.wrap (wrap64 (t194 + x8_3))) [.int .u16 (IntKind.u16.wrap (wrap64 (t194 + x8_3)))] (fun _ => True) (fun _ => False) rfl rfl ?aP (fun _ hk => hk.elim) ?aF ?aO ?aB ?aS ?aL ?_; (case aP => exact rfl); (case aB => exact (by repeat (first | (with_reducible first | exact HB.out | apply below_alloc | apply pw_below_drewN | apply below_drew1) | exact HB.out))); (case aF => exact (fun _ _ => trivial)); (case aO => exact (by (with_reducible repeat (first | apply Kd.R_alloc | apply Kd.R_drewN | apply Kd.R_drew)); exact HO_4.out)); (case aS => exact (below_size (by repeat (first | (with_reducible first | exact HB.out | apply below_alloc | apply pw_below_drewN | apply below_drew1) | exact HB.out)))); (case aL => have := LMc25.out; omega); intro v202 w26 ho hb hg hat; rw [← Ny201.out] at ho; have n0_ := Aside0.mk (hb); have n1_ := Aside0.mk (ho); clear HB; clear HO_4; have HB := n0_; have HO203 := n1_; clear n0_ n1_; clear ho hb hg hat))
                            go_roundg k3
                            case measure => have := HK1.out; have := HJ4.out; have := HK3.out; omega
                            case rel => exact ⟨(y201), (wrap64 (x5_1 + (wrap64 (1 + x7_4)))), (by first | rfl | (simp; done) | (simp [*]; done)), H', ⟨by have := HK1.out; have := HJ4.out; have := HK3.out; omega⟩, ⟨by (with_reducible repeat (first | apply Kd.R_alloc | apply Kd.R_drewN | apply Kd.R_drew)); exact HO203.out⟩, ⟨by repeat (first | (with_reducible first | exact HB.out | apply below_alloc | apply pw_below_drewN | apply below_drew1) | exact HB.out)⟩⟩
                          · rw [if_neg c25] at H
                            exact absurd H (by simp)
        · rw [if_neg c3] at H
          exact absurd H (by simp)
      · rw [if_neg c2] at H
        have c2b0 : decide (x5_1 < (a0.size : Int)) = false := decide_eq_false c2
        clear c2
        simp only [Option.some.injEq, Prod.mk.injEq] at H
        obtain ⟨rfl, rfl⟩ := H
        go_wp2
        go_ret2
        exact ⟨_, by first | rfl | (simp [errW_none, errW_some] <;> rfl) | (simp [*, errW_none, errW_some] <;> rfl), by (with_reducible repeat (first | apply Kd.R_alloc | apply Kd.R_drewN | apply Kd.R_drew)); exact HO_4.out, by repeat (first | (with_reducible first | exact HB.out | apply below_alloc | apply pw_below_drewN | apply below_drew1) | exact HB.out)⟩
/-! ### cameoref01_high: function 72 -/
def cameoref01_high.f (a0 : Int) : Option (Bool) := if a0 ≥ 55296 then (some (decide (a0 ≤ 56319))) else (some false)
set_option maxHeartbeats 8000000 in
set_option maxRecDepth 100000 in
theorem cameoref01_high.calls (a0 : Int) (r : Bool) (w : World) (h : cameoref01_high.f a0 = some r) :
    Calls Tryd.prog 72 #[.int .u16 a0] w fun e w' => e = .returned (.bool r) ∧ Drawn0 w w' := by
  have H : (if a0 ≥ 55296 then (some (decide (a0 ≤ 56319))) else (some false)) = some r := h
  clear h
  by_cases c2 : a0 ≥ 55296
  · rw [if_pos c2] at H
    have c2b0 : decide (55296 ≤ a0) = true := decide_eq_true c2
    clear c2
    obtain rfl := Option.some.inj H
    go_enter Tryd.func72, Tryd.ntmps72
    go_wp2
    go_ret
    exact ⟨by first | rfl | (simp; done) | (simp [*]; done), by repeat (first | exact Drawn0.refl _ | apply Drawn0.step)⟩
  · rw [if_neg c2] at H
    have c2b0 : decide (55296 ≤ a0) = false := decide_eq_false c2
    clear c2
    obtain rfl := Option.some.inj H
    go_enter Tryd.func72, Tryd.ntmps72
    go_wp2
    go_ret
    exact ⟨by first | rfl | (simp; done) | (simp [*]; done), by repeat (first | exact Drawn0.refl _ | apply Drawn0.step)⟩
/-! ### cameoref01_low: function 73 -/
def cameoref01_low.f (a0 : Int) : Option (Bool) := if a0 ≥ 56320 then (some (decide (a0 ≤ 57343))) else (some false)
set_option maxHeartbeats 8000000 in
set_option maxRecDepth 100000 in
theorem cameoref01_low.calls (a0 : Int) (r : Bool) (w : World) (h : cameoref01_low.f a0 = some r) :
    Calls Tryd.prog 73 #[.int .u16 a0] w fun e w' => e = .returned (.bool r) ∧ Drawn0 w w' := by
  have H : (if a0 ≥ 56320 then (some (decide (a0 ≤ 57343))) else (some false)) = some r := h
  clear h
  by_cases c2 : a0 ≥ 56320
  · rw [if_pos c2] at H
    have c2b0 : decide (56320 ≤ a0) = true := decide_eq_true c2
    clear c2
    obtain rfl := Option.some.inj H
    go_enter Tryd.func73, Tryd.ntmps73
    go_wp2
    go_ret
    exact ⟨by first | rfl | (simp; done) | (simp [*]; done), by repeat (first | exact Drawn0.refl _ | apply Drawn0.step)⟩
  · rw [if_neg c2] at H
    have c2b0 : decide (56320 ≤ a0) = false := decide_eq_false c2
    clear c2
    obtain rfl := Option.some.inj H
    go_enter Tryd.func73, Tryd.ntmps73
    go_wp2
    go_ret
    exact ⟨by first | rfl | (simp; done) | (simp [*]; done), by repeat (first | exact Drawn0.refl _ | apply Drawn0.step)⟩
end Go.Proofs.YtlliefodchfpfaaDoor.PDescKinds
end
section
-- Printed by a program of this session over the translation; Lean checks it.
namespace Go.Proofs.YtlliefodchfpfaaDoor.PDescKinds
open Go.RowKit Go.Proofs.YtlliefodchfpfaaDoorW.PrintWords Go.Proofs.YtlliefodchfpfaaDoorW.PrintLast Go.Proofs.YtlliefodchfpfaaDoorW.PrintMore
attribute [local go_sem] max2_int min2_int max_two min_two max_three min_three max_four min_four   -- for this text's walks alone
set_option linter.unusedVariables false
set_option linter.unusedSimpArgs false
/-! ### cameoref01_Row: function 69 -/
def cameoref01_Row.l0 : Nat → List Int → List (S124) → Int → Option ((List (S124)))
  | 0, _, _, _ => none
  | k + 1, x0, x3, x4 => if x4 < (x0.length : Int) then (if 0 ≤ x4 then ((cameoref01_high.f (rd x0 x4)).bind fun t205 => (if t205 = true then (if (wrap64 (x4 + 1)) < (x0.length : Int) then (if 0 ≤ (wrap64 (x4 + 1)) then ((cameoref01_low.f (rd x0 (wrap64 (x4 + 1)))).bind fun t207 => (if t207 = true then (if x3.length < 8796093022208 then (cameoref01_Row.l0 k x0 (x3 ++ [(⟨x4, wrap64 ((wrap64 ((wrap64 (65536 + (wrap64 (1024 * (wrap64 ((wrap64 (rd x0 x4)) - 55296)))))) + (wrap64 (rd x0 (wrap64 (x4 + 1)))))) - 56320)⟩ : S124)]) (wrap64 ((wrap64 (x4 + 1)) + 1))) else (none)) else (if x3.length < 8796093022208 then (cameoref01_Row.l0 k x0 (x3 ++ [(⟨x4, wrap64 (rd x0 x4)⟩ : S124)]) (wrap64 (x4 + 1))) else (none)))) else (none)) else (if x3.length < 8796093022208 then (cameoref01_Row.l0 k x0 (x3 ++ [(⟨x4, wrap64 (rd x0 x4)⟩ : S124)]) (wrap64 (x4 + 1))) else (none))) else (if x3.length < 8796093022208 then (cameoref01_Row.l0 k x0 (x3 ++ [(⟨x4, wrap64 (rd x0 x4)⟩ : S124)]) (wrap64 (x4 + 1))) else (none)))) else (none)) else (some x3)
def cameoref01_Row.f (k : Nat) (l0 : List Int) : Option ((List (S124))) := cameoref01_Row.l0 k l0 ([] : List (S124)) 0
def cameoref01_Row.T6 : Bool × List (List Nat × List Nat) := (true, [([], []), ([], []), ([], []), ([], []), ([2, 3], [2, 3]), ([4], [4]), ([5], [5]), ([6], [6]), ([7], [7]), ([8], [8]), ([], []), ([], []), ([11], [11]), ([10, 12], [10, 12]), ([13], [13]), ([14], [14]), ([9, 15], [9, 15]), ([16], [16]), ([1, 17], [1, 17]), ([18], [18]), ([0, 19], [0, 19]), ([20, 20, 0, 1, 2, 3, 4, 5, 6, 7, 8, 9, 10, 11, 12, 13, 14, 15, 16, 17, 18, 19, 20], [0, 20])])
def cameoref01_Row.B6 : List Nat := [0, 0, 0, 0, 12, 28, 60, 124, 252, 508, 0, 0, 2048, 7168, 15360, 31744, 65532, 131068, 262142, 524286, 1048575, 2097151]
theorem cameoref01_Row.tab6 : rtab .any (opsOf Tryd.f69 6) = cameoref01_Row.T6 := by kernel_rfl
theorem cameoref01_Row.bits6 : waitsOk cameoref01_Row.T6.2 cameoref01_Row.B6 = true := by kernel_rfl
set_option maxHeartbeats 8000000 in
set_option maxRecDepth 100000 in
theorem cameoref01_Row.calls (k : Nat) (A0 : Option Addr) (c0 : Nat) (l0 : List Int) (r : List (S124)) (w : World) (hr0 : Kd.C (Kd.int .u16) w A0 l0.length l0) (hc0 : l0.length ≤ c0) (h : cameoref01_Row.f k l0 = some r) :
    Calls Tryd.prog 69 #[.slice A0 l0.length c0] w fun e w' => ∃ v0_ : Value, e = .returned (v0_) ∧ Kd.R k124 124 w' w.heap.size (fun _ => True) v0_ r ∧ Below w.heap.size w w' := by
  have hu124 := Tryd.underlying124
  have HR0 := Aside0.mk hr0
  have HC0 := Aside0.mk hc0
  clear hr0 hc0
  have HB := Aside0.mk (Below.refl w.heap.size w)
  have H : (cameoref01_Row.l0 k l0 ([] : List (S124)) 0) = some r := h
  clear h
  have H' := Aside0.mk H
  clear H
  go_enter Tryd.func69, Tryd.ntmps69
  go_wp2
  go_loopg [3, 4] k (fun kq v3 v4 w' => ∃ (x3_1 : List (S124)) (x4_1 : Int), v4 = .int .i64 x4_1 ∧ Aside0 (cameoref01_Row.l0 kq l0 x3_1 x4_1 = some r) ∧ Aside0 (kq ≤ k) ∧ Aside0 (Kd.R k124 124 w' w.heap.size (fun _ => True) v3 x3_1) ∧ Aside0 (Below w.heap.size w w'))
  case atStart => exact ⟨(([] : List (S124))), (0), (by first | rfl | (simp; done) | (simp [*]; done)), H', ⟨Nat.le_refl _⟩, ⟨by first | exact Kd.R_nil _ _ _ _ _ | exact Kd.N_nil _ _ _ _ _ | exact Kd.V_nil _ _ _ _ _ | exact Kd.Q_nil _ _ _ _ _ | exact Kd.S_nil _ _ _ _ _⟩, ⟨by repeat (first | (with_reducible first | exact HB.out | apply below_alloc | apply pw_below_drewN | apply below_drew1) | exact HB.out)⟩⟩
  case round =>
    clear H'
    obtain ⟨x3_1, x4_1, rfl, HA, HK1, HO_3, HB⟩ := hrel
    cases gk with
    | zero => exact absurd HA.out (by simp [cameoref01_Row.l0])
    | succ k1 =>
      have H := HA.out
      clear HA
      simp only [cameoref01_Row.l0] at H
      by_cases c2 : x4_1 < (l0.length : Int)
      · rw [if_pos c2] at H
        have c2b0 : decide (x4_1 < (l0.length : Int)) = true := decide_eq_true c2
        clear c2
        by_cases c3 : 0 ≤ x4_1
        · rw [if_pos c3] at H
          have c3b0 : decide (0 ≤ x4_1) = true := decide_eq_true c3
          clear c3
          replace H := Option.bind_eq_some_iff.mp H
          obtain ⟨t205, A40, H⟩ := H
          replace H : (if t205 = true then (if (wrap64 (x4_1 + 1)) < (l0.length : Int) then (if 0 ≤ (wrap64 (x4_1 + 1)) then ((cameoref01_low.f (rd l0 (wrap64 (x4_1 + 1)))).bind fun t207 => (if t207 = true then (if x3_1.length < 8796093022208 then (cameoref01_Row.l0 k1 l0 (x3_1 ++ [(⟨x4_1, wrap64 ((wrap64 ((wrap64 (65536 + (wrap64 (1024 * (wrap64 ((wrap64 (rd l0 x4_1)) - 55296)))))) + (wrap64 (rd l0 (wrap64 (x4_1 + 1)))))) - 56320)⟩ : S124)]) (wrap64 ((wrap64 (x4_1 + 1)) + 1))) else (none)) else (if x3_1.length < 8796093022208 then (cameoref01_Row.l0 k1 l0 (x3_1 ++ [(⟨x4_1, wrap64 (rd l0 x4_1)⟩ : S124)]) (wrap64 (x4_1 + 1))) else (none)))) else (none)) else (if x3_1.length < 8796093022208 then (cameoref01_Row.l0 k1 l0 (x3_1 ++ [(⟨x4_1, wrap64 (rd l0 x4_1)⟩ : S124)]) (wrap64 (x4_1 + 1))) else (none))) else (if x3_1.length < 8796093022208 then (cameoref01_Row.l0 k1 l0 (x3_1 ++ [(⟨x4_1, wrap64 (rd l0 x4_1)⟩ : S124)]) (wrap64 (x4_1 + 1))) else (none))) = some r := H
          have A4 := Aside0.mk A40
          clear A40
          by_cases c5 : t205 = true
          · subst c5
            have H1 : (if (wrap64 (x4_1 + 1)) < (l0.length : Int) then (if 0 ≤ (wrap64 (x4_1 + 1)) then ((cameoref01_low.f (rd l0 (wrap64 (x4_1 + 1)))).bind fun t207 => (if t207 = true then (if x3_1.length < 8796093022208 then (cameoref01_Row.l0 k1 l0 (x3_1 ++ [(⟨x4_1, wrap64 ((wrap64 ((wrap64 (65536 + (wrap64 (1024 * (wrap64 ((wrap64 (rd l0 x4_1)) - 55296)))))) + (wrap64 (rd l0 (wrap64 (x4_1 + 1)))))) - 56320)⟩ : S124)]) (wrap64 ((wrap64 (x4_1 + 1)) + 1))) else (none)) else (if x3_1.length < 8796093022208 then (cameoref01_Row.l0 k1 l0 (x3_1 ++ [(⟨x4_1, wrap64 (rd l0 x4_1)⟩ : S124)]) (wrap64 (x4_1 + 1))) else (none)))) else (none)) else (if x3_1.length < 8796093022208 then (cameoref01_Row.l0 k1 l0 (x3_1 ++ [(⟨x4_1, wrap64 (rd l0 x4_1)⟩ : S124)]) (wrap64 (x4_1 + 1))) else (none))) = some r := by rw [if_pos rfl] at H; exact H
            clear H
            have H := H1
            clear H1
            by_cases c6 : (wrap64 (x4_1 + 1)) < (l0.length : Int)
            · rw [if_pos c6] at H
              have c6b0 : decide ((wrap64 (x4_1 + 1)) < (l0.length : Int)) = true := decide_eq_true c6
              clear c6
              obtain ⟨ji7, hji7⟩ : ∃ j_ : Int, (wrap64 (x4_1 + 1)) = j_ := ⟨_, rfl⟩
              replace H : (if 0 ≤ (ji7) then ((cameoref01_low.f (rd l0 (ji7))).bind fun t207 => (if t207 = true then (if x3_1.length < 8796093022208 then (cameoref01_Row.l0 k1 l0 (x3_1 ++ [(⟨x4_1, wrap64 ((wrap64 ((wrap64 (65536 + (wrap64 (1024 * (wrap64 ((wrap64 (rd l0 x4_1)) - 55296)))))) + (wrap64 (rd l0 (ji7))))) - 56320)⟩ : S124)]) (wrap64 ((ji7) + 1))) else (none)) else (if x3_1.length < 8796093022208 then (cameoref01_Row.l0 k1 l0 (x3_1 ++ [(⟨x4_1, wrap64 (rd l0 x4_1)⟩ : S124)]) ji7) else (none)))) else (none)) = some r := by first | (rw [hji7] at H; exact H) | (simp only [hji7] at H ⊢; exact H)
              (try rw [hji7] at c6b0)
              (try rw [hji7] at A4)
              have hji7w : (IntKind.i64.wrap (x4_1 + 1)) = ji7 := (i64_w _).trans hji7
              by_cases c8 : 0 ≤ (ji7)
              · rw [if_pos c8] at H
                have c8b0 : decide (0 ≤ (ji7)) = true := decide_eq_true c8
                clear c8
                replace H := Option.bind_eq_some_iff.mp H
                obtain ⟨t207, A90, H⟩ := H
                replace H : (if t207 = true then (if x3_1.length < 8796093022208 then (cameoref01_Row.l0 k1 l0 (x3_1 ++ [(⟨x4_1, wrap64 ((wrap64 ((wrap64 (65536 + (wrap64 (1024 * (wrap64 ((wrap64 (rd l0 x4_1)) - 55296)))))) + (wrap64 (rd l0 (ji7))))) - 56320)⟩ : S124)]) (wrap64 ((ji7) + 1))) else (none)) else (if x3_1.length < 8796093022208 then (cameoref01_Row.l0 k1 l0 (x3_1 ++ [(⟨x4_1, wrap64 (rd l0 x4_1)⟩ : S124)]) ji7) else (none))) = some r := H
                have A9 := Aside0.mk A90
                clear A90
                by_cases c10 : t207 = true
                · subst c10
                  have H1 : (if x3_1.length < 8796093022208 then (cameoref01_Row.l0 k1 l0 (x3_1 ++ [(⟨x4_1, wrap64 ((wrap64 ((wrap64 (65536 + (wrap64 (1024 * (wrap64 ((wrap64 (rd l0 x4_1)) - 55296)))))) + (wrap64 (rd l0 (ji7))))) - 56320)⟩ : S124)]) (wrap64 ((ji7) + 1))) else (none)) = some r := by rw [if_pos rfl] at H; exact H
                  clear H
                  have H := H1
                  clear H1
                  by_cases c11 : x3_1.length < 8796093022208
                  · rw [if_pos c11] at H
                    have LMc11 := Aside0.mk c11
                    clear c11
                    obtain ⟨y210, hy210⟩ : ∃ y_ : List (S124), y_ = (x3_1 ++ [(⟨x4_1, wrap64 ((wrap64 ((wrap64 (65536 + (wrap64 (1024 * (wrap64 ((wrap64 (rd l0 x4_1)) - 55296)))))) + (wrap64 (rd l0 (ji7))))) - 56320)⟩ : S124)]) := ⟨_, rfl⟩
                    replace H : (cameoref01_Row.l0 k1 l0 y210 (wrap64 ((ji7) + 1))) = some r := by first | (rw [hy210]; with_reducible exact H) | (have H2_ := (Option.bind_some _ _).symm.trans H; rw [hy210]; with_reducible exact H2_) | (have H2_ := (Option.bind_some _ _).symm.trans H; with_reducible exact H2_) | with_reducible exact H | (rw [hy210]; exact H) | exact H
                    have Ny210 := Aside0.mk hy210
                    clear hy210
                    have H' := Aside0.mk H
                    clear H
                    have p204 : 0 ≤ (x4_1 : Int) := of_decide_eq_true (by first | (with_reducible assumption) | assumption)
                    have q204 : x4_1 < (l0.length : Int) := of_decide_eq_true (by first | (with_reducible assumption) | assumption)
                    obtain ⟨ad204, e204, hx204_0⟩ := Kd.at_int HR0.out x4_1 p204 q204
                    cases e204
                    replace hx204_0 := (HB.out.cell (World.block_lt_of_cell? w _ hx204_0)).trans hx204_0
                    replace p204 := eq_true p204
                    replace q204 := eq_true q204
                    try go_wp2_with (first | ((with_reducible refine gate_callee (f := 72) rfl ?_); refine goesL_ (some 15) rfl rfl Tryd.func72 (by kernel_rfl) rfl #[.int .u16 (rd l0 x4_1)] rfl (by (try simp only [List.map_toArray, List.map_cons, List.map_nil]); first | done | rfl | (simp only [List.length_drop, List.length_take]; rfl)) ?_; (with_reducible refine (cameoref01_high.calls (rd l0 x4_1) true _ A4.out).mono ?_); rintro e w' ⟨rfl, ⟨nd, rfl⟩⟩; refine ⟨_, rfl, ?_⟩; have p206 : 0 ≤ ((ji7) : Int) := of_decide_eq_true (by first | (with_reducible assumption) | assumption); have q206 : (ji7) < (l0.length : Int) := of_decide_eq_true (by first | (with_reducible assumption) | assumption); obtain ⟨ad206, e206, hx206_0⟩ := Kd.at_int HR0.out (ji7) p206 q206; obtain rfl : ad204 = ad206 := (by injection e206); replace hx206_0 := (HB.out.cell (World.block_lt_of_cell? w _ hx206_0)).trans hx206_0; replace p206 := eq_true p206; replace q206 := eq_true q206) | (go_at_call 73; (with_reducible refine (cameoref01_low.calls (rd l0 (ji7)) true _ A9.out).mono ?_); rintro e w' ⟨rfl, ⟨nd, rfl⟩⟩))
                    (try (rw [drewN_self wr]; generalize hq_ : World.drewN wr _ = wr; have n0_ : Aside0 (Kd.R k124 124 wr w.heap.size (fun _ => True) u3 x3_1) := ⟨by rw [← hq_]; exact (by (with_reducible repeat (first | apply Kd.R_alloc | apply Kd.R_drewN | apply Kd.R_drew)); exact HO_3.out)⟩; have n1_ : Aside0 (Below w.heap.size w wr) := ⟨by rw [← hq_]; exact (by repeat (first | (with_reducible first | exact HB.out | apply below_alloc | apply pw_below_drewN | apply below_drew1) | exact HB.out))⟩; clear HO_3 HB hq_; have HO_3 := n0_; have HB := n1_; clear n0_ n1_))
                    have n0_ := Aside0.mk (Kd.R_drew HO_3.out)
                    have n1_ := Aside0.mk (below_drew1 HB.out)
                    clear HO_3
                    clear HB
                    have HO_3 := n0_
                    have HB := n1_
                    clear n0_ n1_
                    have p208 : 0 ≤ (x4_1 : Int) := of_decide_eq_true (by first | (with_reducible assumption) | assumption)
                    have q208 : x4_1 < (l0.length : Int) := of_decide_eq_true (by first | (with_reducible assumption) | assumption)
                    obtain ⟨ad208, e208, hx208_0⟩ := Kd.at_int HR0.out x4_1 p208 q208
                    have hw208_0 := hx208_0
                    obtain rfl : ad204 = ad208 := (by injection e208)
                    replace hx208_0 := (HB.out.cell (World.block_lt_of_cell? w _ hx208_0)).trans hx208_0
                    replace p208 := eq_true p208
                    replace q208 := eq_true q208
                    have p209 : 0 ≤ ((ji7) : Int) := of_decide_eq_true (by first | (with_reducible assumption) | assumption)
                    have q209 : (ji7) < (l0.length : Int) := of_decide_eq_true (by first | (with_reducible assumption) | assumption)
                    obtain ⟨ad209, e209, hx209_0⟩ := Kd.at_int HR0.out (ji7) p209 q209
                    have hw209_0 := hx209_0
                    obtain rfl : ad204 = ad209 := (by injection e209)
                    replace hx209_0 := (HB.out.cell (World.block_lt_of_cell? w _ hx209_0)).trans hx209_0
                    replace p209 := eq_true p209
                    replace q209 := eq_true q209
                    refine start_ (n := 22) (S := fun w' => w'.cell? (ad204.add (x4_1).toNat) = some (.int .u16 (rd l0 x4_1)) ∧ w'.cell? (ad204.add ((ji7)).toNat) = some (.int .u16 (rd l0 (ji7)))) (ds := []) #[false, false, false, false, false, false, false, false, false, false, false, false, false, false, false, false, false, false, false, false, false, false] (by kernel_rfl) rfl rfl ⟨((HB.out.cell (World.block_lt_of_cell? w _ hw208_0)).trans hw208_0), ((HB.out.cell (World.block_lt_of_cell? w _ hw209_0)).trans hw209_0)⟩ (fun hHeld => ?_); refine with_tabW cameoref01_Row.tab6 cameoref01_Row.bits6 (fun HT_ HW_ => ?_)
                    generalize wr.drew = w12 at HO_3 HB hx208_0 hx209_0 hHeld ⊢
                    refine pure_ (i := 0) (N := some 31) (v := ?_) (a' := ?_) #[true, false, false, false, false, false, false, false, false, false, false, false, false, false, false, false, false, false, false, false, false, false] rfl rfl (any_of HT_.out (by kernel_rfl)) (fun _ _ _ h => h) (Or.inl ⟨by rfl, ?_⟩) ?_ ?_
                    rotate_left
                    · intro w'
                      go_simp
                      with_reducible rfl
                    rotate_left
                    · simp only [Act.put, List.setIfInBounds_toArray, List.set_cons_zero, List.set_cons_succ, i64_w, i32_w]
                      rfl
                    refine pure_ (i := 1) (N := some 32) (v := ?_) (a' := ?_) #[true, true, false, false, false, false, false, false, false, false, false, false, false, false, false, false, false, false, false, false, false, false] rfl rfl (any_of HT_.out (by kernel_rfl)) (fun _ _ _ h => h) (Or.inl ⟨by rfl, ?_⟩) ?_ ?_
                    rotate_left
                    · intro w'
                      go_simp
                      with_reducible rfl
                    rotate_left
                    · simp only [Act.put, List.setIfInBounds_toArray, List.set_cons_zero, List.set_cons_succ, i64_w, i32_w]
                      rfl
                    refine pure_ (i := 2) (N := some 33) (v := ?_) (a' := ?_) #[true, true, true, false, false, false, false, false, false, false, false, false, false, false, false, false, false, false, false, false, false, false] rfl rfl (any_of HT_.out (by kernel_rfl)) (fun _ _ _ h => h) (Or.inl ⟨by rfl, ?_⟩) ?_ ?_
                    rotate_left
                    · intro w'
                      go_simp
                      with_reducible rfl
                    rotate_left
                    · simp only [Act.put, List.setIfInBounds_toArray, List.set_cons_zero, List.set_cons_succ, i64_w, i32_w]
                      rfl
                    refine pure_ (i := 3) (N := some 34) (v := ?_) (a' := ?_) #[true, true, true, true, false, false, false, false, false, false, false, false, false, false, false, false, false, false, false, false, false, false] rfl rfl (any_of HT_.out (by kernel_rfl)) (fun _ _ _ h => h) (Or.inl ⟨by rfl, ?_⟩) ?_ ?_
                    rotate_left
                    · intro w'
                      go_simp
                      with_reducible rfl
                    rotate_left
                    · simp only [Act.put, List.setIfInBounds_toArray, List.set_cons_zero, List.set_cons_succ, i64_w, i32_w]
                      rfl
                    refine pure_ (i := 4) (N := some 35) (v := ?_) (a' := ?_) #[true, true, true, true, true, false, false, false, false, false, false, false, false, false, false, false, false, false, false, false, false, false] rfl rfl (any_of HT_.out (by kernel_rfl)) (fun _ _ _ h => h) (Or.inl ⟨by rfl, ?_⟩) ?_ ?_
                    rotate_left
                    · intro w'
                      go_simp
                      with_reducible rfl
                    rotate_left
                    · simp only [Act.put, List.setIfInBounds_toArray, List.set_cons_zero, List.set_cons_succ, i64_w, i32_w]
                      rfl
                    refine pure_ (i := 10) (N := some 41) (v := ?_) (a' := ?_) #[true, true, true, true, true, false, false, false, false, false, true, false, false, false, false, false, false, false, false, false, false, false] rfl rfl (any_of HT_.out (by kernel_rfl)) (fun _ _ _ h => h) (Or.inl ⟨by rfl, ?_⟩) ?_ ?_
                    rotate_left
                    · intro w'
                      go_simp
                      with_reducible rfl
                    rotate_left
                    · simp only [Act.put, List.setIfInBounds_toArray, List.set_cons_zero, List.set_cons_succ, i64_w, i32_w]
                      rfl
                    refine pure_ (i := 11) (N := some 42) (v := ?_) (a' := ?_) #[true, true, true, true, true, false, false, false, false, false, true, true, false, false, false, false, false, false, false, false, false, false] rfl rfl (any_of HT_.out (by kernel_rfl)) (fun _ _ _ h => h) (Or.inl ⟨by rfl, ?_⟩) ?_ ?_
                    rotate_left
                    · intro w'
                      go_simp
                      with_reducible rfl
                    rotate_left
                    · simp only [Act.put, List.setIfInBounds_toArray, List.set_cons_zero, List.set_cons_succ, i64_w, i32_w]
                      rfl
                    refine pure_ (i := 12) (N := some 43) (v := ?_) (a' := ?_) #[true, true, true, true, true, false, false, false, false, false, true, true, true, false, false, false, false, false, false, false, false, false] rfl rfl (any_of HT_.out (by kernel_rfl)) (fun _ _ _ h => h) (Or.inl ⟨by rfl, ?_⟩) ?_ ?_
                    rotate_left
                    · intro w'
                      go_simp
                      with_reducible rfl
                    rotate_left
                    · simp only [Act.put, List.setIfInBounds_toArray, List.set_cons_zero, List.set_cons_succ, i64_w, i32_w]
                      rfl
                    refine pure_ (i := 13) (N := some 44) (v := ?_) (a' := ?_) #[true, true, true, true, true, false, false, false, false, false, true, true, true, true, false, false, false, false, false, false, false, false] rfl rfl (any_of HT_.out (by kernel_rfl)) (fun _ _ _ h => h) (Or.inl ⟨by rfl, ?_⟩) ?_ ?_
                    rotate_left
                    · intro w'
                      go_simp
                      with_reducible rfl
                    rotate_left
                    · simp only [Act.put, List.setIfInBounds_toArray, List.set_cons_zero, List.set_cons_succ, i64_w, i32_w]
                      rfl
                    refine take_ (i := 5) (N := some 36) (v := ?_) (a' := ?_) #[true, true, true, true, true, true, false, false, false, false, true, true, true, true, false, false, false, false, false, false, false, false] rfl rfl (take_ofW HT_.out HW_.out (by kernel_rfl)) (fun _ _ _ h => h) (Or.inl ⟨by rfl, ?_⟩) hHeld ?_ ?_
                    rotate_left
                    · rintro w' ⟨s0, s1⟩
                      go_simp
                      with_reducible rfl
                    rotate_left
                    · simp only [Act.put, List.setIfInBounds_toArray, List.set_cons_zero, List.set_cons_succ, i64_w, i32_w]
                      rfl
                    refine pure_ (i := 6) (N := some 37) (v := ?_) (a' := ?_) #[true, true, true, true, true, true, true, false, false, false, true, true, true, true, false, false, false, false, false, false, false, false] rfl rfl (any_of HT_.out (by kernel_rfl)) (fun _ _ _ h => h) (Or.inl ⟨by rfl, ?_⟩) ?_ ?_
                    rotate_left
                    · intro w'
                      go_simp
                      with_reducible rfl
                    rotate_left
                    · simp only [Act.put, List.setIfInBounds_toArray, List.set_cons_zero, List.set_cons_succ, i64_w, i32_w]
                      rfl
                    refine pure_ (i := 7) (N := some 38) (v := ?_) (a' := ?_) #[true, true, true, true, true, true, true, true, false, false, true, true, true, true, false, false, false, false, false, false, false, false] rfl rfl (any_of HT_.out (by kernel_rfl)) (fun _ _ _ h => h) (Or.inl ⟨by rfl, ?_⟩) ?_ ?_
                    rotate_left
                    · intro w'
                      go_simp
                      with_reducible rfl
                    rotate_left
                    · simp only [Act.put, List.setIfInBounds_toArray, List.set_cons_zero, List.set_cons_succ, i64_w, i32_w]
                      rfl
                    refine pure_ (i := 8) (N := some 39) (v := ?_) (a' := ?_) #[true, true, true, true, true, true, true, true, true, false, true, true, true, true, false, false, false, false, false, false, false, false] rfl rfl (any_of HT_.out (by kernel_rfl)) (fun _ _ _ h => h) (Or.inl ⟨by rfl, ?_⟩) ?_ ?_
                    rotate_left
                    · intro w'
                      go_simp
                      with_reducible rfl
                    rotate_left
                    · simp only [Act.put, List.setIfInBounds_toArray, List.set_cons_zero, List.set_cons_succ, i64_w, i32_w]
                      rfl
                    refine pure_ (i := 9) (N := some 40) (v := ?_) (a' := ?_) #[true, true, true, true, true, true, true, true, true, true, true, true, true, true, false, false, false, false, false, false, false, false] rfl rfl (any_of HT_.out (by kernel_rfl)) (fun _ _ _ h => h) (Or.inl ⟨by rfl, ?_⟩) ?_ ?_
                    rotate_left
                    · intro w'
                      go_simp
                      with_reducible rfl
                    rotate_left
                    · simp only [Act.put, List.setIfInBounds_toArray, List.set_cons_zero, List.set_cons_succ, i64_w, i32_w]
                      rfl
                    refine take_ (i := 14) (N := some 45) (v := ?_) (a' := ?_) #[true, true, true, true, true, true, true, true, true, true, true, true, true, true, true, false, false, false, false, false, false, false] rfl rfl (take_ofW HT_.out HW_.out (by kernel_rfl)) (fun _ _ _ h => h) (Or.inl ⟨by rfl, ?_⟩) hHeld ?_ ?_
                    rotate_left
                    · rintro w' ⟨s0, s1⟩
                      go_simp
                      with_reducible rfl
                    rotate_left
                    · simp only [Act.put, List.setIfInBounds_toArray, List.set_cons_zero, List.set_cons_succ, i64_w, i32_w]
                      rfl
                    refine pure_ (i := 15) (N := some 46) (v := ?_) (a' := ?_) #[true, true, true, true, true, true, true, true, true, true, true, true, true, true, true, true, false, false, false, false, false, false] rfl rfl (any_of HT_.out (by kernel_rfl)) (fun _ _ _ h => h) (Or.inl ⟨by rfl, ?_⟩) ?_ ?_
                    rotate_left
                    · intro w'
                      go_simp
                      with_reducible rfl
                    rotate_left
                    · simp only [Act.put, List.setIfInBounds_toArray, List.set_cons_zero, List.set_cons_succ, i64_w, i32_w]
                      rfl
                    refine pure_ (i := 16) (N := some 47) (v := ?_) (a' := ?_) #[true, true, true, true, true, true, true, true, true, true, true, true, true, true, true, true, true, false, false, false, false, false] rfl rfl (any_of HT_.out (by kernel_rfl)) (fun _ _ _ h => h) (Or.inl ⟨by rfl, ?_⟩) ?_ ?_
                    rotate_left
                    · intro w'
                      go_simp
                      with_reducible rfl
                    rotate_left
                    · simp only [Act.put, List.setIfInBounds_toArray, List.set_cons_zero, List.set_cons_succ, i64_w, i32_w]
                      rfl
                    refine pure_ (i := 17) (N := some 48) (v := ?_) (a' := ?_) #[true, true, true, true, true, true, true, true, true, true, true, true, true, true, true, true, true, true, false, false, false, false] rfl rfl (any_of HT_.out (by kernel_rfl)) (fun _ _ _ h => h) (Or.inl ⟨by rfl, ?_⟩) ?_ ?_
                    rotate_left
                    · intro w'
                      go_simp
                      with_reducible rfl
                    rotate_left
                    · simp only [Act.put, List.setIfInBounds_toArray, List.set_cons_zero, List.set_cons_succ, i64_w, i32_w]
                      rfl
                    refine pure_ (i := 18) (N := some 49) (v := ?_) (a' := ?_) #[true, true, true, true, true, true, true, true, true, true, true, true, true, true, true, true, true, true, true, false, false, false] rfl rfl (any_of HT_.out (by kernel_rfl)) (fun _ _ _ h => h) (Or.inl ⟨by rfl, ?_⟩) ?_ ?_
                    rotate_left
                    · intro w'
                      go_simp
                      with_reducible rfl
                    rotate_left
                    · simp only [Act.put, List.setIfInBounds_toArray, List.set_cons_zero, List.set_cons_succ, i64_w, i32_w]
                      rfl
                    refine one_ (i := 19) (N := some 50) #[true, true, true, true, true, true, true, true, true, true, true, true, true, true, true, true, true, true, true, true, false, false] rfl rfl (one_of HT_.out (by kernel_rfl)) (by decide) (fun K hK => ?_)
                    refine value_ (w1 := ?_) (v := ?_) (by rfl) rfl ?_ ?_
                    rotate_left 2
                    · go_simp
                      constructor
                      · rfl
                      · rfl
                    refine hK.out _ _ ⟨(World.cell?_alloc_lt _ _ _ (World.block_lt_of_cell? _ _ (((HB.out.cell (World.block_lt_of_cell? w _ hw208_0)).trans hw208_0)))).trans (((HB.out.cell (World.block_lt_of_cell? w _ hw208_0)).trans hw208_0)), (World.cell?_alloc_lt _ _ _ (World.block_lt_of_cell? _ _ (((HB.out.cell (World.block_lt_of_cell? w _ hw209_0)).trans hw209_0)))).trans (((HB.out.cell (World.block_lt_of_cell? w _ hw209_0)).trans hw209_0))⟩ (fun hHeld => ?_)
                    clear hK K
                    refine norm_ (a' := ?_) ?_ ?_
                    rotate_left
                    · show Act.put _ (some 50) _ = _
                      simp only [Act.put, List.setIfInBounds_toArray, List.set_cons_zero, List.set_cons_succ, i64_w, i32_w]
                      rfl
                    refine one_ (i := 20) (N := some 51) #[true, true, true, true, true, true, true, true, true, true, true, true, true, true, true, true, true, true, true, true, true, false] rfl rfl (one_of HT_.out (by kernel_rfl)) (by decide) (fun K hK => ?_)
                    refine Kd.R_append_step k124 (w0 := w) w.heap.size (by rfl) (.tmp 31) (.tmp 50) 120 124 (.agg #[(.int .i64 0), (.int .i64 0)]) 16 rfl Tryd.underlying120 info124 rfl (by decide) (by omega) u3 x3_1 (⟨x4_1, wrap64 ((wrap64 ((wrap64 (65536 + (wrap64 (1024 * (wrap64 ((wrap64 (rd l0 x4_1)) - 55296)))))) + (wrap64 (rd l0 (ji7))))) - 56320)⟩ : S124) [.int .i64 x4_1, .int .i64 (wrap64 ((wrap64 ((wrap64 (65536 + (wrap64 (1024 * (wrap64 ((wrap64 (rd l0 x4_1)) - 55296)))))) + (wrap64 (rd l0 (ji7))))) - 56320))] (fun _ => True) (fun _ => False) rfl rfl ?aP (fun _ hk => hk.elim) ?aF ?aO ?aB ?aS ?aL ?_
                    (case aP => exact k124_mkM _ _ _ (⟨x4_1, wrap64 ((wrap64 ((wrap64 (65536 + (wrap64 (1024 * (wrap64 ((wrap64 (rd l0 x4_1)) - 55296)))))) + (wrap64 (rd l0 (ji7))))) - 56320)⟩ : S124))
                    (case aB => exact (by repeat (first | (with_reducible first | exact HB.out | apply below_alloc | apply pw_below_drewN | apply below_drew1) | exact HB.out)))
                    (case aF => exact (fun _ _ => trivial))
                    (case aO => exact (by (with_reducible repeat (first | apply Kd.R_alloc | apply Kd.R_drewN | apply Kd.R_drew)); exact HO_3.out))
                    (case aS => exact (below_size (by repeat (first | (with_reducible first | exact HB.out | apply below_alloc | apply pw_below_drewN | apply below_drew1) | exact HB.out))))
                    (case aL => have := LMc11.out; omega)
                    intro v211 w13 ho hb hg hat
                    rw [← Ny210.out] at ho
                    have n0_ := Aside0.mk (hb)
                    have n1_ := Aside0.mk (ho)
                    clear HB
                    clear HO_3
                    have HB := n0_
                    have HO212 := n1_
                    clear n0_ n1_
                    clear ho hb hg hat
                    refine hK.out _ _ ⟨((HB.out.cell (World.block_lt_of_cell? w _ hw208_0)).trans hw208_0), ((HB.out.cell (World.block_lt_of_cell? w _ hw209_0)).trans hw209_0)⟩ (fun hHeld => ?_)
                    clear hK K
                    refine norm_ (a' := ?_) ?_ ?_
                    rotate_left
                    · show Act.put _ (some 51) _ = _
                      simp only [Act.put, List.setIfInBounds_toArray, List.set_cons_zero, List.set_cons_succ, i64_w, i32_w]
                      rfl
                    refine pure_ (i := 21) (N := some 3) (v := ?_) (a' := ?_) #[true, true, true, true, true, true, true, true, true, true, true, true, true, true, true, true, true, true, true, true, true, true] rfl rfl (any_of HT_.out (by kernel_rfl)) (fun _ _ _ h => h) (Or.inl ⟨by rfl, ?_⟩) ?_ ?_
                    rotate_left
                    · intro w'
                      go_simp
                      with_reducible rfl
                    rotate_left
                    · simp only [Act.put, List.setIfInBounds_toArray, List.set_cons_zero, List.set_cons_succ, i64_w, i32_w]
                      rfl
                    refine done_ (done_of HT_.out (by kernel_rfl)) ?_
                    try go_wp2
                    go_roundg k1
                    case measure => have := HK1.out; omega
                    case rel => exact ⟨(y210), (wrap64 ((ji7) + 1)), (by first | rfl | (simp; done) | (simp only [← hji7] <;> (first | rfl | simp)) | (simp [*]; done)), H', ⟨by have := HK1.out; omega⟩, ⟨by (with_reducible repeat (first | apply Kd.R_alloc | apply Kd.R_drewN | apply Kd.R_drew)); exact HO212.out⟩, ⟨by repeat (first | (with_reducible first | exact HB.out | apply below_alloc | apply pw_below_drewN | apply below_drew1) | exact HB.out)⟩⟩
                  · rw [if_neg c11] at H
                    exact absurd H (by simp)
                · replace c10 := Bool.eq_false_iff.mpr c10
                  subst c10
                  have H1 : (if x3_1.length < 8796093022208 then (cameoref01_Row.l0 k1 l0 (x3_1 ++ [(⟨x4_1, wrap64 (rd l0 x4_1)⟩ : S124)]) ji7) else (none)) = some r := by rw [if_neg (show ¬ (false = true) by decide)] at H; exact H
                  clear H
                  have H := H1
                  clear H1
                  by_cases c14 : x3_1.length < 8796093022208
                  · rw [if_pos c14] at H
                    have LMc14 := Aside0.mk c14
                    clear c14
                    obtain ⟨y214, hy214⟩ : ∃ y_ : List (S124), y_ = (x3_1 ++ [(⟨x4_1, wrap64 (rd l0 x4_1)⟩ : S124)]) := ⟨_, rfl⟩
                    replace H : (cameoref01_Row.l0 k1 l0 y214 ji7) = some r := by first | (rw [hy214]; with_reducible exact H) | (have H2_ := (Option.bind_some _ _).symm.trans H; rw [hy214]; with_reducible exact H2_) | (have H2_ := (Option.bind_some _ _).symm.trans H; with_reducible exact H2_) | with_reducible exact H | (rw [hy214]; exact H) | exact H
                    have Ny214 := Aside0.mk hy214
                    clear hy214
                    have H' := Aside0.mk H
                    clear H
                    have p204 : 0 ≤ (x4_1 : Int) := of_decide_eq_true (by first | (with_reducible assumption) | assumption)
                    have q204 : x4_1 < (l0.length : Int) := of_decide_eq_true (by first | (with_reducible assumption) | assumption)
                    obtain ⟨ad204, e204, hx204_0⟩ := Kd.at_int HR0.out x4_1 p204 q204
                    cases e204
                    replace hx204_0 := (HB.out.cell (World.block_lt_of_cell? w _ hx204_0)).trans hx204_0
                    replace p204 := eq_true p204
                    replace q204 := eq_true q204
                    go_wp2_with (first | ((with_reducible refine gate_callee (f := 72) rfl ?_); refine goesL_ (some 15) rfl rfl Tryd.func72 (by kernel_rfl) rfl #[.int .u16 (rd l0 x4_1)] rfl (by (try simp only [List.map_toArray, List.map_cons, List.map_nil]); first | done | rfl | (simp only [List.length_drop, List.length_take]; rfl)) ?_; (with_reducible refine (cameoref01_high.calls (rd l0 x4_1) true _ A4.out).mono ?_); rintro e w' ⟨rfl, ⟨nd, rfl⟩⟩; refine ⟨_, rfl, ?_⟩; have p206 : 0 ≤ ((ji7) : Int) := of_decide_eq_true (by first | (with_reducible assumption) | assumption); have q206 : (ji7) < (l0.length : Int) := of_decide_eq_true (by first | (with_reducible assumption) | assumption); obtain ⟨ad206, e206, hx206_0⟩ := Kd.at_int HR0.out (ji7) p206 q206; obtain rfl : ad204 = ad206 := (by injection e206); replace hx206_0 := (HB.out.cell (World.block_lt_of_cell? w _ hx206_0)).trans hx206_0; replace p206 := eq_true p206; replace q206 := eq_true q206) | (go_at_call 73; (with_reducible refine (cameoref01_low.calls (rd l0 (ji7)) false _ A9.out).mono ?_); rintro e w' ⟨rfl, ⟨nd, rfl⟩⟩; have p213 : 0 ≤ (x4_1 : Int) := of_decide_eq_true (by first | (with_reducible assumption) | assumption); have q213 : x4_1 < (l0.length : Int) := of_decide_eq_true (by first | (with_reducible assumption) | assumption); obtain ⟨ad213, e213, hx213_0⟩ := Kd.at_int HR0.out x4_1 p213 q213; obtain rfl : ad204 = ad213 := (by injection e213); replace hx213_0 := (HB.out.cell (World.block_lt_of_cell? w _ hx213_0)).trans hx213_0; replace p213 := eq_true p213; replace q213 := eq_true q213) | ((with_reducible refine gate_builtin (b := .append) (xs := #[.tmp 54, .tmp 62]) rfl ?_); (try (refine gate_guard (by rfl) ?_; dsimp only)); at_builtin; refine Kd.R_append k124 (w0 := w) w.heap.size rfl (.tmp 54) (.tmp 62) 120 124 (.agg #[(.int .i64 0), (.int .i64 0)]) 16 rfl Tryd.underlying120 info124 rfl (by decide) (by omega) u3 x3_1 (⟨x4_1, wrap64 (rd l0 x4_1)⟩ : S124) [.int .i64 x4_1, .int .i64 (wrap64 (rd l0 x4_1))] (fun _ => True) (fun _ => False) rfl rfl ?aP (fun _ hk => hk.elim) ?aF ?aO ?aB ?aS ?aL ?_; (case aP => exact k124_mkM _ _ _ (⟨x4_1, wrap64 (rd l0 x4_1)⟩ : S124)); (case aB => exact (by repeat (first | (with_reducible first | exact HB.out | apply below_alloc | apply pw_below_drewN | apply below_drew1) | exact HB.out))); (case aF => exact (fun _ _ => trivial)); (case aO => exact (by (with_reducible repeat (first | apply Kd.R_alloc | apply Kd.R_drewN | apply Kd.R_drew)); exact HO_3.out)); (case aS => exact (below_size (by repeat (first | (with_reducible first | exact HB.out | apply below_alloc | apply pw_below_drewN | apply below_drew1) | exact HB.out)))); (case aL => have := LMc14.out; omega); intro v215 w15 ho hb hg hat; rw [← Ny214.out] at ho; have n0_ := Aside0.mk (hb); have n1_ := Aside0.mk (ho); clear HB; clear HO_3; have HB := n0_; have HO216 := n1_; clear n0_ n1_; clear ho hb hg hat))
                    go_roundg k1
                    case measure => have := HK1.out; omega
                    case rel => exact ⟨(y214), (ji7), (by first | rfl | (simp; done) | (simp only [← hji7] <;> (first | rfl | simp)) | (simp [*]; done)), H', ⟨by have := HK1.out; omega⟩, ⟨by (with_reducible repeat (first | apply Kd.R_alloc | apply Kd.R_drewN | apply Kd.R_drew)); exact HO216.out⟩, ⟨by repeat (first | (with_reducible first | exact HB.out | apply below_alloc | apply pw_below_drewN | apply below_drew1) | exact HB.out)⟩⟩
                  · rw [if_neg c14] at H
                    exact absurd H (by simp)
              · rw [if_neg c8] at H
                exact absurd H (by simp)
            · rw [if_neg c6] at H
              have c6b0 : decide ((wrap64 (x4_1 + 1)) < (l0.length : Int)) = false := decide_eq_false c6
              clear c6
              by_cases c16 : x3_1.length < 8796093022208
              · rw [if_pos c16] at H
                have LMc16 := Aside0.mk c16
                clear c16
                obtain ⟨y218, hy218⟩ : ∃ y_ : List (S124), y_ = (x3_1 ++ [(⟨x4_1, wrap64 (rd l0 x4_1)⟩ : S124)]) := ⟨_, rfl⟩
                replace H : (cameoref01_Row.l0 k1 l0 y218 (wrap64 (x4_1 + 1))) = some r := by first | (rw [hy218]; with_reducible exact H) | (have H2_ := (Option.bind_some _ _).symm.trans H; rw [hy218]; with_reducible exact H2_) | (have H2_ := (Option.bind_some _ _).symm.trans H; with_reducible exact H2_) | with_reducible exact H | (rw [hy218]; exact H) | exact H
                have Ny218 := Aside0.mk hy218
                clear hy218
                have H' := Aside0.mk H
                clear H
                have p204 : 0 ≤ (x4_1 : Int) := of_decide_eq_true (by first | (with_reducible assumption) | assumption)
                have q204 : x4_1 < (l0.length : Int) := of_decide_eq_true (by first | (with_reducible assumption) | assumption)
                obtain ⟨ad204, e204, hx204_0⟩ := Kd.at_int HR0.out x4_1 p204 q204
                cases e204
                replace hx204_0 := (HB.out.cell (World.block_lt_of_cell? w _ hx204_0)).trans hx204_0
                replace p204 := eq_true p204
                replace q204 := eq_true q204
                go_wp2_with (first | ((with_reducible refine gate_callee (f := 72) rfl ?_); refine goesL_ (some 15) rfl rfl Tryd.func72 (by kernel_rfl) rfl #[.int .u16 (rd l0 x4_1)] rfl (by (try simp only [List.map_toArray, List.map_cons, List.map_nil]); first | done | rfl | (simp only [List.length_drop, List.length_take]; rfl)) ?_; (with_reducible refine (cameoref01_high.calls (rd l0 x4_1) true _ A4.out).mono ?_); rintro e w' ⟨rfl, ⟨nd, rfl⟩⟩; refine ⟨_, rfl, ?_⟩; have p217 : 0 ≤ (x4_1 : Int) := of_decide_eq_true (by first | (with_reducible assumption) | assumption); have q217 : x4_1 < (l0.length : Int) := of_decide_eq_true (by first | (with_reducible assumption) | assumption); obtain ⟨ad217, e217, hx217_0⟩ := Kd.at_int HR0.out x4_1 p217 q217; obtain rfl : ad204 = ad217 := (by injection e217); replace hx217_0 := (HB.out.cell (World.block_lt_of_cell? w _ hx217_0)).trans hx217_0; replace p217 := eq_true p217; replace q217 := eq_true q217) | ((with_reducible refine gate_builtin (b := .append) (xs := #[.tmp 54, .tmp 62]) rfl ?_); (try (refine gate_guard (by rfl) ?_; dsimp only)); at_builtin; refine Kd.R_append k124 (w0 := w) w.heap.size rfl (.tmp 54) (.tmp 62) 120 124 (.agg #[(.int .i64 0), (.int .i64 0)]) 16 rfl Tryd.underlying120 info124 rfl (by decide) (by omega) u3 x3_1 (⟨x4_1, wrap64 (rd l0 x4_1)⟩ : S124) [.int .i64 x4_1, .int .i64 (wrap64 (rd l0 x4_1))] (fun _ => True) (fun _ => False) rfl rfl ?aP (fun _ hk => hk.elim) ?aF ?aO ?aB ?aS ?aL ?_; (case aP => exact k124_mkM _ _ _ (⟨x4_1, wrap64 (rd l0 x4_1)⟩ : S124)); (case aB => exact (by repeat (first | (with_reducible first | exact HB.out | apply below_alloc | apply pw_below_drewN | apply below_drew1) | exact HB.out))); (case aF => exact (fun _ _ => trivial)); (case aO => exact (by (with_reducible repeat (first | apply Kd.R_alloc | apply Kd.R_drewN | apply Kd.R_drew)); exact HO_3.out)); (case aS => exact (below_size (by repeat (first | (with_reducible first | exact HB.out | apply below_alloc | apply pw_below_drewN | apply below_drew1) | exact HB.out)))); (case aL => have := LMc16.out; omega); intro v219 w17 ho hb hg hat; rw [← Ny218.out] at ho; have n0_ := Aside0.mk (hb); have n1_ := Aside0.mk (ho); clear HB; clear HO_3; have HB := n0_; have HO220 := n1_; clear n0_ n1_; clear ho hb hg hat))
                go_roundg k1
                case measure => have := HK1.out; omega
                case rel => exact ⟨(y218), (wrap64 (x4_1 + 1)), (by first | rfl | (simp; done) | (simp [*]; done)), H', ⟨by have := HK1.out; omega⟩, ⟨by (with_reducible repeat (first | apply Kd.R_alloc | apply Kd.R_drewN | apply Kd.R_drew)); exact HO220.out⟩, ⟨by repeat (first | (with_reducible first | exact HB.out | apply below_alloc | apply pw_below_drewN | apply below_drew1) | exact HB.out)⟩⟩
              · rw [if_neg c16] at H
                exact absurd H (by simp)
          · replace c5 := Bool.eq_false_iff.mpr c5
            subst c5
            have H1 : (if x3_1.length < 8796093022208 then (cameoref01_Row.l0 k1 l0 (x3_1 ++ [(⟨x4_1, wrap64 (rd l0 x4_1)⟩ : S124)]) (wrap64 (x4_1 + 1))) else (none)) = some r := by rw [if_neg (show ¬ (false = true) by decide)] at H; exact H
            clear H
            have H := H1
            clear H1
            by_cases c18 : x3_1.length < 8796093022208
            · rw [if_pos c18] at H
              have LMc18 := Aside0.mk c18
              clear c18
              obtain ⟨y222, hy222⟩ : ∃ y_ : List (S124), y_ = (x3_1 ++ [(⟨x4_1, wrap64 (rd l0 x4_1)⟩ : S124)]) := ⟨_, rfl⟩
              replace H : (cameoref01_Row.l0 k1 l0 y222 (wrap64 (x4_1 + 1))) = some r := by first | (rw [hy222]; with_reducible exact H) | (have H2_ := (Option.bind_some _ _).symm.trans H; rw [hy222]; with_reducible exact H2_) | (have H2_ := (Option.bind_some _ _).symm.trans H; with_reducible exact H2_) | with_reducible exact H | (rw [hy222]; exact H) | exact H
              have Ny222 := Aside0.mk hy222
              clear hy222
              have H' := Aside0.mk H
              clear H
              have p204 : 0 ≤ (x4_1 : Int) := of_decide_eq_true (by first | (with_reducible assumption) | assumption)
              have q204 : x4_1 < (l0.length : Int) := of_decide_eq_true (by first | (with_reducible assumption) | assumption)
              obtain ⟨ad204, e204, hx204_0⟩ := Kd.at_int HR0.out x4_1 p204 q204
              cases e204
              replace hx204_0 := (HB.out.cell (World.block_lt_of_cell? w _ hx204_0)).trans hx204_0
              replace p204 := eq_true p204
              replace q204 := eq_true q204
              go_wp2_with (first | ((with_reducible refine gate_callee (f := 72) rfl ?_); refine goesL_ (some 15) rfl rfl Tryd.func72 (by kernel_rfl) rfl #[.int .u16 (rd l0 x4_1)] rfl (by (try simp only [List.map_toArray, List.map_cons, List.map_nil]); first | done | rfl | (simp only [List.length_drop, List.length_take]; rfl)) ?_; (with_reducible refine (cameoref01_high.calls (rd l0 x4_1) false _ A4.out).mono ?_); rintro e w' ⟨rfl, ⟨nd, rfl⟩⟩; refine ⟨_, rfl, ?_⟩; have p221 : 0 ≤ (x4_1 : Int) := of_decide_eq_true (by first | (with_reducible assumption) | assumption); have q221 : x4_1 < (l0.length : Int) := of_decide_eq_true (by first | (with_reducible assumption) | assumption); obtain ⟨ad221, e221, hx221_0⟩ := Kd.at_int HR0.out x4_1 p221 q221; obtain rfl : ad204 = ad221 := (by injection e221); replace hx221_0 := (HB.out.cell (World.block_lt_of_cell? w _ hx221_0)).trans hx221_0; replace p221 := eq_true p221; replace q221 := eq_true q221) | ((with_reducible refine gate_builtin (b := .append) (xs := #[.tmp 54, .tmp 62]) rfl ?_); (try (refine gate_guard (by rfl) ?_; dsimp only)); at_builtin; refine Kd.R_append k124 (w0 := w) w.heap.size rfl (.tmp 54) (.tmp 62) 120 124 (.agg #[(.int .i64 0), (.int .i64 0)]) 16 rfl Tryd.underlying120 info124 rfl (by decide) (by omega) u3 x3_1 (⟨x4_1, wrap64 (rd l0 x4_1)⟩ : S124) [.int .i64 x4_1, .int .i64 (wrap64 (rd l0 x4_1))] (fun _ => True) (fun _ => False) rfl rfl ?aP (fun _ hk => hk.elim) ?aF ?aO ?aB ?aS ?aL ?_; (case aP => exact k124_mkM _ _ _ (⟨x4_1, wrap64 (rd l0 x4_1)⟩ : S124)); (case aB => exact (by repeat (first | (with_reducible first | exact HB.out | apply below_alloc | apply pw_below_drewN | apply below_drew1) | exact HB.out))); (case aF => exact (fun _ _ => trivial)); (case aO => exact (by (with_reducible repeat (first | apply Kd.R_alloc | apply Kd.R_drewN | apply Kd.R_drew)); exact HO_3.out)); (case aS => exact (below_size (by repeat (first | (with_reducible first | exact HB.out | apply below_alloc | apply pw_below_drewN | apply below_drew1) | exact HB.out)))); (case aL => have := LMc18.out; omega); intro v223 w19 ho hb hg hat; rw [← Ny222.out] at ho; have n0_ := Aside0.mk (hb); have n1_ := Aside0.mk (ho); clear HB; clear HO_3; have HB := n0_; have HO224 := n1_; clear n0_ n1_; clear ho hb hg hat))
              go_roundg k1
              case measure => have := HK1.out; omega
              case rel => exact ⟨(y222), (wrap64 (x4_1 + 1)), (by first | rfl | (simp; done) | (simp [*]; done)), H', ⟨by have := HK1.out; omega⟩, ⟨by (with_reducible repeat (first | apply Kd.R_alloc | apply Kd.R_drewN | apply Kd.R_drew)); exact HO224.out⟩, ⟨by repeat (first | (with_reducible first | exact HB.out | apply below_alloc | apply pw_below_drewN | apply below_drew1) | exact HB.out)⟩⟩
            · rw [if_neg c18] at H
              exact absurd H (by simp)
        · rw [if_neg c3] at H
          exact absurd H (by simp)
      · rw [if_neg c2] at H
        have c2b0 : decide (x4_1 < (l0.length : Int)) = false := decide_eq_false c2
        clear c2
        obtain rfl := Option.some.inj H
        go_wp2
        go_ret
        exact ⟨_, by first | rfl | (simp [errW_none, errW_some] <;> rfl) | (simp [*, errW_none, errW_some] <;> rfl), by (with_reducible repeat (first | apply Kd.R_alloc | apply Kd.R_drewN | apply Kd.R_drew)); exact HO_3.out, by repeat (first | (with_reducible first | exact HB.out | apply below_alloc | apply pw_below_drewN | apply below_drew1) | exact HB.out)⟩
/-! ### cameoref01_put: function 70 -/
def cameoref01_put.f (l0 : List Int) (a1 : Int) : Option (List Int) := if a1 < 128 then (if l0.length < 140737488355328 then (some (l0 ++ [(a1) % 256])) else (none)) else (if a1 < 2048 then ((some (([(wrap64 (192 + (wrap64 (Int.tdiv a1 64)))) % 256, (wrap64 (128 + (Int.tmod a1 64))) % 256] : List Int) : List Int)).bind fun y228 => (if l0.length + y228.length < 140737488355328 then (some (l0 ++ y228)) else (none))) else (if a1 < 65536 then ((some (([(wrap64 (224 + (wrap64 (Int.tdiv a1 4096)))) % 256, (wrap64 (128 + (Int.tmod (wrap64 (Int.tdiv a1 64)) 64))) % 256, (wrap64 (128 + (Int.tmod a1 64))) % 256] : List Int) : List Int)).bind fun y234 => (if l0.length + y234.length < 140737488355328 then (some (l0 ++ y234)) else (none))) else ((some (([(wrap64 (240 + (wrap64 (Int.tdiv a1 262144)))) % 256, (wrap64 (128 + (Int.tmod (wrap64 (Int.tdiv a1 4096)) 64))) % 256, (wrap64 (128 + (Int.tmod (wrap64 (Int.tdiv a1 64)) 64))) % 256, (wrap64 (128 + (Int.tmod a1 64))) % 256] : List Int) : List Int)).bind fun y240 => (if l0.length + y240.length < 140737488355328 then (some (l0 ++ y240)) else (none)))))
set_option maxHeartbeats 8000000 in
set_option maxRecDepth 100000 in
theorem cameoref01_put.calls (P0_ : Nat → Prop) (u9000_ : Value) (l0 : List Int) (a1 : Int) (r : List Int) (w0 w : World) (hB : Below w0.heap.size w0 w) (ho0 : Kd.R (Kd.int .u8) 5 w w0.heap.size P0_ u9000_ l0) (h : cameoref01_put.f l0 a1 = some r) :
    Calls Tryd.prog 70 #[u9000_, .int .i64 a1] w fun e w' => ∃ v0_ : Value, e = .returned (v0_) ∧ Kd.R (Kd.int .u8) 5 w' w0.heap.size (fun k_ => (P0_ k_ ∨ w.heap.size ≤ k_)) v0_ r ∧ Below w0.heap.size w0 w' ∧ Kept w w' (fun k_ => P0_ k_) := by
  have HO0 := Aside0.mk (show Kd.R (Kd.int .u8) 5 w w0.heap.size (fun k_ => (P0_ k_ ∨ w.heap.size ≤ k_)) u9000_ l0 from Kd.R_mono ho0 (fun k_ hk => (.inl hk)))
  have HK := Aside0.mk (Kept.refl w (fun k_ => P0_ k_))
  have HW0 := Aside0.mk hB.size
  have HB := Aside0.mk hB
  clear hB
  have H : (if a1 < 128 then (if l0.length < 140737488355328 then (some (l0 ++ [(a1) % 256])) else (none)) else (if a1 < 2048 then ((some (([(wrap64 (192 + (wrap64 (Int.tdiv a1 64)))) % 256, (wrap64 (128 + (Int.tmod a1 64))) % 256] : List Int) : List Int)).bind fun y228 => (if l0.length + y228.length < 140737488355328 then (some (l0 ++ y228)) else (none))) else (if a1 < 65536 then ((some (([(wrap64 (224 + (wrap64 (Int.tdiv a1 4096)))) % 256, (wrap64 (128 + (Int.tmod (wrap64 (Int.tdiv a1 64)) 64))) % 256, (wrap64 (128 + (Int.tmod a1 64))) % 256] : List Int) : List Int)).bind fun y234 => (if l0.length + y234.length < 140737488355328 then (some (l0 ++ y234)) else (none))) else ((some (([(wrap64 (240 + (wrap64 (Int.tdiv a1 262144)))) % 256, (wrap64 (128 + (Int.tmod (wrap64 (Int.tdiv a1 4096)) 64))) % 256, (wrap64 (128 + (Int.tmod (wrap64 (Int.tdiv a1 64)) 64))) % 256, (wrap64 (128 + (Int.tmod a1 64))) % 256] : List Int) : List Int)).bind fun y240 => (if l0.length + y240.length < 140737488355328 then (some (l0 ++ y240)) else (none)))))) = some r := h
  clear h
  by_cases c3 : a1 < 128
  · rw [if_pos c3] at H
    have c3b0 : decide (a1 < 128) = true := decide_eq_true c3
    clear c3
    by_cases c4 : l0.length < 140737488355328
    · rw [if_pos c4] at H
      have LMc4 := Aside0.mk c4
      clear c4
      obtain ⟨y225, hy225⟩ : ∃ y_ : List Int, y_ = (l0 ++ [(a1) % 256]) := ⟨_, rfl⟩
      replace H : (some y225) = some r := by first | (rw [hy225]; with_reducible exact H) | (have H2_ := (Option.bind_some _ _).symm.trans H; rw [hy225]; with_reducible exact H2_) | (have H2_ := (Option.bind_some _ _).symm.trans H; with_reducible exact H2_) | with_reducible exact H | (rw [hy225]; exact H) | exact H
      have Ny225 := Aside0.mk hy225
      clear hy225
      obtain rfl := Option.some.inj H
      go_enter Tryd.func70, Tryd.ntmps70
      go_wp2_with (first | ((with_reducible refine gate_builtin (b := .append) (xs := #[.tmp 8, .tmp 11]) rfl ?_); at_builtin; refine Kd.R_append (Kd.int .u8) (w0 := w0) w0.heap.size rfl (.tmp 8) (.tmp 11) 119 5 (.int .u8 0) 1 rfl Tryd.underlying119 info5 rfl (by decide) (by omega) u9000_ l0 ((a1) % 256) [.int .u8 ((a1) % 256)] (fun k_ => (P0_ k_ ∨ w.heap.size ≤ k_)) (fun _ => False) rfl rfl ?aP (fun _ hk => hk.elim) ?aF ?aO ?aB ?aS ?aL ?_; (case aP => exact rfl); (case aB => exact (by repeat (first | (with_reducible first | exact HB.out | apply below_alloc | apply pw_below_drewN | apply below_drew1) | exact HB.out))); (case aF => exact (fun k_ hk => (.inr (Nat.le_trans (by first | exact HK.out.1 | exact (show Kept w _ (fun k_ => P0_ k_) from by repeat (first | (with_reducible first | exact HK.out | apply Kept.alloc | apply Kept.drewN | apply Kept.drew) | exact HK.out)).1) hk)))); (case aO => exact (by (with_reducible repeat (first | apply Kd.R_alloc | apply Kd.R_drewN | apply Kd.R_drew)); exact HO0.out)); (case aS => exact (below_size (by repeat (first | (with_reducible first | exact HB.out | apply below_alloc | apply pw_below_drewN | apply below_drew1) | exact HB.out)))); (case aL => have := LMc4.out; omega); intro v226 w5 ho hb hg hat; rw [← Ny225.out] at ho; have n0_ := Aside0.mk (hb); have n1_ := Aside0.mk (Kept.of_grown (S := (fun k_ => P0_ k_)) hg (by repeat (first | (with_reducible first | exact HK.out | apply Kept.alloc | apply Kept.drewN | apply Kept.drew) | exact HK.out)) (fun k_ e_ => (HO0.out.1 k_ e_))); have n2_ := Aside0.mk (ho); clear HB; clear HK; clear HO0; have HB := n0_; have HK := n1_; have HO227 := n2_; clear n0_ n1_ n2_; clear ho hb hg hat))
      go_ret
      exact ⟨_, by first | rfl | (simp [errW_none, errW_some] <;> rfl) | (simp [*, errW_none, errW_some] <;> rfl), by (with_reducible repeat (first | apply Kd.R_alloc | apply Kd.R_drewN | apply Kd.R_drew)); exact HO227.out, by repeat (first | (with_reducible first | exact HB.out | apply below_alloc | apply pw_below_drewN | apply below_drew1) | exact HB.out), by repeat (first | (with_reducible first | exact HK.out | apply Kept.alloc | apply Kept.drewN | apply Kept.drew) | exact HK.out)⟩
    · rw [if_neg c4] at H
      exact absurd H (by simp)
  · rw [if_neg c3] at H
    have c3b0 : decide (a1 < 128) = false := decide_eq_false c3
    clear c3
    by_cases c6 : a1 < 2048
    · rw [if_pos c6] at H
      have c6b0 : decide (a1 < 2048) = true := decide_eq_true c6
      clear c6
      obtain ⟨y228, hy228⟩ : ∃ y_ : List Int, y_ = (([(wrap64 (192 + (wrap64 (Int.tdiv a1 64)))) % 256, (wrap64 (128 + (Int.tmod a1 64))) % 256] : List Int)) := ⟨_, rfl⟩
      replace H : (if l0.length + y228.length < 140737488355328 then (some (l0 ++ y228)) else (none)) = some r := by first | (rw [hy228]; with_reducible exact H) | (have H2_ := (Option.bind_some _ _).symm.trans H; rw [hy228]; with_reducible exact H2_) | (have H2_ := (Option.bind_some _ _).symm.trans H; with_reducible exact H2_) | with_reducible exact H | (rw [hy228]; exact H) | exact H
      have Ny228 := Aside0.mk hy228
      clear hy228
      by_cases c7 : l0.length + y228.length < 140737488355328
      · rw [if_pos c7] at H
        have LMc7 := Aside0.mk c7
        clear c7
        obtain ⟨y231, hy231⟩ : ∃ y_ : List Int, y_ = (l0 ++ y228) := ⟨_, rfl⟩
        replace H : (some y231) = some r := by first | (rw [hy231]; with_reducible exact H) | (have H2_ := (Option.bind_some _ _).symm.trans H; rw [hy231]; with_reducible exact H2_) | (have H2_ := (Option.bind_some _ _).symm.trans H; with_reducible exact H2_) | with_reducible exact H | (rw [hy231]; exact H) | exact H
        have Ny231 := Aside0.mk hy231
        clear hy231
        obtain rfl := Option.some.inj H
        go_enter Tryd.func70, Tryd.ntmps70
        go_wp2_with (first | ((with_reducible refine gate_dst (N := 25) rfl ?_); refine Kd.R_lit (Kd.int .u8) _ 5 ?hg (N := 25) ?hd (xs := ([(wrap64 (192 + (wrap64 (Int.tdiv a1 64)))) % 256, (wrap64 (128 + (Int.tmod a1 64))) % 256] : List Int)) (inner := [.int .u8 ((wrap64 (192 + (wrap64 (Int.tdiv a1 64)))) % 256), .int .u8 ((wrap64 (128 + (Int.tmod a1 64))) % 256)]) (ok := fun _ => True) (okp := fun _ => True) ?hr ?hp (fun _ hk => hk) trivial (Below.refl _ _) (Nat.le_refl _) (by simp) ?_; (case hd => rfl); (case hg => rfl); (case hr => first | (go_simp; done) | (go_simp; rfl)); (case hp => exact (Reps.one (show Kd.M (Kd.int .u8) _ _ _ ((wrap64 (192 + (wrap64 (Int.tdiv a1 64)))) % 256) [.int .u8 ((wrap64 (192 + (wrap64 (Int.tdiv a1 64)))) % 256)] from rfl) (Reps.one (show Kd.M (Kd.int .u8) _ _ _ ((wrap64 (128 + (Int.tmod a1 64))) % 256) [.int .u8 ((wrap64 (128 + (Int.tmod a1 64))) % 256)] from rfl) (Reps.none _ _)))); intro v229 w8 ho9 hb hg_ hnew_; clear hg_ hnew_; (first | rw [← Ny228.out] at ho9 | (simp only [Int.reduceToNat] at ho9; rw [← Ny228.out] at ho9)); have n0_ := Aside0.mk (Kd.R_elder' (by (with_reducible repeat (first | apply Kd.R_alloc | apply Kd.R_drewN | apply Kd.R_drew)); exact HO0.out) (Kd.R_base ho9) hb); have n1_ := Aside0.mk (Kd.R_lower (Kd.R_new' (Kd.R_newM (M := fun k_ => (P0_ k_ ∨ w.heap.size ≤ k_)) ho9 (by first | exact HK.out.1 | exact (show Kept w _ (fun k_ => P0_ k_) from by repeat (first | (with_reducible first | exact HK.out | apply Kept.alloc | apply Kept.drewN | apply Kept.drew) | exact HK.out)).1) (fun k_ h_ => .inr h_)) (Kd.R_lt (by (with_reducible repeat (first | apply Kd.R_alloc | apply Kd.R_drewN | apply Kd.R_drew)); exact HO0.out))) (below_size (by repeat (first | (with_reducible first | exact HB.out | apply below_alloc | apply pw_below_drewN | apply below_drew1) | exact HB.out)))); have n2_ := Aside0.mk (Kept.below (S := (fun k_ => P0_ k_)) (by repeat (first | (with_reducible first | exact HK.out | apply Kept.alloc | apply Kept.drewN | apply Kept.drew) | exact HK.out)) hb); have n3_ := Aside0.mk (below_step (by repeat (first | (with_reducible first | exact HB.out | apply below_alloc | apply pw_below_drewN | apply below_drew1) | exact HB.out)) hb); clear HO0; clear HK; clear HB; have HO0 := n0_; have HO230 := n1_; have HK := n2_; have HB := n3_; clear n0_ n1_ n2_ n3_; clear hb ho9; obtain ⟨Ao11, co11, eo11⟩ := Kd.R_slice HO230.out; subst eo11) | ((with_reducible refine gate_builtin (b := .append) (xs := #[.tmp 16, .tmp 25]) rfl ?_); at_builtin; refine Kd.R_append_rows (Kd.int .u8) (w0 := w0) w0.heap.size rfl (.tmp 16) (.tmp 25) 119 5 (.int .u8 0) 1 rfl Tryd.underlying119 info5 rfl (by decide) (by omega) u9000_ l0 y228 _ _ _ (fun k_ => (P0_ k_ ∨ w.heap.size ≤ k_) ∧ some k_ ≠ (.slice Ao11 y228.length co11 : Value).ownBlock) (fun _ => False) rfl rfl ?aO ?aR (fun _ _ h => h) (fun _ h => h.elim) ?aF ?aB ?aS ?aL ?_; (case aR => repeat (first | exact (Kd.R_reads' HO230.out).2.2 | (with_reducible refine Kd.C_alloc ?_ _) | (with_reducible refine Kd.C_drewN ?_ _) | (with_reducible refine Kd.C_drew ?_))); (case aB => exact (by repeat (first | (with_reducible first | exact HB.out | apply below_alloc | apply pw_below_drewN | apply below_drew1) | exact HB.out))); (case aF => exact (fun k_ hk => ⟨(.inr (Nat.le_trans (by first | exact HK.out.1 | exact (show Kept w _ (fun k_ => P0_ k_) from by repeat (first | (with_reducible first | exact HK.out | apply Kept.alloc | apply Kept.drewN | apply Kept.drew) | exact HK.out)).1) hk)), Kd.fresh' (Kd.R_lt (by (with_reducible repeat (first | apply Kd.R_alloc | apply Kd.R_drewN | apply Kd.R_drew)); exact HO230.out)) k_ hk⟩)); (case aO => exact (by (with_reducible repeat (first | apply Kd.R_alloc | apply Kd.R_drewN | apply Kd.R_drew)); exact HO0.out)); (case aS => exact (below_size (by repeat (first | (with_reducible first | exact HB.out | apply below_alloc | apply pw_below_drewN | apply below_drew1) | exact HB.out)))); (case aL => have := LMc7.out; omega); intro v232 w10 ho hb hg hat; rw [← Ny231.out] at ho; have n0_ := Aside0.mk (Kd.R_after (ok := (fun k_ => (P0_ k_ ∨ w.heap.size ≤ k_))) (by (with_reducible repeat (first | apply Kd.R_alloc | apply Kd.R_drewN | apply Kd.R_drew)); exact Kd.R_mono HO230.out (fun _ hk => ⟨hk.1.1, hk.2⟩)) hg hat); have n1_ := Aside0.mk (hb); have n2_ := Aside0.mk (Kept.of_grown (S := (fun k_ => P0_ k_)) hg (by repeat (first | (with_reducible first | exact HK.out | apply Kept.alloc | apply Kept.drewN | apply Kept.drew) | exact HK.out)) (fun k_ e_ => (HO0.out.1 k_ e_).1)); have n3_ := Aside0.mk (ho); clear HO230; clear HB; clear HK; clear HO0; have HO230 := n0_; have HB := n1_; have HK := n2_; have HO233 := n3_; clear n0_ n1_ n2_ n3_; clear ho hb hg hat))
        go_ret
        exact ⟨_, by first | rfl | (simp [errW_none, errW_some] <;> rfl) | (simp [*, errW_none, errW_some] <;> rfl), by (with_reducible repeat (first | apply Kd.R_alloc | apply Kd.R_drewN | apply Kd.R_drew)); exact Kd.R_mono HO233.out (fun _ hk => hk.1), by repeat (first | (with_reducible first | exact HB.out | apply below_alloc | apply pw_below_drewN | apply below_drew1) | exact HB.out), by repeat (first | (with_reducible first | exact HK.out | apply Kept.alloc | apply Kept.drewN | apply Kept.drew) | exact HK.out)⟩
      · rw [if_neg c7] at H
        exact absurd H (by simp)
    · rw [if_neg c6] at H
      have c6b0 : decide (a1 < 2048) = false := decide_eq_false c6
      clear c6
      by_cases c12 : a1 < 65536
      · rw [if_pos c12] at H
        have c12b0 : decide (a1 < 65536) = true := decide_eq_true c12
        clear c12
        obtain ⟨y234, hy234⟩ : ∃ y_ : List Int, y_ = (([(wrap64 (224 + (wrap64 (Int.tdiv a1 4096)))) % 256, (wrap64 (128 + (Int.tmod (wrap64 (Int.tdiv a1 64)) 64))) % 256, (wrap64 (128 + (Int.tmod a1 64))) % 256] : List Int)) := ⟨_, rfl⟩
        replace H : (if l0.length + y234.length < 140737488355328 then (some (l0 ++ y234)) else (none)) = some r := by first | (rw [hy234]; with_reducible exact H) | (have H2_ := (Option.bind_some _ _).symm.trans H; rw [hy234]; with_reducible exact H2_) | (have H2_ := (Option.bind_some _ _).symm.trans H; with_reducible exact H2_) | with_reducible exact H | (rw [hy234]; exact H) | exact H
        have Ny234 := Aside0.mk hy234
        clear hy234
        by_cases c13 : l0.length + y234.length < 140737488355328
        · rw [if_pos c13] at H
          have LMc13 := Aside0.mk c13
          clear c13
          obtain ⟨y237, hy237⟩ : ∃ y_ : List Int, y_ = (l0 ++ y234) := ⟨_, rfl⟩
          replace H : (some y237) = some r := by first | (rw [hy237]; with_reducible exact H) | (have H2_ := (Option.bind_some _ _).symm.trans H; rw [hy237]; with_reducible exact H2_) | (have H2_ := (Option.bind_some _ _).symm.trans H; with_reducible exact H2_) | with_reducible exact H | (rw [hy237]; exact H) | exact H
          have Ny237 := Aside0.mk hy237
          clear hy237
          obtain rfl := Option.some.inj H
          go_enter Tryd.func70, Tryd.ntmps70
          go_wp2_with (first | ((with_reducible refine gate_dst (N := 44) rfl ?_); refine Kd.R_lit (Kd.int .u8) _ 5 ?hg (N := 44) ?hd (xs := ([(wrap64 (224 + (wrap64 (Int.tdiv a1 4096)))) % 256, (wrap64 (128 + (Int.tmod (wrap64 (Int.tdiv a1 64)) 64))) % 256, (wrap64 (128 + (Int.tmod a1 64))) % 256] : List Int)) (inner := [.int .u8 ((wrap64 (224 + (wrap64 (Int.tdiv a1 4096)))) % 256), .int .u8 ((wrap64 (128 + (Int.tmod (wrap64 (Int.tdiv a1 64)) 64))) % 256), .int .u8 ((wrap64 (128 + (Int.tmod a1 64))) % 256)]) (ok := fun _ => True) (okp := fun _ => True) ?hr ?hp (fun _ hk => hk) trivial (Below.refl _ _) (Nat.le_refl _) (by simp) ?_; (case hd => rfl); (case hg => rfl); (case hr => first | (go_simp; done) | (go_simp; rfl)); (case hp => exact (Reps.one (show Kd.M (Kd.int .u8) _ _ _ ((wrap64 (224 + (wrap64 (Int.tdiv a1 4096)))) % 256) [.int .u8 ((wrap64 (224 + (wrap64 (Int.tdiv a1 4096)))) % 256)] from rfl) (Reps.one (show Kd.M (Kd.int .u8) _ _ _ ((wrap64 (128 + (Int.tmod (wrap64 (Int.tdiv a1 64)) 64))) % 256) [.int .u8 ((wrap64 (128 + (Int.tmod (wrap64 (Int.tdiv a1 64)) 64))) % 256)] from rfl) (Reps.one (show Kd.M (Kd.int .u8) _ _ _ ((wrap64 (128 + (Int.tmod a1 64))) % 256) [.int .u8 ((wrap64 (128 + (Int.tmod a1 64))) % 256)] from rfl) (Reps.none _ _))))); intro v235 w14 ho15 hb hg_ hnew_; clear hg_ hnew_; (first | rw [← Ny234.out] at ho15 | (simp only [Int.reduceToNat] at ho15; rw [← Ny234.out] at ho15)); have n0_ := Aside0.mk (Kd.R_elder' (by (with_reducible repeat (first | apply Kd.R_alloc | apply Kd.R_drewN | apply Kd.R_drew)); exact HO0.out) (Kd.R_base ho15) hb); have n1_ := Aside0.mk (Kd.R_lower (Kd.R_new' (Kd.R_newM (M := fun k_ => (P0_ k_ ∨ w.heap.size ≤ k_)) ho15 (by first | exact HK.out.1 | exact (show Kept w _ (fun k_ => P0_ k_) from by repeat (first | (with_reducible first | exact HK.out | apply Kept.alloc | apply Kept.drewN | apply Kept.drew) | exact HK.out)).1) (fun k_ h_ => .inr h_)) (Kd.R_lt (by (with_reducible repeat (first | apply Kd.R_alloc | apply Kd.R_drewN | apply Kd.R_drew)); exact HO0.out))) (below_size (by repeat (first | (with_reducible first | exact HB.out | apply below_alloc | apply pw_below_drewN | apply below_drew1) | exact HB.out)))); have n2_ := Aside0.mk (Kept.below (S := (fun k_ => P0_ k_)) (by repeat (first | (with_reducible first | exact HK.out | apply Kept.alloc | apply Kept.drewN | apply Kept.drew) | exact HK.out)) hb); have n3_ := Aside0.mk (below_step (by repeat (first | (with_reducible first | exact HB.out | apply below_alloc | apply pw_below_drewN | apply below_drew1) | exact HB.out)) hb); clear HO0; clear HK; clear HB; have HO0 := n0_; have HO236 := n1_; have HK := n2_; have HB := n3_; clear n0_ n1_ n2_ n3_; clear hb ho15; obtain ⟨Ao17, co17, eo17⟩ := Kd.R_slice HO236.out; subst eo17) | ((with_reducible refine gate_builtin (b := .append) (xs := #[.tmp 30, .tmp 44]) rfl ?_); at_builtin; refine Kd.R_append_rows (Kd.int .u8) (w0 := w0) w0.heap.size rfl (.tmp 30) (.tmp 44) 119 5 (.int .u8 0) 1 rfl Tryd.underlying119 info5 rfl (by decide) (by omega) u9000_ l0 y234 _ _ _ (fun k_ => (P0_ k_ ∨ w.heap.size ≤ k_) ∧ some k_ ≠ (.slice Ao17 y234.length co17 : Value).ownBlock) (fun _ => False) rfl rfl ?aO ?aR (fun _ _ h => h) (fun _ h => h.elim) ?aF ?aB ?aS ?aL ?_; (case aR => repeat (first | exact (Kd.R_reads' HO236.out).2.2 | (with_reducible refine Kd.C_alloc ?_ _) | (with_reducible refine Kd.C_drewN ?_ _) | (with_reducible refine Kd.C_drew ?_))); (case aB => exact (by repeat (first | (with_reducible first | exact HB.out | apply below_alloc | apply pw_below_drewN | apply below_drew1) | exact HB.out))); (case aF => exact (fun k_ hk => ⟨(.inr (Nat.le_trans (by first | exact HK.out.1 | exact (show Kept w _ (fun k_ => P0_ k_) from by repeat (first | (with_reducible first | exact HK.out | apply Kept.alloc | apply Kept.drewN | apply Kept.drew) | exact HK.out)).1) hk)), Kd.fresh' (Kd.R_lt (by (with_reducible repeat (first | apply Kd.R_alloc | apply Kd.R_drewN | apply Kd.R_drew)); exact HO236.out)) k_ hk⟩)); (case aO => exact (by (with_reducible repeat (first | apply Kd.R_alloc | apply Kd.R_drewN | apply Kd.R_drew)); exact HO0.out)); (case aS => exact (below_size (by repeat (first | (with_reducible first | exact HB.out | apply below_alloc | apply pw_below_drewN | apply below_drew1) | exact HB.out)))); (case aL => have := LMc13.out; omega); intro v238 w16 ho hb hg hat; rw [← Ny237.out] at ho; have n0_ := Aside0.mk (Kd.R_after (ok := (fun k_ => (P0_ k_ ∨ w.heap.size ≤ k_))) (by (with_reducible repeat (first | apply Kd.R_alloc | apply Kd.R_drewN | apply Kd.R_drew)); exact Kd.R_mono HO236.out (fun _ hk => ⟨hk.1.1, hk.2⟩)) hg hat); have n1_ := Aside0.mk (hb); have n2_ := Aside0.mk (Kept.of_grown (S := (fun k_ => P0_ k_)) hg (by repeat (first | (with_reducible first | exact HK.out | apply Kept.alloc | apply Kept.drewN | apply Kept.drew) | exact HK.out)) (fun k_ e_ => (HO0.out.1 k_ e_).1)); have n3_ := Aside0.mk (ho); clear HO236; clear HB; clear HK; clear HO0; have HO236 := n0_; have HB := n1_; have HK := n2_; have HO239 := n3_; clear n0_ n1_ n2_ n3_; clear ho hb hg hat))
          go_ret
          exact ⟨_, by first | rfl | (simp [errW_none, errW_some] <;> rfl) | (simp [*, errW_none, errW_some] <;> rfl), by (with_reducible repeat (first | apply Kd.R_alloc | apply Kd.R_drewN | apply Kd.R_drew)); exact Kd.R_mono HO239.out (fun _ hk => hk.1), by repeat (first | (with_reducible first | exact HB.out | apply below_alloc | apply pw_below_drewN | apply below_drew1) | exact HB.out), by repeat (first | (with_reducible first | exact HK.out | apply Kept.alloc | apply Kept.drewN | apply Kept.drew) | exact HK.out)⟩
        · rw [if_neg c13] at H
          exact absurd H (by simp)
      · rw [if_neg c12] at H
        have c12b0 : decide (a1 < 65536) = false := decide_eq_false c12
        clear c12
        obtain ⟨y240, hy240⟩ : ∃ y_ : List Int, y_ = (([(wrap64 (240 + (wrap64 (Int.tdiv a1 262144)))) % 256, (wrap64 (128 + (Int.tmod (wrap64 (Int.tdiv a1 4096)) 64))) % 256, (wrap64 (128 + (Int.tmod (wrap64 (Int.tdiv a1 64)) 64))) % 256, (wrap64 (128 + (Int.tmod a1 64))) % 256] : List Int)) := ⟨_, rfl⟩
        replace H : (if l0.length + y240.length < 140737488355328 then (some (l0 ++ y240)) else (none)) = some r := by first | (rw [hy240]; with_reducible exact H) | (have H2_ := (Option.bind_some _ _).symm.trans H; rw [hy240]; with_reducible exact H2_) | (have H2_ := (Option.bind_some _ _).symm.trans H; with_reducible exact H2_) | with_reducible exact H | (rw [hy240]; exact H) | exact H
        have Ny240 := Aside0.mk hy240
        clear hy240
        by_cases c18 : l0.length + y240.length < 140737488355328
        · rw [if_pos c18] at H
          have LMc18 := Aside0.mk c18
          clear c18
          obtain ⟨y243, hy243⟩ : ∃ y_ : List Int, y_ = (l0 ++ y240) := ⟨_, rfl⟩
          replace H : (some y243) = some r := by first | (rw [hy243]; with_reducible exact H) | (have H2_ := (Option.bind_some _ _).symm.trans H; rw [hy243]; with_reducible exact H2_) | (have H2_ := (Option.bind_some _ _).symm.trans H; with_reducible exact H2_) | with_reducible exact H | (rw [hy243]; exact H) | exact H
          have Ny243 := Aside0.mk hy243
          clear hy243
          obtain rfl := Option.some.inj H
          go_enter Tryd.func70, Tryd.ntmps70
          go_wp2_with (first | ((with_reducible refine gate_dst (N := 65) rfl ?_); refine Kd.R_lit (Kd.int .u8) _ 5 ?hg (N := 65) ?hd (xs := ([(wrap64 (240 + (wrap64 (Int.tdiv a1 262144)))) % 256, (wrap64 (128 + (Int.tmod (wrap64 (Int.tdiv a1 4096)) 64))) % 256, (wrap64 (128 + (Int.tmod (wrap64 (Int.tdiv a1 64)) 64))) % 256, (wrap64 (128 + (Int.tmod a1 64))) % 256] : List Int)) (inner := [.int .u8 ((wrap64 (240 + (wrap64 (Int.tdiv a1 262144)))) % 256), .int .u8 ((wrap64 (128 + (Int.tmod (wrap64 (Int.tdiv a1 4096)) 64))) % 256), .int .u8 ((wrap64 (128 + (Int.tmod (wrap64 (Int.tdiv a1 64)) 64))) % 256), .int .u8 ((wrap64 (128 + (Int.tmod a1 64))) % 256)]) (ok := fun _ => True) (okp := fun _ => True) ?hr ?hp (fun _ hk => hk) trivial (Below.refl _ _) (Nat.le_refl _) (by simp) ?_; (case hd => rfl); (case hg => rfl); (case hr => first | (go_simp; done) | (go_simp; rfl)); (case hp => exact (Reps.one (show Kd.M (Kd.int .u8) _ _ _ ((wrap64 (240 + (wrap64 (Int.tdiv a1 262144)))) % 256) [.int .u8 ((wrap64 (240 + (wrap64 (Int.tdiv a1 262144)))) % 256)] from rfl) (Reps.one (show Kd.M (Kd.int .u8) _ _ _ ((wrap64 (128 + (Int.tmod (wrap64 (Int.tdiv a1 4096)) 64))) % 256) [.int .u8 ((wrap64 (128 + (Int.tmod (wrap64 (Int.tdiv a1 4096)) 64))) % 256)] from rfl) (Reps.one (show Kd.M (Kd.int .u8) _ _ _ ((wrap64 (128 + (Int.tmod (wrap64 (Int.tdiv a1 64)) 64))) % 256) [.int .u8 ((wrap64 (128 + (Int.tmod (wrap64 (Int.tdiv a1 64)) 64))) % 256)] from rfl) (Reps.one (show Kd.M (Kd.int .u8) _ _ _ ((wrap64 (128 + (Int.tmod a1 64))) % 256) [.int .u8 ((wrap64 (128 + (Int.tmod a1 64))) % 256)] from rfl) (Reps.none _ _)))))); intro v241 w19 ho20 hb hg_ hnew_; clear hg_ hnew_; (first | rw [← Ny240.out] at ho20 | (simp only [Int.reduceToNat] at ho20; rw [← Ny240.out] at ho20)); have n0_ := Aside0.mk (Kd.R_elder' (by (with_reducible repeat (first | apply Kd.R_alloc | apply Kd.R_drewN | apply Kd.R_drew)); exact HO0.out) (Kd.R_base ho20) hb); have n1_ := Aside0.mk (Kd.R_lower (Kd.R_new' (Kd.R_newM (M := fun k_ => (P0_ k_ ∨ w.heap.size ≤ k_)) ho20 (by first | exact HK.out.1 | exact (show Kept w _ (fun k_ => P0_ k_) from by repeat (first | (with_reducible first | exact HK.out | apply Kept.alloc | apply Kept.drewN | apply Kept.drew) | exact HK.out)).1) (fun k_ h_ => .inr h_)) (Kd.R_lt (by (with_reducible repeat (first | apply Kd.R_alloc | apply Kd.R_drewN | apply Kd.R_drew)); exact HO0.out))) (below_size (by repeat (first | (with_reducible first | exact HB.out | apply below_alloc | apply pw_below_drewN | apply below_drew1) | exact HB.out)))); have n2_ := Aside0.mk (Kept.below (S := (fun k_ => P0_ k_)) (by repeat (first | (with_reducible first | exact HK.out | apply Kept.alloc | apply Kept.drewN | apply Kept.drew) | exact HK.out)) hb); have n3_ := Aside0.mk (below_step (by repeat (first | (with_reducible first | exact HB.out | apply below_alloc | apply pw_below_drewN | apply below_drew1) | exact HB.out)) hb); clear HO0; clear HK; clear HB; have HO0 := n0_; have HO242 := n1_; have HK := n2_; have HB := n3_; clear n0_ n1_ n2_ n3_; clear hb ho20; obtain ⟨Ao22, co22, eo22⟩ := Kd.R_slice HO242.out; subst eo22) | ((with_reducible refine gate_builtin (b := .append) (xs := #[.tmp 46, .tmp 65]) rfl ?_); at_builtin; refine Kd.R_append_rows (Kd.int .u8) (w0 := w0) w0.heap.size rfl (.tmp 46) (.tmp 65) 119 5 (.int .u8 0) 1 rfl Tryd.underlying119 info5 rfl (by decide) (by omega) u9000_ l0 y240 _ _ _ (fun k_ => (P0_ k_ ∨ w.heap.size ≤ k_) ∧ some k_ ≠ (.slice Ao22 y240.length co22 : Value).ownBlock) (fun _ => False) rfl rfl ?aO ?aR (fun _ _ h => h) (fun _ h => h.elim) ?aF ?aB ?aS ?aL ?_; (case aR => repeat (first | exact (Kd.R_reads' HO242.out).2.2 | (with_reducible refine Kd.C_alloc ?_ _) | (with_reducible refine Kd.C_drewN ?_ _) | (with_reducible refine Kd.C_drew ?_))); (case aB => exact (by repeat (first | (with_reducible first | exact HB.out | apply below_alloc | apply pw_below_drewN | apply below_drew1) | exact HB.out))); (case aF => exact (fun k_ hk => ⟨(.inr (Nat.le_trans (by first | exact HK.out.1 | exact (show Kept w _ (fun k_ => P0_ k_) from by repeat (first | (with_reducible first | exact HK.out | apply Kept.alloc | apply Kept.drewN | apply Kept.drew) | exact HK.out)).1) hk)), Kd.fresh' (Kd.R_lt (by (with_reducible repeat (first | apply Kd.R_alloc | apply Kd.R_drewN | apply Kd.R_drew)); exact HO242.out)) k_ hk⟩)); (case aO => exact (by (with_reducible repeat (first | apply Kd.R_alloc | apply Kd.R_drewN | apply Kd.R_drew)); exact HO0.out)); (case aS => exact (below_size (by repeat (first | (with_reducible first | exact HB.out | apply below_alloc | apply pw_below_drewN | apply below_drew1) | exact HB.out)))); (case aL => have := LMc18.out; omega); intro v244 w21 ho hb hg hat; rw [← Ny243.out] at ho; have n0_ := Aside0.mk (Kd.R_after (ok := (fun k_ => (P0_ k_ ∨ w.heap.size ≤ k_))) (by (with_reducible repeat (first | apply Kd.R_alloc | apply Kd.R_drewN | apply Kd.R_drew)); exact Kd.R_mono HO242.out (fun _ hk => ⟨hk.1.1, hk.2⟩)) hg hat); have n1_ := Aside0.mk (hb); have n2_ := Aside0.mk (Kept.of_grown (S := (fun k_ => P0_ k_)) hg (by repeat (first | (with_reducible first | exact HK.out | apply Kept.alloc | apply Kept.drewN | apply Kept.drew) | exact HK.out)) (fun k_ e_ => (HO0.out.1 k_ e_).1)); have n3_ := Aside0.mk (ho); clear HO242; clear HB; clear HK; clear HO0; have HO242 := n0_; have HB := n1_; have HK := n2_; have HO245 := n3_; clear n0_ n1_ n2_ n3_; clear ho hb hg hat))
          go_ret
          exact ⟨_, by first | rfl | (simp [errW_none, errW_some] <;> rfl) | (simp [*, errW_none, errW_some] <;> rfl), by (with_reducible repeat (first | apply Kd.R_alloc | apply Kd.R_drewN | apply Kd.R_drew)); exact Kd.R_mono HO245.out (fun _ hk => hk.1), by repeat (first | (with_reducible first | exact HB.out | apply below_alloc | apply pw_below_drewN | apply below_drew1) | exact HB.out), by repeat (first | (with_reducible first | exact HK.out | apply Kept.alloc | apply Kept.drewN | apply Kept.drew) | exact HK.out)⟩
        · rw [if_neg c18] at H
          exact absurd H (by simp)
/-! ### cameoref01_Of: function 59 -/
def cameoref01_Of.l0 : Nat → List Int → List (S124) → Int → Option (ByteArray)
  | 0, _, _, _ => none
  | k + 1, x3, x4, x5 => if x5 < (x4.length : Int) then (if 0 ≤ x5 then ((cameoref01_put.f x3 ((rd_T124 x4 x5).f1)).bind fun t250 => (cameoref01_Of.l0 k t250 x4 (wrap64 (x5 + 1)))) else (none)) else (some (strOfNums x3))
def cameoref01_Of.f (k : Nat) (l0 : List Int) : Option (ByteArray) := (cameoref01_Row.f k l0).bind fun t246 => (cameoref01_Of.l0 k ([] : List Int) t246 0)
set_option maxHeartbeats 8000000 in
set_option maxRecDepth 100000 in
theorem cameoref01_Of.calls (k : Nat) (A0 : Option Addr) (c0 : Nat) (l0 : List Int) (r : ByteArray) (w : World) (hr0 : Kd.C (Kd.int .u16) w A0 l0.length l0) (hc0 : l0.length ≤ c0) (h : cameoref01_Of.f k l0 = some r) :
    Calls Tryd.prog 59 #[.slice A0 l0.length c0] w fun e w' => e = .returned (.string r) ∧ Below w.heap.size w w' := by
  have HR0 := Aside0.mk hr0
  have HC0 := Aside0.mk hc0
  clear hr0 hc0
  have HB := Aside0.mk (Below.refl w.heap.size w)
  have H : ((cameoref01_Row.f k l0).bind fun t246 => (cameoref01_Of.l0 k ([] : List Int) t246 0)) = some r := h
  clear h
  replace H := Option.bind_eq_some_iff.mp H
  obtain ⟨t246, A20, H⟩ := H
  replace H : (cameoref01_Of.l0 k ([] : List Int) t246 0) = some r := H
  have A2 := Aside0.mk A20
  clear A20
  have H' := Aside0.mk H
  clear H
  go_enter Tryd.func59, Tryd.ntmps59
  go_wp2_with (first | ((with_reducible refine gate_callee (f := 69) rfl ?_); refine goesL_ (some 7) rfl rfl Tryd.func69 (by kernel_rfl) rfl #[.slice A0 l0.length c0] rfl (by (try simp only [List.map_toArray, List.map_cons, List.map_nil]); first | done | rfl | (simp only [List.length_drop, List.length_take]; rfl)) ?_; (with_reducible refine (cameoref01_Row.calls k _ _ l0 t246 _ ?side1 ?side2 A2.out).mono ?_); (case side1 => repeat (first | exact HR0.out | (with_reducible refine Kd.C_alloc ?_ _) | (with_reducible refine Kd.C_drewN ?_ _) | (with_reducible refine Kd.C_drew ?_))); (case side2 => exact HC0.out); rintro e w3 ⟨v247, rfl, ho0, hb⟩; refine ⟨_, rfl, ?_⟩; have n0_ := Aside0.mk (Kd.R_lower ho0 (below_size (by repeat (first | (with_reducible first | exact HB.out | apply below_alloc | apply pw_below_drewN | apply below_drew1) | exact HB.out)))); have n1_ := Aside0.mk (below_step (by repeat (first | (with_reducible first | exact HB.out | apply below_alloc | apply pw_below_drewN | apply below_drew1) | exact HB.out)) hb); clear HB; have HO248 := n0_; have HB := n1_; clear n0_ n1_; (try clear hb); (try clear hb2); (try clear hk); (try clear hi); (try clear ho0)))
  go_loopg [3, 5] k (fun kq v3 v5 w' => ∃ (x3_1 : List Int) (x5_1 : Int), v5 = .int .i64 x5_1 ∧ Aside0 (cameoref01_Of.l0 kq x3_1 t246 x5_1 = some r) ∧ Aside0 (kq ≤ k) ∧ Aside0 (Kd.R (Kd.int .u8) 5 w' w.heap.size (fun _ => True) v3 x3_1) ∧ Aside0 (Kd.R k124 124 w' w.heap.size (fun _ => True) v247 t246) ∧ Aside0 (Below w.heap.size w w'))
  case atStart => exact ⟨(([] : List Int)), (0), (by first | rfl | (simp; done) | (simp [*]; done)), H', ⟨Nat.le_refl _⟩, ⟨by first | exact Kd.R_nil _ _ _ _ _ | exact Kd.N_nil _ _ _ _ _ | exact Kd.V_nil _ _ _ _ _ | exact Kd.Q_nil _ _ _ _ _ | exact Kd.S_nil _ _ _ _ _⟩, ⟨by (with_reducible repeat (first | apply Kd.R_alloc | apply Kd.R_drewN | apply Kd.R_drew)); exact HO248.out⟩, ⟨by repeat (first | (with_reducible first | exact HB.out | apply below_alloc | apply pw_below_drewN | apply below_drew1) | exact HB.out)⟩⟩
  case round =>
    clear H'
    try clear p2
    obtain ⟨x3_1, x5_1, rfl, HA, HK1, HO_3, HO_4, HB⟩ := hrel
    cases gk with
    | zero => exact absurd HA.out (by simp [cameoref01_Of.l0])
    | succ k1 =>
      have H := HA.out
      clear HA
      simp only [cameoref01_Of.l0] at H
      by_cases c4 : x5_1 < (t246.length : Int)
      · rw [if_pos c4] at H
        have c4b0 : decide (x5_1 < (t246.length : Int)) = true := decide_eq_true c4
        clear c4
        by_cases c5 : 0 ≤ x5_1
        · rw [if_pos c5] at H
          have c5b0 : decide (0 ≤ x5_1) = true := decide_eq_true c5
          clear c5
          replace H := Option.bind_eq_some_iff.mp H
          obtain ⟨t250, A60, H⟩ := H
          replace H : (cameoref01_Of.l0 k1 t250 t246 (wrap64 (x5_1 + 1))) = some r := H
          have A6 := Aside0.mk A60
          clear A60
          have H' := Aside0.mk H
          clear H
          obtain ⟨Ao7, co7, eo7⟩ := Kd.R_slice HO_4.out
          subst eo7
          have p249 : 0 ≤ (x5_1 : Int) := of_decide_eq_true (by first | (with_reducible assumption) | assumption)
          have q249 : x5_1 < (t246.length : Int) := of_decide_eq_true (by first | (with_reducible assumption) | assumption)
          obtain ⟨ad249, e249, hx249_0, hx249_1⟩ := at_T124 (Kd.R_reads' HO_4.out).2.2 x5_1 p249 q249
          cases e249
          replace p249 := eq_true p249
          replace q249 := eq_true q249
          obtain ⟨Ao8, co8, eo8⟩ := Kd.R_slice HO_3.out
          subst eo8
          go_wp2_with (first | ((with_reducible refine gate_callee (f := 70) rfl ?_); refine goesL_ (some 20) rfl rfl Tryd.func70 (by kernel_rfl) rfl #[.slice Ao8 x3_1.length co8, .int .i64 ((rd_T124 t246 x5_1).f1)] rfl (by (try simp only [List.map_toArray, List.map_cons, List.map_nil]); first | done | rfl | (simp only [List.length_drop, List.length_take]; rfl)) ?_; (with_reducible refine (cameoref01_put.calls (fun k_ => some k_ = (.slice Ao8 x3_1.length co8 : Value).ownBlock) (.slice Ao8 x3_1.length co8) x3_1 ((rd_T124 t246 x5_1).f1) t250 w _ ?side1 ?side2 A6.out).mono ?_); (case side1 => repeat (first | (with_reducible first | exact HB.out | apply below_alloc | apply pw_below_drewN | apply below_drew1) | exact HB.out)); (case side2 => exact Kd.R_tight rfl HO_3.out); rintro e w9 ⟨v251, rfl, ho0, hb, hkp⟩; refine ⟨_, rfl, ?_⟩; have n0_ := Aside0.mk (Kd.R_mono (ok' := fun k_ => True) (Kd.R_keptB ((Kd.R_apart' HO_4.out (Kd.R_typed HO_3.out) (by decide))) hkp (fun k_ hk_ hs_ => (hk_.2) hs_)) (fun k_ hk_ => trivial)); have n1_ := Aside0.mk (Kd.R_mono (ok' := fun k_ => True) ho0 (fun k_ hk_ => trivial)); have n2_ := Aside0.mk (hb); clear HO_4; clear HB; clear HO_3; have HO_4 := n0_; have HO252 := n1_; have HB := n2_; clear n0_ n1_ n2_; (try clear hb); (try clear hkp); (try clear ho0)))
          go_roundg k1
          case measure => have := HK1.out; omega
          case rel => exact ⟨(t250), (wrap64 (x5_1 + 1)), (by first | rfl | (simp; done) | (simp [*]; done)), H', ⟨by have := HK1.out; omega⟩, ⟨by (with_reducible repeat (first | apply Kd.R_alloc | apply Kd.R_drewN | apply Kd.R_drew)); exact HO252.out⟩, ⟨by (with_reducible repeat (first | apply Kd.R_alloc | apply Kd.R_drewN | apply Kd.R_drew)); exact HO_4.out⟩, ⟨by repeat (first | (with_reducible first | exact HB.out | apply below_alloc | apply pw_below_drewN | apply below_drew1) | exact HB.out)⟩⟩
        · rw [if_neg c5] at H
          exact absurd H (by simp)
      · rw [if_neg c4] at H
        have c4b0 : decide (x5_1 < (t246.length : Int)) = false := decide_eq_false c4
        clear c4
        obtain rfl := Option.some.inj H
        obtain ⟨Ao10, co10, eo10⟩ := Kd.R_slice HO_4.out
        subst eo10
        have hcv11 := own_string (P := Tryd.prog) Tryd.underlying119 Tryd.underlying5 Tryd.underlying9 (Kd.own_of_R HO_3.out)
        go_wp2
        go_ret
        exact ⟨by first | rfl | (simp [errW_none, errW_some] <;> rfl) | (simp [*, errW_none, errW_some] <;> rfl), by repeat (first | (with_reducible first | exact HB.out | apply below_alloc | apply pw_below_drewN | apply below_drew1) | exact HB.out)⟩
/-! ### cameoref01_Valid: function 36 -/
def cameoref01_Valid.f (k : Nat) (a0 : ByteArray) : Option (Bool) := (cameoref01_read.f k a0).bind fun bt253 => (if bt253.2 = true then ((cameoref01_Of.f k bt253.1).bind fun t257 => (some (t257.toList == a0.toList))) else (some false))
set_option maxHeartbeats 8000000 in
set_option maxRecDepth 100000 in
theorem cameoref01_Valid.calls (k : Nat) (a0 : ByteArray) (r : Bool) (w : World) (h : cameoref01_Valid.f k a0 = some r) :
    Calls Tryd.prog 36 #[.string a0] w fun e w' => e = .returned (.bool r) ∧ Below w.heap.size w w' := by
  have HB := Aside0.mk (Below.refl w.heap.size w)
  have H : ((cameoref01_read.f k a0).bind fun bt253 => (if bt253.2 = true then ((cameoref01_Of.f k bt253.1).bind fun t257 => (some (t257.toList == a0.toList))) else (some false))) = some r := h
  clear h
  replace H := Option.bind_eq_some_iff.mp H
  obtain ⟨⟨t253, t254⟩, A20, H⟩ := H
  replace H : (if t254 = true then ((cameoref01_Of.f k t253).bind fun t257 => (some (t257.toList == a0.toList))) else (some false)) = some r := H
  have A2 := Aside0.mk A20
  clear A20
  by_cases c3 : t254 = true
  · subst c3
    have H1 : ((cameoref01_Of.f k t253).bind fun t257 => (some (t257.toList == a0.toList))) = some r := by rw [if_pos rfl] at H; exact H
    clear H
    have H := H1
    clear H1
    replace H := Option.bind_eq_some_iff.mp H
    obtain ⟨t257, A40, H⟩ := H
    replace H : (some (t257.toList == a0.toList)) = some r := H
    have A4 := Aside0.mk A40
    clear A40
    obtain rfl := Option.some.inj H
    go_enter Tryd.func36, Tryd.ntmps36
    go_wp2_with (first | ((with_reducible refine gate_callee (f := 58) rfl ?_); refine goesL_ (some 7) rfl rfl Tryd.func58 (by kernel_rfl) rfl #[.string a0] rfl (by (try simp only [List.map_toArray, List.map_cons, List.map_nil]); first | done | rfl | (simp only [List.length_drop, List.length_take]; rfl)) ?_; (with_reducible refine (cameoref01_read.calls k a0 t253 true _ A2.out).mono ?_); rintro e w5 ⟨v255, rfl, ho0, hb⟩; refine ⟨_, rfl, ?_⟩; have n0_ := Aside0.mk (Kd.R_lower ho0 (below_size (by repeat (first | (with_reducible first | exact HB.out | apply below_alloc | apply pw_below_drewN | apply below_drew1) | exact HB.out)))); have n1_ := Aside0.mk (below_step (by repeat (first | (with_reducible first | exact HB.out | apply below_alloc | apply pw_below_drewN | apply below_drew1) | exact HB.out)) hb); clear HB; have HO256 := n0_; have HB := n1_; clear n0_ n1_; (try clear hb); (try clear hb2); (try clear hk); (try clear hi); (try clear ho0); obtain ⟨Ao6, co6, eo6⟩ := Kd.R_slice HO256.out; subst eo6) | (go_at_call 59; (with_reducible refine (cameoref01_Of.calls k _ _ t253 t257 _ ?side1 ?side2 A4.out).mono ?_); (case side1 => repeat (first | exact (Kd.R_reads' HO256.out).2.2 | (with_reducible refine Kd.C_alloc ?_ _) | (with_reducible refine Kd.C_drewN ?_ _) | (with_reducible refine Kd.C_drew ?_))); (case side2 => exact (Kd.R_reads' HO256.out).2.1); rintro e w7 ⟨rfl, hb⟩; have n0_ := Aside0.mk (Kd.R_below (by (with_reducible repeat (first | apply Kd.R_alloc | apply Kd.R_drewN | apply Kd.R_drew)); exact HO256.out) hb); have n1_ := Aside0.mk (below_step (by repeat (first | (with_reducible first | exact HB.out | apply below_alloc | apply pw_below_drewN | apply below_drew1) | exact HB.out)) hb); clear HO256; clear HB; have HO256 := n0_; have HB := n1_; clear n0_ n1_; (try clear hb); (try clear hb2); (try clear hk); (try clear hi)))
    go_ret
    exact ⟨by first | rfl | (simp [errW_none, errW_some] <;> rfl) | (simp [*, errW_none, errW_some] <;> rfl), by repeat (first | (with_reducible first | exact HB.out | apply below_alloc | apply pw_below_drewN | apply below_drew1) | exact HB.out)⟩
  · replace c3 := Bool.eq_false_iff.mpr c3
    subst c3
    have H1 : (some false) = some r := by rw [if_neg (show ¬ (false = true) by decide)] at H; exact H
    clear H
    have H := H1
    clear H1
    obtain rfl := Option.some.inj H
    go_enter Tryd.func36, Tryd.ntmps36
    go_wp2_with (first | ((with_reducible refine gate_callee (f := 58) rfl ?_); refine goesL_ (some 7) rfl rfl Tryd.func58 (by kernel_rfl) rfl #[.string a0] rfl (by (try simp only [List.map_toArray, List.map_cons, List.map_nil]); first | done | rfl | (simp only [List.length_drop, List.length_take]; rfl)) ?_; (with_reducible refine (cameoref01_read.calls k a0 t253 false _ A2.out).mono ?_); rintro e w8 ⟨v255, rfl, ho0, hb⟩; refine ⟨_, rfl, ?_⟩; have n0_ := Aside0.mk (Kd.R_lower ho0 (below_size (by repeat (first | (with_reducible first | exact HB.out | apply below_alloc | apply pw_below_drewN | apply below_drew1) | exact HB.out)))); have n1_ := Aside0.mk (below_step (by repeat (first | (with_reducible first | exact HB.out | apply below_alloc | apply pw_below_drewN | apply below_drew1) | exact HB.out)) hb); clear HB; have HO256 := n0_; have HB := n1_; clear n0_ n1_; (try clear hb); (try clear hb2); (try clear hk); (try clear hi); (try clear ho0)))
    go_ret
    exact ⟨by first | rfl | (simp [errW_none, errW_some] <;> rfl) | (simp [*, errW_none, errW_some] <;> rfl), by repeat (first | (with_reducible first | exact HB.out | apply below_alloc | apply pw_below_drewN | apply below_drew1) | exact HB.out)⟩
end Go.Proofs.YtlliefodchfpfaaDoor.PDescKinds
end
section
/- Bytes as_ code points: what is read leniently and written anew is what was read just where each code point was written as_ shortly as_ may be, and no two halves stand apart. Plain lists of numbers. -/
set_option linter.unusedSimpArgs false
set_option linter.unusedVariables false
namespace Go.Proofs.YtlliefodchfpfaaDoor.Utf
def cont (b : Nat) : Prop := 128 ≤ b ∧ b ≤ 191
instance (b : Nat) : Decidable (cont b) := inferInstanceAs (Decidable (_ ∧ _))
/-- One code point and its bytes, read leniently. -/
def ld (n b0 b1 b2 b3 : Nat) : Option (Nat × Nat) :=
  if b0 < 128 then some (b0, 1)
  else if b0 < 192 then none
  else if b0 < 224 then (if 1 < n ∧ cont b1 then some ((b0 - 192) * 64 + (b1 - 128), 2) else none)
  else if b0 < 240 then (if 1 < n ∧ cont b1 then (if 2 < n ∧ cont b2 then some ((b0 - 224) * 4096 + (b1 - 128) * 64 + (b2 - 128), 3) else none) else none)
  else if b0 < 248 then (if 1 < n ∧ cont b1 then (if 2 < n ∧ cont b2 then (if 3 < n ∧ cont b3 then (if (b0 - 240) * 262144 + (b1 - 128) * 4096 + (b2 - 128) * 64 + (b3 - 128) ≤ 1114111 then some ((b0 - 240) * 262144 + (b1 - 128) * 4096 + (b2 - 128) * 64 + (b3 - 128), 4) else none) else none) else none) else none)
  else none
def plen (c : Nat) : Nat := if c < 128 then 1 else if c < 2048 then 2 else if c < 65536 then 3 else 4
def putC (c : Nat) : List Nat :=
  if c < 128 then [c] else if c < 2048 then [192 + c / 64, 128 + c % 64] else if c < 65536 then [224 + c / 4096, 128 + c / 64 % 64, 128 + c % 64]
  else [240 + c / 262144, 128 + c / 4096 % 64, 128 + c / 64 % 64, 128 + c % 64]
theorem putC_len (c : Nat) : (putC c).length = plen c := by
  unfold putC plen
  repeat' split
  all_goals rfl
theorem ld_inv {n b0 b1 b2 b3 c k : Nat} (h : ld n b0 b1 b2 b3 = some (c, k)) :
    (k = 1 ∧ b0 < 128 ∧ c = b0) ∨ (k = 2 ∧ 192 ≤ b0 ∧ b0 < 224 ∧ 1 < n ∧ cont b1 ∧ c = (b0 - 192) * 64 + (b1 - 128)) ∨
    (k = 3 ∧ 224 ≤ b0 ∧ b0 < 240 ∧ 2 < n ∧ cont b1 ∧ cont b2 ∧ c = (b0 - 224) * 4096 + (b1 - 128) * 64 + (b2 - 128)) ∨
    (k = 4 ∧ 240 ≤ b0 ∧ b0 < 248 ∧ 3 < n ∧ cont b1 ∧ cont b2 ∧ cont b3 ∧ c = (b0 - 240) * 262144 + (b1 - 128) * 4096 + (b2 - 128) * 64 + (b3 - 128) ∧ c ≤ 1114111) := by
  have sm : ∀ {x : Nat × Nat}, some x = some (c, k) → x.1 = c ∧ x.2 = k := fun h => by
    have := Option.some.inj h
    exact ⟨congrArg Prod.fst this, congrArg Prod.snd this⟩
  have nn : ∀ {α : Prop}, (none : Option (Nat × Nat)) = some (c, k) → α := fun h => absurd h.symm (Option.some_ne_none _)
  unfold ld at h
  by_cases h0 : b0 < 128
  · rw [if_pos h0] at h
    obtain ⟨e1, e2⟩ := sm h
    exact .inl ⟨e2.symm, h0, e1.symm⟩
  rw [if_neg h0] at h
  by_cases h1 : b0 < 192
  · rw [if_pos h1] at h; exact nn h
  rw [if_neg h1] at h
  by_cases h2 : b0 < 224
  · rw [if_pos h2] at h
    by_cases h3 : 1 < n ∧ cont b1
    · rw [if_pos h3] at h
      obtain ⟨e1, e2⟩ := sm h
      exact .inr (.inl ⟨e2.symm, by omega, h2, h3.1, h3.2, e1.symm⟩)
    · rw [if_neg h3] at h; exact nn h
  rw [if_neg h2] at h
  by_cases h4 : b0 < 240
  · rw [if_pos h4] at h
    by_cases h3 : 1 < n ∧ cont b1
    · rw [if_pos h3] at h
      by_cases h5 : 2 < n ∧ cont b2
      · rw [if_pos h5] at h
        obtain ⟨e1, e2⟩ := sm h
        exact .inr (.inr (.inl ⟨e2.symm, by omega, h4, h5.1, h3.2, h5.2, e1.symm⟩))
      · rw [if_neg h5] at h; exact nn h
    · rw [if_neg h3] at h; exact nn h
  rw [if_neg h4] at h
  by_cases h6 : b0 < 248
  · rw [if_pos h6] at h
    by_cases h3 : 1 < n ∧ cont b1
    · rw [if_pos h3] at h
      by_cases h5 : 2 < n ∧ cont b2
      · rw [if_pos h5] at h
        by_cases h7 : 3 < n ∧ cont b3
        · rw [if_pos h7] at h
          by_cases h8 : (b0 - 240) * 262144 + (b1 - 128) * 4096 + (b2 - 128) * 64 + (b3 - 128) ≤ 1114111
          · rw [if_pos h8] at h
            obtain ⟨e1, e2⟩ := sm h
            exact .inr (.inr (.inr ⟨e2.symm, by omega, h6, h7.1, h3.2, h5.2, h7.2, e1.symm, by rw [← e1]; exact h8⟩))
          · rw [if_neg h8] at h; exact nn h
        · rw [if_neg h7] at h; exact nn h
      · rw [if_neg h5] at h; exact nn h
    · rw [if_neg h3] at h; exact nn h
  · rw [if_neg h6] at h; exact nn h
theorem plen_le {c k : Nat} (h : (k = 1 ∧ c < 128) ∨ (k = 2 ∧ c < 2048) ∨ (k = 3 ∧ c < 65536) ∨ k = 4) : plen c ≤ k := by
  unfold plen
  repeat' split
  all_goals omega
theorem ld_spec {n b0 b1 b2 b3 c k : Nat} (hn : 0 < n) (h : ld n b0 b1 b2 b3 = some (c, k)) : 1 ≤ k ∧ k ≤ n ∧ k ≤ 4 ∧ plen c ≤ k ∧ c ≤ 1114111 := by
  have h := ld_inv h
  unfold cont at h
  refine ⟨by omega, by omega, by omega, plen_le (by omega), by omega⟩
theorem plen_inv {c : Nat} : (plen c = 1 ∧ c < 128) ∨ (plen c = 2 ∧ 128 ≤ c ∧ c < 2048) ∨ (plen c = 3 ∧ 2048 ≤ c ∧ c < 65536) ∨ (plen c = 4 ∧ 65536 ≤ c) := by
  unfold plen
  repeat' split
  all_goals omega
def ldL (l : List Nat) : Option (Nat × Nat) := ld l.length (l.getD 0 0) (l.getD 1 0) (l.getD 2 0) (l.getD 3 0)
theorem ldL_take {l : List Nat} {c k : Nat} (hl : l ≠ []) (hb : ∀ b ∈ l, b < 256) (h : ldL l = some (c, k)) (hk : k = plen c) : l.take k = putC c := by
  have h := ld_inv h
  have hp := plen_inv (c := c)
  rw [← hk] at hp
  rcases h with ⟨rfl, h1, h2⟩ | ⟨rfl, h1, h2, h3, h4, h5⟩ | ⟨rfl, h1, h2, h3, h4, h5, h6⟩ | ⟨rfl, h1, h2, h3, h4, h5, h6, h7, h8⟩
  · rcases l with _ | ⟨b0, r⟩
    · exact absurd rfl hl
    · simp only [List.getD_cons_zero] at h1 h2
      subst h2
      unfold putC
      rw [if_pos h1]; rfl
  · rcases l with _ | ⟨b0, _ | ⟨b1, r⟩⟩
    · exact absurd rfl hl
    · simp at h3
    · simp only [List.getD_cons_zero, List.getD_cons_succ] at h1 h2 h4 h5
      unfold cont at h4
      unfold putC
      rw [if_neg (by omega), if_pos (by omega)]
      simp only [List.take_succ_cons, List.take_zero, List.cons.injEq, and_true]
      omega
  · rcases l with _ | ⟨b0, _ | ⟨b1, _ | ⟨b2, r⟩⟩⟩
    · exact absurd rfl hl
    · simp at h3
    · simp at h3
    · simp only [List.getD_cons_zero, List.getD_cons_succ] at h1 h2 h4 h5 h6
      unfold cont at h4 h5
      unfold putC
      rw [if_neg (by omega), if_neg (by omega), if_pos (by omega)]
      simp only [List.take_succ_cons, List.take_zero, List.cons.injEq, and_true]
      omega
  · rcases l with _ | ⟨b0, _ | ⟨b1, _ | ⟨b2, _ | ⟨b3, r⟩⟩⟩⟩
    · exact absurd rfl hl
    · simp at h3
    · simp at h3
    · simp at h3
    · simp only [List.getD_cons_zero, List.getD_cons_succ] at h1 h2 h4 h5 h6 h7
      unfold cont at h4 h5 h6
      unfold putC
      rw [if_neg (by omega), if_neg (by omega), if_neg (by omega)]
      simp only [List.take_succ_cons, List.take_zero, List.cons.injEq, and_true]
      omega
/-- All code points of some bytes, each with its number of bytes. -/
def dec : Nat → List Nat → Option (List (Nat × Nat))
  | 0, l => if l = [] then some [] else none
  | m + 1, l => if l = [] then some [] else match ldL l with
    | none => none
    | some (c, k) => (dec m (l.drop k)).map ((c, k) :: ·)
def hi (c : Nat) : Bool := decide (55296 ≤ c) && decide (c < 56320)
def lo (c : Nat) : Bool := decide (56320 ≤ c) && decide (c < 57344)
def noadj : Nat → List Nat → Bool
  | _, [] => true
  | a, c :: r => !(hi a && lo c) && noadj c r
def units (c : Nat) : List Nat := if 65536 ≤ c then [55296 + (c - 65536) / 1024, 56320 + (c - 65536) % 1024] else [c]
def rowC : List Nat → List Nat
  | [] => []
  | [a] => [a]
  | a :: b :: r => if hi a && lo b then (65536 + 1024 * (a - 55296) + (b - 56320)) :: rowC r else a :: rowC (b :: r)
def merge : List Nat → List Nat
  | [] => []
  | [a] => [a]
  | a :: b :: r => if hi a && lo b then (65536 + 1024 * (a - 55296) + (b - 56320)) :: merge r else a :: merge (b :: r)
theorem row_high {a : Nat} (ha : hi a = false) (l : List Nat) : rowC (a :: l) = a :: rowC l := by
  cases l with
  | nil => rfl
  | cons b r => simp [rowC, ha]
theorem row_pair {c : Nat} (hc : 65536 ≤ c) (hm : c ≤ 1114111) (l : List Nat) : rowC (units c ++ l) = c :: rowC l := by
  unfold units
  rw [if_pos hc]
  have h1 : hi (55296 + (c - 65536) / 1024) = true := by unfold hi; simp; omega
  have h2 : lo (56320 + (c - 65536) % 1024) = true := by unfold lo; simp; omega
  simp only [List.cons_append, List.nil_append, rowC, h1, h2, Bool.and_self, if_true, List.cons.injEq, and_true]
  omega
theorem row_units : ∀ (n : Nat) (cs : List Nat), cs.length ≤ n → (∀ c ∈ cs, c ≤ 1114111) → rowC (cs.flatMap units) = merge cs
  | 0, [], _, _ => rfl
  | n + 1, [], _, _ => rfl
  | n + 1, [a], _, h => by
    simp only [List.flatMap_cons, List.flatMap_nil]
    by_cases ha : 65536 ≤ a
    · rw [row_pair ha (h a (by simp))]; rfl
    · rw [List.append_nil]; unfold units; rw [if_neg ha]; rfl
  | n + 1, a :: b :: r, hl, h => by
    have ih := row_units n (b :: r) (by simp at hl ⊢; omega) (fun c hc => h c (List.mem_cons_of_mem _ hc))
    by_cases ha : 65536 ≤ a
    · have hh : hi a = false := by unfold hi; simp; omega
      rw [List.flatMap_cons, row_pair ha (h a (by simp)), ih]
      simp [merge, hh]
    · have e : units a = [a] := by unfold units; rw [if_neg ha]
      rw [List.flatMap_cons, e, List.singleton_append]
      cases hh : hi a with
      | false => rw [row_high hh, ih]; simp [merge, hh]
      | true =>
        by_cases hb : 65536 ≤ b
        · have hl2 : lo b = false := by unfold lo; simp; omega
          rw [show merge (a :: b :: r) = a :: merge (b :: r) from by simp [merge, hh, hl2], ← ih]
          have e2 : units b = [55296 + (b - 65536) / 1024, 56320 + (b - 65536) % 1024] := by unfold units; rw [if_pos hb]
          have h3 : lo (55296 + (b - 65536) / 1024) = false := by
            have := h b (by simp)
            unfold lo; simp; omega
          rw [List.flatMap_cons, e2]
          simp [rowC, hh, h3]
        · have e2 : units b = [b] := by unfold units; rw [if_neg hb]
          cases hl2 : lo b with
          | false =>
            rw [show merge (a :: b :: r) = a :: merge (b :: r) from by simp [merge, hh, hl2], ← ih, List.flatMap_cons, e2]
            simp [rowC, hh, hl2]
          | true =>
            rw [show merge (a :: b :: r) = (65536 + 1024 * (a - 55296) + (b - 56320)) :: merge r from by simp [merge, hh, hl2], List.flatMap_cons, e2]
            have ih2 := row_units n r (by simp at hl ⊢; omega) (fun c hc => h c (List.mem_cons_of_mem _ (List.mem_cons_of_mem _ hc)))
            simp [rowC, hh, hl2, ih2]
def psum (l : List Nat) : Nat := (l.map plen).sum
theorem merge_sum : ∀ (n : Nat) (cs : List Nat), cs.length ≤ n → psum (merge cs) ≤ psum cs ∧ (psum (merge cs) = psum cs → merge cs = cs ∧ ∀ a, hi a = false → noadj a cs = true)
  | 0, [], _ => ⟨Nat.le_refl _, fun _ => ⟨rfl, fun _ _ => rfl⟩⟩
  | n + 1, [], _ => ⟨Nat.le_refl _, fun _ => ⟨rfl, fun _ _ => rfl⟩⟩
  | n + 1, [a], _ => ⟨Nat.le_refl _, fun _ => ⟨rfl, fun x hx => by simp [noadj, hx]⟩⟩
  | n + 1, a :: b :: r, hl => by
    obtain ⟨i1, i2⟩ := merge_sum n (b :: r) (by simp at hl ⊢; omega)
    cases hh : hi a && lo b with
    | true =>
      obtain ⟨j1, j2⟩ := merge_sum n r (by simp at hl ⊢; omega)
      rw [Bool.and_eq_true] at hh
      have e : merge (a :: b :: r) = (65536 + 1024 * (a - 55296) + (b - 56320)) :: merge r := by simp [merge, hh]
      have p1 : plen a = 3 := by
        have := hh.1
        unfold hi at this
        simp at this
        unfold plen
        rw [if_neg (by omega), if_neg (by omega), if_pos (by omega)]
      have p2 : plen b = 3 := by
        have := hh.2
        unfold lo at this
        simp at this
        unfold plen
        rw [if_neg (by omega), if_neg (by omega), if_pos (by omega)]
      have p3 : ∀ x, plen (65536 + x) = 4 := fun x => by
        unfold plen
        rw [if_neg (by omega), if_neg (by omega), if_neg (by omega)]
      have s1 : psum (merge (a :: b :: r)) = 4 + psum (merge r) := by
        rw [e]
        simp only [psum, List.map_cons, List.sum_cons]
        rw [Nat.add_assoc, p3]
      have s2 : psum (a :: b :: r) = 3 + (3 + psum r) := by simp [psum, p1, p2]
      rw [s1, s2]
      exact ⟨by omega, fun h => by omega⟩
    | false =>
      have e : merge (a :: b :: r) = a :: merge (b :: r) := by simp [merge, hh]
      have s1 : psum (merge (a :: b :: r)) = plen a + psum (merge (b :: r)) := by rw [e]; simp [psum]
      have s2 : psum (a :: b :: r) = plen a + psum (b :: r) := by simp [psum]
      rw [s1, s2]
      refine ⟨by omega, fun h => ?_⟩
      obtain ⟨k1, k2⟩ := i2 (by omega)
      refine ⟨by rw [e, k1], fun x hx => ?_⟩
      have k3 := k2 0 rfl
      have hz : hi 0 = false := rfl
      simp only [noadj, hx, hh, hz, Bool.false_and, Bool.not_false, Bool.true_and] at k3 ⊢
      exact k3
theorem merge_noadj : ∀ (cs : List Nat) (a : Nat), noadj a cs = true → merge cs = cs
  | [], _, _ => rfl
  | [a], _, _ => rfl
  | a :: b :: r, x, h => by
    simp only [noadj, Bool.and_eq_true, Bool.not_eq_true'] at h
    have e : merge (a :: b :: r) = a :: merge (b :: r) := by simp [merge, h.2.1]
    rw [e, merge_noadj (b :: r) a (by simp only [noadj, Bool.and_eq_true, Bool.not_eq_true']; exact h.2)]
theorem dec_spec : ∀ (m : Nat) (l : List Nat) (cs : List (Nat × Nat)), (∀ b ∈ l, b < 256) → dec m l = some cs →
    (cs.map (·.2)).sum = l.length ∧ psum (cs.map (·.1)) ≤ l.length ∧ (psum (cs.map (·.1)) = l.length → ∀ p ∈ cs, p.2 = plen p.1) ∧ (∀ p ∈ cs, p.1 ≤ 1114111) ∧ ((∀ p ∈ cs, p.2 = plen p.1) → (cs.map (·.1)).flatMap putC = l ∧ psum (cs.map (·.1)) = l.length)
  | 0, l, cs, hb, h => by
    unfold dec at h
    split at h
    · rename_i hl
      subst hl
      simp only [Option.some.injEq] at h
      subst h
      simp [psum]
    · cases h
  | m + 1, l, cs, hb, h => by
    unfold dec at h
    split at h
    · rename_i hl
      subst hl
      simp only [Option.some.injEq] at h
      subst h
      simp [psum]
    · rename_i hl
      split at h
      · cases h
      · rename_i c k hld
        obtain ⟨cs', hd, rfl⟩ := Option.map_eq_some_iff.1 h
        have hn : 0 < l.length := by cases l <;> simp_all
        obtain ⟨s1, s2, s3, s4, s5⟩ := ld_spec hn hld
        obtain ⟨i1, i2, i3, i4, i5⟩ := dec_spec m (l.drop k) cs' (fun b h => hb b (List.mem_of_mem_drop h)) hd
        rw [List.length_drop] at i1 i2 i3 i5
        refine ⟨by simp [i1]; omega, ?_, ?_, ?_, ?_⟩
        · simp only [psum, List.map_cons, List.sum_cons] at i2 ⊢
          omega
        · intro he
          simp only [psum, List.map_cons, List.sum_cons] at i2 i3 he
          intro p hp
          rcases List.mem_cons.1 hp with rfl | hp
          · show k = plen c
            omega
          · exact i3 (by omega) p hp
        · intro p hp
          rcases List.mem_cons.1 hp with rfl | hp
          · exact s5
          · exact i4 p hp
        · intro hall
          have h1 : k = plen c := hall (c, k) (by simp)
          obtain ⟨j1, j2⟩ := i5 fun p hp => hall p (by simp [hp])
          refine ⟨?_, ?_⟩
          · rw [List.map_cons, List.flatMap_cons, j1, ← ldL_take hl hb hld h1, List.take_append_drop]
          · simp only [psum, List.map_cons, List.sum_cons] at j2 ⊢
            omega
theorem flat_len (l : List Nat) : (l.flatMap putC).length = psum l := by
  induction l with
  | nil => rfl
  | cons a r ih => rw [List.flatMap_cons, List.length_append, ih, putC_len]; rfl
/-- Written anew, they are the same bytes just where all is as_ short as_ may be, and no halves stand side by side. -/
theorem back_iff {m : Nat} {l : List Nat} {cs : List (Nat × Nat)} (hb : ∀ b ∈ l, b < 256) (h : dec m l = some cs) :
    (rowC ((cs.map (·.1)).flatMap units)).flatMap putC = l ↔ (∀ p ∈ cs, p.2 = plen p.1) ∧ noadj 0 (cs.map (·.1)) = true := by
  obtain ⟨d1, d2, d3, d4, d5⟩ := dec_spec m l cs hb h
  have e := row_units (cs.map (·.1)).length (cs.map (·.1)) (Nat.le_refl _) (fun c hc => by
    obtain ⟨p, hp, rfl⟩ := List.mem_map.1 hc
    exact d4 p hp)
  rw [e]
  obtain ⟨m1, m2⟩ := merge_sum (cs.map (·.1)).length (cs.map (·.1)) (Nat.le_refl _)
  constructor
  · intro he
    have hl := congrArg List.length he
    rw [flat_len] at hl
    obtain ⟨_, hna⟩ := m2 (by omega)
    exact ⟨d3 (by omega), hna 0 rfl⟩
  · rintro ⟨h1, h2⟩
    rw [merge_noadj _ 0 h2]
    exact (d5 h1).1
end Go.Proofs.YtlliefodchfpfaaDoor.Utf
/-! #### part U1 -/
/- units.Valid: every code point written as_ shortly as_ may be, and no two halves side by side. -/
set_option linter.unusedSimpArgs false
set_option linter.unusedVariables false
namespace Go.Proofs.YtlliefodchfpfaaDoor.Utf
open Go.RowKit Go.Proofs.YtlliefodchfpfaaDoorW.PrintWords Go.Proofs.YtlliefodchfpfaaDoor.PDescKinds
def nums (s : ByteArray) : List Nat := s.data.toList.map UInt8.toNat
theorem nums_len (s : ByteArray) : (nums s).length = s.size := by
  rw [nums, List.length_map, Array.length_toList]; rfl
theorem nums_lt (s : ByteArray) : ∀ b ∈ nums s, b < 256 := fun b hb => by
  obtain ⟨u, _, rfl⟩ := List.mem_map.1 hb
  exact u.toNat_lt
theorem nums_get (s : ByteArray) (i : Nat) : (s.get! i).toNat = (nums s).getD i 0 := by
  obtain ⟨d⟩ := s
  show (d[i]!).toNat = ((d.toList.map UInt8.toNat).getD i 0)
  rw [getElem!_def]
  cases h : d[i]? with
  | none =>
    have : d.toList[i]? = none := by simpa using h
    simp only [List.getD_eq_getElem?_getD, List.getElem?_map, this, Option.map_none, Option.getD_none]
    rfl
  | some u =>
    have : d.toList[i]? = some u := by simpa using h
    simp only [List.getD_eq_getElem?_getD, List.getElem?_map, this, Option.map_some, Option.getD_some]
theorem nums_bt (s : ByteArray) (i : Nat) : bt s (i : Int) = ((nums s).getD i 0 : Nat) := by
  unfold bt
  rw [Int.toNat_natCast]
  split
  · rename_i h
    have h2 : s.data.toList[i]? = some s[i] := by
      rw [Array.getElem?_toList]
      exact Array.getElem?_eq_getElem h
    simp only [nums, List.getD_eq_getElem?_getD, List.getElem?_map, h2, Option.map_some, Option.getD_some]
  · rename_i h
    have h2 : s.data.toList[i]? = none := by
      rw [Array.getElem?_toList]
      exact Array.getElem?_eq_none (Nat.le_of_not_lt h)
    simp only [nums, List.getD_eq_getElem?_getD, List.getElem?_map, h2, Option.map_none, Option.getD_none]
    rfl
theorem drop_getD (l : List Nat) (i j : Nat) : (l.drop i).getD j 0 = l.getD (i + j) 0 := by
  simp [List.getD_eq_getElem?_getD]
theorem nums_extract (s : ByteArray) (i : Nat) : nums (units_Valid.slc s i) = (nums s).drop i := by
  unfold nums units_Valid.slc
  rw [Lib.extract_data, List.map_take, List.map_drop, List.take_of_length_le]
  rw [List.length_drop, List.length_map, Array.length_toList]
  exact Nat.le_refl _
theorem getD_lt (s : ByteArray) (i : Nat) : (nums s).getD i 0 < 256 := by
  rw [List.getD_eq_getElem?_getD]
  cases h : (nums s)[i]? with
  | none => decide
  | some b => exact nums_lt s b (List.mem_of_getElem? h)
set_option maxRecDepth 100000 in
set_option maxHeartbeats 8000000 in
theorem decodeN_ld (n b0 b1 b2 b3 : Nat) (h0 : b0 < 256) (h1 : b1 < 256) (h2 : b2 < 256) (h3 : b3 < 256) :
    Lib.decodeN n b0 b1 b2 b3 = match ld n b0 b1 b2 b3 with
      | some (c, k) => if k = plen c ∧ ¬ (55296 ≤ c ∧ c < 57344) then (c, k) else (65533, 1)
      | none => (65533, 1) := by
  unfold Lib.decodeN ld cont
  by_cases c0 : b0 < 128
  · rw [if_pos c0, if_pos c0]
    simp only
    have : plen b0 = 1 := by unfold plen; rw [if_pos c0]
    rw [this, if_pos ⟨rfl, by omega⟩]
  rw [if_neg c0, if_neg c0]
  by_cases c1 : b0 < 192
  · rw [if_pos c1, if_neg (by omega), if_neg (by omega), if_neg (by omega)]
  rw [if_neg c1]
  by_cases c2 : b0 < 224
  · rw [if_pos c2]
    by_cases d1 : 1 < n ∧ 128 ≤ b1 ∧ b1 ≤ 191
    · rw [if_pos d1, if_pos (by omega)]
      have e : b0 % 32 * 64 + b1 % 64 = (b0 - 192) * 64 + (b1 - 128) := by omega
      rw [e]
      simp only
      have hp := plen_inv (c := (b0 - 192) * 64 + (b1 - 128))
      by_cases d2 : (b0 - 192) * 64 + (b1 - 128) ≥ 128
      · rw [if_pos d2, if_pos (by omega)]
      · rw [if_neg d2, if_neg (by omega)]
    · rw [if_neg d1, if_neg (by omega), if_neg (by omega), if_neg (by omega)]
  rw [if_neg c2]
  by_cases c3 : b0 < 240
  · rw [if_pos c3, if_neg (by omega)]
    by_cases d1 : 1 < n ∧ 128 ≤ b1 ∧ b1 ≤ 191
    · rw [if_pos d1]
      by_cases d2 : 2 < n ∧ 128 ≤ b2 ∧ b2 ≤ 191
      · rw [if_pos d2, if_pos (by omega)]
        have e : b0 % 16 * 4096 + b1 % 64 * 64 + b2 % 64 = (b0 - 224) * 4096 + (b1 - 128) * 64 + (b2 - 128) := by omega
        rw [e]
        simp only
        have hp := plen_inv (c := (b0 - 224) * 4096 + (b1 - 128) * 64 + (b2 - 128))
        generalize hc : (b0 - 224) * 4096 + (b1 - 128) * 64 + (b2 - 128) = c at hp ⊢
        by_cases d3 : c ≥ 2048 ∧ (c < 55296 ∨ 57344 ≤ c ∧ c ≤ 1114111)
        · rw [if_pos d3, if_pos (by omega)]
        · rw [if_neg d3, if_neg (by omega)]
      · rw [if_neg d2, if_neg (by omega), if_neg (by omega)]
    · rw [if_neg d1, if_neg (by omega), if_neg (by omega)]
  rw [if_neg c3]
  by_cases c4 : b0 < 248
  · rw [if_pos c4, if_neg (by omega), if_neg (by omega)]
    by_cases d1 : 1 < n ∧ 128 ≤ b1 ∧ b1 ≤ 191
    · rw [if_pos d1]
      by_cases d2 : 2 < n ∧ 128 ≤ b2 ∧ b2 ≤ 191
      · rw [if_pos d2]
        by_cases d3 : 3 < n ∧ 128 ≤ b3 ∧ b3 ≤ 191
        · rw [if_pos d3, if_pos (by omega)]
          have e : b0 % 8 * 262144 + b1 % 64 * 4096 + b2 % 64 * 64 + b3 % 64 = (b0 - 240) * 262144 + (b1 - 128) * 4096 + (b2 - 128) * 64 + (b3 - 128) := by omega
          rw [e]
          have hp := plen_inv (c := (b0 - 240) * 262144 + (b1 - 128) * 4096 + (b2 - 128) * 64 + (b3 - 128))
          generalize hc : (b0 - 240) * 262144 + (b1 - 128) * 4096 + (b2 - 128) * 64 + (b3 - 128) = c at hp ⊢
          by_cases d4 : c ≤ 1114111
          · rw [if_pos d4]
            simp only
            by_cases d5 : c ≥ 65536 ∧ (c < 55296 ∨ 57344 ≤ c ∧ c ≤ 1114111)
            · rw [if_pos d5, if_pos (by omega)]
            · rw [if_neg d5, if_neg (by omega)]
          · rw [if_neg d4, if_neg (by omega)]
        · rw [if_neg d3, if_neg (by omega)]
      · rw [if_neg d2, if_neg (by omega)]
    · rw [if_neg d1, if_neg (by omega)]
  · rw [if_neg c4, if_neg (by omega), if_neg (by omega), if_neg (by omega)]
theorem and192 : ∀ b : Fin 256, (Go.bits .and .u8 (b.val : Int) 192 = 128) ↔ (128 ≤ b.val ∧ b.val ≤ 191) := by decide +kernel
theorem or_low : ∀ (a : Fin 32) (b : Fin 64), Go.bits .or .i32 (Go.bits .or .i32 53248 (wrap32 ((wrap32 (Go.bits .and .u8 ((160 + a.val : Nat) : Int) 63)) * 64))) (wrap32 (Go.bits .and .u8 ((128 + b.val : Nat) : Int) 63)) = 53248 + ((32 + a.val : Nat) : Int) * 64 + (b.val : Int) := by decide +kernel
/-- The code point at a place. -/
theorem pt_eq (s : ByteArray) (i : Nat) (hi : i < s.size) : units_Valid.pt (units_Valid.slc s i) = match ldL ((nums s).drop i) with
    | some (c, k) => if k = plen c then ((c : Int), (k : Int)) else (0, 0)
    | none => (0, 0) := by
  have hd : Lib.decodeGo (units_Valid.slc s i) = Lib.decodeN (s.size - i) ((nums s).getD i 0) ((nums s).getD (i + 1) 0) ((nums s).getD (i + 2) 0) ((nums s).getD (i + 3) 0) := by
    unfold units_Valid.slc
    unfold Lib.decodeGo
    have hsz : (s.extract i s.size).size = s.size - i := by simp
    rw [if_neg (by rw [hsz]; omega)]
    rw [Lib.decode_at]
    have hx := nums_extract s i
    unfold units_Valid.slc at hx
    rw [nums_get, nums_get, nums_get, nums_get, hx, hsz, drop_getD, drop_getD, drop_getD, drop_getD]
    rfl
  have hlen : ((nums s).drop i).length = s.size - i := by rw [List.length_drop, nums_len]
  have hs : (units_Valid.slc s i).size = s.size - i := by unfold units_Valid.slc; simp
  have b0 : bt (units_Valid.slc s i) 0 = ((nums s).getD i 0 : Nat) := by
    have := nums_bt (units_Valid.slc s i) 0
    rw [nums_extract, drop_getD] at this
    exact this
  have b1 : bt (units_Valid.slc s i) 1 = ((nums s).getD (i + 1) 0 : Nat) := by
    have := nums_bt (units_Valid.slc s i) 1
    rw [nums_extract, drop_getD] at this
    exact this
  have b2 : bt (units_Valid.slc s i) 2 = ((nums s).getD (i + 2) 0 : Nat) := by
    have := nums_bt (units_Valid.slc s i) 2
    rw [nums_extract, drop_getD] at this
    exact this
  unfold units_Valid.pt units_point.f utf8_DecodeRuneInString.f
  rw [hd]
  have l0 := getD_lt s i
  have l1 := getD_lt s (i + 1)
  have l2 := getD_lt s (i + 2)
  have l3 := getD_lt s (i + 3)
  rw [decodeN_ld _ _ _ _ _ l0 l1 l2 l3]
  unfold ldL
  rw [hlen, drop_getD, drop_getD, drop_getD, drop_getD, Nat.add_zero]
  simp only [Option.bind_some, units_point.j0, hs, b0, b1, b2]
  generalize (nums s).getD i 0 = x0 at *
  generalize (nums s).getD (i + 1) 0 = x1 at *
  generalize (nums s).getD (i + 2) 0 = x2 at *
  generalize (nums s).getD (i + 3) 0 = x3 at *
  have hn : 0 < s.size - i := by omega
  generalize s.size - i = n at *
  have a192 := and192 ⟨x2, l2⟩
  simp only at a192
  -- what is left to be looked at where Go's decoder says RuneError
  have tail : (if (n : Int) ≥ 3 then if 0 < (n : Int) then if (x0 : Int) = 237 then if 1 < (n : Int) then if (x1 : Int) ≥ 160 then if (x1 : Int) ≤ 191 then if 2 < (n : Int) then if Go.bits .and .u8 (x2 : Int) 192 = 128 then some (Go.bits .or .i32 (Go.bits .or .i32 53248 (wrap32 ((wrap32 (Go.bits .and .u8 (x1 : Int) 63)) * 64))) (wrap32 (Go.bits .and .u8 (x2 : Int) 63)), (3 : Int)) else some (0, 0) else none else some (0, 0) else some (0, 0) else none else some (0, 0) else none else some (0, 0)) =
      if (n ≥ 3 ∧ x0 = 237 ∧ 160 ≤ x1 ∧ x1 ≤ 191) ∧ 128 ≤ x2 ∧ x2 ≤ 191 then some ((53248 + ((x1 : Int) - 128) * 64 + ((x2 : Int) - 128)), 3) else some (0, 0) := by
    by_cases g : (n ≥ 3 ∧ x0 = 237 ∧ 160 ≤ x1 ∧ x1 ≤ 191)
    · rw [if_pos (by omega), if_pos (by omega), if_pos (by omega), if_pos (by omega), if_pos (by omega), if_pos (by omega), if_pos (by omega)]
      by_cases g2 : 128 ≤ x2 ∧ x2 ≤ 191
      · rw [if_pos (a192.2 g2), if_pos ⟨g, g2⟩]
        have := or_low ⟨x1 - 160, by omega⟩ ⟨x2 - 128, by omega⟩
        simp only [show 160 + (x1 - 160) = x1 by omega, show 128 + (x2 - 128) = x2 by omega] at this
        rw [this]
        congr 2
        omega
      · rw [if_neg (fun h => g2 (a192.1 h)), if_neg (fun h => g2 h.2)]
    · refine Eq.trans ?_ (if_neg (fun h => g h.1)).symm
      by_cases g1 : (n : Int) ≥ 3
      · rw [if_pos g1, if_pos (by omega)]
        by_cases g2 : (x0 : Int) = 237
        · rw [if_pos g2, if_pos (by omega)]
          by_cases g3 : (x1 : Int) ≥ 160
          · rw [if_pos g3, if_neg (by omega)]
          · rw [if_neg g3]
        · rw [if_neg g2]
      · rw [if_neg g1]
  have key : ∀ (r : Nat × Nat) (v : Int × Int), (r.1 = 65533 → r.2 ≠ 3 → (if (n ≥ 3 ∧ x0 = 237 ∧ 160 ≤ x1 ∧ x1 ≤ 191) ∧ 128 ≤ x2 ∧ x2 ≤ 191 then some ((53248 + ((x1 : Int) - 128) * 64 + ((x2 : Int) - 128)), (3 : Int)) else some (0, 0)) = some v) → (¬ (r.1 = 65533 ∧ r.2 ≠ 3) → ((r.1 : Int), (r.2 : Int)) = v) →
      ((if (r.1 : Int) = 65533 then (if ((r.2 : Int) == 3) = true then some ((r.1 : Int), (r.2 : Int)) else if (n : Int) ≥ 3 then if 0 < (n : Int) then if (x0 : Int) = 237 then if 1 < (n : Int) then if (x1 : Int) ≥ 160 then if (x1 : Int) ≤ 191 then if 2 < (n : Int) then if Go.bits .and .u8 (x2 : Int) 192 = 128 then some (Go.bits .or .i32 (Go.bits .or .i32 53248 (wrap32 ((wrap32 (Go.bits .and .u8 (x1 : Int) 63)) * 64))) (wrap32 (Go.bits .and .u8 (x2 : Int) 63)), (3 : Int)) else some (0, 0) else none else some (0, 0) else some (0, 0) else none else some (0, 0) else none else some (0, 0)) else (if true = true then some ((r.1 : Int), (r.2 : Int)) else if (n : Int) ≥ 3 then if 0 < (n : Int) then if (x0 : Int) = 237 then if 1 < (n : Int) then if (x1 : Int) ≥ 160 then if (x1 : Int) ≤ 191 then if 2 < (n : Int) then if Go.bits .and .u8 (x2 : Int) 192 = 128 then some (Go.bits .or .i32 (Go.bits .or .i32 53248 (wrap32 ((wrap32 (Go.bits .and .u8 (x1 : Int) 63)) * 64))) (wrap32 (Go.bits .and .u8 (x2 : Int) 63)), (3 : Int)) else some (0, 0) else none else some (0, 0) else some (0, 0) else none else some (0, 0) else none else some (0, 0))).getD (0, 0)) = v := by
    intro r v h1 h2
    rw [tail]
    by_cases e : r.1 = 65533
    · rw [if_pos (by omega)]
      by_cases e3 : r.2 = 3
      · have : ((r.2 : Int) == 3) = true := by simp [e3]
        rw [if_pos this]
        exact h2 (fun hh => hh.2 e3)
      · have : ¬ ((r.2 : Int) == 3) = true := by simp; omega
        rw [if_neg this, h1 e e3]
        rfl
    · rw [if_neg (by omega), if_pos rfl]
      exact h2 (fun hh => e hh.1)
  refine key _ _ ?_ ?_
  · cases hl : ld n x0 x1 x2 x3 with
    | none =>
      intro _ _
      simp only
      have : ¬ ((n ≥ 3 ∧ x0 = 237 ∧ 160 ≤ x1 ∧ x1 ≤ 191) ∧ 128 ≤ x2 ∧ x2 ≤ 191) := by
        intro hh
        unfold ld cont at hl
        rw [if_neg (by omega), if_neg (by omega), if_neg (by omega), if_pos (by omega), if_pos (by omega), if_pos (by omega)] at hl
        cases hl
      rw [if_neg this]
    | some p =>
      obtain ⟨c, k⟩ := p
      simp only
      have hinv := ld_inv hl
      unfold cont at hinv
      have hp := plen_inv (c := c)
      by_cases g : k = plen c ∧ ¬ (55296 ≤ c ∧ c < 57344)
      · rw [if_pos g]
        intro e1 e2
        exfalso
        simp only at e1 e2
        omega
      · rw [if_neg g]
        intro _ _
        by_cases g2 : k = plen c
        · rw [if_pos g2]
          have : (n ≥ 3 ∧ x0 = 237 ∧ 160 ≤ x1 ∧ x1 ≤ 191) ∧ 128 ≤ x2 ∧ x2 ≤ 191 := by omega
          rw [if_pos this]
          congr 2
          · omega
          · omega
        · rw [if_neg g2]
          have : ¬ ((n ≥ 3 ∧ x0 = 237 ∧ 160 ≤ x1 ∧ x1 ≤ 191) ∧ 128 ≤ x2 ∧ x2 ≤ 191) := by omega
          rw [if_neg this]
  · cases hl : ld n x0 x1 x2 x3 with
    | none => intro h; exact absurd ⟨rfl, by decide⟩ h
    | some p =>
      obtain ⟨c, k⟩ := p
      simp only
      by_cases g : k = plen c ∧ ¬ (55296 ≤ c ∧ c < 57344)
      · rw [if_pos g, if_pos g.1]
        intro _; rfl
      · rw [if_neg g]
        intro h
        exact absurd ⟨rfl, by decide⟩ h
theorem hi_eq (c : Nat) : units_Valid.hi (c : Int) = hi c := by
  unfold units_Valid.hi hi
  rw [Bool.eq_iff_iff]; simp; omega
theorem lo_eq (c : Nat) : units_Valid.lo (c : Int) = lo c := by
  unfold units_Valid.lo lo
  rw [Bool.eq_iff_iff]; simp; omega
theorem val_iff (s : ByteArray) : ∀ (m : Nat) (last i : Nat), s.size < m + i → (units_Valid.val m s (last : Int) i = true ↔ ∃ cs, dec m ((nums s).drop i) = some cs ∧ (∀ p ∈ cs, p.2 = plen p.1) ∧ noadj last (cs.map (·.1)) = true)
  | 0, last, i, h => by
    have he : (nums s).drop i = [] := List.drop_eq_nil_of_le (by rw [nums_len]; omega)
    rw [he]
    simp [units_Valid.val, dec, noadj]
  | m + 1, last, i, h => by
    unfold units_Valid.val dec
    by_cases hi' : i < s.size
    · rw [if_pos hi', pt_eq s i hi']
      have hne : ¬ (nums s).drop i = [] := by
        intro he
        have := congrArg List.length he
        rw [List.length_drop, nums_len] at this
        simp at this
        omega
      rw [if_neg hne]
      have hn : 0 < ((nums s).drop i).length := by rw [List.length_drop, nums_len]; omega
      cases hl : ldL ((nums s).drop i) with
      | none => simp
      | some p =>
        obtain ⟨c, k⟩ := p
        simp only
        obtain ⟨s1, s2, s3, s4, s5⟩ := ld_spec hn hl
        by_cases hk : k = plen c
        · simp only [if_pos hk]
          rw [if_neg (by omega), hi_eq, lo_eq]
          have ih := val_iff s m c (i + k) (by omega)
          rw [Int.toNat_natCast, List.drop_drop]
          cases hh : hi last && lo c with
          | true =>
            rw [Bool.and_eq_true] at hh
            rw [if_pos hh]
            simp only [Bool.false_eq_true, false_iff]
            rintro ⟨cs, h1, h2, h3⟩
            obtain ⟨cs', _, rfl⟩ := Option.map_eq_some_iff.1 h1
            simp [noadj, hh] at h3
          | false =>
            rw [if_neg (by rw [← Bool.and_eq_true, hh]; simp), ih]
            constructor
            · rintro ⟨cs, h1, h2, h3⟩
              refine ⟨(c, k) :: cs, by rw [h1]; rfl, ?_, ?_⟩
              · intro p hp
                rcases List.mem_cons.1 hp with rfl | hp
                · exact hk
                · exact h2 p hp
              · simp [noadj, hh, h3]
            · rintro ⟨cs, h1, h2, h3⟩
              obtain ⟨cs', h4, rfl⟩ := Option.map_eq_some_iff.1 h1
              refine ⟨cs', h4, fun p hp => h2 p (List.mem_cons_of_mem _ hp), ?_⟩
              simp only [List.map_cons, noadj, hh, Bool.not_false, Bool.true_and] at h3
              exact h3
        · simp only [if_neg hk]
          rw [if_pos trivial]
          simp only [Bool.false_eq_true, false_iff]
          rintro ⟨cs, h1, h2, h3⟩
          obtain ⟨cs', _, rfl⟩ := Option.map_eq_some_iff.1 h1
          exact hk (h2 (c, k) List.mem_cons_self)
    · rw [if_neg hi']
      have he : (nums s).drop i = [] := List.drop_eq_nil_of_le (by rw [nums_len]; omega)
      rw [if_pos he]
      simp [noadj]
end Go.Proofs.YtlliefodchfpfaaDoor.Utf
/-! #### part U2 -/
/- The reference's Valid is the program's. -/
set_option linter.unusedSimpArgs false
set_option linter.unusedVariables false
namespace Go.Proofs.YtlliefodchfpfaaDoor.Utf
open Go.RowKit Go.Proofs.YtlliefodchfpfaaDoorW.PrintWords Go.Proofs.YtlliefodchfpfaaDoor.PDescKinds
theorem w64 {x : Int} (h : -9223372036854775808 ≤ x ∧ x ≤ 9223372036854775807) : wrap64 x = x := by unfold wrap64; omega
theorem w16 {x : Int} (h : 0 ≤ x ∧ x < 65536) : IntKind.u16.wrap x = x := by rw [IntKind.wrap_u16]; omega
/-- So many bytes that go on, as_ one number. -/
def tl (s : ByteArray) (a : Nat) : Nat → Nat → Nat → Option Nat
  | 0, _, c => some c
  | r + 1, i, c => if a + i < s.size ∧ cont ((nums s).getD (a + i) 0) then tl s a r (i + 1) (64 * c + ((nums s).getD (a + i) 0 - 128)) else none
def toI : Option Nat → Int
  | some c => c
  | none => -1
theorem tail_ev (s : ByteArray) (a : Nat) (hs : s.size ≤ 1048576) (ha : a ≤ 1048580) : ∀ (r i c : Nat), i + r ≤ 3 → c < 64 ^ i →
    Ev (fun k => cameoref01_tail.l0 k s (a : Int) ((i + r : Nat) : Int) (c : Int) (i : Int)) (toI (tl s a r i c))
  | 0, i, c, h, hc => by
    refine Ev.step (f := fun _ => some (c : Int)) (fun k => ?_) (Ev.now _)
    simp only [cameoref01_tail.l0]
    rw [if_neg (by omega)]
  | r + 1, i, c, h, hc => by
    have hw : wrap64 ((a : Int) + (i : Int)) = ((a + i : Nat) : Int) := by rw [w64 (by omega)]; omega
    have h64 : 64 ^ i ≤ 262144 := by
      have : i ≤ 3 := by omega
      rcases Nat.lt_or_ge i 1 with h1 | h1
      · have : i = 0 := by omega
        subst this; decide
      rcases Nat.lt_or_ge i 2 with h2 | h2
      · have : i = 1 := by omega
        subst this; decide
      rcases Nat.lt_or_ge i 3 with h3 | h3
      · have : i = 2 := by omega
        subst this; decide
      · have : i = 3 := by omega
        subst this; decide
    have hb := getD_lt s (a + i)
    have step : ∀ k, cameoref01_tail.l0 (k + 1) s (a : Int) ((i + (r + 1) : Nat) : Int) (c : Int) (i : Int) =
        if a + i < s.size ∧ cont ((nums s).getD (a + i) 0) then cameoref01_tail.l0 k s (a : Int) ((i + (r + 1) : Nat) : Int) ((64 * c + ((nums s).getD (a + i) 0 - 128) : Nat) : Int) ((i + 1 : Nat) : Int) else some (-1) := by
      intro k
      simp only [cameoref01_tail.l0, hw, nums_bt]
      rw [if_pos (by omega)]
      unfold cont
      by_cases g : a + i < s.size
      · rw [if_neg (by omega), if_pos (by omega), if_pos (by omega)]
        by_cases g1 : (nums s).getD (a + i) 0 < 128
        · rw [if_pos (by omega), if_neg (by omega)]
        · rw [if_neg (by omega)]
          by_cases g2 : (nums s).getD (a + i) 0 ≤ 191
          · rw [if_neg (by omega), if_pos (by omega)]
            have e1 : wrap64 (wrap64 (wrap64 (64 * (c : Int)) + wrap64 (((nums s).getD (a + i) 0 : Nat) : Int)) - 128) = ((64 * c + ((nums s).getD (a + i) 0 - 128) : Nat) : Int) := by
              rw [w64 (x := 64 * (c : Int)) (by omega), w64 (x := (((nums s).getD (a + i) 0 : Nat) : Int)) (by omega), w64 (x := 64 * (c : Int) + _) (by omega), w64 (by omega)]
              omega
            have e2 : wrap64 ((i : Int) + 1) = ((i + 1 : Nat) : Int) := by rw [w64 (by omega)]; omega
            rw [e1, e2]
          · rw [if_pos (by omega), if_neg (by omega)]
      · rw [if_pos (by omega), if_neg (by omega)]
    refine Ev.step step ?_
    by_cases g : a + i < s.size ∧ cont ((nums s).getD (a + i) 0)
    · have et : tl s a (r + 1) i c = tl s a r (i + 1) (64 * c + ((nums s).getD (a + i) 0 - 128)) := by simp only [tl]; rw [if_pos g]
      rw [et]
      refine Ev.congr (fun k => if_pos g) ?_
      have hg := g.2
      unfold cont at hg
      have ih := tail_ev s a hs ha r (i + 1) (64 * c + ((nums s).getD (a + i) 0 - 128)) (by omega) (by rw [Nat.pow_succ]; omega)
      rw [show i + (r + 1) = (i + 1) + r by omega]
      exact ih
    · have et : tl s a (r + 1) i c = none := by simp only [tl]; rw [if_neg g]
      rw [et]
      exact Ev.congr (fun k => if_neg g) (Ev.now _)
def U (c : Nat) : List Int := (units c).map fun n : Nat => (n : Int)
theorem l1_ev (s : ByteArray) (acc : List Int) (at_ n t : Nat) (hs : s.size ≤ 1048576) (ha : at_ ≤ 1048576) (hn : n ≤ 3) (ht : t < 262144) (hacc : acc.length ≤ 4194304) (R : List Int × Bool) : ∀ (r i base : Nat), i + r = n → base * 64 ^ r < 4194304 →
    (t + base * 64 ^ r ≤ 1114111 → Ev (fun k => cameoref01_read.l0 k s (acc ++ U (t + base * 64 ^ r)) ((at_ + (1 + n) : Nat) : Int)) R) → (¬ t + base * 64 ^ r ≤ 1114111 → R = ([], false)) →
    Ev (fun k => cameoref01_read.l1 k s acc (at_ : Int) (n : Int) (base : Int) (t : Int) (i : Int)) R
  | 0, i, base, hi, hb, h1, h2 => by
    simp only [Nat.pow_zero, Nat.mul_one] at hb h1 h2
    have e1 : wrap64 ((t : Int) + (base : Int)) = ((t + base : Nat) : Int) := by rw [w64 (by omega)]; omega
    have e2 : wrap64 ((at_ : Int) + wrap64 (1 + (n : Int))) = ((at_ + (1 + n) : Nat) : Int) := by rw [w64 (x := 1 + (n : Int)) (by omega), w64 (by omega)]; omega
    by_cases g : t + base ≤ 1114111
    · refine Ev.step (fun k => ?_) (h1 g)
      simp only [cameoref01_read.l1]
      rw [if_neg (by omega), e1, if_neg (by omega), e2]
      by_cases g2 : 65536 ≤ t + base
      · rw [if_pos (by omega)]
        simp only [Option.bind_some]
        rw [if_pos (by simp; omega)]
        have e3 : wrap64 (((t + base : Nat) : Int) - 65536) = ((t + base - 65536 : Nat) : Int) := by rw [w64 (by omega)]; omega
        rw [e3]
        have e4 : IntKind.u16.wrap (wrap64 (55296 + wrap64 (Int.tdiv ((t + base - 65536 : Nat) : Int) 1024))) = ((55296 + (t + base - 65536) / 1024 : Nat) : Int) := by
          have : Int.tdiv ((t + base - 65536 : Nat) : Int) 1024 = (((t + base - 65536) / 1024 : Nat) : Int) := by
            rw [Int.tdiv_eq_ediv_of_nonneg (by omega)]; omega
          rw [this, w64 (x := (((t + base - 65536) / 1024 : Nat) : Int)) (by omega), w64 (by omega), w16 (by omega)]
          omega
        have e5 : IntKind.u16.wrap (wrap64 (56320 + Int.tmod ((t + base - 65536 : Nat) : Int) 1024)) = ((56320 + (t + base - 65536) % 1024 : Nat) : Int) := by
          have : Int.tmod ((t + base - 65536 : Nat) : Int) 1024 = (((t + base - 65536) % 1024 : Nat) : Int) := by
            rw [Int.tmod_eq_emod_of_nonneg (by omega)]; omega
          rw [this, w64 (by omega), w16 (by omega)]
          omega
        rw [e4, e5]
        unfold U units
        rw [if_pos g2]
        rfl
      · rw [if_neg (by omega), if_pos (by omega), w16 (by omega)]
        unfold U units
        rw [if_neg g2]
        rfl
    · rw [h2 g]
      refine Ev.step (f := fun _ => some ([], false)) (fun k => ?_) (Ev.now _)
      simp only [cameoref01_read.l1]
      rw [if_neg (by omega), e1, if_pos (by omega)]
  | r + 1, i, base, hi, hb, h1, h2 => by
    have hb' : base * 64 * 64 ^ r = base * 64 ^ (r + 1) := by rw [Nat.pow_succ, Nat.mul_assoc, Nat.mul_comm 64]
    have hle : base * 64 ≤ base * 64 * 64 ^ r := Nat.le_mul_of_pos_right _ (Nat.pow_pos (by decide))
    have e1 : wrap64 ((base : Int) * 64) = ((base * 64 : Nat) : Int) := by rw [w64 (by omega)]; omega
    have e2 : wrap64 ((i : Int) + 1) = ((i + 1 : Nat) : Int) := by rw [w64 (by omega)]; omega
    refine Ev.step (fun k => ?_) (l1_ev s acc at_ n t hs ha hn ht hacc R r (i + 1) (base * 64) (by omega) (by omega) (by rw [hb']; exact h1) (by rw [hb']; exact h2))
    simp only [cameoref01_read.l1]
    rw [if_pos (by omega), e1, e2]
theorem tl_lt (s : ByteArray) (a : Nat) : ∀ (r i c v : Nat), c < 64 ^ i → tl s a r i c = some v → v < 64 ^ (i + r)
  | 0, i, c, v, hc, h => by
    simp only [tl, Option.some.injEq] at h
    subst h; exact hc
  | r + 1, i, c, v, hc, h => by
    simp only [tl] at h
    split at h
    · rename_i g
      have := g.2
      unfold cont at this
      have := tl_lt s a r (i + 1) _ v (by rw [Nat.pow_succ]; omega) h
      rwa [show i + (r + 1) = i + 1 + r by omega]
    · cases h
theorem j3_ev (s : ByteArray) (acc : List Int) (at_ n base : Nat) (hs : s.size ≤ 1048576) (ha : at_ ≤ 1048576) (hn : n ≤ 3) (hacc : acc.length ≤ 4194304) (hb : base * 64 ^ n < 4194304) (R : List Int × Bool)
    (h0 : tl s (at_ + 1) n 0 0 = none → R = ([], false))
    (h1 : ∀ t, tl s (at_ + 1) n 0 0 = some t → t + base * 64 ^ n ≤ 1114111 → Ev (fun k => cameoref01_read.l0 k s (acc ++ U (t + base * 64 ^ n)) ((at_ + (1 + n) : Nat) : Int)) R)
    (h2 : ∀ t, tl s (at_ + 1) n 0 0 = some t → ¬ t + base * 64 ^ n ≤ 1114111 → R = ([], false)) :
    Ev (fun k => cameoref01_read.j3 k s acc (at_ : Int) (n : Int) (base : Int)) R := by
  have e1 : wrap64 ((at_ : Int) + 1) = ((at_ + 1 : Nat) : Int) := by rw [w64 (by omega)]; omega
  have ht := tail_ev s (at_ + 1) hs (by omega) n 0 0 (by omega) (by decide)
  rw [Nat.zero_add] at ht
  refine Ev.step (f := fun k => (cameoref01_tail.f k s ((at_ + 1 : Nat) : Int) (n : Int)).bind fun t264 => (if t264 < 0 then (some (([] : List Int), false)) else (cameoref01_read.l1 k s acc (at_ : Int) (n : Int) (base : Int) t264 0))) (fun k => ?_) ?_
  · simp only [cameoref01_read.j3]
    rw [e1]
  · refine Ev.bind (a := toI (tl s (at_ + 1) n 0 0)) ht ?_
    cases hv : tl s (at_ + 1) n 0 0 with
    | none =>
      rw [h0 hv]
      refine Ev.congr (fun k => if_pos ?_) (Ev.now _)
      show (-1 : Int) < 0
      decide
    | some t =>
      have hlt := tl_lt s (at_ + 1) n 0 0 t (by decide) hv
      have h64 : 64 ^ (0 + n) ≤ 262144 := by
        rw [Nat.zero_add]
        exact Nat.pow_le_pow_right (n := 64) (by decide) hn
      refine Ev.congr (f := fun k => cameoref01_read.l1 k s acc (at_ : Int) (n : Int) (base : Int) (t : Int) ((0 : Nat) : Int)) (fun k => if_neg ?_) ?_
      · show ¬ (t : Int) < 0
        omega
      · exact l1_ev s acc at_ n t hs ha hn (by omega) hacc R n 0 base (by omega) hb (h1 t hv) (h2 t hv)
set_option maxRecDepth 100000 in
/-- The lead byte tells how many more there are. -/
theorem ldL_tl (s : ByteArray) (i : Nat) (hi : i < s.size) : ldL ((nums s).drop i) =
    if (nums s).getD i 0 < 128 then some ((nums s).getD i 0, 1) else if (nums s).getD i 0 < 192 then none else
    if (nums s).getD i 0 < 224 then (match tl s (i + 1) 1 0 0 with | none => none | some t => some (t + ((nums s).getD i 0 - 192) * 64 ^ 1, 2)) else
    if (nums s).getD i 0 < 240 then (match tl s (i + 1) 2 0 0 with | none => none | some t => some (t + ((nums s).getD i 0 - 224) * 64 ^ 2, 3)) else
    if (nums s).getD i 0 < 248 then (match tl s (i + 1) 3 0 0 with | none => none | some t => if t + ((nums s).getD i 0 - 240) * 64 ^ 3 ≤ 1114111 then some (t + ((nums s).getD i 0 - 240) * 64 ^ 3, 4) else none) else none := by
  have hlen : ((nums s).drop i).length = s.size - i := by rw [List.length_drop, nums_len]
  unfold ldL
  rw [hlen, drop_getD, drop_getD, drop_getD, drop_getD, Nat.add_zero]
  simp only [tl, Nat.add_zero]
  rw [show i + 1 + 1 = i + 2 from rfl, show i + 2 + 1 = i + 3 from rfl, show i + 1 + 2 = i + 3 from rfl] at *
  generalize (nums s).getD i 0 = b0
  generalize (nums s).getD (i + 1) 0 = b1
  generalize (nums s).getD (i + 2) 0 = b2
  generalize (nums s).getD (i + 3) 0 = b3
  have c1 : (1 < s.size - i) = (i + 1 < s.size) := propext ⟨fun h => by omega, fun h => by omega⟩
  have c2 : (2 < s.size - i) = (i + 2 < s.size) := propext ⟨fun h => by omega, fun h => by omega⟩
  have c3 : (3 < s.size - i) = (i + 3 < s.size) := propext ⟨fun h => by omega, fun h => by omega⟩
  unfold ld
  simp only [c1, c2, c3]
  by_cases g0 : b0 < 128
  · rw [if_pos g0, if_pos g0]
  rw [if_neg g0, if_neg g0]
  by_cases g1 : b0 < 192
  · rw [if_pos g1, if_pos g1]
  rw [if_neg g1, if_neg g1]
  by_cases d1 : i + 1 < s.size ∧ cont b1
  · by_cases d2 : i + 2 < s.size ∧ cont b2
    · by_cases d3 : i + 3 < s.size ∧ cont b3
      · simp only [if_pos d1, if_pos d2, if_pos d3, Nat.mul_zero, Nat.zero_add]
        have z1 : (b0 - 192) * 64 + (b1 - 128) = b1 - 128 + (b0 - 192) * 64 ^ 1 := by omega
        have z2 : (b0 - 224) * 4096 + (b1 - 128) * 64 + (b2 - 128) = 64 * (b1 - 128) + (b2 - 128) + (b0 - 224) * 64 ^ 2 := by omega
        have z3 : (b0 - 240) * 262144 + (b1 - 128) * 4096 + (b2 - 128) * 64 + (b3 - 128) = 64 * (64 * (b1 - 128) + (b2 - 128)) + (b3 - 128) + (b0 - 240) * 64 ^ 3 := by
          rw [show (64 : Nat) ^ 3 = 262144 from by decide]
          omega
        rw [z1, z2, z3]
      · simp only [if_pos d1, if_pos d2, if_neg d3, Nat.mul_zero, Nat.zero_add]
        have z1 : (b0 - 192) * 64 + (b1 - 128) = b1 - 128 + (b0 - 192) * 64 ^ 1 := by omega
        have z2 : (b0 - 224) * 4096 + (b1 - 128) * 64 + (b2 - 128) = 64 * (b1 - 128) + (b2 - 128) + (b0 - 224) * 64 ^ 2 := by omega
        rw [z1, z2]
    · simp only [if_pos d1, if_neg d2, Nat.mul_zero, Nat.zero_add]
      have z1 : (b0 - 192) * 64 + (b1 - 128) = b1 - 128 + (b0 - 192) * 64 ^ 1 := by omega
      rw [z1]
  · simp only [if_neg d1]
def outOf (acc : List Int) : Option (List (Nat × Nat)) → List Int × Bool
  | none => ([], false)
  | some cs => (acc ++ (cs.map (·.1)).flatMap U, true)
theorem U_len (c : Nat) : (U c).length ≤ 2 := by
  unfold U units
  split <;> simp
theorem read_ev (s : ByteArray) (hs : s.size ≤ 1048576) : ∀ (m i : Nat) (acc : List Int), s.size ≤ m + i → i ≤ s.size → acc.length ≤ 2 * i →
    Ev (fun k => cameoref01_read.l0 k s acc (i : Int)) (outOf acc (dec m ((nums s).drop i)))
  | m, i, acc, hm, hi, hacc => by
    by_cases hlt : i < s.size
    · have hne : ¬ (nums s).drop i = [] := by
        intro he
        have := congrArg List.length he
        rw [List.length_drop, nums_len] at this
        simp at this
        omega
      cases m with
      | zero => exact absurd hlt (by omega)
      | succ m =>
        have hd : dec (m + 1) ((nums s).drop i) = match ldL ((nums s).drop i) with
          | none => none
          | some (c, k) => (dec m ((nums s).drop (i + k))).map ((c, k) :: ·) := by
          show (if (nums s).drop i = [] then some [] else _) = _
          rw [if_neg hne]
          first | (simp only [List.drop_drop]; done) | (simp only [List.drop_drop]; cases ldL ((nums s).drop i) <;> rfl)
        have hb := getD_lt s i
        have hl := ldL_tl s i hlt
        have ebt : wrap64 (bt s (i : Int)) = (((nums s).getD i 0 : Nat) : Int) := by rw [nums_bt, w64 (by omega)]
        -- what comes behind one code point
        have next : ∀ (c k : Nat), ldL ((nums s).drop i) = some (c, k) → ∀ n, k = n + 1 → Ev (fun k => cameoref01_read.l0 k s (acc ++ U c) ((i + (1 + n) : Nat) : Int)) (outOf acc (dec (m + 1) ((nums s).drop i))) := by
          intro c k hck n hk
          have hn : 0 < ((nums s).drop i).length := by rw [List.length_drop, nums_len]; omega
          obtain ⟨s1, s2, _, _, _⟩ := ld_spec hn hck
          rw [List.length_drop, nums_len] at s2
          have hU := U_len c
          have ih := read_ev s hs m (i + (1 + n)) (acc ++ U c) (by omega) (by omega) (by rw [List.length_append]; omega)
          rw [hd, hck]
          simp only
          have e : dec m ((nums s).drop (i + k)) = dec m ((nums s).drop (i + (1 + n))) := by rw [hk, Nat.add_comm n 1]
          rw [e]
          cases hdm : dec m ((nums s).drop (i + (1 + n))) with
          | none => rw [hdm] at ih; exact ih
          | some cs =>
            rw [hdm] at ih
            have : outOf (acc ++ U c) (some cs) = outOf acc (Option.map ((c, k) :: ·) (some cs)) := by
              simp only [outOf, Option.map_some, List.map_cons, List.flatMap_cons, List.append_assoc]
            rw [← this]
            exact ih
        have stop : ldL ((nums s).drop i) = none → outOf acc (dec (m + 1) ((nums s).drop i)) = ([], false) := by
          intro h0
          rw [hd, h0]; rfl
        have lead : ∀ (n base : Nat), n ≤ 3 → base * 64 ^ n < 4194304 → (ldL ((nums s).drop i) = match tl s (i + 1) n 0 0 with | none => none | some t => if t + base * 64 ^ n ≤ 1114111 then some (t + base * 64 ^ n, n + 1) else none) →
            Ev (fun k => cameoref01_read.j3 k s acc (i : Int) (n : Int) (base : Int)) (outOf acc (dec (m + 1) ((nums s).drop i))) := by
          intro n base hn hbb he
          refine j3_ev s acc i n base hs (by omega) hn (by omega) hbb _ (fun h0 => stop (by rw [he, h0])) (fun t ht hle => ?_) (fun t ht hle => stop (by rw [he, ht]; exact if_neg hle))
          exact next _ _ (by rw [he, ht]; exact if_pos hle) n rfl
        generalize hR : outOf acc (dec (m + 1) ((nums s).drop i)) = R at *
        generalize (nums s).getD i 0 = b0 at *
        by_cases g0 : b0 < 128
        · rw [if_pos g0] at hl
          have h3 := lead 0 b0 (by omega) (by omega) (by simp only [tl, hl, Nat.pow_zero, Nat.mul_one, Nat.zero_add]; rw [if_pos (by omega)])
          refine Ev.step (fun k => ?_) h3
          simp only [cameoref01_read.l0]
          rw [if_pos (by omega), if_pos (by omega), ebt, if_pos (by omega)]
          rfl
        rw [if_neg g0] at hl
        by_cases g1 : b0 < 192
        · rw [if_pos g1] at hl
          rw [stop hl]
          refine Ev.step (f := fun k => cameoref01_read.j1 k s acc (i : Int) (b0 : Int) false) (fun k => ?_) (Ev.step (f := fun k => cameoref01_read.j2 k s acc (i : Int) (b0 : Int) false) (fun k => ?_) (Ev.step (f := fun _ => some ([], false)) (fun k => ?_) (Ev.now _)))
          · simp only [cameoref01_read.l0]
            rw [if_pos (by omega), if_pos (by omega), ebt, if_neg (by omega), if_neg (by omega)]
          · simp only [cameoref01_read.j1]
            rw [if_neg (by simp), if_neg (by omega)]
          · simp only [cameoref01_read.j2]
            rw [if_neg (by simp), if_neg (by omega)]
        rw [if_neg g1] at hl
        have st1 : ∀ k, cameoref01_read.l0 (k + 1) s acc (i : Int) = cameoref01_read.j1 k s acc (i : Int) (b0 : Int) (decide ((b0 : Int) < 224)) := by
          intro k
          simp only [cameoref01_read.l0]
          rw [if_pos (by omega), if_pos (by omega), ebt, if_neg (by omega), if_pos (by omega)]
        by_cases g2 : b0 < 224
        · rw [if_pos g2] at hl
          have h3 := lead 1 (b0 - 192) (by omega) (by omega) (by
            rw [hl]
            cases htl : tl s (i + 1) 1 0 0 with
            | none => rfl
            | some t =>
              have := tl_lt s (i + 1) 1 0 0 t (by decide) htl
              simp only
              rw [if_pos (by omega)])
          refine Ev.step st1 (Ev.step (fun k => ?_) h3)
          simp only [cameoref01_read.j1]
          rw [if_pos (by simp; omega), w64 (by omega)]
          congr 1
          omega
        rw [if_neg g2] at hl
        have st2 : ∀ k, cameoref01_read.j1 (k + 1) s acc (i : Int) (b0 : Int) (decide ((b0 : Int) < 224)) = cameoref01_read.j2 k s acc (i : Int) (b0 : Int) (decide ((b0 : Int) < 240)) := by
          intro k
          simp only [cameoref01_read.j1]
          rw [if_neg (by simp; omega), if_pos (by omega)]
        by_cases g3 : b0 < 240
        · rw [if_pos g3] at hl
          have h3 := lead 2 (b0 - 224) (by omega) (by omega) (by
            rw [hl]
            cases htl : tl s (i + 1) 2 0 0 with
            | none => rfl
            | some t =>
              have := tl_lt s (i + 1) 2 0 0 t (by decide) htl
              simp only
              rw [if_pos (by omega)])
          refine Ev.step st1 (Ev.step st2 (Ev.step (fun k => ?_) h3))
          simp only [cameoref01_read.j2]
          rw [if_pos (by simp; omega), w64 (by omega)]
          congr 1
          omega
        rw [if_neg g3] at hl
        by_cases g4 : b0 < 248
        · rw [if_pos g4] at hl
          have h3 := lead 3 (b0 - 240) (by omega) (by omega) hl
          refine Ev.step st1 (Ev.step st2 (Ev.step (fun k => ?_) h3))
          simp only [cameoref01_read.j2]
          rw [if_neg (by simp; omega), if_pos (by omega), if_pos (by omega), w64 (by omega)]
          congr 1
          omega
        · rw [if_neg g4] at hl
          rw [stop hl]
          refine Ev.step st1 (Ev.step st2 (Ev.step (f := fun _ => some ([], false)) (fun k => ?_) (Ev.now _)))
          simp only [cameoref01_read.j2]
          rw [if_neg (by simp; omega), if_pos (by omega), if_neg (by omega)]
    · have he : (nums s).drop i = [] := List.drop_eq_nil_of_le (by rw [nums_len]; omega)
      have hd : dec m ((nums s).drop i) = some [] := by
        rw [he]
        cases m <;> simp [dec]
      rw [hd]
      refine Ev.step (f := fun _ => some (acc, true)) (fun k => ?_) ?_
      · simp only [cameoref01_read.l0]
        rw [if_neg (by omega)]
      · have : outOf acc (some []) = (acc, true) := by simp [outOf]
        rw [this]
        exact Ev.now _
end Go.Proofs.YtlliefodchfpfaaDoor.Utf
/-! #### part U3 -/
/- The reference's Valid is the program's: what is read is written anew. -/
set_option linter.unusedSimpArgs false
set_option linter.unusedVariables false
namespace Go.Proofs.YtlliefodchfpfaaDoor.Utf
open Go.RowKit Go.Proofs.YtlliefodchfpfaaDoorW.PrintWords Go.Proofs.YtlliefodchfpfaaDoor.PDescKinds
def ints (l : List Nat) : List Int := l.map fun n : Nat => (n : Int)
theorem ints_len (l : List Nat) : (ints l).length = l.length := List.length_map _
theorem high_eq (a : Nat) : cameoref01_high.f (a : Int) = some (hi a) := by
  unfold cameoref01_high.f hi
  by_cases h : (a : Int) ≥ 55296
  · rw [if_pos h]
    congr 1
    rw [Bool.eq_iff_iff]; simp; omega
  · rw [if_neg h]
    have : ¬ 55296 ≤ a := by omega
    simp [this]
theorem low_eq (a : Nat) : cameoref01_low.f (a : Int) = some (lo a) := by
  unfold cameoref01_low.f lo
  by_cases h : (a : Int) ≥ 56320
  · rw [if_pos h]
    congr 1
    rw [Bool.eq_iff_iff]; simp; omega
  · rw [if_neg h]
    have : ¬ 56320 ≤ a := by omega
    simp [this]
theorem rd_ints (us : List Nat) (j : Nat) : rd (ints us) (j : Int) = ((us.getD j 0 : Nat) : Int) := by
  unfold rd ints
  rw [Int.toNat_natCast]
  simp only [List.getD_eq_getElem?_getD, List.getElem?_map]
  cases us[j]? <;> rfl
theorem drop_cons (us : List Nat) (j : Nat) (h : j < us.length) : us.drop j = us.getD j 0 :: us.drop (j + 1) := by
  rw [List.drop_eq_getElem_cons h, List.getD_eq_getElem?_getD, List.getElem?_eq_getElem h]
  rfl
theorem getD_lt' {us : List Nat} {B : Nat} (hu : ∀ u ∈ us, u < B) (hB : 0 < B) (j : Nat) : us.getD j 0 < B := by
  rw [List.getD_eq_getElem?_getD]
  cases h : us[j]? with
  | none => exact hB
  | some b => exact hu b (List.mem_of_getElem? h)
theorem row_two {a b : Nat} (l : List Nat) (h : (hi a && lo b) = false) : rowC (a :: b :: l) = a :: rowC (b :: l) := by
  simp only [rowC, h]; rfl
theorem row_one {a b : Nat} (l : List Nat) (h : (hi a && lo b) = true) : rowC (a :: b :: l) = (65536 + 1024 * (a - 55296) + (b - 56320)) :: rowC l := by
  simp only [rowC, h]; rfl
theorem hi_ge {a : Nat} (h : hi a = true) : 55296 ≤ a ∧ a < 56320 := by
  unfold hi at h
  rw [Bool.and_eq_true, decide_eq_true_eq, decide_eq_true_eq] at h
  exact h
theorem lo_ge {a : Nat} (h : lo a = true) : 56320 ≤ a ∧ a < 57344 := by
  unfold lo at h
  rw [Bool.and_eq_true, decide_eq_true_eq, decide_eq_true_eq] at h
  exact h
theorem pair_w (a b : Nat) (ha : 55296 ≤ a ∧ a < 56320) (hb : 56320 ≤ b ∧ b < 57344) :
    wrap64 (wrap64 (wrap64 (65536 + wrap64 (1024 * wrap64 (wrap64 (a : Int) - 55296))) + wrap64 (b : Int)) - 56320) = ((65536 + 1024 * (a - 55296) + (b - 56320) : Nat) : Int) := by
  have z1 : wrap64 (a : Int) = (a : Int) := w64 (by omega)
  have z2 : wrap64 (b : Int) = (b : Int) := w64 (by omega)
  rw [z1, z2]
  have z3 : wrap64 ((a : Int) - 55296) = (a : Int) - 55296 := w64 (by omega)
  rw [z3]
  have z4 : wrap64 (1024 * ((a : Int) - 55296)) = 1024 * ((a : Int) - 55296) := w64 (by omega)
  rw [z4]
  have z5 : wrap64 (65536 + 1024 * ((a : Int) - 55296)) = 65536 + 1024 * ((a : Int) - 55296) := w64 (by omega)
  rw [z5]
  have z6 : wrap64 (65536 + 1024 * ((a : Int) - 55296) + (b : Int)) = 65536 + 1024 * ((a : Int) - 55296) + (b : Int) := w64 (by omega)
  rw [z6]
  have z7 : wrap64 (65536 + 1024 * ((a : Int) - 55296) + (b : Int) - 56320) = 65536 + 1024 * ((a : Int) - 55296) + (b : Int) - 56320 := w64 (by omega)
  rw [z7]
  omega
theorem row_ev (us : List Nat) (hu : ∀ u ∈ us, u < 65536) (hlen : us.length ≤ 4194304) : ∀ (n j : Nat) (out : List S124), us.length ≤ n + j → j ≤ us.length → out.length ≤ j →
    ∃ pts : List S124, Ev (fun k => cameoref01_Row.l0 k (ints us) out (j : Int)) (out ++ pts) ∧ pts.map (·.f1) = ints (rowC (us.drop j)) ∧ pts.length ≤ us.length - j
  | n, j, out, hn, hj, ho => by
    by_cases hlt : j < us.length
    · cases n with
      | zero => exact absurd hlt (by omega)
      | succ n =>
        have ha := getD_lt' hu (by decide) j
        have e1 : wrap64 ((j : Int) + 1) = ((j + 1 : Nat) : Int) := by rw [w64 (by omega)]; omega
        have e2 : wrap64 (((j + 1 : Nat) : Int) + 1) = ((j + 2 : Nat) : Int) := by rw [w64 (by omega)]; omega
        have e3 : wrap64 (rd (ints us) (j : Int)) = ((us.getD j 0 : Nat) : Int) := by rw [rd_ints, w64 (by omega)]
        -- one unit alone
        have alone : (∀ k, cameoref01_Row.l0 (k + 1) (ints us) out (j : Int) = cameoref01_Row.l0 k (ints us) (out ++ [(⟨(j : Int), ((us.getD j 0 : Nat) : Int)⟩ : S124)]) ((j + 1 : Nat) : Int)) → rowC (us.drop j) = us.getD j 0 :: rowC (us.drop (j + 1)) →
            ∃ pts : List S124, Ev (fun k => cameoref01_Row.l0 k (ints us) out (j : Int)) (out ++ pts) ∧ pts.map (·.f1) = ints (rowC (us.drop j)) ∧ pts.length ≤ us.length - j := by
          intro hs hr
          obtain ⟨pts, p1, p2, p3⟩ := row_ev us hu hlen n (j + 1) (out ++ [(⟨(j : Int), ((us.getD j 0 : Nat) : Int)⟩ : S124)]) (by omega) (by omega) (by rw [List.length_append]; simp; omega)
          refine ⟨(⟨(j : Int), ((us.getD j 0 : Nat) : Int)⟩ : S124) :: pts, ?_, ?_, by simp; omega⟩
          · rw [List.append_assoc] at p1
            exact Ev.step hs p1
          · rw [List.map_cons, p2, hr]; rfl
        cases hh : hi (us.getD j 0) with
        | false =>
          refine alone (fun k => ?_) ?_
          · simp only [cameoref01_Row.l0, ints_len]
            rw [if_pos (by omega), if_pos (by omega), rd_ints, high_eq, hh]
            simp only [Option.bind_some, Bool.false_eq_true, if_false]
            rw [if_pos (by omega), e1, w64 (by omega)]
          · rw [drop_cons us j hlt, row_high hh]
        | true =>
          by_cases hl2 : j + 1 < us.length
          · have hb := getD_lt' hu (by decide) (j + 1)
            cases hlo : lo (us.getD (j + 1) 0) with
            | false =>
              refine alone (fun k => ?_) ?_
              · simp only [cameoref01_Row.l0, ints_len]
                rw [if_pos (by omega), if_pos (by omega), rd_ints, high_eq, hh]
                simp only [Option.bind_some, if_true, e1]
                rw [if_pos (by omega), if_pos (by omega), rd_ints, low_eq, hlo]
                simp only [Option.bind_some, Bool.false_eq_true, if_false]
                rw [if_pos (by omega), w64 (by omega)]
              · rw [drop_cons us j hlt, drop_cons us (j + 1) hl2]
                exact row_two _ (by rw [hh, hlo]; rfl)
            | true =>
              obtain ⟨pts, p1, p2, p3⟩ := row_ev us hu hlen n (j + 2) (out ++ [(⟨(j : Int), ((65536 + 1024 * (us.getD j 0 - 55296) + (us.getD (j + 1) 0 - 56320) : Nat) : Int)⟩ : S124)]) (by omega) (by omega) (by rw [List.length_append]; simp; omega)
              refine ⟨(⟨(j : Int), ((65536 + 1024 * (us.getD j 0 - 55296) + (us.getD (j + 1) 0 - 56320) : Nat) : Int)⟩ : S124) :: pts, ?_, ?_, by simp; omega⟩
              · rw [List.append_assoc] at p1
                refine Ev.step (fun k => ?_) p1
                simp only [cameoref01_Row.l0, ints_len]
                rw [if_pos (by omega), if_pos (by omega), rd_ints, high_eq, hh]
                simp only [Option.bind_some, if_true, e1]
                rw [if_pos (by omega), if_pos (by omega), rd_ints, low_eq, hlo]
                simp only [Option.bind_some, if_true]
                rw [if_pos (by omega), e2]
                rw [pair_w _ _ (hi_ge hh) (lo_ge hlo)]
              · rw [List.map_cons, p2, drop_cons us j hlt, drop_cons us (j + 1) hl2, row_one _ (by rw [hh, hlo]; rfl)]
                rfl
          · refine alone (fun k => ?_) ?_
            · simp only [cameoref01_Row.l0, ints_len]
              rw [if_pos (by omega), if_pos (by omega), rd_ints, high_eq, hh]
              simp only [Option.bind_some, if_true, e1]
              rw [if_neg (by omega), if_pos (by omega), w64 (by omega)]
            · have he : us.drop (j + 1) = [] := List.drop_eq_nil_of_le (by omega)
              rw [drop_cons us j hlt, he]
              rfl
    · have he : us.drop j = [] := List.drop_eq_nil_of_le (by omega)
      refine ⟨[], Ev.step (f := fun _ => some out) (fun k => ?_) (by rw [List.append_nil]; exact Ev.now _), by rw [he]; rfl, by simp⟩
      simp only [cameoref01_Row.l0, ints_len]
      rw [if_neg (by omega)]
theorem pe_d64 (c : Nat) (hc : c ≤ 1114111) : Int.tdiv (c : Int) 64 = ((c / 64 : Nat) : Int) := by rw [Int.tdiv_eq_ediv_of_nonneg (by omega)]; omega
theorem pe_d4096 (c : Nat) (hc : c ≤ 1114111) : Int.tdiv (c : Int) 4096 = ((c / 4096 : Nat) : Int) := by rw [Int.tdiv_eq_ediv_of_nonneg (by omega)]; omega
theorem pe_d262144 (c : Nat) (hc : c ≤ 1114111) : Int.tdiv (c : Int) 262144 = ((c / 262144 : Nat) : Int) := by rw [Int.tdiv_eq_ediv_of_nonneg (by omega)]; omega
theorem pe_m64 (c : Nat) (hc : c ≤ 1114111) : Int.tmod (c : Int) 64 = ((c % 64 : Nat) : Int) := by rw [Int.tmod_eq_emod_of_nonneg (by omega)]; omega
theorem pe_w1 (c : Nat) (hc : c ≤ 1114111) : wrap64 (((c / 64 : Nat) : Int)) = ((c / 64 : Nat) : Int) := w64 (by omega)
theorem pe_w2 (c : Nat) (hc : c ≤ 1114111) : wrap64 (((c / 4096 : Nat) : Int)) = ((c / 4096 : Nat) : Int) := w64 (by omega)
theorem pe_m64a (c : Nat) (hc : c ≤ 1114111) : Int.tmod (((c / 64 : Nat) : Int)) 64 = ((c / 64 % 64 : Nat) : Int) := by rw [Int.tmod_eq_emod_of_nonneg (by omega)]; omega
theorem pe_m64b (c : Nat) (hc : c ≤ 1114111) : Int.tmod (((c / 4096 : Nat) : Int)) 64 = ((c / 4096 % 64 : Nat) : Int) := by rw [Int.tmod_eq_emod_of_nonneg (by omega)]; omega
theorem pe_v1 (c : Nat) (hc : c ≤ 1114111) : wrap64 (128 + ((c % 64 : Nat) : Int)) % 256 = ((128 + c % 64 : Nat) : Int) := by rw [w64 (by omega)]; omega
theorem pe_v2 (c : Nat) (hc : c ≤ 1114111) : wrap64 (128 + ((c / 64 % 64 : Nat) : Int)) % 256 = ((128 + c / 64 % 64 : Nat) : Int) := by rw [w64 (by omega)]; omega
theorem pe_v3 (c : Nat) (hc : c ≤ 1114111) : wrap64 (128 + ((c / 4096 % 64 : Nat) : Int)) % 256 = ((128 + c / 4096 % 64 : Nat) : Int) := by rw [w64 (by omega)]; omega
theorem pe_a2 (c : Nat) (hc : c < 2048) : wrap64 (192 + ((c / 64 : Nat) : Int)) % 256 = ((192 + c / 64 : Nat) : Int) := by rw [w64 (by omega)]; omega
theorem pe_a3 (c : Nat) (hc : c < 65536) : wrap64 (224 + ((c / 4096 : Nat) : Int)) % 256 = ((224 + c / 4096 : Nat) : Int) := by rw [w64 (by omega)]; omega
theorem pe_a0 (c : Nat) (hc : c ≤ 1114111) : wrap64 ((c / 262144 : Nat) : Int) = ((c / 262144 : Nat) : Int) := w64 (by omega)
theorem pe_a4 (c : Nat) (hc : c ≤ 1114111) : wrap64 (240 + ((c / 262144 : Nat) : Int)) % 256 = ((240 + c / 262144 : Nat) : Int) := by rw [w64 (by omega)]; omega
theorem put_eq (l : List Int) (c : Nat) (hl : l.length ≤ 8388608) (hc : c ≤ 1114111) : cameoref01_put.f l (c : Int) = some (l ++ ints (putC c)) := by
  unfold cameoref01_put.f putC
  rw [pe_d64 c hc, pe_d4096 c hc, pe_d262144 c hc, pe_m64 c hc, pe_w1 c hc, pe_w2 c hc, pe_m64a c hc, pe_m64b c hc, pe_v1 c hc, pe_v2 c hc, pe_v3 c hc, pe_a0 c hc, pe_a4 c hc]
  by_cases h1 : c < 128
  · rw [if_pos (show (c : Int) < 128 by omega), if_pos (show l.length < 140737488355328 by omega), if_pos h1, show (c : Int) % 256 = (c : Int) by omega]
    rfl
  rw [if_neg (show ¬ (c : Int) < 128 by omega), if_neg h1]
  simp only [Option.bind_some, List.length_cons, List.length_nil]
  by_cases h2 : c < 2048
  · rw [if_pos (show (c : Int) < 2048 by omega), if_pos h2, if_pos (show l.length + (0 + 1 + 1) < 140737488355328 by omega), pe_a2 c h2]
    rfl
  rw [if_neg (show ¬ (c : Int) < 2048 by omega), if_neg h2]
  by_cases h3 : c < 65536
  · rw [if_pos (show (c : Int) < 65536 by omega), if_pos h3, if_pos (show l.length + (0 + 1 + 1 + 1) < 140737488355328 by omega), pe_a3 c h3]
    rfl
  rw [if_neg (show ¬ (c : Int) < 65536 by omega), if_neg h3, if_pos (show l.length + (0 + 1 + 1 + 1 + 1) < 140737488355328 by omega)]
  rfl
theorem of_ev (pts : List S124) (cs : List Nat) (hc : ∀ c ∈ cs, c ≤ 1114111) (he : pts.map (·.f1) = ints cs) (hl : cs.length ≤ 1048576) : ∀ (n j : Nat) (bs : List Int), cs.length ≤ n + j → j ≤ cs.length → bs.length ≤ 4 * j →
    Ev (fun k => cameoref01_Of.l0 k bs pts (j : Int)) (strOfNums (bs ++ ints ((cs.drop j).flatMap putC)))
  | n, j, bs, hn, hj, hb => by
    have hpl : pts.length = cs.length := by
      have := congrArg List.length he
      rwa [List.length_map, ints_len] at this
    by_cases hlt : j < cs.length
    · cases n with
      | zero => exact absurd hlt (by omega)
      | succ n =>
        have hcj : cs.getD j 0 ≤ 1114111 := by
          have := getD_lt' (B := 1114112) (fun u hu => by have := hc u hu; omega) (by decide) j
          omega
        have e1 : wrap64 ((j : Int) + 1) = ((j + 1 : Nat) : Int) := by rw [w64 (by omega)]; omega
        have hf : (rd_T124 pts (j : Int)).f1 = ((cs.getD j 0 : Nat) : Int) := by
          unfold rd_T124
          rw [Int.toNat_natCast]
          have h1 : pts[j]? = some pts[j] := List.getElem?_eq_getElem (by omega)
          have h2 : (pts.map (·.f1))[j]? = some pts[j].f1 := by rw [List.getElem?_map, h1]; rfl
          rw [he] at h2
          unfold ints at h2
          rw [List.getElem?_map, List.getElem?_eq_getElem hlt] at h2
          simp only [Option.map_some, Option.some.injEq] at h2
          rw [List.getD_eq_getElem?_getD, h1, Option.getD_some, ← h2, List.getD_eq_getElem?_getD, List.getElem?_eq_getElem hlt, Option.getD_some]
        have ih := of_ev pts cs hc he hl n (j + 1) (bs ++ ints (putC (cs.getD j 0))) (by omega) (by omega) (by
          rw [List.length_append, ints_len, putC_len]
          have := plen_inv (c := cs.getD j 0)
          omega)
        have e2 : bs ++ ints ((cs.drop j).flatMap putC) = bs ++ ints (putC (cs.getD j 0)) ++ ints ((cs.drop (j + 1)).flatMap putC) := by
          rw [drop_cons cs j hlt, List.flatMap_cons, List.append_assoc]
          simp [ints]
        rw [e2]
        refine Ev.step (fun k => ?_) ih
        simp only [cameoref01_Of.l0]
        rw [if_pos (by omega), if_pos (by omega), hf, put_eq _ _ (by omega) hcj, e1]
        rfl
    · have hd : cs.drop j = [] := List.drop_eq_nil_of_le (by omega)
      rw [hd]
      refine Ev.step (f := fun _ => some (strOfNums bs)) (fun k => ?_) (by simpa [ints] using Ev.now (strOfNums bs))
      simp only [cameoref01_Of.l0]
      rw [if_neg (by omega)]
theorem toList_iff (s : ByteArray) (l : List Nat) (hl : ∀ b ∈ l, b < 256) : ((strOfNums (ints l)).toList == s.toList) = true ↔ l = nums s := by
  rw [beq_iff_eq]
  have h1 : (strOfNums (ints l)).toList = (strOfNums (ints l)).data.toList := by simp [ByteArray.toList_eq]
  have h2 : s.toList = s.data.toList := by simp [ByteArray.toList_eq]
  rw [h1, h2, strOfNums_data]
  unfold ints nums
  rw [List.map_map]
  have h3 : (l.map ((fun n : Int => UInt8.ofNat n.toNat) ∘ fun n : Nat => (n : Int))).map UInt8.toNat = l := by
    rw [List.map_map]
    refine (List.map_congr_left fun b hb => ?_).trans (List.map_id l)
    have := hl b hb
    simp [Nat.mod_eq_of_lt this]
  constructor
  · intro h
    have := congrArg (List.map UInt8.toNat) h
    rw [h3] at this
    exact this
  · intro h
    have : l.map UInt8.ofNat = s.data.toList := by
      rw [h, List.map_map]
      refine (List.map_congr_left fun b hb => ?_).trans (List.map_id _)
      simp
    rw [← this]
    refine List.map_congr_left fun b hb => ?_
    simp
theorem putC_lt {c : Nat} (hc : c ≤ 1114111) : ∀ b ∈ putC c, b < 256 := by
  intro b hb
  unfold putC at hb
  split at hb
  · simp at hb; omega
  · split at hb
    · simp at hb; omega
    · split at hb
      · simp at hb; omega
      · simp at hb; omega
theorem units_lt {c : Nat} (hc : c ≤ 1114111) : ∀ u ∈ units c, u < 65536 := by
  intro u hu
  unfold units at hu
  split at hu
  · simp at hu; omega
  · simp at hu; omega
set_option maxRecDepth 100000 in
theorem rowC_le : ∀ (n : Nat) (us : List Nat), us.length ≤ n → (∀ u ∈ us, u < 65536) → (∀ c ∈ rowC us, c ≤ 1114111) ∧ (rowC us).length ≤ us.length
  | 0, [], _, _ => by simp [rowC]
  | n + 1, [], _, _ => by simp [rowC]
  | n + 1, [a], _, h => by
    refine ⟨fun c hc => ?_, Nat.le_refl _⟩
    have := h a (by simp)
    simp only [rowC, List.mem_singleton] at hc
    omega
  | n + 1, a :: b :: r, hl, h => by
    have ha := h a (by simp)
    have hb := h b (by simp)
    obtain ⟨i1, i2⟩ := rowC_le n (b :: r) (by simp at hl ⊢; omega) (fun u hu => h u (List.mem_cons_of_mem _ hu))
    obtain ⟨j1, j2⟩ := rowC_le n r (by simp at hl ⊢; omega) (fun u hu => h u (List.mem_cons_of_mem _ (List.mem_cons_of_mem _ hu)))
    cases hh : hi a && lo b with
    | true =>
      have e : rowC (a :: b :: r) = (65536 + 1024 * (a - 55296) + (b - 56320)) :: rowC r := by simp [rowC, hh]
      rw [Bool.and_eq_true] at hh
      have g1 := hh.1
      have g2 := hh.2
      unfold hi at g1
      unfold lo at g2
      simp at g1 g2
      rw [e]
      refine ⟨fun c hc => ?_, by simp; omega⟩
      rcases List.mem_cons.1 hc with hc | hc
      · omega
      · exact j1 c hc
    | false =>
      have e : rowC (a :: b :: r) = a :: rowC (b :: r) := by simp [rowC, hh]
      rw [e]
      refine ⟨fun c hc => ?_, by simp at i2 ⊢; omega⟩
      rcases List.mem_cons.1 hc with rfl | hc
      · omega
      · exact i1 c hc
theorem flatU (cs : List Nat) : cs.flatMap U = ints (cs.flatMap units) := by
  induction cs with
  | nil => rfl
  | cons a r ih =>
    rw [List.flatMap_cons, List.flatMap_cons, ih]
    simp [ints, U]
set_option maxRecDepth 100000 in
/-- Both say the same of every string of not more than 2^20 bytes. -/
theorem valid_eq (s : ByteArray) (hs : s.size ≤ 1048576) : ∃ k, cameoref01_Valid.f k s = some (units_Valid.val (s.size + 1) s 0 0) := by
  have hv := val_iff s (s.size + 1) 0 0 (by omega)
  rw [List.drop_zero] at hv
  have hr := read_ev s hs (s.size + 1) 0 [] (by omega) (by omega) (by simp)
  rw [List.drop_zero] at hr
  refine Ev.rounds ?_
  unfold cameoref01_Valid.f
  refine Ev.bind (f := fun k (bt323 : List Int × Bool) => (if bt323.2 = true then ((cameoref01_Of.f k bt323.1).bind fun t327 => (some (t327.toList == s.toList))) else (some false))) (g := fun k => cameoref01_read.f k s) (a := outOf [] (dec (s.size + 1) (nums s))) hr ?_
  cases hd : dec (s.size + 1) (nums s) with
  | none =>
    have : units_Valid.val (s.size + 1) s 0 0 = false := by
      rw [Bool.eq_false_iff]
      intro h
      obtain ⟨cs, h1, _⟩ := hv.1 h
      rw [hd] at h1
      cases h1
    rw [this]
    exact Ev.congr (fun k => if_neg (by simp [outOf])) (Ev.now _)
  | some cs =>
    obtain ⟨d1, d2, d3, d4, d5⟩ := dec_spec _ _ cs (nums_lt s) hd
    rw [nums_len] at d1
    have hcl : (cs.map (·.1)).length ≤ s.size := by
      rw [List.length_map, ← d1]
      have : ∀ (l : List (Nat × Nat)), (∀ p ∈ l, 1 ≤ p.2) → l.length ≤ (l.map (·.2)).sum := by
        intro l
        induction l with
        | nil => intro _; simp
        | cons a r ih =>
          intro h
          have h1 := h a (by simp)
          have h2 := ih fun p hp => h p (List.mem_cons_of_mem _ hp)
          simp only [List.length_cons, List.map_cons, List.sum_cons]
          omega
      refine this cs ?_
      have : ∀ (m : Nat) (l : List Nat) (cs : List (Nat × Nat)), dec m l = some cs → ∀ p ∈ cs, 1 ≤ p.2 := by
        intro m
        induction m with
        | zero =>
          intro l cs h p hp
          unfold dec at h
          split at h
          · cases h; cases hp
          · cases h
        | succ m ih =>
          intro l cs h p hp
          unfold dec at h
          split at h
          · cases h; cases hp
          · rename_i hl
            split at h
            · cases h
            · rename_i c k hld
              obtain ⟨cs', hd', rfl⟩ := Option.map_eq_some_iff.1 h
              rcases List.mem_cons.1 hp with rfl | hp
              · exact (ld_spec (by cases l <;> simp_all) hld).1
              · exact ih _ _ hd' p hp
      exact this _ _ cs hd
    have hle : ∀ c ∈ cs.map (·.1), c ≤ 1114111 := fun c hc => by
      obtain ⟨p, hp, rfl⟩ := List.mem_map.1 hc
      exact d4 p hp
    have hul : ∀ u ∈ (cs.map (·.1)).flatMap units, u < 65536 := fun u hu => by
      obtain ⟨c, hc, hcu⟩ := List.mem_flatMap.1 hu
      exact units_lt (hle c hc) u hcu
    have hulen : ((cs.map (·.1)).flatMap units).length ≤ 2 * (cs.map (·.1)).length := by
      have : ∀ l : List Nat, (l.flatMap units).length ≤ 2 * l.length := by
        intro l
        induction l with
        | nil => simp
        | cons a r ih =>
          rw [List.flatMap_cons, List.length_append, List.length_cons]
          have : (units a).length ≤ 2 := by unfold units; split <;> simp
          omega
      exact this _
    obtain ⟨r1, r2⟩ := rowC_le _ ((cs.map (·.1)).flatMap units) (Nat.le_refl _) hul
    have r3 : (rowC ((cs.map (·.1)).flatMap units)).length ≤ 1048576 := by
      rw [row_units (cs.map (·.1)).length (cs.map (·.1)) (Nat.le_refl _) hle]
      have : ∀ (n : Nat) (l : List Nat), l.length ≤ n → (merge l).length ≤ l.length := by
        intro n
        induction n with
        | zero => intro l hl; cases l with
          | nil => simp [merge]
          | cons a r => simp at hl
        | succ n ih =>
          intro l hl
          rcases l with _ | ⟨a, _ | ⟨b, r⟩⟩
          · simp [merge]
          · simp [merge]
          · have h1 := ih (b :: r) (by simp at hl ⊢; omega)
            have h2 := ih r (by simp at hl ⊢; omega)
            simp only [merge]
            split
            · simp; omega
            · simp at h1 ⊢; omega
      have := this _ (cs.map (·.1)) (Nat.le_refl _)
      omega
    have hout : outOf [] (some cs) = (ints ((cs.map (·.1)).flatMap units), true) := by
      simp only [outOf, List.nil_append]
      rw [flatU]
    rw [hout]
    refine Ev.congr (f := fun k => (cameoref01_Of.f k (ints ((cs.map (·.1)).flatMap units))).bind fun t327 => (some (t327.toList == s.toList))) (fun k => if_pos rfl) ?_
    obtain ⟨pts, p1, p2, p3⟩ := row_ev ((cs.map (·.1)).flatMap units) hul (by omega) _ 0 [] (Nat.le_refl _) (Nat.zero_le _) (by simp)
    rw [List.drop_zero] at p2
    rw [List.nil_append] at p1
    have ho := of_ev pts _ r1 p2 r3 _ 0 [] (Nat.le_refl _) (Nat.zero_le _) (by simp)
    rw [List.drop_zero, List.nil_append] at ho
    have hof : Ev (fun k => cameoref01_Of.f k (ints ((cs.map (·.1)).flatMap units))) (strOfNums (ints ((rowC ((cs.map (·.1)).flatMap units)).flatMap putC))) := by
      unfold cameoref01_Of.f cameoref01_Row.f
      exact Ev.bind (f := fun k t316 => cameoref01_Of.l0 k ([] : List Int) t316 0) p1 ho
    refine Ev.bind (f := fun _ (t327 : ByteArray) => some (t327.toList == s.toList)) hof ?_
    have hb : ∀ b ∈ (rowC ((cs.map (·.1)).flatMap units)).flatMap putC, b < 256 := fun b hb => by
      obtain ⟨c, hc, hcb⟩ := List.mem_flatMap.1 hb
      exact putC_lt (r1 c hc) b hcb
    have hfin : ((strOfNums (ints ((rowC ((cs.map (·.1)).flatMap units)).flatMap putC))).toList == s.toList) = units_Valid.val (s.size + 1) s 0 0 := by
      rw [Bool.eq_iff_iff, toList_iff s _ hb, back_iff (nums_lt s) hd, ]
      rw [show units_Valid.val (s.size + 1) s 0 0 = units_Valid.val (s.size + 1) s ((0 : Nat) : Int) 0 from rfl, hv]
      constructor
      · rintro ⟨h1, h2⟩
        exact ⟨cs, hd, h1, h2⟩
      · rintro ⟨cs', h0, h1, h2⟩
        rw [hd] at h0
        obtain rfl := Option.some.inj h0
        exact ⟨h1, h2⟩
    rw [hfin]
    exact Ev.now _
end Go.Proofs.YtlliefodchfpfaaDoor.Utf
end
section
/- The contract of the reference's Valid. -/
set_option linter.unusedSimpArgs false
set_option linter.unusedVariables false
namespace Go.Proofs.YtlliefodchfpfaaDoor.PDescKinds
open Go.RowKit Go.Ev
theorem ent_valid : E (36, onS T.valid) := fun args t v h hv w hI => by
  obtain ⟨s, rfl, rfl⟩ := onS_eq h
  unfold T.valid at hv
  rw [DT.val_node, DT.val_leaf, DT.val_bad] at hv
  cases hs : decide ((s.size : Int) ≤ 1048576)
  · rw [hs] at hv
    cases hv
  · rw [hs] at hv
    obtain rfl := Option.some.inj hv
    have hs' : s.size ≤ 1048576 := by
      rw [decide_eq_true_eq] at hs
      omega
    obtain ⟨k, hk⟩ := Utf.valid_eq s hs'
    exact cameoref01_Valid.calls k s _ w hk
end Go.Proofs.YtlliefodchfpfaaDoor.PDescKinds
end
section
/- Contracts by evaluation: what each function of a list answers. Written by a program of this session. -/
namespace Go.Proofs.YtlliefodchfpfaaDoor.PDescKinds
open Go.RowKit Go.Ev
set_option linter.unusedSimpArgs false
set_option linter.unusedVariables false
set_option maxRecDepth 100000
abbrev JL0 : Tab := [(36, onS T.valid)]
theorem Jents0 : ∀ p ∈ JL0, E p := entries_cons (ent_valid) (entries_nil)
set_option maxHeartbeats 4000000 in
theorem ev_rminus (a : Nat) : evFn Tryd.prog ext (tab JL0) 40 41 [.float .f64 a] = (T.rminus a).val :=
  Eq.trans (b := 
    (bif FloatKind.f64.format.order a 0 == some Ordering.eq then 
     (bif (Ieee.double.div 4607182418800017408 a).isSome then some (Value.bool (FloatKind.f64.format.order ((Ieee.double.div 4607182418800017408 a).getD 0) 0 == some Ordering.lt)) else none) else some (Value.bool false))) (by kernel_rfl) (by
    simp only [T.rminus, DT.val_node, DT.val_leaf]
    refine bif_eq (fun h => ?_) (fun h => ?_)
    · have hf : Op.floatEq FloatKind.f64 a 0 = true := h
      rw [show (Ieee.double.div 4607182418800017408 a).isSome = true from FloatEq.div_isSome hf, hf]
      rfl
    · have hf : Op.floatEq FloatKind.f64 a 0 = false := h
      rw [hf]
      rfl)
theorem ent_rminus : E (41, onF T.rminus) := byEv Jents0 40 fun args t h => by
  obtain ⟨a, rfl, rfl⟩ := onF_eq h
  exact ev_rminus a
abbrev JL1 : Tab := (41, onF T.rminus) :: JL0
theorem Jents1 : ∀ p ∈ JL1, E p := entries_cons ent_rminus Jents0
set_option maxHeartbeats 4000000 in
theorem ev_there (v : V) : evFn Tryd.prog ext (tab JL1) 40 40 [v.agg] = (T.there v).val :=
  Eq.trans (b := some (Value.bool (v.k != 0))) (by kernel_rfl) (by
    simp only [T.there, T.B, DT.val_leaf, S.there])
theorem ent_there : E (40, onV T.there) := byEv Jents1 40 fun args t h => by
  obtain ⟨v, rfl, rfl⟩ := onV_eq h
  exact ev_there v
abbrev JL2 : Tab := (40, onV T.there) :: JL1
theorem Jents2 : ∀ p ∈ JL2, E p := entries_cons ent_there Jents1
set_option maxHeartbeats 4000000 in
theorem ev_rtri (t : Int) : evFn Tryd.prog ext (tab JL2) 40 39 [.int .i64 t] = (T.tri t).val :=
  Eq.trans (b := 
    (bif t == 0 then some (Value.bool true) else 
     (bif t == 1 then some (Value.bool true) else some (Value.bool (t == 2))))) (by kernel_rfl) (by
    simp only [T.tri, T.B, DT.val_leaf]
    repeat' (with_reducible refine bif_eq (fun h => ?_) (fun h => ?_))
    all_goals simp only [Option.some.injEq, Value.bool.injEq, S.tri, beq_iff_eq, beq_eq_false_iff_ne, ne_eq] at *
    all_goals (rw [Bool.eq_iff_iff]; simp; omega))
theorem ent_rtri : E (39, onI T.tri) := byEv Jents2 40 fun args t h => by
  obtain ⟨t, rfl, rfl⟩ := onI_eq h
  exact ev_rtri t
abbrev JL3 : Tab := (39, onI T.tri) :: JL2
theorem Jents3 : ∀ p ∈ JL3, E p := entries_cons ent_rtri Jents2
set_option maxHeartbeats 4000000 in
theorem ev_none (v : V) : evFn Tryd.prog ext (tab JL3) 40 37 [v.agg] = (T.absent v).val :=
  Eq.trans (b := 
    (bif v.k == 0 then 
     (bif !v.b then 
      (bif FloatKind.f64.format.order v.n 0 == some Ordering.eq then 
       (bif (Ieee.double.div 4607182418800017408 v.n).isSome then 
        (bif FloatKind.f64.format.order ((Ieee.double.div 4607182418800017408 v.n).getD 0) 0 == some Ordering.gt then 
         (bif v.s.toList == (ByteArray.mk #[]).toList then some (Value.bool (v.id == 0)) else some (Value.bool false)) else some (Value.bool false)) else none) else some (Value.bool false)) else some (Value.bool false)) else some (Value.bool false))) (by kernel_rfl) (by
    simp only [T.absent, T.B, DT.val_node, DT.val_leaf, DT.val_bad, DT.bind]
    repeat' (first | (with_reducible refine bif_neq (fun h => ?_) (fun h => ?_)) | (with_reducible refine bif_and (fun h => ?_) (fun h => ?_)) | (with_reducible refine bif_eq (fun h => ?_) (fun h => ?_)))
    all_goals first | (simp only [*, S.absent, S.isV0, S.pos, cond_true, cond_false, Bool.and_true, Bool.true_and, Bool.and_false, Bool.false_and, Bool.or_true, Bool.true_or, Bool.or_false, Bool.false_or, Bool.not_true, Bool.not_false, beq_self_eq_true, bne_self_eq_false, Bool.not_not]; done) | (exfalso; simp_all [S.absent, S.isV0, S.pos, Op.floatEq, beq_toListBytes, FloatKind.format, FloatEq.div_some', FloatEq.div_none']; done) | (simp_all [S.absent, S.isV0, S.pos, Op.floatEq, beq_toListBytes, FloatKind.format, FloatEq.div_some', FloatEq.div_none']; done) | grind [S.absent, S.isV0, S.pos])
theorem ent_none : E (37, onV T.absent) := byEv Jents3 40 fun args t h => by
  obtain ⟨v, rfl, rfl⟩ := onV_eq h
  exact ev_none v
abbrev JL4 : Tab := (37, onV T.absent) :: JL3
theorem Jents4 : ∀ p ∈ JL4, E p := entries_cons ent_none Jents3
set_option maxHeartbeats 4000000 in
theorem ev_rgood (v : V) : evFn Tryd.prog ext (tab JL4) 60 23 [v.agg] = (T.rgood v).val :=
  Eq.trans (b := 
    (bif decide (v.k < 1) then some (Value.bool false) else 
     (bif decide (v.k > 7) then some (Value.bool false) else 
      (bif v.k != 3 then 
       (bif v.b then some (Value.bool false) else 
        (bif v.k != 4 then 
         (bif FloatKind.f64.format.order v.n 0 != some Ordering.eq then some (Value.bool false) else 
          (bif Op.floatEq FloatKind.f64 v.n 0 then 
           (bif FloatKind.f64.format.order ((Ieee.double.div 4607182418800017408 v.n).getD 0) 0 == some Ordering.lt then some (Value.bool false) else 
            (bif v.k != 5 then 
             (bif !v.s.toList == (ByteArray.mk #[]).toList then some (Value.bool false) else 
              (bif v.k != 6 then 
               (bif v.k != 7 then 
                (bif v.id != 0 then some (Value.bool false) else 
                 (bif v.k == 5 then 
                  (bif decide ((↑v.s.size : Int) ≤ 1048576) then 
                   (bif decide ((↑v.s.size : Int) ≤ 1048576) then some (Value.bool (units_Valid.val (v.s.size + 1) v.s 0 0)) else none) else some (Value.bool false)) else 
                  (bif v.k == 6 then 
                   (bif decide (v.id ≥ 1) then some (Value.bool (decide (v.id ≤ 65536))) else some (Value.bool false)) else 
                   (bif v.k == 7 then 
                    (bif decide (v.id ≥ 1) then some (Value.bool (decide (v.id ≤ 65536))) else some (Value.bool false)) else some (Value.bool true))))) else 
                (bif v.k == 5 then 
                 (bif decide ((↑v.s.size : Int) ≤ 1048576) then 
                  (bif decide ((↑v.s.size : Int) ≤ 1048576) then some (Value.bool (units_Valid.val (v.s.size + 1) v.s 0 0)) else none) else some (Value.bool false)) else 
                 (bif v.k == 6 then 
                  (bif decide (v.id ≥ 1) then some (Value.bool (decide (v.id ≤ 65536))) else some (Value.bool false)) else 
                  (bif v.k == 7 then 
                   (bif decide (v.id ≥ 1) then some (Value.bool (decide (v.id ≤ 65536))) else some (Value.bool false)) else some (Value.bool true))))) else 
               (bif v.k == 5 then 
                (bif decide ((↑v.s.size : Int) ≤ 1048576) then 
                 (bif decide ((↑v.s.size : Int) ≤ 1048576) then some (Value.bool (units_Valid.val (v.s.size + 1) v.s 0 0)) else none) else some (Value.bool false)) else 
                (bif v.k == 6 then 
                 (bif decide (v.id ≥ 1) then some (Value.bool (decide (v.id ≤ 65536))) else some (Value.bool false)) else 
                 (bif v.k == 7 then 
                  (bif decide (v.id ≥ 1) then some (Value.bool (decide (v.id ≤ 65536))) else some (Value.bool false)) else some (Value.bool true)))))) else 
             (bif v.k != 6 then 
              (bif v.k != 7 then 
               (bif v.id != 0 then some (Value.bool false) else 
                (bif v.k == 5 then 
                 (bif decide ((↑v.s.size : Int) ≤ 1048576) then 
                  (bif decide ((↑v.s.size : Int) ≤ 1048576) then some (Value.bool (units_Valid.val (v.s.size + 1) v.s 0 0)) else none) else some (Value.bool false)) else 
                 (bif v.k == 6 then 
                  (bif decide (v.id ≥ 1) then some (Value.bool (decide (v.id ≤ 65536))) else some (Value.bool false)) else 
                  (bif v.k == 7 then 
                   (bif decide (v.id ≥ 1) then some (Value.bool (decide (v.id ≤ 65536))) else some (Value.bool false)) else some (Value.bool true))))) else 
               (bif v.k == 5 then 
                (bif decide ((↑v.s.size : Int) ≤ 1048576) then 
                 (bif decide ((↑v.s.size : Int) ≤ 1048576) then some (Value.bool (units_Valid.val (v.s.size + 1) v.s 0 0)) else none) else some (Value.bool false)) else 
                (bif v.k == 6 then 
                 (bif decide (v.id ≥ 1) then some (Value.bool (decide (v.id ≤ 65536))) else some (Value.bool false)) else 
                 (bif v.k == 7 then 
                  (bif decide (v.id ≥ 1) then some (Value.bool (decide (v.id ≤ 65536))) else some (Value.bool false)) else some (Value.bool true))))) else 
              (bif v.k == 5 then 
               (bif decide ((↑v.s.size : Int) ≤ 1048576) then 
                (bif decide ((↑v.s.size : Int) ≤ 1048576) then some (Value.bool (units_Valid.val (v.s.size + 1) v.s 0 0)) else none) else some (Value.bool false)) else 
               (bif v.k == 6 then 
                (bif decide (v.id ≥ 1) then some (Value.bool (decide (v.id ≤ 65536))) else some (Value.bool false)) else 
                (bif v.k == 7 then 
                 (bif decide (v.id ≥ 1) then some (Value.bool (decide (v.id ≤ 65536))) else some (Value.bool false)) else some (Value.bool true))))))) else 
           (bif v.k != 5 then 
            (bif !v.s.toList == (ByteArray.mk #[]).toList then some (Value.bool false) else 
             (bif v.k != 6 then 
              (bif v.k != 7 then 
               (bif v.id != 0 then some (Value.bool false) else 
                (bif v.k == 5 then 
                 (bif decide ((↑v.s.size : Int) ≤ 1048576) then 
                  (bif decide ((↑v.s.size : Int) ≤ 1048576) then some (Value.bool (units_Valid.val (v.s.size + 1) v.s 0 0)) else none) else some (Value.bool false)) else 
                 (bif v.k == 6 then 
                  (bif decide (v.id ≥ 1) then some (Value.bool (decide (v.id ≤ 65536))) else some (Value.bool false)) else 
                  (bif v.k == 7 then 
                   (bif decide (v.id ≥ 1) then some (Value.bool (decide (v.id ≤ 65536))) else some (Value.bool false)) else some (Value.bool true))))) else 
               (bif v.k == 5 then 
                (bif decide ((↑v.s.size : Int) ≤ 1048576) then 
                 (bif decide ((↑v.s.size : Int) ≤ 1048576) then some (Value.bool (units_Valid.val (v.s.size + 1) v.s 0 0)) else none) else some (Value.bool false)) else 
                (bif v.k == 6 then 
                 (bif decide (v.id ≥ 1) then some (Value.bool (decide (v.id ≤ 65536))) else some (Value.bool false)) else 
                 (bif v.k == 7 then 
                  (bif decide (v.id ≥ 1) then some (Value.bool (decide (v.id ≤ 65536))) else some (Value.bool false)) else some (Value.bool true))))) else 
              (bif v.k == 5 then 
               (bif decide ((↑v.s.size : Int) ≤ 1048576) then 
                (bif decide ((↑v.s.size : Int) ≤ 1048576) then some (Value.bool (units_Valid.val (v.s.size + 1) v.s 0 0)) else none) else some (Value.bool false)) else 
               (bif v.k == 6 then 
                (bif decide (v.id ≥ 1) then some (Value.bool (decide (v.id ≤ 65536))) else some (Value.bool false)) else 
                (bif v.k == 7 then 
                 (bif decide (v.id ≥ 1) then some (Value.bool (decide (v.id ≤ 65536))) else some (Value.bool false)) else some (Value.bool true)))))) else 
            (bif v.k != 6 then 
             (bif v.k != 7 then 
              (bif v.id != 0 then some (Value.bool false) else 
               (bif v.k == 5 then 
                (bif decide ((↑v.s.size : Int) ≤ 1048576) then 
                 (bif decide ((↑v.s.size : Int) ≤ 1048576) then some (Value.bool (units_Valid.val (v.s.size + 1) v.s 0 0)) else none) else some (Value.bool false)) else 
                (bif v.k == 6 then 
                 (bif decide (v.id ≥ 1) then some (Value.bool (decide (v.id ≤ 65536))) else some (Value.bool false)) else 
                 (bif v.k == 7 then 
                  (bif decide (v.id ≥ 1) then some (Value.bool (decide (v.id ≤ 65536))) else some (Value.bool false)) else some (Value.bool true))))) else 
              (bif v.k == 5 then 
               (bif decide ((↑v.s.size : Int) ≤ 1048576) then 
                (bif decide ((↑v.s.size : Int) ≤ 1048576) then some (Value.bool (units_Valid.val (v.s.size + 1) v.s 0 0)) else none) else some (Value.bool false)) else 
               (bif v.k == 6 then 
                (bif decide (v.id ≥ 1) then some (Value.bool (decide (v.id ≤ 65536))) else some (Value.bool false)) else 
                (bif v.k == 7 then 
                 (bif decide (v.id ≥ 1) then some (Value.bool (decide (v.id ≤ 65536))) else some (Value.bool false)) else some (Value.bool true))))) else 
             (bif v.k == 5 then 
              (bif decide ((↑v.s.size : Int) ≤ 1048576) then 
               (bif decide ((↑v.s.size : Int) ≤ 1048576) then some (Value.bool (units_Valid.val (v.s.size + 1) v.s 0 0)) else none) else some (Value.bool false)) else 
              (bif v.k == 6 then 
               (bif decide (v.id ≥ 1) then some (Value.bool (decide (v.id ≤ 65536))) else some (Value.bool false)) else 
               (bif v.k == 7 then 
                (bif decide (v.id ≥ 1) then some (Value.bool (decide (v.id ≤ 65536))) else some (Value.bool false)) else some (Value.bool true)))))))) else 
         (bif v.k != 5 then 
          (bif !v.s.toList == (ByteArray.mk #[]).toList then some (Value.bool false) else 
           (bif v.k != 6 then 
            (bif v.k != 7 then 
             (bif v.id != 0 then some (Value.bool false) else 
              (bif v.k == 5 then 
               (bif decide ((↑v.s.size : Int) ≤ 1048576) then 
                (bif decide ((↑v.s.size : Int) ≤ 1048576) then some (Value.bool (units_Valid.val (v.s.size + 1) v.s 0 0)) else none) else some (Value.bool false)) else 
               (bif v.k == 6 then 
                (bif decide (v.id ≥ 1) then some (Value.bool (decide (v.id ≤ 65536))) else some (Value.bool false)) else 
                (bif v.k == 7 then 
                 (bif decide (v.id ≥ 1) then some (Value.bool (decide (v.id ≤ 65536))) else some (Value.bool false)) else some (Value.bool true))))) else 
             (bif v.k == 5 then 
              (bif decide ((↑v.s.size : Int) ≤ 1048576) then 
               (bif decide ((↑v.s.size : Int) ≤ 1048576) then some (Value.bool (units_Valid.val (v.s.size + 1) v.s 0 0)) else none) else some (Value.bool false)) else 
              (bif v.k == 6 then 
               (bif decide (v.id ≥ 1) then some (Value.bool (decide (v.id ≤ 65536))) else some (Value.bool false)) else 
               (bif v.k == 7 then 
                (bif decide (v.id ≥ 1) then some (Value.bool (decide (v.id ≤ 65536))) else some (Value.bool false)) else some (Value.bool true))))) else 
            (bif v.k == 5 then 
             (bif decide ((↑v.s.size : Int) ≤ 1048576) then 
              (bif decide ((↑v.s.size : Int) ≤ 1048576) then some (Value.bool (units_Valid.val (v.s.size + 1) v.s 0 0)) else none) else some (Value.bool false)) else 
             (bif v.k == 6 then 
              (bif decide (v.id ≥ 1) then some (Value.bool (decide (v.id ≤ 65536))) else some (Value.bool false)) else 
              (bif v.k == 7 then 
               (bif decide (v.id ≥ 1) then some (Value.bool (decide (v.id ≤ 65536))) else some (Value.bool false)) else some (Value.bool true)))))) else 
          (bif v.k != 6 then 
           (bif v.k != 7 then 
            (bif v.id != 0 then some (Value.bool false) else 
             (bif v.k == 5 then 
              (bif decide ((↑v.s.size : Int) ≤ 1048576) then 
               (bif decide ((↑v.s.size : Int) ≤ 1048576) then some (Value.bool (units_Valid.val (v.s.size + 1) v.s 0 0)) else none) else some (Value.bool false)) else 
              (bif v.k == 6 then 
               (bif decide (v.id ≥ 1) then some (Value.bool (decide (v.id ≤ 65536))) else some (Value.bool false)) else 
               (bif v.k == 7 then 
                (bif decide (v.id ≥ 1) then some (Value.bool (decide (v.id ≤ 65536))) else some (Value.bool false)) else some (Value.bool true))))) else 
            (bif v.k == 5 then 
             (bif decide ((↑v.s.size : Int) ≤ 1048576) then 
              (bif decide ((↑v.s.size : Int) ≤ 1048576) then some (Value.bool (units_Valid.val (v.s.size + 1) v.s 0 0)) else none) else some (Value.bool false)) else 
             (bif v.k == 6 then 
              (bif decide (v.id ≥ 1) then some (Value.bool (decide (v.id ≤ 65536))) else some (Value.bool false)) else 
              (bif v.k == 7 then 
               (bif decide (v.id ≥ 1) then some (Value.bool (decide (v.id ≤ 65536))) else some (Value.bool false)) else some (Value.bool true))))) else 
           (bif v.k == 5 then 
            (bif decide ((↑v.s.size : Int) ≤ 1048576) then 
             (bif decide ((↑v.s.size : Int) ≤ 1048576) then some (Value.bool (units_Valid.val (v.s.size + 1) v.s 0 0)) else none) else some (Value.bool false)) else 
            (bif v.k == 6 then 
             (bif decide (v.id ≥ 1) then some (Value.bool (decide (v.id ≤ 65536))) else some (Value.bool false)) else 
             (bif v.k == 7 then 
              (bif decide (v.id ≥ 1) then some (Value.bool (decide (v.id ≤ 65536))) else some (Value.bool false)) else some (Value.bool true)))))))) else 
       (bif v.k != 4 then 
        (bif FloatKind.f64.format.order v.n 0 != some Ordering.eq then some (Value.bool false) else 
         (bif Op.floatEq FloatKind.f64 v.n 0 then 
          (bif FloatKind.f64.format.order ((Ieee.double.div 4607182418800017408 v.n).getD 0) 0 == some Ordering.lt then some (Value.bool false) else 
           (bif v.k != 5 then 
            (bif !v.s.toList == (ByteArray.mk #[]).toList then some (Value.bool false) else 
             (bif v.k != 6 then 
              (bif v.k != 7 then 
               (bif v.id != 0 then some (Value.bool false) else 
                (bif v.k == 5 then 
                 (bif decide ((↑v.s.size : Int) ≤ 1048576) then 
                  (bif decide ((↑v.s.size : Int) ≤ 1048576) then some (Value.bool (units_Valid.val (v.s.size + 1) v.s 0 0)) else none) else some (Value.bool false)) else 
                 (bif v.k == 6 then 
                  (bif decide (v.id ≥ 1) then some (Value.bool (decide (v.id ≤ 65536))) else some (Value.bool false)) else 
                  (bif v.k == 7 then 
                   (bif decide (v.id ≥ 1) then some (Value.bool (decide (v.id ≤ 65536))) else some (Value.bool false)) else some (Value.bool true))))) else 
               (bif v.k == 5 then 
                (bif decide ((↑v.s.size : Int) ≤ 1048576) then 
                 (bif decide ((↑v.s.size : Int) ≤ 1048576) then some (Value.bool (units_Valid.val (v.s.size + 1) v.s 0 0)) else none) else some (Value.bool false)) else 
                (bif v.k == 6 then 
                 (bif decide (v.id ≥ 1) then some (Value.bool (decide (v.id ≤ 65536))) else some (Value.bool false)) else 
                 (bif v.k == 7 then 
                  (bif decide (v.id ≥ 1) then some (Value.bool (decide (v.id ≤ 65536))) else some (Value.bool false)) else some (Value.bool true))))) else 
              (bif v.k == 5 then 
               (bif decide ((↑v.s.size : Int) ≤ 1048576) then 
                (bif decide ((↑v.s.size : Int) ≤ 1048576) then some (Value.bool (units_Valid.val (v.s.size + 1) v.s 0 0)) else none) else some (Value.bool false)) else 
               (bif v.k == 6 then 
                (bif decide (v.id ≥ 1) then some (Value.bool (decide (v.id ≤ 65536))) else some (Value.bool false)) else 
                (bif v.k == 7 then 
                 (bif decide (v.id ≥ 1) then some (Value.bool (decide (v.id ≤ 65536))) else some (Value.bool false)) else some (Value.bool true)))))) else 
            (bif v.k != 6 then 
             (bif v.k != 7 then 
              (bif v.id != 0 then some (Value.bool false) else 
               (bif v.k == 5 then 
                (bif decide ((↑v.s.size : Int) ≤ 1048576) then 
                 (bif decide ((↑v.s.size : Int) ≤ 1048576) then some (Value.bool (units_Valid.val (v.s.size + 1) v.s 0 0)) else none) else some (Value.bool false)) else 
                (bif v.k == 6 then 
                 (bif decide (v.id ≥ 1) then some (Value.bool (decide (v.id ≤ 65536))) else some (Value.bool false)) else 
                 (bif v.k == 7 then 
                  (bif decide (v.id ≥ 1) then some (Value.bool (decide (v.id ≤ 65536))) else some (Value.bool false)) else some (Value.bool true))))) else 
              (bif v.k == 5 then 
               (bif decide ((↑v.s.size : Int) ≤ 1048576) then 
                (bif decide ((↑v.s.size : Int) ≤ 1048576) then some (Value.bool (units_Valid.val (v.s.size + 1) v.s 0 0)) else none) else some (Value.bool false)) else 
               (bif v.k == 6 then 
                (bif decide (v.id ≥ 1) then some (Value.bool (decide (v.id ≤ 65536))) else some (Value.bool false)) else 
                (bif v.k == 7 then 
                 (bif decide (v.id ≥ 1) then some (Value.bool (decide (v.id ≤ 65536))) else some (Value.bool false)) else some (Value.bool true))))) else 
             (bif v.k == 5 then 
              (bif decide ((↑v.s.size : Int) ≤ 1048576) then 
               (bif decide ((↑v.s.size : Int) ≤ 1048576) then some (Value.bool (units_Valid.val (v.s.size + 1) v.s 0 0)) else none) else some (Value.bool false)) else 
              (bif v.k == 6 then 
               (bif decide (v.id ≥ 1) then some (Value.bool (decide (v.id ≤ 65536))) else some (Value.bool false)) else 
               (bif v.k == 7 then 
                (bif decide (v.id ≥ 1) then some (Value.bool (decide (v.id ≤ 65536))) else some (Value.bool false)) else some (Value.bool true))))))) else 
          (bif v.k != 5 then 
           (bif !v.s.toList == (ByteArray.mk #[]).toList then some (Value.bool false) else 
            (bif v.k != 6 then 
             (bif v.k != 7 then 
              (bif v.id != 0 then some (Value.bool false) else 
               (bif v.k == 5 then 
                (bif decide ((↑v.s.size : Int) ≤ 1048576) then 
                 (bif decide ((↑v.s.size : Int) ≤ 1048576) then some (Value.bool (units_Valid.val (v.s.size + 1) v.s 0 0)) else none) else some (Value.bool false)) else 
                (bif v.k == 6 then 
                 (bif decide (v.id ≥ 1) then some (Value.bool (decide (v.id ≤ 65536))) else some (Value.bool false)) else 
                 (bif v.k == 7 then 
                  (bif decide (v.id ≥ 1) then some (Value.bool (decide (v.id ≤ 65536))) else some (Value.bool false)) else some (Value.bool true))))) else 
              (bif v.k == 5 then 
               (bif decide ((↑v.s.size : Int) ≤ 1048576) then 
                (bif decide ((↑v.s.size : Int) ≤ 1048576) then some (Value.bool (units_Valid.val (v.s.size + 1) v.s 0 0)) else none) else some (Value.bool false)) else 
               (bif v.k == 6 then 
                (bif decide (v.id ≥ 1) then some (Value.bool (decide (v.id ≤ 65536))) else some (Value.bool false)) else 
                (bif v.k == 7 then 
                 (bif decide (v.id ≥ 1) then some (Value.bool (decide (v.id ≤ 65536))) else some (Value.bool false)) else some (Value.bool true))))) else 
             (bif v.k == 5 then 
              (bif decide ((↑v.s.size : Int) ≤ 1048576) then 
               (bif decide ((↑v.s.size : Int) ≤ 1048576) then some (Value.bool (units_Valid.val (v.s.size + 1) v.s 0 0)) else none) else some (Value.bool false)) else 
              (bif v.k == 6 then 
               (bif decide (v.id ≥ 1) then some (Value.bool (decide (v.id ≤ 65536))) else some (Value.bool false)) else 
               (bif v.k == 7 then 
                (bif decide (v.id ≥ 1) then some (Value.bool (decide (v.id ≤ 65536))) else some (Value.bool false)) else some (Value.bool true)))))) else 
           (bif v.k != 6 then 
            (bif v.k != 7 then 
             (bif v.id != 0 then some (Value.bool false) else 
              (bif v.k == 5 then 
               (bif decide ((↑v.s.size : Int) ≤ 1048576) then 
                (bif decide ((↑v.s.size : Int) ≤ 1048576) then some (Value.bool (units_Valid.val (v.s.size + 1) v.s 0 0)) else none) else some (Value.bool false)) else 
               (bif v.k == 6 then 
                (bif decide (v.id ≥ 1) then some (Value.bool (decide (v.id ≤ 65536))) else some (Value.bool false)) else 
                (bif v.k == 7 then 
                 (bif decide (v.id ≥ 1) then some (Value.bool (decide (v.id ≤ 65536))) else some (Value.bool false)) else some (Value.bool true))))) else 
             (bif v.k == 5 then 
              (bif decide ((↑v.s.size : Int) ≤ 1048576) then 
               (bif decide ((↑v.s.size : Int) ≤ 1048576) then some (Value.bool (units_Valid.val (v.s.size + 1) v.s 0 0)) else none) else some (Value.bool false)) else 
              (bif v.k == 6 then 
               (bif decide (v.id ≥ 1) then some (Value.bool (decide (v.id ≤ 65536))) else some (Value.bool false)) else 
               (bif v.k == 7 then 
                (bif decide (v.id ≥ 1) then some (Value.bool (decide (v.id ≤ 65536))) else some (Value.bool false)) else some (Value.bool true))))) else 
            (bif v.k == 5 then 
             (bif decide ((↑v.s.size : Int) ≤ 1048576) then 
              (bif decide ((↑v.s.size : Int) ≤ 1048576) then some (Value.bool (units_Valid.val (v.s.size + 1) v.s 0 0)) else none) else some (Value.bool false)) else 
             (bif v.k == 6 then 
              (bif decide (v.id ≥ 1) then some (Value.bool (decide (v.id ≤ 65536))) else some (Value.bool false)) else 
              (bif v.k == 7 then 
               (bif decide (v.id ≥ 1) then some (Value.bool (decide (v.id ≤ 65536))) else some (Value.bool false)) else some (Value.bool true)))))))) else 
        (bif v.k != 5 then 
         (bif !v.s.toList == (ByteArray.mk #[]).toList then some (Value.bool false) else 
          (bif v.k != 6 then 
           (bif v.k != 7 then 
            (bif v.id != 0 then some (Value.bool false) else 
             (bif v.k == 5 then 
              (bif decide ((↑v.s.size : Int) ≤ 1048576) then 
               (bif decide ((↑v.s.size : Int) ≤ 1048576) then some (Value.bool (units_Valid.val (v.s.size + 1) v.s 0 0)) else none) else some (Value.bool false)) else 
              (bif v.k == 6 then 
               (bif decide (v.id ≥ 1) then some (Value.bool (decide (v.id ≤ 65536))) else some (Value.bool false)) else 
               (bif v.k == 7 then 
                (bif decide (v.id ≥ 1) then some (Value.bool (decide (v.id ≤ 65536))) else some (Value.bool false)) else some (Value.bool true))))) else 
            (bif v.k == 5 then 
             (bif decide ((↑v.s.size : Int) ≤ 1048576) then 
              (bif decide ((↑v.s.size : Int) ≤ 1048576) then some (Value.bool (units_Valid.val (v.s.size + 1) v.s 0 0)) else none) else some (Value.bool false)) else 
             (bif v.k == 6 then 
              (bif decide (v.id ≥ 1) then some (Value.bool (decide (v.id ≤ 65536))) else some (Value.bool false)) else 
              (bif v.k == 7 then 
               (bif decide (v.id ≥ 1) then some (Value.bool (decide (v.id ≤ 65536))) else some (Value.bool false)) else some (Value.bool true))))) else 
           (bif v.k == 5 then 
            (bif decide ((↑v.s.size : Int) ≤ 1048576) then 
             (bif decide ((↑v.s.size : Int) ≤ 1048576) then some (Value.bool (units_Valid.val (v.s.size + 1) v.s 0 0)) else none) else some (Value.bool false)) else 
            (bif v.k == 6 then 
             (bif decide (v.id ≥ 1) then some (Value.bool (decide (v.id ≤ 65536))) else some (Value.bool false)) else 
             (bif v.k == 7 then 
              (bif decide (v.id ≥ 1) then some (Value.bool (decide (v.id ≤ 65536))) else some (Value.bool false)) else some (Value.bool true)))))) else 
         (bif v.k != 6 then 
          (bif v.k != 7 then 
           (bif v.id != 0 then some (Value.bool false) else 
            (bif v.k == 5 then 
             (bif decide ((↑v.s.size : Int) ≤ 1048576) then 
              (bif decide ((↑v.s.size : Int) ≤ 1048576) then some (Value.bool (units_Valid.val (v.s.size + 1) v.s 0 0)) else none) else some (Value.bool false)) else 
             (bif v.k == 6 then 
              (bif decide (v.id ≥ 1) then some (Value.bool (decide (v.id ≤ 65536))) else some (Value.bool false)) else 
              (bif v.k == 7 then 
               (bif decide (v.id ≥ 1) then some (Value.bool (decide (v.id ≤ 65536))) else some (Value.bool false)) else some (Value.bool true))))) else 
           (bif v.k == 5 then 
            (bif decide ((↑v.s.size : Int) ≤ 1048576) then 
             (bif decide ((↑v.s.size : Int) ≤ 1048576) then some (Value.bool (units_Valid.val (v.s.size + 1) v.s 0 0)) else none) else some (Value.bool false)) else 
            (bif v.k == 6 then 
             (bif decide (v.id ≥ 1) then some (Value.bool (decide (v.id ≤ 65536))) else some (Value.bool false)) else 
             (bif v.k == 7 then 
              (bif decide (v.id ≥ 1) then some (Value.bool (decide (v.id ≤ 65536))) else some (Value.bool false)) else some (Value.bool true))))) else 
          (bif v.k == 5 then 
           (bif decide ((↑v.s.size : Int) ≤ 1048576) then 
            (bif decide ((↑v.s.size : Int) ≤ 1048576) then some (Value.bool (units_Valid.val (v.s.size + 1) v.s 0 0)) else none) else some (Value.bool false)) else 
           (bif v.k == 6 then 
            (bif decide (v.id ≥ 1) then some (Value.bool (decide (v.id ≤ 65536))) else some (Value.bool false)) else 
            (bif v.k == 7 then 
             (bif decide (v.id ≥ 1) then some (Value.bool (decide (v.id ≤ 65536))) else some (Value.bool false)) else some (Value.bool true))))))))))) (by kernel_rfl) (by
    simp only [T.rgood, T.B, DT.val_node, DT.val_leaf, DT.val_bad, DT.bind]
    repeat' (first | (with_reducible refine bif_neq (fun h => ?_) (fun h => ?_)) | (with_reducible refine bif_and (fun h => ?_) (fun h => ?_)) | (with_reducible refine bif_eq (fun h => ?_) (fun h => ?_)))
    all_goals first | (simp only [*, R.good, R.neg0, S.emp, cond_true, cond_false, Bool.and_true, Bool.true_and, Bool.and_false, Bool.false_and, Bool.or_true, Bool.true_or, Bool.or_false, Bool.false_or, Bool.not_true, Bool.not_false, beq_self_eq_true, bne_self_eq_false, Bool.not_not]; done) | (exfalso; simp_all [R.good, R.neg0, S.emp, Op.floatEq, leafIn.strOk, leafIn.idOk, szle, FloatEq.div_some', FloatEq.div_none']; done) | (simp_all [R.good, R.neg0, S.emp, Op.floatEq, leafIn.strOk, leafIn.idOk, szle, FloatEq.div_some', FloatEq.div_none']; done) | (simp_all [R.good, R.neg0, S.emp, Op.floatEq, leafIn.strOk, leafIn.idOk, szle, FloatEq.div_some', FloatEq.div_none']; omega) | grind [R.good, R.neg0, S.emp])
theorem ent_rgood : E (23, onV T.rgood) := byEv Jents4 60 fun args t h => by
  obtain ⟨v, rfl, rfl⟩ := onV_eq h
  exact ev_rgood v
abbrev JL5 : Tab := (23, onV T.rgood) :: JL4
theorem Jents5 : ∀ p ∈ JL5, E p := entries_cons ent_rgood Jents4
set_option maxHeartbeats 4000000 in
theorem ev_rslot (v : V) : evFn Tryd.prog ext (tab JL5) 40 38 [v.agg] = (T.rslot v).val :=
  Eq.trans (b := 
    (bif R.good v then 
     (bif v.k == 1 then some (Value.bool true) else some (Value.bool (v.k == 7))) else some (Value.bool false))) (by kernel_rfl) (by
    simp only [T.rslot, T.B, DT.val_node, DT.val_leaf, DT.val_bad, DT.bind]
    repeat' (first | (with_reducible refine bif_neq (fun h => ?_) (fun h => ?_)) | (with_reducible refine bif_and (fun h => ?_) (fun h => ?_)) | (with_reducible refine bif_eq (fun h => ?_) (fun h => ?_)))
    all_goals first | (simp only [*, R.slot, cond_true, cond_false, Bool.and_true, Bool.true_and, Bool.and_false, Bool.false_and, Bool.or_true, Bool.true_or, Bool.or_false, Bool.false_or, Bool.not_true, Bool.not_false, beq_self_eq_true, bne_self_eq_false, Bool.not_not]; done) | (exfalso; simp_all [R.slot]; done) | (simp_all [R.slot]; done) | grind [R.slot])
theorem ent_rslot : E (38, onV T.rslot) := byEv Jents5 40 fun args t h => by
  obtain ⟨v, rfl, rfl⟩ := onV_eq h
  exact ev_rslot v
abbrev JL6 : Tab := (38, onV T.rslot) :: JL5
theorem Jents6 : ∀ p ∈ JL6, E p := entries_cons ent_rslot Jents5
set_option maxHeartbeats 4000000 in
theorem ev_rcheck (d : D) : evFn Tryd.prog ext (tab JL6) 40 22 [d.agg] = (T.rcheck d).val :=
  Eq.trans (b := 
    (bif !S.absent d.v then 
     (bif !R.good d.v then some (Value.bool false) else 
      (bif !S.absent d.g then 
       (bif !R.slot d.g then some (Value.bool false) else 
        (bif !S.absent d.t then 
         (bif !R.slot d.t then some (Value.bool false) else 
          (bif !S.tri d.w then some (Value.bool false) else 
           (bif !S.tri d.e then some (Value.bool false) else 
            (bif !S.tri d.c then some (Value.bool false) else 
             (bif S.there d.v then 
              (bif S.there d.g then some (Value.bool !true) else some (Value.bool !S.there d.t)) else 
              (bif d.w != 0 then 
               (bif S.there d.g then some (Value.bool !true) else some (Value.bool !S.there d.t)) else some (Value.bool !false))))))) else 
         (bif !S.tri d.w then some (Value.bool false) else 
          (bif !S.tri d.e then some (Value.bool false) else 
           (bif !S.tri d.c then some (Value.bool false) else 
            (bif S.there d.v then 
             (bif S.there d.g then some (Value.bool !true) else some (Value.bool !S.there d.t)) else 
             (bif d.w != 0 then 
              (bif S.there d.g then some (Value.bool !true) else some (Value.bool !S.there d.t)) else some (Value.bool !false)))))))) else 
       (bif !S.absent d.t then 
        (bif !R.slot d.t then some (Value.bool false) else 
         (bif !S.tri d.w then some (Value.bool false) else 
          (bif !S.tri d.e then some (Value.bool false) else 
           (bif !S.tri d.c then some (Value.bool false) else 
            (bif S.there d.v then 
             (bif S.there d.g then some (Value.bool !true) else some (Value.bool !S.there d.t)) else 
             (bif d.w != 0 then 
              (bif S.there d.g then some (Value.bool !true) else some (Value.bool !S.there d.t)) else some (Value.bool !false))))))) else 
        (bif !S.tri d.w then some (Value.bool false) else 
         (bif !S.tri d.e then some (Value.bool false) else 
          (bif !S.tri d.c then some (Value.bool false) else 
           (bif S.there d.v then 
            (bif S.there d.g then some (Value.bool !true) else some (Value.bool !S.there d.t)) else 
            (bif d.w != 0 then 
             (bif S.there d.g then some (Value.bool !true) else some (Value.bool !S.there d.t)) else some (Value.bool !false))))))))) else 
     (bif !S.absent d.g then 
      (bif !R.slot d.g then some (Value.bool false) else 
       (bif !S.absent d.t then 
        (bif !R.slot d.t then some (Value.bool false) else 
         (bif !S.tri d.w then some (Value.bool false) else 
          (bif !S.tri d.e then some (Value.bool false) else 
           (bif !S.tri d.c then some (Value.bool false) else 
            (bif S.there d.v then 
             (bif S.there d.g then some (Value.bool !true) else some (Value.bool !S.there d.t)) else 
             (bif d.w != 0 then 
              (bif S.there d.g then some (Value.bool !true) else some (Value.bool !S.there d.t)) else some (Value.bool !false))))))) else 
        (bif !S.tri d.w then some (Value.bool false) else 
         (bif !S.tri d.e then some (Value.bool false) else 
          (bif !S.tri d.c then some (Value.bool false) else 
           (bif S.there d.v then 
            (bif S.there d.g then some (Value.bool !true) else some (Value.bool !S.there d.t)) else 
            (bif d.w != 0 then 
             (bif S.there d.g then some (Value.bool !true) else some (Value.bool !S.there d.t)) else some (Value.bool !false)))))))) else 
      (bif !S.absent d.t then 
       (bif !R.slot d.t then some (Value.bool false) else 
        (bif !S.tri d.w then some (Value.bool false) else 
         (bif !S.tri d.e then some (Value.bool false) else 
          (bif !S.tri d.c then some (Value.bool false) else 
           (bif S.there d.v then 
            (bif S.there d.g then some (Value.bool !true) else some (Value.bool !S.there d.t)) else 
            (bif d.w != 0 then 
             (bif S.there d.g then some (Value.bool !true) else some (Value.bool !S.there d.t)) else some (Value.bool !false))))))) else 
       (bif !S.tri d.w then some (Value.bool false) else 
        (bif !S.tri d.e then some (Value.bool false) else 
         (bif !S.tri d.c then some (Value.bool false) else 
          (bif S.there d.v then 
           (bif S.there d.g then some (Value.bool !true) else some (Value.bool !S.there d.t)) else 
           (bif d.w != 0 then 
            (bif S.there d.g then some (Value.bool !true) else some (Value.bool !S.there d.t)) else some (Value.bool !false)))))))))) (by kernel_rfl) (by
    simp only [T.rcheck, T.B, DT.val_node, DT.val_leaf, DT.val_bad, DT.bind]
    repeat' (first | (with_reducible refine bif_neq (fun h => ?_) (fun h => ?_)) | (with_reducible refine bif_and (fun h => ?_) (fun h => ?_)) | (with_reducible refine bif_eq (fun h => ?_) (fun h => ?_)))
    all_goals first | (simp only [*, R.check, S.hasD, S.hasA, cond_true, cond_false, Bool.and_true, Bool.true_and, Bool.and_false, Bool.false_and, Bool.or_true, Bool.true_or, Bool.or_false, Bool.false_or, Bool.not_true, Bool.not_false, beq_self_eq_true, bne_self_eq_false, Bool.not_not]; done) | (exfalso; simp_all [R.check, S.hasD, S.hasA]; done) | (simp_all [R.check, S.hasD, S.hasA]; done) | grind [R.check, S.hasD, S.hasA])
theorem ent_rcheck : E (22, onD T.rcheck) := byEv Jents6 40 fun args t h => by
  obtain ⟨d, rfl, rfl⟩ := onD_eq h
  exact ev_rcheck d
abbrev JL7 : Tab := (22, onD T.rcheck) :: JL6
theorem Jents7 : ∀ p ∈ JL7, E p := entries_cons ent_rcheck Jents6
end Go.Proofs.YtlliefodchfpfaaDoor.PDescKinds
end
section
/- Functions with loops: how a run goes on behind a piece that was computed. -/
set_option linter.unusedSimpArgs false
set_option linter.unusedVariables false
set_option linter.unusedSectionVars false
namespace Go.Ev
open Go.RowKit
section
variable [XEnv]
/-- What is still to be done: a list of codes, or more rounds of a loop. -/
inductive Fr where
  | rest (l : List Code)
  | loop (id : Nat) (r : Code) (k : Nat)
  | blk (id : Nat)
def cont (P : Program) (B : Exit → Act → World → Prop) : List Fr → Exit → Act → World → Prop
  | [] => B
  | .rest l :: fs => Exit.then (wpL P l (cont P B fs)) (cont P B fs)
  | .loop id r k :: fs => Exit.then (Code.rounds P r (Exit.inBlock id (cont P B fs)) k) (Exit.inBlock id (cont P B fs))
  | .blk id :: fs => Exit.inBlock id (cont P B fs)
theorem cont_ret {P : Program} {B : Exit → Act → World → Prop} {a : Act} {w : World} (h : B .ret a w) : ∀ fs, cont P B fs .ret a w
  | [] => h
  | .rest _ :: fs => cont_ret h fs
  | .loop _ _ _ :: fs => cont_ret h fs
  | .blk _ :: fs => cont_ret h fs
/-- What must stand for pieces to be computed. -/
structure Ctx (P : Program) (X : ExtFn) (G : GFn) (I : World → Prop) : Prop where
  mix : P.follows .mixedOrders = true
  hX : ExtSound P X
  hs : Stable I
  hXO : ∀ w, I w → XOk w
  hG : GivenSound P I G
def Ended (w0 : World) (v : SV) : Ending → World → Prop := fun e w' => (∃ m, e = .returned (v.den m)) ∧ Below w0.heap.size w0 w'
section
variable {P : Program} {X : ExtFn} {G : GFn} {I : World → Prop} {N : Nat} {fn : Func} {v : SV} {fs : List Fr} {l : List Code} {st : St} {k : Nat} {ts bs : List Nat} {next : Nat} {c : Cut} {ex : Ex}
def Runs (P : Program) (I : World → Prop) (N : Nat) (fn : Func) (v : SV) (fs : List Fr) (l : List Code) (st : St) : Prop :=
  ∀ w0, I w0 → ∀ (m : Nat → Nat) (a : Act) (w : World), SR w0 N m st a w → wpL P l (cont P (bodyPost P fn (Ended w0 v)) fs) a w
def RunsX (P : Program) (I : World → Prop) (N : Nat) (fn : Func) (v : SV) (fs : List Fr) (e : Exit) (st : St) : Prop :=
  ∀ w0, I w0 → ∀ (m : Nat → Nat) (a : Act) (w : World), SR w0 N m st a w → cont P (bodyPost P fn (Ended w0 v)) fs e a w
theorem Runs.ret (C : Ctx P X G I) (h : evK P X G k N (seqL l) st (grab P fn ts bs next) = some (.ret v)) : Runs P I N fn v fs l st := fun w0 hI m a w hr => by
  refine piece C.mix C.hX C.hs C.hXO C.hG h hI hr (fun v' hv m' a' w' h1 h2 h3 => ?_) (fun ex d hd => by cases hd)
  cases hv
  exact cont_ret ⟨h1, _, h2, ⟨m', rfl⟩, h3⟩ fs
theorem Runs.step (C : Ctx P X G I) (h : evK P X G k N (seqL l) st (grab P fn ts bs next) = some (.cut ex c)) (hk : RunsX P I N fn v fs ex.out (c.st next)) : Runs P I N fn v fs l st := fun w0 hI m a w hr => by
  refine piece C.mix C.hX C.hs C.hXO C.hG h hI hr (fun v' hv => by cases hv) (fun ex d hd m' a' w' hr' => ?_)
  cases hd
  exact hk w0 hI m' a' w' hr'
theorem Runs.app {l2 : List Code} (h : Runs P I N fn v (.rest l2 :: fs) l st) : Runs P I N fn v fs (l ++ l2) st := fun w0 hI m a w hr => (wpL_app l l2).2 (h w0 hI m a w hr)
theorem RunsX.rest (h : Runs P I N fn v fs l st) : RunsX P I N fn v (.rest l :: fs) .normal st := h
theorem RunsX.again {id : Nat} {r : Code} {n : Nat} (h : Runs P I N fn v (.loop id r n :: fs) (flat r) st) : RunsX P I N fn v (.loop id r (n + 1) :: fs) .normal st := fun w0 hI m a w hr => by
  show Code.rounds P r _ (n + 1) a w
  rw [rounds_succ]
  exact wpL_flat _ (h w0 hI m a w hr)
theorem RunsX.out {id : Nat} {r : Code} {n : Nat} (h : RunsX P I N fn v fs .normal st) : RunsX P I N fn v (.loop id r n :: fs) (.exit id) st := fun w0 hI m a w hr => by
  have := h w0 hI m a w hr
  simpa only [cont, Exit.then, Exit.inBlock, if_true] using this
theorem Runs.loop {id : Nat} {r : Code} (n : Nat) (h : Runs P I N fn v (.loop id r n :: .rest l :: fs) (flat r) st) : Runs P I N fn v fs (.block id (.loop r) :: l) st := fun w0 hI m a w hr => by
  simp only [wpL]
  refine wp_block (wp_loop_rounds (n + 1) ?_)
  rw [rounds_succ]
  exact wpL_flat _ (h w0 hI m a w hr)
theorem Runs.calls {f : FuncId} {body : Code} {args : List SV} (hf : P.funcs[f]? = some fn) (hb : fn.body = some body) (hN : args.length + (fn.ntmps - args.length) = N) (hok : ∀ x ∈ args, x.ok fun _ => none)
    (h : Runs P I N fn v [] (flat body) ⟨argS args, fun _ => none, 0⟩) (w : World) (hI : I w) (m : Nat → Nat) : Calls P f (args.map (SV.den m)).toArray w (Ended w v) := by
  refine calls_of_wp hf hb (wpL_flat _ ?_)
  have := start_sound (fn := fn) args hok w m
  rw [hN] at this
  exact h w hI m _ _ this
/-- A contract, out of how its function runs. -/
theorem EntryS.of {f : FuncId} {g : List SV → Option (DT SV)} (h : ∀ args t v, g args = some t → t.val = some v → (v.ok fun _ => none) ∧ (∀ x ∈ args, x.ok fun _ => none) ∧ ∀ w m, I w → Calls P f (args.map (SV.den m)).toArray w (Ended w v)) (hs : Stable I) : EntryS P I (f, fun args _ => g args) := fun args mem t v h1 h2 h3 => by
  obtain ⟨hf, _, hc⟩ := h args t v h1 h2
  refine ⟨SV.ok_grows (fun b hb => (by cases hb)) hf, fun w0 m w hI hm => Calls.mono (hc w m (hs _ _ hI hm.below)) fun e w' ⟨⟨m', he⟩, hb⟩ => ⟨?_, hb⟩⟩
  rw [he, SV.den_agree (mem := fun _ => none) (m := m) (m' := m') (fun b hb => by cases hb) hf]
/-- The first place at which something is found. -/
def seek {α : Type} (p : Nat → Option α) : Nat → Nat → Option α
  | 0, _ => none
  | k + 1, i => match p i with
    | some v => some v
    | none => seek p k (i + 1)
/-- One round of a search: what is found ends the function. -/
def toR (d : Cut) : Option SV → Res
  | some u => .ret u
  | none => .cut .normal d
theorem Runs.seek {α : Type} (C : Ctx P X G I) {id : Nat} {r : Code} {n : Nat} {p : Nat → Option α} {f : α → SV} {hd : Nat → Cut} {z : α} {c' : Cut}
    (hround : ∀ i, i < n → evK P X G k N (seqL (flat r)) ((hd i).st next) (grab P fn ts bs next) = some (toR (hd (i + 1)) ((p i).map f)))
    (hend : evK P X G k N (seqL (flat r)) ((hd n).st next) (grab P fn ts bs next) = some (.cut (.exit id) c'))
    (hpost : Ev.seek p n 0 = none → RunsX P I N fn (f z) fs .normal (c'.st next)) : ∀ (j i : Nat), i + j = n → Ev.seek p n 0 = Ev.seek p j i → Runs P I N fn (f ((Ev.seek p j i).getD z)) (.loop id r j :: fs) (flat r) ((hd i).st next)
  | 0, i, hi, he => by
    obtain rfl : i = n := by omega
    exact Runs.step C hend (RunsX.out (hpost he))
  | j + 1, i, hi, he => by
    have h := hround i (by omega)
    simp only [Ev.seek] at he ⊢
    cases hp : p i with
    | some u =>
      rw [hp] at h
      exact Runs.ret C h
    | none =>
      rw [hp] at h he
      exact Runs.step C h (RunsX.again (Runs.seek C hround hend hpost j (i + 1) (by omega) he))
/-! ### A list of codes, split at its first loop -/
def hasLoop : List Code → Bool
  | [] => false
  | .block _ (.loop _) :: _ => true
  | _ :: r => hasLoop r
def preOf : List Code → List Code
  | [] => []
  | .block _ (.loop _) :: _ => []
  | x :: r => x :: preOf r
def postOf : List Code → List Code
  | [] => []
  | .block _ (.loop _) :: r => r
  | _ :: r => postOf r
def roundOf : List Code → Code
  | [] => .skip
  | .block _ (.loop c) :: _ => c
  | _ :: r => roundOf r
def idOf : List Code → Nat
  | [] => 0
  | .block i (.loop _) :: _ => i
  | _ :: r => idOf r
theorem split_loop : ∀ l : List Code, hasLoop l = true → l = preOf l ++ Code.block (idOf l) (.loop (roundOf l)) :: postOf l
  | [], h => by cases h
  | x :: r, h => by
    have ih := split_loop r
    unfold hasLoop at h
    split at h
    · cases ‹_ = []›
    · rename_i heq
      cases heq
      rfl
    · rename_i y r' hne heq
      cases heq
      have e := ih h
      unfold preOf postOf roundOf idOf
      split
      · cases ‹_ = []›
      · rename_i q _ heq
        cases heq
        exact absurd rfl (hne _ _)
      · rename_i heq
        cases heq
        rw [List.cons_append, ← e]
theorem Runs.looped (C : Ctx P X G I) (hl : hasLoop l = true) (n : Nat) (hpre : evK P X G k N (seqL (preOf l)) st (grab P fn ts bs next) = some (.cut .normal c))
    (h : Runs P I N fn v (.loop (idOf l) (roundOf l) n :: .rest (postOf l) :: fs) (flat (roundOf l)) (c.st next)) : Runs P I N fn v fs l st := by
  rw [split_loop l hl]
  exact Runs.app (Runs.step C hpre (RunsX.rest (Runs.loop n h)))
/-- A function, or the rest of one, that searches. -/
theorem Runs.seekFn {α : Type} (C : Ctx P X G I) (hl : hasLoop l = true) {n : Nat} {p : Nat → Option α} {f : α → SV} {hd : Nat → Cut} {z : α} {c' : Cut}
    (hpre : evK P X G k N (seqL (preOf l)) st (grab P fn ts bs next) = some (.cut .normal (hd 0)))
    (hround : ∀ i, i < n → evK P X G k N (seqL (flat (roundOf l))) ((hd i).st next) (grab P fn ts bs next) = some (toR (hd (i + 1)) ((p i).map f)))
    (hend : evK P X G k N (seqL (flat (roundOf l))) ((hd n).st next) (grab P fn ts bs next) = some (.cut (.exit (idOf l)) c'))
    (hpost : Ev.seek p n 0 = none → Runs P I N fn (f z) fs (postOf l) (c'.st next)) : Runs P I N fn (f ((Ev.seek p n 0).getD z)) fs l st :=
  Runs.looped C hl n hpre (Runs.seek C hround hend (fun h => RunsX.rest (hpost h)) n 0 (by omega) rfl)
end
end
end Go.Ev
end
section
/- Keys; the program's Valid; what a step must be. -/
set_option linter.unusedSimpArgs false
set_option linter.unusedVariables false
set_option linter.unusedSectionVars false
namespace Go.Proofs.YtlliefodchfpfaaDoor.PDescKinds
open Go.RowKit Go.Ev
structure K where
  s : ByteArray
  n : Int
def K.agg (k : K) : Value := .agg #[.string k.s, .int .i64 k.n]
def getK : Value → Option K
  | .agg a => match a.toList with
    | [.string s, .int .i64 n] => some ⟨s, n⟩
    | _ => none
  | _ => none
theorem getK_agg {x : Value} {v : K} (h : getK x = some v) : x = v.agg := by
  unfold getK at h
  split at h
  · rename_i a
    split at h
    · rename_i s n ha
      simp only [Option.some.injEq] at h
      subst h
      unfold K.agg
      rw [← ha]
    · cases h
  · cases h
def onK (g : K → DT Value) : List Value → Option (DT Value)
  | [x] => match getK x with
    | some k => some (g k)
    | none => none
  | _ => none
theorem onK_eq {g : K → DT Value} {l : List Value} {t : DT Value} (h : onK g l = some t) : ∃ v, l = [v.agg] ∧ t = g v := by
  unfold onK at h
  split at h
  · split at h
    · rename_i v hv
      simp only [Option.some.injEq] at h
      exact ⟨v, by rw [getK_agg hv], h.symm⟩
    · cases h
  · cases h
namespace S
def keyOk (k : K) : Bool := (k.n == 0 && leafIn.strOk k.s) || (leafIn.idOk k.n && emp k.s)
end S
namespace T
def key (k : K) : DT Value := err (S.keyOk k)
def rkey (k : K) : DT Value := B (S.keyOk k)
end T
theorem ent_pvalid : E (32, onS T.valid) := fun args t v h hv w hI => by
  obtain ⟨s, rfl, rfl⟩ := onS_eq h
  unfold T.valid at hv
  rw [DT.val_node, DT.val_leaf, DT.val_bad] at hv
  cases hs : decide ((s.size : Int) ≤ 1048576)
  · rw [hs] at hv
    cases hv
  · rw [hs] at hv
    obtain rfl := Option.some.inj hv
    have hs' : s.size ≤ 1048576 := by
      rw [decide_eq_true_eq] at hs
      omega
    exact units_Valid.calls s _ w hI (by unfold units_Valid.f; rw [if_pos (by omega)])
end Go.Proofs.YtlliefodchfpfaaDoor.PDescKinds
end
