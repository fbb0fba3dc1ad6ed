/- The contract of value.in: which of the seven types a value is of. -/
import Derived.Test.YtaojjpdlfnphiaaDoorPDescKindsx2
import Derived.Test.YtaojjpdlfnphiaaDoorEvF
namespace Go.Proofs.YtaojjpdlfnphiaaDoor.PDescKinds
open Go.RowKit Go.Proofs.YtaojjpdlfnphiaaDoorW.PrintWords Go.Proofs.YtaojjpdlfnphiaaDoorW.PrintLast Go.Proofs.YtaojjpdlfnphiaaDoorW.PrintMore
set_option linter.unusedVariables false
set_option linter.unusedSimpArgs false
def leafIn.strOk (s : ByteArray) : Bool := decide (s.size ≤ 1048576) && units_Valid.val (s.size + 1) s 0 0
def leafIn.idOk (id : Int) : Bool := decide (1 ≤ id) && decide (id ≤ 65536)
def leafIn.one (k : Int) (b : Bool) (n : Nat) (s : ByteArray) (id : Int) : Value :=
  if k = 1 then .iface 124 (.agg #[]) else if k = 2 then .iface 141 (.agg #[]) else if k = 3 then .iface 142 (.bool b) else if k = 4 then .iface 139 (.float .f64 n)
  else if k = 5 then (if leafIn.strOk s = true then .iface 143 (.string s) else .nilIface)
  else if k = 6 then (if leafIn.idOk id = true then .iface 144 (.int .i64 id) else .nilIface)
  else if k = 7 then (if leafIn.idOk id = true then .iface 145 (.int .i64 id) else .nilIface) else .nilIface
set_option maxHeartbeats 1600000 in
set_option maxRecDepth 100000 in
theorem leafIn.inn (k : Int) (b : Bool) (n : Nat) (s : ByteArray) (id : Int) (w : World) (ht : Tabs w) :
    Calls Tryd.prog 123 #[.agg #[.int .i64 k, .bool b, .float .f64 n, .string s, .int .i64 id]] w fun e w' => e = .returned (leafIn.one k b n s id) ∧ Below w.heap.size w w' := by
  have hu24 := Tryd.underlying24
  have HT := Aside0.mk ht
  clear ht
  unfold leafIn.one
  go_enter Tryd.func123, Tryd.ntmps123
  by_cases h1 : k = 1
  · rw [if_pos h1]
    have c1 : (k == 1) = true := by simp [h1]
    clear h1
    go_wp2_with fail
    go_ret
    exact ⟨rfl, by repeat (first | exact Below.refl _ _ | apply below_alloc | apply pw_below_drewN | apply below_drew1)⟩
  have d1 : (k == 1) = false := by simp [h1]
  rw [if_neg h1]
  clear h1
  by_cases h2 : k = 2
  · rw [if_pos h2]
    have c2 : (k == 2) = true := by simp [h2]
    clear h2
    go_wp2_with fail
    go_ret
    exact ⟨rfl, by repeat (first | exact Below.refl _ _ | apply below_alloc | apply pw_below_drewN | apply below_drew1)⟩
  have d2 : (k == 2) = false := by simp [h2]
  rw [if_neg h2]
  clear h2
  by_cases h3 : k = 3
  · rw [if_pos h3]
    have c3 : (k == 3) = true := by simp [h3]
    clear h3
    go_wp2_with fail
    go_ret
    exact ⟨rfl, by repeat (first | exact Below.refl _ _ | apply below_alloc | apply pw_below_drewN | apply below_drew1)⟩
  have d3 : (k == 3) = false := by simp [h3]
  rw [if_neg h3]
  clear h3
  by_cases h4 : k = 4
  · rw [if_pos h4]
    have c4 : (k == 4) = true := by simp [h4]
    clear h4
    go_wp2_with fail
    go_ret
    exact ⟨rfl, by repeat (first | exact Below.refl _ _ | apply below_alloc | apply pw_below_drewN | apply below_drew1)⟩
  have d4 : (k == 4) = false := by simp [h4]
  rw [if_neg h4]
  clear h4
  by_cases h5 : k = 5
  · rw [if_pos h5]
    have c5 : (k == 5) = true := by simp [h5]
    clear h5
    by_cases hl : s.size ≤ 1048576
    · have cl : decide ((s.size : Int) ≤ 1048576) = true := decide_eq_true (by omega)
      cases hv : units_Valid.val (s.size + 1) s 0 0
      · have HV := Aside0.mk (show units_Valid.f s = some false by unfold units_Valid.f; rw [if_pos (by omega), hv])
        have e_ : leafIn.strOk s = false := by unfold leafIn.strOk; rw [hv]; simp [hl]
        rw [e_]
        clear hv e_ hl
        go_wp2_with (first | (go_at_call 127; (with_reducible refine (units_Valid.calls s false _ (tabs_b HT.out (by repeat (first | exact Below.refl _ _ | apply below_alloc | apply pw_below_drewN | apply below_drew1))) HV.out).mono ?_); rintro e w3 ⟨rfl, hb3⟩; have hc3 : w3.cell? ⟨w.heap.size, 3, none⟩ = some (.string s) := (hb3.cell (by simp)).trans ((blk_cell (heap_alloc_new w _) 3).trans rfl); have HB : Aside0 (Below w.heap.size w w3) := ⟨below_step (by repeat (first | exact Below.refl _ _ | apply below_alloc | apply pw_below_drewN | apply below_drew1)) hb3⟩; clear hb3) | fail)
        go_ret
        exact ⟨rfl, by repeat (first | exact HB.out | apply below_alloc | apply pw_below_drewN | apply below_drew1)⟩
      · have HV := Aside0.mk (show units_Valid.f s = some true by unfold units_Valid.f; rw [if_pos (by omega), hv])
        have e_ : leafIn.strOk s = true := by unfold leafIn.strOk; rw [hv]; simp [hl]
        rw [e_]
        clear hv e_ hl
        go_wp2_with (first | (go_at_call 127; (with_reducible refine (units_Valid.calls s true _ (tabs_b HT.out (by repeat (first | exact Below.refl _ _ | apply below_alloc | apply pw_below_drewN | apply below_drew1))) HV.out).mono ?_); rintro e w3 ⟨rfl, hb3⟩; have hc3 : w3.cell? ⟨w.heap.size, 3, none⟩ = some (.string s) := (hb3.cell (by simp)).trans ((blk_cell (heap_alloc_new w _) 3).trans rfl); have HB : Aside0 (Below w.heap.size w w3) := ⟨below_step (by repeat (first | exact Below.refl _ _ | apply below_alloc | apply pw_below_drewN | apply below_drew1)) hb3⟩; clear hb3) | fail)
        go_ret
        exact ⟨rfl, by repeat (first | exact HB.out | apply below_alloc | apply pw_below_drewN | apply below_drew1)⟩
    · have cl : decide ((s.size : Int) ≤ 1048576) = false := decide_eq_false (by omega)
      have e_ : leafIn.strOk s = false := by unfold leafIn.strOk; simp [hl]
      rw [e_]
      clear e_ hl
      go_wp2_with fail
      go_ret
      exact ⟨rfl, by repeat (first | exact Below.refl _ _ | apply below_alloc | apply pw_below_drewN | apply below_drew1)⟩
  have d5 : (k == 5) = false := by simp [h5]
  rw [if_neg h5]
  clear h5
  by_cases h6 : k = 6
  · rw [if_pos h6]
    have c6 : (k == 6) = true := by simp [h6]
    clear h6
    by_cases ha : 1 ≤ id
    · have ca : decide (1 ≤ id) = true := decide_eq_true ha
      by_cases hz : id ≤ 65536
      · have cz : decide (id ≤ 65536) = true := decide_eq_true hz
        have e_ : leafIn.idOk id = true := by unfold leafIn.idOk; rw [ca, cz]; rfl
        rw [e_]
        clear e_ ha hz
        go_wp2_with fail
        go_ret
        exact ⟨rfl, by repeat (first | exact Below.refl _ _ | apply below_alloc | apply pw_below_drewN | apply below_drew1)⟩
      · have cz : decide (id ≤ 65536) = false := decide_eq_false hz
        have e_ : leafIn.idOk id = false := by unfold leafIn.idOk; rw [ca, cz]; rfl
        rw [e_]
        clear e_ ha hz
        go_wp2_with fail
        go_ret
        exact ⟨rfl, by repeat (first | exact Below.refl _ _ | apply below_alloc | apply pw_below_drewN | apply below_drew1)⟩
    · have ca : decide (1 ≤ id) = false := decide_eq_false ha
      have e_ : leafIn.idOk id = false := by unfold leafIn.idOk; rw [ca]; rfl
      rw [e_]
      clear e_ ha
      go_wp2_with fail
      go_ret
      exact ⟨rfl, by repeat (first | exact Below.refl _ _ | apply below_alloc | apply pw_below_drewN | apply below_drew1)⟩
  have d6 : (k == 6) = false := by simp [h6]
  rw [if_neg h6]
  clear h6
  by_cases h7 : k = 7
  · rw [if_pos h7]
    have c7 : (k == 7) = true := by simp [h7]
    clear h7
    by_cases ha : 1 ≤ id
    · have ca : decide (1 ≤ id) = true := decide_eq_true ha
      by_cases hz : id ≤ 65536
      · have cz : decide (id ≤ 65536) = true := decide_eq_true hz
        have e_ : leafIn.idOk id = true := by unfold leafIn.idOk; rw [ca, cz]; rfl
        rw [e_]
        clear e_ ha hz
        go_wp2_with fail
        go_ret
        exact ⟨rfl, by repeat (first | exact Below.refl _ _ | apply below_alloc | apply pw_below_drewN | apply below_drew1)⟩
      · have cz : decide (id ≤ 65536) = false := decide_eq_false hz
        have e_ : leafIn.idOk id = false := by unfold leafIn.idOk; rw [ca, cz]; rfl
        rw [e_]
        clear e_ ha hz
        go_wp2_with fail
        go_ret
        exact ⟨rfl, by repeat (first | exact Below.refl _ _ | apply below_alloc | apply pw_below_drewN | apply below_drew1)⟩
    · have ca : decide (1 ≤ id) = false := decide_eq_false ha
      have e_ : leafIn.idOk id = false := by unfold leafIn.idOk; rw [ca]; rfl
      rw [e_]
      clear e_ ha
      go_wp2_with fail
      go_ret
      exact ⟨rfl, by repeat (first | exact Below.refl _ _ | apply below_alloc | apply pw_below_drewN | apply below_drew1)⟩
  have d7 : (k == 7) = false := by simp [h7]
  rw [if_neg h7]
  clear h7
  go_wp2_with fail
  go_ret
  exact ⟨rfl, by repeat (first | exact Below.refl _ _ | apply below_alloc | apply pw_below_drewN | apply below_drew1)⟩
end Go.Proofs.YtaojjpdlfnphiaaDoor.PDescKinds

/-! #### part G0 -/
/- Values and descriptors as plain data; tables of contracts over them. -/
set_option linter.unusedSimpArgs false
set_option linter.unusedVariables false
set_option linter.unusedSectionVars false
namespace Go.Proofs.YtaojjpdlfnphiaaDoor.PDescKinds
open Go.RowKit Go.Ev Go.Proofs.YtaojjpdlfnphiaaDoorW.PrintWords Go.Proofs.YtaojjpdlfnphiaaDoorW.PrintLast Go.Proofs.YtaojjpdlfnphiaaDoorW.PrintMore
structure V where
  k : Int
  b : Bool
  n : Nat
  s : ByteArray
  id : Int
structure D where
  v : V
  g : V
  t : V
  w : Int
  e : Int
  c : Int
def V.agg (v : V) : Value := .agg #[.int .i64 v.k, .bool v.b, .float .f64 v.n, .string v.s, .int .i64 v.id]
def D.agg (d : D) : Value := .agg #[.int .i64 d.v.k, .bool d.v.b, .float .f64 d.v.n, .string d.v.s, .int .i64 d.v.id,
  .int .i64 d.g.k, .bool d.g.b, .float .f64 d.g.n, .string d.g.s, .int .i64 d.g.id, .int .i64 d.t.k, .bool d.t.b, .float .f64 d.t.n, .string d.t.s, .int .i64 d.t.id, .int .i64 d.w, .int .i64 d.e, .int .i64 d.c]
def getV : Value → Option V
  | .agg a => match a.toList with
    | [.int .i64 k, .bool b, .float .f64 n, .string s, .int .i64 id] => some ⟨k, b, n, s, id⟩
    | _ => none
  | _ => none
def cutV : List Value → Option (V × List Value)
  | .int .i64 k :: .bool b :: .float .f64 n :: .string s :: .int .i64 id :: r => some (⟨k, b, n, s, id⟩, r)
  | _ => none
def getD : Value → Option D
  | .agg a => match cutV a.toList with
    | some (v, r) => match cutV r with
      | some (g, r) => match cutV r with
        | some (t, r) => match r with
          | [.int .i64 w, .int .i64 e, .int .i64 c] => some ⟨v, g, t, w, e, c⟩
          | _ => none
        | none => none
      | none => none
    | none => none
  | _ => none
theorem getV_agg {x : Value} {v : V} (h : getV x = some v) : x = v.agg := by
  unfold getV at h
  split at h
  · rename_i a
    split at h
    · rename_i ha
      simp only [Option.some.injEq] at h
      subst h
      unfold V.agg
      rw [← ha]
    · cases h
  · cases h
theorem cutV_eq {l r : List Value} {v : V} (h : cutV l = some (v, r)) : l = .int .i64 v.k :: .bool v.b :: .float .f64 v.n :: .string v.s :: .int .i64 v.id :: r := by
  unfold cutV at h
  split at h
  · simp only [Option.some.injEq, Prod.mk.injEq] at h
    obtain ⟨rfl, rfl⟩ := h
    rfl
  · cases h
theorem getD_agg {x : Value} {d : D} (h : getD x = some d) : x = d.agg := by
  unfold getD at h
  split at h
  · rename_i a
    split at h
    · rename_i v r0 h0
      split at h
      · rename_i g r1 h1
        split at h
        · rename_i t r2 h2
          split at h
          · simp only [Option.some.injEq] at h
            subst h
            have e := cutV_eq h0
            rw [cutV_eq h1, cutV_eq h2] at e
            unfold D.agg
            simp only
            rw [← e]
          · cases h
        · cases h
      · cases h
    · cases h
  · cases h
/-! ### Shapes of arguments -/
def onV (g : V → DT Value) : List Value → Option (DT Value)
  | [x] => match getV x with
    | some v => some (g v)
    | none => none
  | _ => none
def onVV (g : V → V → DT Value) : List Value → Option (DT Value)
  | [x, y] => match getV x with
    | some v => match getV y with
      | some u => some (g v u)
      | none => none
    | none => none
  | _ => none
def onD (g : D → DT Value) : List Value → Option (DT Value)
  | [x] => match getD x with
    | some v => some (g v)
    | none => none
  | _ => none
def onDD (g : D → D → DT Value) : List Value → Option (DT Value)
  | [x, y] => match getD x with
    | some v => match getD y with
      | some u => some (g v u)
      | none => none
    | none => none
  | _ => none
def onDI (g : D → Int → DT Value) : List Value → Option (DT Value)
  | [x, .int .i64 i] => match getD x with
    | some v => some (g v i)
    | none => none
  | _ => none
def onBDD (g : Bool → D → D → DT Value) : List Value → Option (DT Value)
  | [.bool b, x, y] => match getD x with
    | some v => match getD y with
      | some u => some (g b v u)
      | none => none
    | none => none
  | _ => none
def onF (g : Nat → DT Value) : List Value → Option (DT Value)
  | [.float .f64 n] => some (g n)
  | _ => none
def onFF (g : Nat → Nat → DT Value) : List Value → Option (DT Value)
  | [.float .f64 n, .float .f64 m] => some (g n m)
  | _ => none
def onI (g : Int → DT Value) : List Value → Option (DT Value)
  | [.int .i64 n] => some (g n)
  | _ => none
def onS (g : ByteArray → DT Value) : List Value → Option (DT Value)
  | [.string s] => some (g s)
  | _ => none
def on0 (g : DT Value) : List Value → Option (DT Value)
  | [] => some g
  | _ => none
theorem onV_eq {g : V → DT Value} {l : List Value} {t : DT Value} (h : onV g l = some t) : ∃ v, l = [v.agg] ∧ t = g v := by
  unfold onV at h
  split at h
  · split at h
    · rename_i v hv
      simp only [Option.some.injEq] at h
      exact ⟨v, by rw [getV_agg hv], h.symm⟩
    · cases h
  · cases h
theorem onVV_eq {g : V → V → DT Value} {l : List Value} {t : DT Value} (h : onVV g l = some t) : ∃ v u, l = [v.agg, u.agg] ∧ t = g v u := by
  unfold onVV at h
  split at h
  · split at h
    · rename_i v hv
      split at h
      · rename_i u hu
        simp only [Option.some.injEq] at h
        exact ⟨v, u, by rw [getV_agg hv, getV_agg hu], h.symm⟩
      · cases h
    · cases h
  · cases h
theorem onD_eq {g : D → DT Value} {l : List Value} {t : DT Value} (h : onD g l = some t) : ∃ v, l = [v.agg] ∧ t = g v := by
  unfold onD at h
  split at h
  · split at h
    · rename_i v hv
      simp only [Option.some.injEq] at h
      exact ⟨v, by rw [getD_agg hv], h.symm⟩
    · cases h
  · cases h
theorem onDD_eq {g : D → D → DT Value} {l : List Value} {t : DT Value} (h : onDD g l = some t) : ∃ v u, l = [v.agg, u.agg] ∧ t = g v u := by
  unfold onDD at h
  split at h
  · split at h
    · rename_i v hv
      split at h
      · rename_i u hu
        simp only [Option.some.injEq] at h
        exact ⟨v, u, by rw [getD_agg hv, getD_agg hu], h.symm⟩
      · cases h
    · cases h
  · cases h
theorem onDI_eq {g : D → Int → DT Value} {l : List Value} {t : DT Value} (h : onDI g l = some t) : ∃ v i, l = [v.agg, .int .i64 i] ∧ t = g v i := by
  unfold onDI at h
  split at h
  · split at h
    · rename_i v hv
      simp only [Option.some.injEq] at h
      exact ⟨v, _, by rw [getD_agg hv], h.symm⟩
    · cases h
  · cases h
theorem onBDD_eq {g : Bool → D → D → DT Value} {l : List Value} {t : DT Value} (h : onBDD g l = some t) : ∃ b v u, l = [.bool b, v.agg, u.agg] ∧ t = g b v u := by
  unfold onBDD at h
  split at h
  · split at h
    · rename_i v hv
      split at h
      · rename_i u hu
        simp only [Option.some.injEq] at h
        exact ⟨_, v, u, by rw [getD_agg hv, getD_agg hu], h.symm⟩
      · cases h
    · cases h
  · cases h
theorem onF_eq {g : Nat → DT Value} {l : List Value} {t : DT Value} (h : onF g l = some t) : ∃ n, l = [.float .f64 n] ∧ t = g n := by
  unfold onF at h
  split at h
  · simp only [Option.some.injEq] at h; exact ⟨_, rfl, h.symm⟩
  · cases h
theorem onFF_eq {g : Nat → Nat → DT Value} {l : List Value} {t : DT Value} (h : onFF g l = some t) : ∃ n m, l = [.float .f64 n, .float .f64 m] ∧ t = g n m := by
  unfold onFF at h
  split at h
  · simp only [Option.some.injEq] at h; exact ⟨_, _, rfl, h.symm⟩
  · cases h
theorem onI_eq {g : Int → DT Value} {l : List Value} {t : DT Value} (h : onI g l = some t) : ∃ n, l = [.int .i64 n] ∧ t = g n := by
  unfold onI at h
  split at h
  · simp only [Option.some.injEq] at h; exact ⟨_, rfl, h.symm⟩
  · cases h
theorem onS_eq {g : ByteArray → DT Value} {l : List Value} {t : DT Value} (h : onS g l = some t) : ∃ n, l = [.string n] ∧ t = g n := by
  unfold onS at h
  split at h
  · simp only [Option.some.injEq] at h; exact ⟨_, rfl, h.symm⟩
  · cases h
theorem on0_eq {g : DT Value} {l : List Value} {t : DT Value} (h : on0 g l = some t) : l = [] ∧ t = g := by
  unfold on0 at h
  split at h
  · simp only [Option.some.injEq] at h; exact ⟨rfl, h.symm⟩
  · cases h
/-- math.Float64bits is one step. -/
def bitsOf : List Value → Option Value
  | [.float .f64 n] => some (.int .u64 (n : Int))
  | _ => none
def ext : ExtFn := fun f => bif Nat.beq f 67 then some bitsOf else none
theorem ext_sound : ExtSound Tryd.prog ext := by
  intro f g hg args v hv w
  unfold ext at hg
  cases hb : Nat.beq f 67 with
  | false => rw [hb] at hg; cases hg
  | true =>
    rw [hb] at hg
    have := Nat.eq_of_beq_eq_true hb
    subst this
    simp only [cond_true, Option.some.injEq] at hg
    subst hg
    unfold bitsOf at hv
    split at hv
    · simp only [Option.some.injEq] at hv
      subst hv
      exact run_f64bits 67 Tryd.func67 (by kernel_rfl) (by kernel_rfl) (by kernel_rfl) (by kernel_rfl) _ w
    · cases hv
theorem tabs_stable : Stable Tabs := fun _ _ h hb => tabs_b h hb
theorem mixed : Tryd.prog.follows .mixedOrders = true := by kernel_rfl
abbrev E (p : Nat × (List Value → Option (DT Value))) : Prop := Entry Tryd.prog Tabs p
/-- No rows come in. -/
instance noRows : XEnv := ⟨fun _ => ⟨none, 0, 0, 0, fun _ => []⟩⟩
theorem noX : ∀ w, Tabs w → XOk w := fun _ _ _ j hj => absurd hj (Nat.not_lt_zero _)
/-- A function by evaluation over the entries before. -/
theorem byEv {l : Tab} (hl : ∀ p ∈ l, E p) {q : Nat × (List Value → Option (DT Value))} (k : Nat) (h : ∀ args t, q.2 args = some t → evFn Tryd.prog ext (tab l) k q.1 args = t.val) : E q :=
  entry_of mixed ext_sound tabs_stable noX hl k h
theorem bif_eq {α : Type} {c : Bool} {a b r : α} (ht : c = true → a = r) (hf : c = false → b = r) : (bif c then a else b) = r := by
  cases c
  · exact hf rfl
  · exact ht rfl
theorem bif_neq {α : Type} {c : Bool} {a b r : α} (hf : c = false → a = r) (ht : c = true → b = r) : (bif !c then a else b) = r := by
  cases c
  · exact hf rfl
  · exact ht rfl
theorem bif_and {α : Type} {c d : Bool} {a b r : α} (ht : c = true → (bif d then a else b) = r) (hf : c = false → b = r) : (bif c && d then a else b) = r := by
  cases c
  · exact hf rfl
  · exact ht rfl
end Go.Proofs.YtaojjpdlfnphiaaDoor.PDescKinds

