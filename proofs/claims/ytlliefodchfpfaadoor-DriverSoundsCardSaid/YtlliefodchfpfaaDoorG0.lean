/- What a value's text, and its number, must be. -/
import Derived.Test.YtlliefodchfpfaaDoorPC
import Derived.Test.YtlliefodchfpfaaDoorEvF
namespace Go.Proofs.YtlliefodchfpfaaDoor.PDescKinds
def leafIn.strOk (s : ByteArray) : Bool := decide (s.size ≤ 1048576) && units_Valid.val (s.size + 1) s 0 0
def leafIn.idOk (id : Int) : Bool := decide (1 ≤ id) && decide (id ≤ 65536)
end Go.Proofs.YtlliefodchfpfaaDoor.PDescKinds

/-! #### part G0 -/
/- Values and descriptors as plain data; tables of contracts over them. -/
set_option linter.unusedSimpArgs false
set_option linter.unusedVariables false
set_option linter.unusedSectionVars false
namespace Go.Proofs.YtlliefodchfpfaaDoor.PDescKinds
open Go.RowKit Go.Ev Go.Proofs.YtlliefodchfpfaaDoorW.PrintWords Go.Proofs.YtlliefodchfpfaaDoorW.PrintLast Go.Proofs.YtlliefodchfpfaaDoorW.PrintMore
structure V where
  k : Int
  b : Bool
  n : Nat
  s : ByteArray
  id : Int
structure D where
  v : V
  g : V
  t : V
  w : Int
  e : Int
  c : Int
def V.agg (v : V) : Value := .agg #[.int .i64 v.k, .bool v.b, .float .f64 v.n, .string v.s, .int .i64 v.id]
def D.agg (d : D) : Value := .agg #[.int .i64 d.v.k, .bool d.v.b, .float .f64 d.v.n, .string d.v.s, .int .i64 d.v.id,
  .int .i64 d.g.k, .bool d.g.b, .float .f64 d.g.n, .string d.g.s, .int .i64 d.g.id, .int .i64 d.t.k, .bool d.t.b, .float .f64 d.t.n, .string d.t.s, .int .i64 d.t.id, .int .i64 d.w, .int .i64 d.e, .int .i64 d.c]
def getV : Value → Option V
  | .agg a => match a.toList with
    | [.int .i64 k, .bool b, .float .f64 n, .string s, .int .i64 id] => some ⟨k, b, n, s, id⟩
    | _ => none
  | _ => none
def cutV : List Value → Option (V × List Value)
  | .int .i64 k :: .bool b :: .float .f64 n :: .string s :: .int .i64 id :: r => some (⟨k, b, n, s, id⟩, r)
  | _ => none
def getD : Value → Option D
  | .agg a => match cutV a.toList with
    | some (v, r) => match cutV r with
      | some (g, r) => match cutV r with
        | some (t, r) => match r with
          | [.int .i64 w, .int .i64 e, .int .i64 c] => some ⟨v, g, t, w, e, c⟩
          | _ => none
        | none => none
      | none => none
    | none => none
  | _ => none
theorem getV_agg {x : Value} {v : V} (h : getV x = some v) : x = v.agg := by
  unfold getV at h
  split at h
  · rename_i a
    split at h
    · rename_i ha
      simp only [Option.some.injEq] at h
      subst h
      unfold V.agg
      rw [← ha]
    · cases h
  · cases h
theorem cutV_eq {l r : List Value} {v : V} (h : cutV l = some (v, r)) : l = .int .i64 v.k :: .bool v.b :: .float .f64 v.n :: .string v.s :: .int .i64 v.id :: r := by
  unfold cutV at h
  split at h
  · simp only [Option.some.injEq, Prod.mk.injEq] at h
    obtain ⟨rfl, rfl⟩ := h
    rfl
  · cases h
theorem getD_agg {x : Value} {d : D} (h : getD x = some d) : x = d.agg := by
  unfold getD at h
  split at h
  · rename_i a
    split at h
    · rename_i v r0 h0
      split at h
      · rename_i g r1 h1
        split at h
        · rename_i t r2 h2
          split at h
          · simp only [Option.some.injEq] at h
            subst h
            have e := cutV_eq h0
            rw [cutV_eq h1, cutV_eq h2] at e
            unfold D.agg
            simp only
            rw [← e]
          · cases h
        · cases h
      · cases h
    · cases h
  · cases h
/-! ### Shapes of arguments -/
def onV (g : V → DT Value) : List Value → Option (DT Value)
  | [x] => match getV x with
    | some v => some (g v)
    | none => none
  | _ => none
def onVV (g : V → V → DT Value) : List Value → Option (DT Value)
  | [x, y] => match getV x with
    | some v => match getV y with
      | some u => some (g v u)
      | none => none
    | none => none
  | _ => none
def onD (g : D → DT Value) : List Value → Option (DT Value)
  | [x] => match getD x with
    | some v => some (g v)
    | none => none
  | _ => none
def onDD (g : D → D → DT Value) : List Value → Option (DT Value)
  | [x, y] => match getD x with
    | some v => match getD y with
      | some u => some (g v u)
      | none => none
    | none => none
  | _ => none
def onDI (g : D → Int → DT Value) : List Value → Option (DT Value)
  | [x, .int .i64 i] => match getD x with
    | some v => some (g v i)
    | none => none
  | _ => none
def onBDD (g : Bool → D → D → DT Value) : List Value → Option (DT Value)
  | [.bool b, x, y] => match getD x with
    | some v => match getD y with
      | some u => some (g b v u)
      | none => none
    | none => none
  | _ => none
def onF (g : Nat → DT Value) : List Value → Option (DT Value)
  | [.float .f64 n] => some (g n)
  | _ => none
def onFF (g : Nat → Nat → DT Value) : List Value → Option (DT Value)
  | [.float .f64 n, .float .f64 m] => some (g n m)
  | _ => none
def onI (g : Int → DT Value) : List Value → Option (DT Value)
  | [.int .i64 n] => some (g n)
  | _ => none
def onS (g : ByteArray → DT Value) : List Value → Option (DT Value)
  | [.string s] => some (g s)
  | _ => none
def on0 (g : DT Value) : List Value → Option (DT Value)
  | [] => some g
  | _ => none
theorem onV_eq {g : V → DT Value} {l : List Value} {t : DT Value} (h : onV g l = some t) : ∃ v, l = [v.agg] ∧ t = g v := by
  unfold onV at h
  split at h
  · split at h
    · rename_i v hv
      simp only [Option.some.injEq] at h
      exact ⟨v, by rw [getV_agg hv], h.symm⟩
    · cases h
  · cases h
theorem onVV_eq {g : V → V → DT Value} {l : List Value} {t : DT Value} (h : onVV g l = some t) : ∃ v u, l = [v.agg, u.agg] ∧ t = g v u := by
  unfold onVV at h
  split at h
  · split at h
    · rename_i v hv
      split at h
      · rename_i u hu
        simp only [Option.some.injEq] at h
        exact ⟨v, u, by rw [getV_agg hv, getV_agg hu], h.symm⟩
      · cases h
    · cases h
  · cases h
theorem onD_eq {g : D → DT Value} {l : List Value} {t : DT Value} (h : onD g l = some t) : ∃ v, l = [v.agg] ∧ t = g v := by
  unfold onD at h
  split at h
  · split at h
    · rename_i v hv
      simp only [Option.some.injEq] at h
      exact ⟨v, by rw [getD_agg hv], h.symm⟩
    · cases h
  · cases h
theorem onDD_eq {g : D → D → DT Value} {l : List Value} {t : DT Value} (h : onDD g l = some t) : ∃ v u, l = [v.agg, u.agg] ∧ t = g v u := by
  unfold onDD at h
  split at h
  · split at h
    · rename_i v hv
      split at h
      · rename_i u hu
        simp only [Option.some.injEq] at h
        exact ⟨v, u, by rw [getD_agg hv, getD_agg hu], h.symm⟩
      · cases h
    · cases h
  · cases h
theorem onDI_eq {g : D → Int → DT Value} {l : List Value} {t : DT Value} (h : onDI g l = some t) : ∃ v i, l = [v.agg, .int .i64 i] ∧ t = g v i := by
  unfold onDI at h
  split at h
  · split at h
    · rename_i v hv
      simp only [Option.some.injEq] at h
      exact ⟨v, _, by rw [getD_agg hv], h.symm⟩
    · cases h
  · cases h
theorem onBDD_eq {g : Bool → D → D → DT Value} {l : List Value} {t : DT Value} (h : onBDD g l = some t) : ∃ b v u, l = [.bool b, v.agg, u.agg] ∧ t = g b v u := by
  unfold onBDD at h
  split at h
  · split at h
    · rename_i v hv
      split at h
      · rename_i u hu
        simp only [Option.some.injEq] at h
        exact ⟨_, v, u, by rw [getD_agg hv, getD_agg hu], h.symm⟩
      · cases h
    · cases h
  · cases h
theorem onF_eq {g : Nat → DT Value} {l : List Value} {t : DT Value} (h : onF g l = some t) : ∃ n, l = [.float .f64 n] ∧ t = g n := by
  unfold onF at h
  split at h
  · simp only [Option.some.injEq] at h; exact ⟨_, rfl, h.symm⟩
  · cases h
theorem onFF_eq {g : Nat → Nat → DT Value} {l : List Value} {t : DT Value} (h : onFF g l = some t) : ∃ n m, l = [.float .f64 n, .float .f64 m] ∧ t = g n m := by
  unfold onFF at h
  split at h
  · simp only [Option.some.injEq] at h; exact ⟨_, _, rfl, h.symm⟩
  · cases h
theorem onI_eq {g : Int → DT Value} {l : List Value} {t : DT Value} (h : onI g l = some t) : ∃ n, l = [.int .i64 n] ∧ t = g n := by
  unfold onI at h
  split at h
  · simp only [Option.some.injEq] at h; exact ⟨_, rfl, h.symm⟩
  · cases h
theorem onS_eq {g : ByteArray → DT Value} {l : List Value} {t : DT Value} (h : onS g l = some t) : ∃ n, l = [.string n] ∧ t = g n := by
  unfold onS at h
  split at h
  · simp only [Option.some.injEq] at h; exact ⟨_, rfl, h.symm⟩
  · cases h
theorem on0_eq {g : DT Value} {l : List Value} {t : DT Value} (h : on0 g l = some t) : l = [] ∧ t = g := by
  unfold on0 at h
  split at h
  · simp only [Option.some.injEq] at h; exact ⟨rfl, h.symm⟩
  · cases h
/-- math.Float64bits is one step. -/
def bitsOf : List Value → Option Value
  | [.float .f64 n] => some (.int .u64 (n : Int))
  | _ => none
def ext : ExtFn := fun f => bif Nat.beq f 57 then some bitsOf else none
theorem ext_sound : ExtSound Tryd.prog ext := by
  intro f g hg args v hv w
  unfold ext at hg
  cases hb : Nat.beq f 57 with
  | false => rw [hb] at hg; cases hg
  | true =>
    rw [hb] at hg
    have := Nat.eq_of_beq_eq_true hb
    subst this
    simp only [cond_true, Option.some.injEq] at hg
    subst hg
    unfold bitsOf at hv
    split at hv
    · simp only [Option.some.injEq] at hv
      subst hv
      exact run_f64bits 57 Tryd.func57 (by kernel_rfl) (by kernel_rfl) (by kernel_rfl) (by kernel_rfl) _ w
    · cases hv
theorem tabs_stable : Stable Tabs := fun _ _ h hb => tabs_b h hb
theorem mixed : Tryd.prog.follows .mixedOrders = true := by kernel_rfl
abbrev E (p : Nat × (List Value → Option (DT Value))) : Prop := Entry Tryd.prog Tabs p
/-- No rows come in. -/
instance noRows : XEnv := ⟨fun _ => ⟨none, 0, 0, 0, fun _ => []⟩⟩
theorem noX : ∀ w, Tabs w → XOk w := fun _ _ _ j hj => absurd hj (Nat.not_lt_zero _)
/-- A function by evaluation over the entries before. -/
theorem byEv {l : Tab} (hl : ∀ p ∈ l, E p) {q : Nat × (List Value → Option (DT Value))} (k : Nat) (h : ∀ args t, q.2 args = some t → evFn Tryd.prog ext (tab l) k q.1 args = t.val) : E q :=
  entry_of mixed ext_sound tabs_stable noX hl k h
theorem bif_eq {α : Type} {c : Bool} {a b r : α} (ht : c = true → a = r) (hf : c = false → b = r) : (bif c then a else b) = r := by
  cases c
  · exact hf rfl
  · exact ht rfl
theorem bif_neq {α : Type} {c : Bool} {a b r : α} (hf : c = false → a = r) (ht : c = true → b = r) : (bif !c then a else b) = r := by
  cases c
  · exact hf rfl
  · exact ht rfl
theorem bif_and {α : Type} {c d : Bool} {a b r : α} (ht : c = true → (bif d then a else b) = r) (hf : c = false → b = r) : (bif c && d then a else b) = r := by
  cases c
  · exact hf rfl
  · exact ht rfl
end Go.Proofs.YtlliefodchfpfaaDoor.PDescKinds

