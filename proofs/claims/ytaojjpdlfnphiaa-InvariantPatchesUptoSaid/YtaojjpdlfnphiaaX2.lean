/- Parts of the proof, joined (2). -/
import Derived.Laws.BitsAllLaws
import Derived.Lib.DecodeN
import Derived.Lib.Bytes
import Derived.WalkKit
import Derived.ProofKit
import Derived.OpenShut
import Derived.Deep.DeepHandedRow
import Derived.Lib.LaidTab
import Derived.Lib.LaidIn
import Derived.Lib.LaidU8T
import Derived.Laws.AppendOwnNone
import Derived.Maps.OwnOps
import Derived.Maps.Views
import Derived.DeepKeys4
import Derived.Carry
import Derived.OrdersHeld
import Derived.Shelf.RegionOpenPlain
import Derived.Deep.RegionLaw
import Derived.Lib.SliceRun
import Derived.Test.YtaojjpdlfnphiaaX1
section
/- The contract of value.in: which of the seven types a value is of. -/
namespace Go.Proofs.Ytaojjpdlfnphiaa.PDescKinds
open Go.RowKit Go.Proofs.YtaojjpdlfnphiaaW.PrintWords
set_option linter.unusedVariables false
set_option linter.unusedSimpArgs false
end Go.Proofs.Ytaojjpdlfnphiaa.PDescKinds
/-! #### part G0 -/
/- Values and descriptors as_ plain data; tables of contracts over them. -/
set_option linter.unusedSimpArgs false
set_option linter.unusedVariables false
set_option linter.unusedSectionVars false
namespace Go.Proofs.Ytaojjpdlfnphiaa.PDescKinds
open Go.RowKit Go.Ev Go.Proofs.YtaojjpdlfnphiaaW.PrintWords
structure V where
  k : Int
  b : Bool
  n : Nat
  s : ByteArray
  id : Int
structure D where
  v : V
  g : V
  t : V
  w : Int
  e : Int
  c : Int
def V.agg (v : V) : Value := .agg #[.int .i64 v.k, .bool v.b, .float .f64 v.n, .string v.s, .int .i64 v.id]
def D.agg (d : D) : Value := .agg #[.int .i64 d.v.k, .bool d.v.b, .float .f64 d.v.n, .string d.v.s, .int .i64 d.v.id,
  .int .i64 d.g.k, .bool d.g.b, .float .f64 d.g.n, .string d.g.s, .int .i64 d.g.id, .int .i64 d.t.k, .bool d.t.b, .float .f64 d.t.n, .string d.t.s, .int .i64 d.t.id, .int .i64 d.w, .int .i64 d.e, .int .i64 d.c]
def getV : Value → Option V
  | .agg a => match a.toList with
    | [.int .i64 k, .bool b, .float .f64 n, .string s, .int .i64 id] => some ⟨k, b, n, s, id⟩
    | _ => none
  | _ => none
def cutV : List Value → Option (V × List Value)
  | .int .i64 k :: .bool b :: .float .f64 n :: .string s :: .int .i64 id :: r => some (⟨k, b, n, s, id⟩, r)
  | _ => none
def getD : Value → Option D
  | .agg a => match cutV a.toList with
    | some (v, r) => match cutV r with
      | some (g, r) => match cutV r with
        | some (t, r) => match r with
          | [.int .i64 w, .int .i64 e, .int .i64 c] => some ⟨v, g, t, w, e, c⟩
          | _ => none
        | none => none
      | none => none
    | none => none
  | _ => none
theorem getV_agg {x : Value} {v : V} (h : getV x = some v) : x = v.agg := by
  unfold getV at h
  split at h
  · rename_i a
    split at h
    · rename_i ha
      simp only [Option.some.injEq] at h
      subst h
      unfold V.agg
      rw [← ha]
    · cases h
  · cases h
theorem cutV_eq {l r : List Value} {v : V} (h : cutV l = some (v, r)) : l = .int .i64 v.k :: .bool v.b :: .float .f64 v.n :: .string v.s :: .int .i64 v.id :: r := by
  unfold cutV at h
  split at h
  · simp only [Option.some.injEq, Prod.mk.injEq] at h
    obtain ⟨rfl, rfl⟩ := h
    rfl
  · cases h
theorem getD_agg {x : Value} {d : D} (h : getD x = some d) : x = d.agg := by
  unfold getD at h
  split at h
  · rename_i a
    split at h
    · rename_i v r0 h0
      split at h
      · rename_i g r1 h1
        split at h
        · rename_i t r2 h2
          split at h
          · simp only [Option.some.injEq] at h
            subst h
            have e := cutV_eq h0
            rw [cutV_eq h1, cutV_eq h2] at e
            unfold D.agg
            simp only
            rw [← e]
          · cases h
        · cases h
      · cases h
    · cases h
  · cases h
/-! ### Shapes of arguments -/
def onV (g : V → DT Value) : List Value → Option (DT Value)
  | [x] => match getV x with
    | some v => some (g v)
    | none => none
  | _ => none
def onVV (g : V → V → DT Value) : List Value → Option (DT Value)
  | [x, y] => match getV x with
    | some v => match getV y with
      | some u => some (g v u)
      | none => none
    | none => none
  | _ => none
def onD (g : D → DT Value) : List Value → Option (DT Value)
  | [x] => match getD x with
    | some v => some (g v)
    | none => none
  | _ => none
def onDD (g : D → D → DT Value) : List Value → Option (DT Value)
  | [x, y] => match getD x with
    | some v => match getD y with
      | some u => some (g v u)
      | none => none
    | none => none
  | _ => none
def onF (g : Nat → DT Value) : List Value → Option (DT Value)
  | [.float .f64 n] => some (g n)
  | _ => none
def onFF (g : Nat → Nat → DT Value) : List Value → Option (DT Value)
  | [.float .f64 n, .float .f64 m] => some (g n m)
  | _ => none
theorem onVV_eq {g : V → V → DT Value} {l : List Value} {t : DT Value} (h : onVV g l = some t) : ∃ v u, l = [v.agg, u.agg] ∧ t = g v u := by
  unfold onVV at h
  split at h
  · split at h
    · rename_i v hv
      split at h
      · rename_i u hu
        simp only [Option.some.injEq] at h
        exact ⟨v, u, by rw [getV_agg hv, getV_agg hu], h.symm⟩
      · cases h
    · cases h
  · cases h
theorem onDD_eq {g : D → D → DT Value} {l : List Value} {t : DT Value} (h : onDD g l = some t) : ∃ v u, l = [v.agg, u.agg] ∧ t = g v u := by
  unfold onDD at h
  split at h
  · split at h
    · rename_i v hv
      split at h
      · rename_i u hu
        simp only [Option.some.injEq] at h
        exact ⟨v, u, by rw [getD_agg hv, getD_agg hu], h.symm⟩
      · cases h
    · cases h
  · cases h
theorem onFF_eq {g : Nat → Nat → DT Value} {l : List Value} {t : DT Value} (h : onFF g l = some t) : ∃ n m, l = [.float .f64 n, .float .f64 m] ∧ t = g n m := by
  unfold onFF at h
  split at h
  · simp only [Option.some.injEq] at h; exact ⟨_, _, rfl, h.symm⟩
  · cases h
/-- math.Float64bits is one step. -/
def bitsOf : List Value → Option Value
  | [.float .f64 n] => some (.int .u64 (n : Int))
  | _ => none
def ext : ExtFn := fun f => bif Nat.beq f 34 then some bitsOf else none
theorem ext_sound : ExtSound Try.prog ext := by
  intro f g hg args v hv w
  unfold ext at hg
  cases hb : Nat.beq f 34 with
  | false => rw [hb] at hg; cases hg
  | true =>
    rw [hb] at hg
    have := Nat.eq_of_beq_eq_true hb
    subst this
    simp only [cond_true, Option.some.injEq] at hg
    subst hg
    unfold bitsOf at hv
    split at hv
    · simp only [Option.some.injEq] at hv
      subst hv
      exact run_f64bits 34 Try.func34 (by kernel_rfl) (by kernel_rfl) (by kernel_rfl) (by kernel_rfl) _ w
    · cases hv
theorem tabs_stable : Stable Tabs := fun _ _ h hb => tabs_b h hb
theorem mixed : Try.prog.follows .mixedOrders = true := by kernel_rfl
abbrev E (p : Nat × (List Value → Option (DT Value))) : Prop := Entry Try.prog Tabs p
/-- No rows come in. -/
instance noRows : XEnv := ⟨fun _ => ⟨none, 0, 0, 0, fun _ => []⟩⟩
theorem noX : ∀ w, Tabs w → XOk w := fun _ _ _ j hj => absurd hj (Nat.not_lt_zero _)
/-- A function by evaluation over the entries before. -/
theorem byEv {l : Tab} (hl : ∀ p ∈ l, E p) {q : Nat × (List Value → Option (DT Value))} (k : Nat) (h : ∀ args t, q.2 args = some t → evFn Try.prog ext (tab l) k q.1 args = t.val) : E q :=
  entry_of mixed ext_sound tabs_stable noX hl k h
theorem bif_eq {α : Type} {c : Bool} {a b r : α} (ht : c = true → a = r) (hf : c = false → b = r) : (bif c then a else b) = r := by
  cases c
  · exact hf rfl
  · exact ht rfl
theorem bif_neq {α : Type} {c : Bool} {a b r : α} (hf : c = false → a = r) (ht : c = true → b = r) : (bif !c then a else b) = r := by
  cases c
  · exact hf rfl
  · exact ht rfl
theorem bif_and {α : Type} {c d : Bool} {a b r : α} (ht : c = true → (bif d then a else b) = r) (hf : c = false → b = r) : (bif c && d then a else b) = r := by
  cases c
  · exact hf rfl
  · exact ht rfl
end Go.Proofs.Ytaojjpdlfnphiaa.PDescKinds
end
section
/- What the functions of package desc, and those that they call, answer: plain functions over plain data; and the contracts that say so. -/
set_option linter.unusedSimpArgs false
set_option linter.unusedVariables false
set_option linter.unusedSectionVars false
namespace Go.Proofs.Ytaojjpdlfnphiaa.PDescKinds
open Go.RowKit Go.Ev
namespace S
def nan (a : Nat) : Bool := FloatKind.f64.format.order a a != some Ordering.eq
def neg (a : Nat) : Bool := decide (IntKind.i64.wrap (a : Int) < 0)
def feq (a b : Nat) : Bool := FloatKind.f64.format.order a b == some Ordering.eq
def numSame (a b : Nat) : Bool := bif nan a || nan b then nan a && nan b else feq a b && (neg a == neg b)
def emp (s : ByteArray) : Bool := s.toList == (ByteArray.mk #[]).toList
def V0 : V := ⟨0, false, 0, ⟨#[]⟩, 0⟩
def VU : V := ⟨1, false, 0, ⟨#[]⟩, 0⟩
def D0 : D := ⟨V0, V0, V0, 0, 0, 0⟩
/-- SameValue, of well-formed values. -/
def same (a b : V) : Bool := bif a.k == 4 && b.k == 4 then numSame a.n b.n else a.k == b.k && (a.b == b.b && (a.s.toList == b.s.toList && a.id == b.id))
def there (v : V) : Bool := v.k != 0
def pos (n : Nat) : Bool := FloatKind.f64.format.order ((Ieee.double.div 4607182418800017408 n).getD 0) 0 == some Ordering.gt
def isV0 (v : V) : Bool := v.k == 0 && (v.b == false && (Op.floatEq FloatKind.f64 v.n 0 && (v.s == ByteArray.mk #[] && (v.id == 0 && true))))
def absent (v : V) : Bool := isV0 v && pos v.n
def tri (t : Int) : Bool := decide (t ≥ 0) && decide (t ≤ 2)
def no (t by_ : Int) : Int := bif t == 0 then by_ else t
def isD0 (d : D) : Bool := (d.v.k == 0 && (d.v.b == false && (Op.floatEq FloatKind.f64 d.v.n 0 && (d.v.s == ByteArray.mk #[] && (d.v.id == 0 && true))))) &&
  ((d.g.k == 0 && (d.g.b == false && (Op.floatEq FloatKind.f64 d.g.n 0 && (d.g.s == ByteArray.mk #[] && (d.g.id == 0 && true))))) &&
  ((d.t.k == 0 && (d.t.b == false && (Op.floatEq FloatKind.f64 d.t.n 0 && (d.t.s == ByteArray.mk #[] && (d.t.id == 0 && true))))) && (d.w == 0 && (d.e == 0 && (d.c == 0 && true)))))
def zero (d : D) : Bool := isD0 d && (absent d.v && (absent d.g && absent d.t))
end S
namespace T
def B (b : Bool) : DT Value := .leaf (.bool b)
def numSame (a b : Nat) : DT Value := B (S.numSame a b)
end T
end Go.Proofs.Ytaojjpdlfnphiaa.PDescKinds
end
section
/-
  Floats by their bits: which are no numbers, and that '==' of two numbers of one sign is '=' of their bits.
-/
set_option linter.unusedSimpArgs false
set_option linter.unusedVariables false
set_option linter.unusedSectionVars false
namespace Go.Proofs.Ytaojjpdlfnphiaa.FloatEq
open Go.Proofs.YtaojjpdlfnphiaaW.PrintWords
open Ieee
def rung (a : Nat) : Nat := a % 9223372036854775808
def sgn (a : Nat) : Bool := a / 9223372036854775808 % 2 == 1
def infR : Nat := 9218868437227405312
theorem sw : Format.signWeight double = 9223372036854775808 := by decide +kernel
theorem bin : Format.binade double = 4503599627370496 := by decide +kernel
theorem inf : Format.infRung double = 9218868437227405312 := by decide +kernel
theorem read_eq (a : Nat) : Format.read double a = if rung a < 4503599627370496 then .number (sgn a) (rung a) double.leastPlace
    else if rung a < infR then .number (sgn a) (4503599627370496 + rung a % 4503599627370496) (double.leastPlace + (rung a / 4503599627370496 - 1 : Nat))
    else if rung a = infR then .infinity (sgn a) else .nan (sgn a) (rung a - infR) := by
  simp only [Format.read, sw, bin, inf, rung, sgn, infR]
  rfl
end Go.Proofs.Ytaojjpdlfnphiaa.FloatEq
namespace Go.Proofs.Ytaojjpdlfnphiaa.PDescKinds
open Go.RowKit Go.Ev
end Go.Proofs.Ytaojjpdlfnphiaa.PDescKinds
end
section
/- Moments as_ plain data: the rows that come in, the shapes of arguments. -/
set_option linter.unusedSimpArgs false
set_option linter.unusedVariables false
set_option linter.unusedSectionVars false
namespace Go.Proofs.Ytaojjpdlfnphiaa.PDescKinds
open Go.RowKit Go.Ev
structure K where
  s : ByteArray
  n : Int
structure Pr where
  k : K
  d : D
/-- A shape; where its properties stand. -/
structure Sh where
  cl : Int
  p : V
  x : Bool
  A : Option Addr
  n : Nat
  c : Nat
  g : Nat → Pr
/-- A moment. -/
structure Mo where
  A : Option Addr
  n : Nat
  c : Nat
  g : Nat → Sh
def K.agg (k : K) : Value := .agg #[.string k.s, .int .i64 k.n]
def Pr.cells (q : Pr) : List SV := [.val (.string q.k.s), .val (.int .i64 q.k.n), .val (.int .i64 q.d.v.k), .val (.bool q.d.v.b), .val (.float .f64 q.d.v.n), .val (.string q.d.v.s), .val (.int .i64 q.d.v.id),
  .val (.int .i64 q.d.g.k), .val (.bool q.d.g.b), .val (.float .f64 q.d.g.n), .val (.string q.d.g.s), .val (.int .i64 q.d.g.id), .val (.int .i64 q.d.t.k), .val (.bool q.d.t.b), .val (.float .f64 q.d.t.n), .val (.string q.d.t.s), .val (.int .i64 q.d.t.id), .val (.int .i64 q.d.w), .val (.int .i64 q.d.e), .val (.int .i64 q.d.c)]
def Pr.agg (q : Pr) : Value := .agg #[.string q.k.s, .int .i64 q.k.n, .int .i64 q.d.v.k, .bool q.d.v.b, .float .f64 q.d.v.n, .string q.d.v.s, .int .i64 q.d.v.id,
  .int .i64 q.d.g.k, .bool q.d.g.b, .float .f64 q.d.g.n, .string q.d.g.s, .int .i64 q.d.g.id, .int .i64 q.d.t.k, .bool q.d.t.b, .float .f64 q.d.t.n, .string q.d.t.s, .int .i64 q.d.t.id, .int .i64 q.d.w, .int .i64 q.d.e, .int .i64 q.d.c]
def shCells (cl : Int) (p : V) (x : Bool) (r : List Nat) : List SV := [.val (.int .i64 cl), .val (.int .i64 p.k), .val (.bool p.b), .val (.float .f64 p.n), .val (.string p.s), .val (.int .i64 p.id), .val (.bool x), .xs r]
/-- The rows of moments, and a box. -/
@[instance_reducible] def rowsB (M : Nat → Mo) (bx : Nat → XR) : XEnv := ⟨fun r => match r with
  | [k] => ⟨(M k).A, 8, (M k).n, (M k).c, fun j => shCells ((M k).g j).cl ((M k).g j).p ((M k).g j).x [k, j]⟩
  | [k, j] => ⟨((M k).g j).A, 20, ((M k).g j).n, ((M k).g j).c, fun i => (((M k).g j).g i).cells⟩
  | x :: _ => bx x
  | [] => bx 0⟩
/-! ### Shapes of arguments -/
/-- A shape as_ it is handed on: its fields, and whose properties it has. -/
structure SA where
  cl : Int
  p : V
  x : Bool
  a : Nat
  b : Nat
def SA.sv (q : SA) : SV := .arr (shCells q.cl q.p q.x [q.a, q.b])
/-- The same as_ a shape, its properties out of the moments. -/
def SA.sh (M : Nat → Mo) (q : SA) : Sh := ⟨q.cl, q.p, q.x, ((M q.a).g q.b).A, ((M q.a).g q.b).n, ((M q.a).g q.b).c, ((M q.a).g q.b).g⟩
def cutSV : List SV → Option (V × List SV)
  | .val (.int .i64 k) :: .val (.bool b) :: .val (.float .f64 n) :: .val (.string s) :: .val (.int .i64 id) :: r => some (⟨k, b, n, s, id⟩, r)
  | _ => none
theorem cutSV_eq {l r : List SV} {v : V} (h : cutSV l = some (v, r)) : l = .val (.int .i64 v.k) :: .val (.bool v.b) :: .val (.float .f64 v.n) :: .val (.string v.s) :: .val (.int .i64 v.id) :: r := by
  unfold cutSV at h
  split at h
  · simp only [Option.some.injEq, Prod.mk.injEq] at h
    obtain ⟨rfl, rfl⟩ := h
    rfl
  · cases h
def getSA : SV → Option SA
  | .arr (.val (.int .i64 cl) :: l) => match cutSV l with
    | some (p, r) => match r with
      | [.val (.bool x), .xs [a, b]] => some ⟨cl, p, x, a, b⟩
      | _ => none
    | none => none
  | _ => none
theorem getSA_sv {s : SV} {q : SA} (h : getSA s = some q) : s = q.sv := by
  unfold getSA at h
  split at h
  · split at h
    · rename_i cl l p r hl
      split at h
      · simp only [Option.some.injEq] at h
        subst h
        rw [cutSV_eq hl]
        rfl
      · cases h
    · cases h
  · cases h
def getK : Value → Option K
  | .agg a => match a.toList with
    | [.string s, .int .i64 n] => some ⟨s, n⟩
    | _ => none
  | _ => none
theorem getK_agg {x : Value} {v : K} (h : getK x = some v) : x = v.agg := by
  unfold getK at h
  split at h
  · rename_i a
    split at h
    · rename_i ha
      simp only [Option.some.injEq] at h
      subst h
      unfold K.agg
      rw [← ha]
    · cases h
  · cases h
/-! Contracts over shapes -/
def onSh (f : SA → DT SV) : List SV → Option (DT SV)
  | [x] => match getSA x with
    | some q => some (f q)
    | none => none
  | _ => none
def onShSh (f : SA → SA → DT SV) : List SV → Option (DT SV)
  | [x, y] => match getSA x with
    | some q => match getSA y with
      | some r => some (f q r)
      | none => none
    | none => none
  | _ => none
def onShK (f : SA → K → DT SV) : List SV → Option (DT SV)
  | [x, .val y] => match getSA x with
    | some q => match getK y with
      | some r => some (f q r)
      | none => none
    | none => none
  | _ => none
def onM (f : Nat → DT SV) : List SV → Option (DT SV)
  | [.xs [a]] => some (f a)
  | _ => none
def onMM (f : Nat → Nat → DT SV) : List SV → Option (DT SV)
  | [.xs [a], .xs [b]] => some (f a b)
  | _ => none
def onPK (f : Nat → Nat → K → DT SV) : List SV → Option (DT SV)
  | [.xs [a, b], .val y] => match getK y with
    | some r => some (f a b r)
    | none => none
  | _ => none
theorem onShSh_eq {f : SA → SA → DT SV} {l : List SV} {t : DT SV} (h : onShSh f l = some t) : ∃ q r : SA, l = [q.sv, r.sv] ∧ t = f q r := by
  unfold onShSh at h
  split at h
  · split at h
    · rename_i q hq
      split at h
      · rename_i r hr
        simp only [Option.some.injEq] at h
        exact ⟨q, r, by rw [getSA_sv hq, getSA_sv hr], h.symm⟩
      · cases h
    · cases h
  · cases h
theorem onM_eq {f : Nat → DT SV} {l : List SV} {t : DT SV} (h : onM f l = some t) : ∃ a, l = [.xs [a]] ∧ t = f a := by
  unfold onM at h
  split at h
  · simp only [Option.some.injEq] at h
    exact ⟨_, rfl, h.symm⟩
  · cases h
theorem onMM_eq {f : Nat → Nat → DT SV} {l : List SV} {t : DT SV} (h : onMM f l = some t) : ∃ a b, l = [.xs [a], .xs [b]] ∧ t = f a b := by
  unfold onMM at h
  split at h
  · simp only [Option.some.injEq] at h
    exact ⟨_, _, rfl, h.symm⟩
  · cases h
theorem onPK_eq {f : Nat → Nat → K → DT SV} {l : List SV} {t : DT SV} (h : onPK f l = some t) : ∃ a b k, l = [.xs [a, b], .val k.agg] ∧ t = f a b k := by
  unfold onPK at h
  split at h
  · split at h
    · rename_i r hr
      simp only [Option.some.injEq] at h
      exact ⟨_, _, r, by rw [getK_agg hr], h.symm⟩
    · cases h
  · cases h
/-- Moments that can be: lengths are numbers. -/
def Fit (M : Nat → Mo) : Prop := ∀ k, ((M k).n : Int) ≤ 9223372036854775807 ∧ ∀ j, (((M k).g j).n : Int) ≤ 9223372036854775807
end Go.Proofs.Ytaojjpdlfnphiaa.PDescKinds
end
section
-- Printed by a program of this session over the translation; Lean checks it.
namespace Go.Proofs.Ytaojjpdlfnphiaa.PDescKinds
open Go.RowKit Go.Proofs.YtaojjpdlfnphiaaW.PrintWords
set_option linter.unusedVariables false
set_option linter.unusedSimpArgs false
/-! ### cameoref01_tail: function 124 -/
def cameoref01_tail.l0 : Nat → ByteArray → Int → Int → Int → Int → Option (Int)
  | 0, _, _, _, _, _ => none
  | k + 1, x0, x1, x2, x7, x8 => if x8 < x2 then (if (wrap64 (x1 + x8)) ≥ (x0.size : Int) then (some (-1)) else (if 0 ≤ (wrap64 (x1 + x8)) then (if (wrap64 (x1 + x8)) < (x0.size : Int) then (if (bt x0 (wrap64 (x1 + x8))) < 128 then (some (-1)) else (if (bt x0 (wrap64 (x1 + x8))) > 191 then (some (-1)) else (cameoref01_tail.l0 k x0 x1 x2 (wrap64 ((wrap64 ((wrap64 (64 * x7)) + (wrap64 (bt x0 (wrap64 (x1 + x8)))))) - 128)) (wrap64 (x8 + 1))))) else (none)) else (none))) else (some x7)
def cameoref01_tail.f (k : Nat) (a0 : ByteArray) (a1 : Int) (a2 : Int) : Option (Int) := cameoref01_tail.l0 k a0 a1 a2 0 0
end Go.Proofs.Ytaojjpdlfnphiaa.PDescKinds
end
section
-- Printed by a program of this session over the translation; Lean checks it.
namespace Go.Proofs.Ytaojjpdlfnphiaa.PDescKinds
open Go.RowKit Go.Proofs.YtaojjpdlfnphiaaW.PrintWords
set_option linter.unusedVariables false
set_option linter.unusedSimpArgs false
/-! ### cameoref01_read: function 116 -/
mutual
def cameoref01_read.l0 : Nat → ByteArray → List Int → Int → Option (List Int × Bool)
  | 0, _, _, _ => none
  | k + 1, x0, x4, x5 => if x5 < (x0.size : Int) then (if 0 ≤ x5 then (if (wrap64 (bt x0 x5)) < 128 then (cameoref01_read.j3 k x0 x4 x5 0 (wrap64 (bt x0 x5))) else (if (wrap64 (bt x0 x5)) ≥ 192 then (cameoref01_read.j1 k x0 x4 x5 (wrap64 (bt x0 x5)) (decide ((wrap64 (bt x0 x5)) < 224))) else (cameoref01_read.j1 k x0 x4 x5 (wrap64 (bt x0 x5)) false))) else (none)) else (some (x4, true))
def cameoref01_read.j3 : Nat → ByteArray → List Int → Int → Int → Int → Option (List Int × Bool)
  | 0, _, _, _, _, _ => none
  | k + 1, x0, x4, x5, x7, x8 => (cameoref01_tail.f k x0 (wrap64 (x5 + 1)) x7).bind fun t264 => (if t264 < 0 then (some (([] : List Int), false)) else (cameoref01_read.l1 k x0 x4 x5 x7 x8 t264 0))
def cameoref01_read.l1 : Nat → ByteArray → List Int → Int → Int → Int → Int → Int → Option (List Int × Bool)
  | 0, _, _, _, _, _, _, _ => none
  | k + 1, x0, x4, x5, x7, x8, x9, x10 => if x10 < x7 then (cameoref01_read.l1 k x0 x4 x5 x7 (wrap64 (x8 * 64)) x9 (wrap64 (x10 + 1))) else (if (wrap64 (x9 + x8)) > 1114111 then (some (([] : List Int), false)) else (if (wrap64 (x9 + x8)) ≥ 65536 then ((some (([IntKind.u16.wrap (wrap64 (55296 + (wrap64 (Int.tdiv (wrap64 ((wrap64 (x9 + x8)) - 65536)) 1024)))), IntKind.u16.wrap (wrap64 (56320 + (Int.tmod (wrap64 ((wrap64 (x9 + x8)) - 65536)) 1024)))] : List Int) : List Int)).bind fun y265 => (if x4.length + y265.length < 70368744177664 then (cameoref01_read.l0 k x0 (x4 ++ y265) (wrap64 (x5 + (wrap64 (1 + x7))))) else (none))) else (if x4.length < 70368744177664 then (cameoref01_read.l0 k x0 (x4 ++ [IntKind.u16.wrap (wrap64 (x9 + x8))]) (wrap64 (x5 + (wrap64 (1 + x7))))) else (none))))
def cameoref01_read.j1 : Nat → ByteArray → List Int → Int → Int → Bool → Option (List Int × Bool)
  | 0, _, _, _, _, _ => none
  | k + 1, x0, x4, x5, x6, x23 => if x23 = true then (cameoref01_read.j3 k x0 x4 x5 1 (wrap64 (x6 - 192))) else (if x6 ≥ 224 then (cameoref01_read.j2 k x0 x4 x5 x6 (decide (x6 < 240))) else (cameoref01_read.j2 k x0 x4 x5 x6 false))
def cameoref01_read.j2 : Nat → ByteArray → List Int → Int → Int → Bool → Option (List Int × Bool)
  | 0, _, _, _, _, _ => none
  | k + 1, x0, x4, x5, x6, x32 => if x32 = true then (cameoref01_read.j3 k x0 x4 x5 2 (wrap64 (x6 - 224))) else (if x6 ≥ 240 then (if x6 < 248 then (cameoref01_read.j3 k x0 x4 x5 3 (wrap64 (x6 - 240))) else (some (([] : List Int), false))) else (some (([] : List Int), false)))
end
/-! ### cameoref01_high: function 128 -/
/-! ### cameoref01_low: function 129 -/
end Go.Proofs.Ytaojjpdlfnphiaa.PDescKinds
end
section
-- Printed by a program of this session over the translation; Lean checks it.
namespace Go.Proofs.Ytaojjpdlfnphiaa.PDescKinds
open Go.RowKit Go.Proofs.YtaojjpdlfnphiaaW.PrintWords
set_option linter.unusedVariables false
set_option linter.unusedSimpArgs false
/-! ### cameoref01_Row: function 125 -/
/-! ### cameoref01_put: function 126 -/
/-! ### cameoref01_Of: function 117 -/
/-! ### cameoref01_Valid: function 98 -/
end Go.Proofs.Ytaojjpdlfnphiaa.PDescKinds
end
section
/- Bytes as_ code points: what is read leniently and written anew is what was read just where each code point was written as_ shortly as_ may be, and no two halves stand apart. Plain lists of numbers. -/
set_option linter.unusedSimpArgs false
set_option linter.unusedVariables false
namespace Go.Proofs.Ytaojjpdlfnphiaa.Utf
def cont (b : Nat) : Prop := 128 ≤ b ∧ b ≤ 191
instance (b : Nat) : Decidable (cont b) := inferInstanceAs (Decidable (_ ∧ _))
end Go.Proofs.Ytaojjpdlfnphiaa.Utf
/-! #### part U1 -/
/- units.Valid: every code point written as_ shortly as_ may be, and no two halves side by side. -/
set_option linter.unusedSimpArgs false
set_option linter.unusedVariables false
namespace Go.Proofs.Ytaojjpdlfnphiaa.Utf
open Go.RowKit Go.Proofs.YtaojjpdlfnphiaaW.PrintWords Go.Proofs.Ytaojjpdlfnphiaa.PDescKinds
end Go.Proofs.Ytaojjpdlfnphiaa.Utf
/-! #### part U2 -/
/- The reference's Valid is the program's. -/
set_option linter.unusedSimpArgs false
set_option linter.unusedVariables false
namespace Go.Proofs.Ytaojjpdlfnphiaa.Utf
open Go.RowKit Go.Proofs.YtaojjpdlfnphiaaW.PrintWords Go.Proofs.Ytaojjpdlfnphiaa.PDescKinds
end Go.Proofs.Ytaojjpdlfnphiaa.Utf
/-! #### part U3 -/
/- The reference's Valid is the program's: what is read is written anew. -/
set_option linter.unusedSimpArgs false
set_option linter.unusedVariables false
namespace Go.Proofs.Ytaojjpdlfnphiaa.Utf
open Go.RowKit Go.Proofs.YtaojjpdlfnphiaaW.PrintWords Go.Proofs.Ytaojjpdlfnphiaa.PDescKinds
end Go.Proofs.Ytaojjpdlfnphiaa.Utf
end
section
/- The same contracts without branches, for the laws. -/
set_option linter.unusedSimpArgs false
set_option linter.unusedVariables false
namespace Go.Proofs.Ytaojjpdlfnphiaa.PDescKinds
open Go.RowKit Go.Ev
namespace S
end S
namespace R
end R
namespace T
end T
set_option maxHeartbeats 4000000 in
theorem ev_numSame0 (a b : Nat) : evFn Try.prog ext (tab []) 40 35 [.float .f64 a, .float .f64 b] = (T.numSame a b).val :=
  Eq.trans (b := 
    (bif FloatKind.f64.format.order a a != some Ordering.eq then 
     (bif FloatKind.f64.format.order a a != some Ordering.eq then some (Value.bool (FloatKind.f64.format.order b b != some Ordering.eq)) else some (Value.bool false)) else 
     (bif FloatKind.f64.format.order b b != some Ordering.eq then 
      (bif FloatKind.f64.format.order a a != some Ordering.eq then some (Value.bool (FloatKind.f64.format.order b b != some Ordering.eq)) else some (Value.bool false)) else 
      (bif FloatKind.f64.format.order a b == some Ordering.eq then some (Value.bool (decide (IntKind.i64.wrap (↑a : Int) < 0) == decide (IntKind.i64.wrap (↑b : Int) < 0))) else some (Value.bool false))))) (by kernel_rfl) (by
    simp only [T.numSame, T.B, DT.val_node, DT.val_leaf, DT.bind, DT.val_bad]
    repeat' (first | (with_reducible refine bif_neq (fun h => ?_) (fun h => ?_)) | (with_reducible refine bif_and (fun h => ?_) (fun h => ?_)) | (with_reducible refine bif_eq (fun h => ?_) (fun h => ?_)))
    all_goals first | (simp only [*, S.numSame, S.nan, S.feq, S.neg, cond_true, cond_false, Bool.and_true, Bool.true_and, Bool.and_false, Bool.false_and, Bool.or_true, Bool.true_or, Bool.or_false, Bool.false_or, Bool.not_true, Bool.not_false, beq_self_eq_true, bne_self_eq_false, Bool.not_not]; done) | (exfalso; simp_all; done) | (simp_all [S.numSame, S.nan, S.feq, S.neg]; done) | grind [S.numSame, S.nan, S.feq, S.neg])
theorem ent_numSame0 : E (35, onFF T.numSame) := byEv entries_nil 40 fun args t h => by
  obtain ⟨a, b, rfl, rfl⟩ := onFF_eq h
  exact ev_numSame0 a b
abbrev AL : Tab := [(35, onFF T.numSame)]
theorem entsAL : ∀ p ∈ AL, E p := entries_cons ent_numSame0 entries_nil
end Go.Proofs.Ytaojjpdlfnphiaa.PDescKinds
end
section
/- Plain laws: the reference's answers on descriptors are the program's. -/
set_option linter.unusedSimpArgs false
set_option linter.unusedVariables false
namespace Go.Proofs.Ytaojjpdlfnphiaa.PDescKinds
open Ieee FloatEq
namespace R
end R
end Go.Proofs.Ytaojjpdlfnphiaa.PDescKinds
/-! #### part P3 -/
/- Plain laws: Apply, Keeps and Same by the document are the program's. -/
set_option linter.unusedSimpArgs false
set_option linter.unusedVariables false
namespace Go.Proofs.Ytaojjpdlfnphiaa.PDescKinds
open Ieee FloatEq Go.RowKit
inductive Rd (a : Nat) : Datum → Prop where
  | num (m : Nat) (i : Int) (h : m = 0 ↔ rung a = 0) : Rd a (.number (sgn a) m i)
  | inf (h : rung a ≠ 0) : Rd a (.infinity (sgn a))
  | nan (s : Bool) (p : Nat) : Rd a (.nan s p)
theorem rd (a : Nat) : Rd a (Format.read double a) := by
  rw [read_eq]
  split
  · exact .num _ _ Iff.rfl
  · split
    · exact .num _ _ ⟨fun h => by omega, fun h => by omega⟩
    · split
      · rename_i h1 h2 h3
        exact .inf (by rw [h3]; unfold infR; omega)
      · exact .nan _ _
namespace R
end R
end Go.Proofs.Ytaojjpdlfnphiaa.PDescKinds
end
section
/- Moments: what the functions over values answer; words for loops. -/
set_option linter.unusedSimpArgs false
set_option linter.unusedVariables false
set_option linter.unusedSectionVars false
namespace Go.Proofs.Ytaojjpdlfnphiaa.PDescKinds
open Go.RowKit Go.Ev
namespace S
/-- invariant.same. -/
def eqC (a b : V) : Bool := a.k == b.k && (a.b == b.b && (a.s.toList == b.s.toList && (a.id == b.id && numSame a.n b.n)))
/-- invariant.alike. -/
def alikeC (a b : D) : Bool := eqC a.v b.v && (eqC a.g b.g && (eqC a.t b.t && (a.w == b.w && (a.e == b.e && a.c == b.c))))
end S
namespace R
/-- Above infinity's bits, the sign left out. -/
def big (a : Nat) : Bool := decide (IntKind.u64.wrap (↑(BitVec.ofInt IntKind.u64.bits (a : Int) &&& ~~~BitVec.ofInt IntKind.u64.bits 9223372036854775808).toNat : Int) > 9218868437227405312)
/-- cameoref02.Same. -/
def num2 (a b : Nat) : Bool := (big a && big b) || ((a : Int) == (b : Int))
/-- cameoref10.Eq. -/
def eqR (a b : V) : Bool := a.k == b.k && (a.b == b.b && (a.s.toList == b.s.toList && (a.id == b.id && num2 a.n b.n)))
/-- cameoref10.EqDesc. -/
def eqDR (a b : D) : Bool := eqR a.v b.v && (eqR a.g b.g && (eqR a.t b.t && (a.w == b.w && (a.e == b.e && a.c == b.c))))
end R
namespace T
def eqC (a b : V) : DT Value := B (S.eqC a b)
def alikeC (a b : D) : DT Value := B (S.alikeC a b)
def num2 (a b : Nat) : DT Value := B (R.num2 a b)
def eqR (a b : V) : DT Value := B (R.eqR a b)
def eqDR (a b : D) : DT Value := B (R.eqDR a b)
end T
end Go.Proofs.Ytaojjpdlfnphiaa.PDescKinds
end
section
/- Moments: what the functions over shapes answer, and the contracts that say so. -/
set_option linter.unusedSimpArgs false
set_option linter.unusedVariables false
set_option linter.unusedSectionVars false
namespace Go.Proofs.Ytaojjpdlfnphiaa.PDescKinds
open Go.RowKit Go.Ev
namespace S
def keq (a b : K) : Bool := a.s == b.s && (a.n == b.n && true)
/-- The first place of a list of n at which p holds; -1. -/
def idx (p : Nat → Bool) (n : Nat) : Int := (seek (fun i => bif p i then some (i : Int) else none) n 0).getD (-1)
def find (s : Sh) (k : K) : Int := idx (fun i => keq (s.g i).k k) s.n
/-- Is some property of a not one of b? -/
def freshAt (b a : Sh) : Int := idx (fun i => decide (find b (a.g i).k < 0)) a.n
def confAt (s : Sh) : Int := idx (fun i => (s.g i).d.c != 1) s.n
def thawAt (s : Sh) : Int := idx (fun i => (s.g i).d.g.k == 0 && ((s.g i).d.t.k == 0 && (s.g i).d.w != 1)) s.n
end S
namespace S
theorem seek_some {α : Type} {p : Nat → Option α} {v : α} : ∀ (k i : Nat), seek p k i = some v → ∃ j, i ≤ j ∧ j < i + k ∧ p j = some v
  | 0, _, h => by cases h
  | k + 1, i, h => by
    simp only [seek] at h
    cases hp : p i with
    | some u =>
      rw [hp] at h
      cases h
      exact ⟨i, Nat.le_refl _, by omega, hp⟩
    | none =>
      rw [hp] at h
      obtain ⟨j, h1, h2, h3⟩ := seek_some k (i + 1) h
      exact ⟨j, by omega, by omega, h3⟩
theorem seek_none {α : Type} {p : Nat → Option α} : ∀ (k i : Nat), seek p k i = none ↔ ∀ j, i ≤ j → j < i + k → p j = none
  | 0, i => by simp only [seek, true_iff]; intro j h1 h2; omega
  | k + 1, i => by
    simp only [seek]
    cases hp : p i with
    | some u =>
      simp only [reduceCtorEq, false_iff]
      intro h
      have := h i (Nat.le_refl _) (by omega)
      rw [hp] at this
      cases this
    | none =>
      simp only
      rw [seek_none k (i + 1)]
      constructor
      · intro h j h1 h2
        by_cases e : j = i
        · rw [e, hp]
        · exact h j (by omega) (by omega)
      · intro h j h1 h2
        exact h j (by omega) (by omega)
theorem idx_some {p : Nat → Bool} {n : Nat} (h : 0 ≤ idx p n) : ∃ j : Nat, idx p n = j ∧ j < n ∧ p j = true := by
  unfold idx at h ⊢
  cases hs : seek (fun i => bif p i then some (i : Int) else none) n 0 with
  | none => rw [hs] at h; exact absurd h (by decide)
  | some v =>
    obtain ⟨j, _, h2, h3⟩ := seek_some n 0 hs
    cases hp : p j with
    | false => rw [hp] at h3; cases h3
    | true =>
      rw [hp] at h3
      cases h3
      exact ⟨j, rfl, by omega, hp⟩
/-- Behind 'there is none' the place is one. -/
theorem find_cond {α : Type} (s : Sh) (k : K) (x y z : α) : (bif decide (find s k < 0) then x else bif decide (0 ≤ find s k) && decide (find s k < (s.n : Int)) then y else z) = bif decide (find s k < 0) then x else y := by
  by_cases h : find s k < 0
  · rw [decide_eq_true h]; rfl
  · obtain ⟨j, h1, h2, _⟩ := idx_some (p := fun i => keq (s.g i).k k) (n := s.n) (by unfold find at h; omega)
    have h1 : find s k = j := h1
    rw [decide_eq_false h, h1, decide_eq_true (show (0 : Int) ≤ (j : Int) by omega), decide_eq_true (show (j : Int) < (s.n : Int) by omega)]
    rfl
end S
/-- A function with nothing captured. -/
def isFn : SV → Nat → Bool
  | .val (.func (.func f) x y) => fun n => Nat.beq f n && (x.isEmpty && y.isEmpty)
  | _ => fun _ => false
def fnv (n : Nat) : SV := .val (.func (.func n) #[] #[])
theorem isFn_eq {s : SV} {n : Nat} (h : isFn s n = true) : s = fnv n := by
  unfold isFn at h
  split at h
  · simp only [Bool.and_eq_true] at h
    obtain ⟨h1, h2, h3⟩ := h
    have := Nat.eq_of_beq_eq_true h1
    subst this
    simp only [Array.isEmpty_iff] at h2 h3
    subst h2 h3
    rfl
  · cases h
/-! The contract of slices.IndexFunc, by the function it is handed -/
def keyAt (mem : Mem) : List SV → Option K
  | [.ptr q off] => match mem q with
    | some k => match k.cells with
      | [.val (.string s), .val (.int .i64 n)] => bif Nat.beq off 0 then some ⟨s, n⟩ else none
      | _ => none
    | none => none
  | _ => none
def shapeAt (mem : Mem) : List SV → Option SA
  | [.ptr q off] => match mem q with
    | some k => bif Nat.beq off 0 then getSA (.arr k.cells) else none
    | none => none
  | _ => none
/-- The same, of the keys' function alone. -/
def idxA (M : Nat → Mo) : List SV → Mem → Option (DT SV)
  | [.xs [a, b], .fn f l], mem => bif Nat.beq f 32 then
      match keyAt mem l with
      | some k => some (.leaf (.val (.int .i64 (S.find ((M a).g b) k))))
      | none => none
    else none
  | _, _ => none
theorem keyAt_eq {mem : Mem} {l : List SV} {k : K} (h : keyAt mem l = some k) : ∃ q blk, l = [.ptr q 0] ∧ mem q = some blk ∧ blk.cells = [.val (.string k.s), .val (.int .i64 k.n)] := by
  unfold keyAt at h
  split at h
  · rename_i q off
    split at h
    · rename_i blk hq
      split at h
      · rename_i s n hc
        cases ho : Nat.beq off 0 with
        | false => rw [ho] at h; cases h
        | true =>
          rw [ho] at h
          simp only [cond_true, Option.some.injEq] at h
          subst h
          have := Nat.eq_of_beq_eq_true ho
          subst this
          exact ⟨q, blk, rfl, hq, hc⟩
      · cases h
    · cases h
  · cases h
theorem shapeAt_eq {mem : Mem} {l : List SV} {k : SA} (h : shapeAt mem l = some k) : ∃ q blk, l = [.ptr q 0] ∧ mem q = some blk ∧ blk.cells = shCells k.cl k.p k.x [k.a, k.b] := by
  unfold shapeAt at h
  split at h
  · rename_i q off
    split at h
    · rename_i blk hq
      cases ho : Nat.beq off 0 with
      | false => rw [ho] at h; cases h
      | true =>
        rw [ho] at h
        simp only [cond_true] at h
        have := Nat.eq_of_beq_eq_true ho
        subst this
        have := getSA_sv h
        unfold SA.sv at this
        exact ⟨q, blk, rfl, hq, SV.arr.inj this⟩
    · cases h
  · cases h
theorem idxA_eq {M : Nat → Mo} {args : List SV} {mem : Mem} {t : DT SV} (h : idxA M args mem = some t) :
    ∃ a b l k, args = [.xs [a, b], .fn 32 l] ∧ keyAt mem l = some k ∧ t = .leaf (.val (.int .i64 (S.find ((M a).g b) k))) := by
  unfold idxA at h
  split at h
  · rename_i a b f l
    cases hf : Nat.beq f 32 with
    | false => rw [hf] at h; cases h
    | true =>
      rw [hf] at h
      simp only [cond_true] at h
      have := Nat.eq_of_beq_eq_true hf
      subst this
      split at h
      · rename_i k hk
        cases h
        exact ⟨a, b, l, k, rfl, hk, rfl⟩
      · cases h
  · cases h
/-! Boxes -/
def Simple (s : SV) : Prop := (∃ v, s = .val v) ∨ ∃ a b, s = .xs [a, b]
theorem Simple.ok [XEnv] {s : SV} (h : Simple s) (mem : Mem) : s.ok mem := by
  rcases h with ⟨v, rfl⟩ | ⟨a, b, rfl⟩
  · exact ok_val _ _
  · exact ok_xs
theorem Simple.den {M : Nat → Mo} {bx bx' : Nat → XR} {s : SV} (h : Simple s) (m m' : Nat → Nat) : @SV.den (rowsB M bx') m' s = @SV.den (rowsB M bx) m s := by
  rcases h with ⟨v, rfl⟩ | ⟨a, b, rfl⟩
  · rw [@den_val (rowsB M bx'), @den_val (rowsB M bx)]
  · rw [@den_xs (rowsB M bx'), @den_xs (rowsB M bx)]
    rfl
theorem simple_sh (cl : Int) (p : V) (x : Bool) (a b : Nat) : ∀ s ∈ shCells cl p x [a, b], Simple s := by
  intro s hs
  simp only [shCells, List.mem_cons, List.not_mem_nil, or_false] at hs
  rcases hs with rfl | rfl | rfl | rfl | rfl | rfl | rfl | rfl <;> first | exact .inl ⟨_, rfl⟩ | exact .inr ⟨_, _, rfl⟩
theorem simple_key (k : K) : ∀ s ∈ [SV.val (.string k.s), SV.val (.int .i64 k.n)], Simple s := by
  intro s hs
  simp only [List.mem_cons, List.not_mem_nil, or_false] at hs
  rcases hs with rfl | rfl <;> exact .inl ⟨_, rfl⟩
theorem simple_pr (q : Pr) : ∀ s ∈ q.cells, Simple s := by
  intro s hs
  simp only [Pr.cells, List.mem_cons, List.not_mem_nil, or_false] at hs
  rcases hs with rfl | rfl | rfl | rfl | rfl | rfl | rfl | rfl | rfl | rfl | rfl | rfl | rfl | rfl | rfl | rfl | rfl | rfl | rfl | rfl <;> exact .inl ⟨_, rfl⟩
theorem xrow_env {M : Nat → Mo} {bx bx' : Nat → XR} {w : World} {x : XR} (hs : ∀ j, ∀ s ∈ x.g j, Simple s) (h : @XRow (rowsB M bx) w x) : @XRow (rowsB M bx') w x := by
  intro j hj
  obtain ⟨h1, h2, a, h3, h4, h5⟩ := h j hj
  refine ⟨h1, fun s hm mem => @Simple.ok (rowsB M bx') _ (hs j s hm) mem, a, h3, h4, fun k s hk m => ?_⟩
  rw [h5 k s hk m, (hs j s (List.mem_of_getElem? hk)).den]
theorem xok_box {M : Nat → Mo} {bx bx' : Nat → XR} {w : World} (h : @XOk (rowsB M bx) w) (hb : ∀ x, @XRow (rowsB M bx') w (bx' x)) : @XOk (rowsB M bx') w := by
  intro r
  match r with
  | [k] => exact xrow_env (fun j => simple_sh _ _ _ _ _) (h [k])
  | [k, j] => exact xrow_env (fun i => simple_pr _) (h [k, j])
  | [] => exact hb 0
  | x :: _ :: _ :: _ => exact hb x
theorem box_row {M : Nat → Mo} {bx bx' : Nat → XR} {w0 w : World} {m : Nat → Nat} {mem : Mem} {q : Nat} {blk : Blk} (hm : @MR (rowsB M bx) w0 m mem w) (hq : mem q = some blk) (hs : ∀ s ∈ blk.cells, Simple s) :
    @XRow (rowsB M bx') w ⟨some ⟨m q, 0, none⟩, blk.cells.length, 1, 1, fun _ => blk.cells⟩ := by
  obtain ⟨h1, h2, h3⟩ := @MR.blk (rowsB M bx) _ _ _ _ hm q blk hq
  intro j hj
  have hj : j < 1 := hj
  obtain rfl : j = 0 := by omega
  refine ⟨rfl, fun s hm mem => @Simple.ok (rowsB M bx') _ (hs s hm) mem, _, rfl, (Array.getElem?_eq_some_iff.1 h2).1, fun k s hk m' => ?_⟩
  have hk : blk.cells[k]? = some s := hk
  rw [add_none, cell_of_row w (m q) _ _ blk.ty (0, 0) h2, (hs s (List.mem_of_getElem? hk)).den (bx := bx) m m']
  simp [hk]
namespace S
def sameP (a b : Sh) : Bool := bif (a.n : Int) != (b.n : Int) then false else (seek (fun i => bif keq (a.g i).k (b.g i).k && alikeC (a.g i).d (b.g i).d then none else some false) a.n 0).getD true
def sameSh (a b : Sh) : Bool := a.cl == b.cl && (eqC a.p b.p && (a.x == b.x && sameP a b))
end S
def onFS (n : Nat) (f : Nat → Nat → Nat → Nat → DT SV) : List SV → Option (DT SV)
  | [.xs [a, b], .xs [c, d], s] => bif isFn s n then some (f a b c d) else none
  | _ => none
theorem onFS_eq {n : Nat} {f : Nat → Nat → Nat → Nat → DT SV} {l : List SV} {t : DT SV} (h : onFS n f l = some t) : ∃ a b c d, l = [.xs [a, b], .xs [c, d], fnv n] ∧ t = f a b c d := by
  unfold onFS at h
  split at h
  · rename_i a b c d s
    cases hf : isFn s n with
    | true =>
      rw [hf] at h
      simp only [cond_true, Option.some.injEq] at h
      exact ⟨a, b, c, d, by rw [isFn_eq hf], h.symm⟩
    | false => rw [hf] at h; cases h
  · cases h
abbrev LB (b : Bool) : DT SV := .leaf (.val (.bool b))
abbrev LI (i : Int) : DT SV := .leaf (.val (.int .i64 i))
noncomputable def bodyOf (fn : Func) : List Code := flat (fn.body.getD .skip)
/-- A contract that asks nothing of memory. -/
abbrev noMem (g : List SV → Option (DT SV)) : List SV → Mem → Option (DT SV) := fun args _ => g args
/-! Words for rounds -/
theorem dlt {i n : Nat} (h : i < n) : decide ((i : Int) < (n : Int)) = true := decide_eq_true (by omega)
theorem dge (i : Nat) : decide (0 ≤ (i : Int)) = true := decide_eq_true (by omega)
theorem dnl (n : Nat) : decide ((n : Int) < (n : Int)) = false := decide_eq_false (by omega)
theorem wr {i n : Nat} (h : i < n) (hn : (n : Int) ≤ 9223372036854775807) : IntKind.i64.wrap ((i : Int) + 1) = ((i + 1 : Nat) : Int) := by rw [IntKind.wrap_i64]; omega
theorem cnd_and {α : Type} (a b : Bool) (x y : α) : (bif a && b then x else y) = bif a then (bif b then x else y) else y := by cases a <;> rfl
theorem cnd_or {α : Type} (a b : Bool) (x y : α) : (bif a || b then x else y) = bif a then x else (bif b then x else y) := by cases a <;> rfl
theorem cnd_not {α : Type} (a : Bool) (x y : α) : (bif !a then x else y) = bif a then y else x := by cases a <;> rfl
theorem some_cond {α : Type} (c : Bool) (x y : α) : some (bif c then x else y) = bif c then some x else some y := by cases c <;> rfl
theorem map_cond {α β : Type} (f : α → β) (c : Bool) (x y : Option α) : Option.map f (bif c then x else y) = bif c then Option.map f x else Option.map f y := by cases c <;> rfl
theorem toR_cond (d : Cut) (c : Bool) (x y : Option SV) : toR d (bif c then x else y) = bif c then toR d x else toR d y := by cases c <;> rfl
theorem toR_some (d : Cut) (x : SV) : toR d (some x) = .ret x := rfl
theorem toR_none (d : Cut) : toR d none = .cut .normal d := rfl
/-! What stands -/
def Inv (M : Nat → Mo) (bx : Nat → XR) (w : World) : Prop := Tabs w ∧ @XOk (rowsB M bx) w
theorem inv_stable (M : Nat → Mo) (bx : Nat → XR) : Stable (Inv M bx) := fun w w' h hb => ⟨tabs_stable _ _ h.1 hb, @XOk.below (rowsB M bx) _ _ h.2 hb⟩
abbrev Ent (M : Nat → Mo) (bx : Nat → XR) (p : Nat × (List SV → Mem → Option (DT SV))) : Prop := @EntryS (rowsB M bx) Try.prog (Inv M bx) p
theorem ctxB (M : Nat → Mo) (bx : Nat → XR) {LA : Tab} (hA : ∀ p ∈ LA, E p) {LS : TabS} (h : ∀ p ∈ LS, Ent M bx p) : @Ctx (rowsB M bx) Try.prog ext (tab2 LA LS) (Inv M bx) :=
  letI := rowsB M bx
  ⟨mixed, ext_sound, inv_stable M bx, fun _ h => h.2, tab2_sound (fun p hp => (hA p hp).mono (J := Inv M bx) fun w h => h.1) h⟩
theorem retPre [XEnv] {P : Program} {X : ExtFn} {G : GFn} {I : World → Prop} {N : Nat} {fn : Func} {v : SV} {fs : List Fr} {l : List Code} {st : St} {k : Nat} {ts bs : List Nat} {next : Nat} (C : Ctx P X G I) (hl : hasLoop l = true)
    (h : evK P X G k N (seqL (preOf l)) st (grab P fn ts bs next) = some (.ret v)) : Runs P I N fn v fs l st := by
  rw [split_loop l hl]
  exact Runs.app (Runs.ret C h)
theorem entsS_nil {M : Nat → Mo} {bx : Nat → XR} : ∀ p ∈ ([] : TabS), Ent M bx p := fun p hp => (by cases hp)
theorem entsS_cons {M : Nat → Mo} {bx : Nat → XR} {q} {l : TabS} (h : Ent M bx q) (hl : ∀ p ∈ l, Ent M bx p) : ∀ p ∈ q :: l, Ent M bx p := fun p hp => by
  rcases List.mem_cons.1 hp with rfl | hp
  · exact h
  · exact hl p hp
theorem ok_sa [XEnv] (q : SA) (mem : Mem) : q.sv.ok mem := by
  show (SV.arr (shCells _ _ _ _)).ok mem
  rw [ok_arr]
  intro x hx
  simp only [shCells, List.mem_cons, List.not_mem_nil, or_false] at hx
  rcases hx with rfl | rfl | rfl | rfl | rfl | rfl | rfl | rfl <;> first | exact ok_val _ _ | exact ok_xs
end Go.Proofs.Ytaojjpdlfnphiaa.PDescKinds
end
section
/- Moments: functions with one loop, piece by piece. Written by a program of this session. -/
set_option linter.unusedSimpArgs false
set_option linter.unusedVariables false
set_option linter.unusedSectionVars false
namespace Go.Proofs.Ytaojjpdlfnphiaa.PDescKinds
open Go.RowKit Go.Ev
set_option maxRecDepth 100000 in
theorem find48_pre (M : Nat → Mo) (bx : Nat → XR) (a b : Nat) (k : K) : letI := rowsB M bx
    evK Try.prog ext (tab2 AL []) 80 20 (seqL (preOf (bodyOf Try.f17))) (⟨argS [.xs [a, b], .val k.agg], fun _ => none, 0⟩) (grab Try.prog Try.f17 [0, 3, 5] [0] 1) =
    some (Res.cut Ex.normal (Cut.mk [(0, SV.xs [a, b]), (3, SV.ptr 0 0), (5, SV.val (Value.int IntKind.i64 0))] [(0, Blk.mk 30 [SV.val (Value.string k.s), SV.val (Value.int IntKind.i64 k.n)])])) := by kernel_rfl
set_option maxRecDepth 100000 in
theorem find48_round (M : Nat → Mo) (bx : Nat → XR) (a b : Nat) (k : K) (i : Nat) : letI := rowsB M bx
    evK Try.prog ext (tab2 AL []) 80 20 (seqL (flat (roundOf (bodyOf Try.f17)))) ((⟨[(0, .xs [a, b]), (3, .ptr 0 0), (5, .val (.int .i64 (i : Int)))], [(0, ⟨30, [.val (.string k.s), .val (.int .i64 k.n)]⟩)]⟩ : Cut).st 1) (grab Try.prog Try.f17 [0, 3, 5] [0] 1) =
    (bif decide ((↑i : Int) < (↑((M a).g b).n : Int)) then 
     (bif decide (0 ≤ (↑i : Int)) && decide ((↑i : Int) < (↑((M a).g b).n : Int)) then 
      (bif (((M a).g b).g i).k.s == k.s && ((((M a).g b).g i).k.n == k.n && true) then some (Res.ret (SV.val (Value.int IntKind.i64 (↑i : Int)))) else some (Res.cut Ex.normal (Cut.mk [(0, SV.xs [a, b]), (3, SV.ptr 0 0), (5, SV.val (Value.int IntKind.i64 (IntKind.i64.wrap ((↑i : Int) + 1))))] [(0, Blk.mk 30 [SV.val (Value.string k.s), SV.val (Value.int IntKind.i64 k.n)])]))) else none) else some (Res.cut (Ex.exit 0) (Cut.mk [(0, SV.xs [a, b]), (3, SV.ptr 0 0), (5, SV.val (Value.int IntKind.i64 (↑i : Int)))] [(0, Blk.mk 30 [SV.val (Value.string k.s), SV.val (Value.int IntKind.i64 k.n)])]))) := by kernel_rfl
set_option maxRecDepth 100000 in
theorem find48_post (M : Nat → Mo) (bx : Nat → XR) (a b : Nat) (k : K) (i : Nat) : letI := rowsB M bx
    evK Try.prog ext (tab2 AL []) 80 20 (seqL (postOf (bodyOf Try.f17))) ((⟨[(0, .xs [a, b]), (3, .ptr 0 0), (5, .val (.int .i64 (i : Int)))], [(0, ⟨30, [.val (.string k.s), .val (.int .i64 k.n)]⟩)]⟩ : Cut).st 1) (grab Try.prog Try.f17 [0, 3, 5] [0] 1) =
    some (Res.ret (SV.val (Value.int IntKind.i64 (-1)))) := by kernel_rfl
set_option maxRecDepth 100000 in
theorem run_find48 (M : Nat → Mo) (bx : Nat → XR) (hM : Fit M) (a b : Nat) (k : K) : letI := rowsB M bx
    Runs Try.prog (Inv M bx) 20 Try.f17 ((fun x : Int => SV.val (.int .i64 x)) ((seek (fun i => bif S.keq (((M a).g b).g i).k k then some (i : Int) else none) (((M a).g b).n) 0).getD (-1))) [] (bodyOf Try.f17) (⟨argS [.xs [a, b], .val k.agg], fun _ => none, 0⟩) := by
  letI := rowsB M bx
  have C := ctxB M bx entsAL entsS_nil
  refine Runs.seekFn C (n := ((M a).g b).n) (p := fun i => bif S.keq (((M a).g b).g i).k k then some (i : Int) else none) (f := (fun x : Int => SV.val (.int .i64 x))) (z := (-1)) (hd := fun i => (⟨[(0, .xs [a, b]), (3, .ptr 0 0), (5, .val (.int .i64 (i : Int)))], [(0, ⟨30, [.val (.string k.s), .val (.int .i64 k.n)]⟩)]⟩ : Cut)) (c' := (fun i : Nat => (⟨[(0, .xs [a, b]), (3, .ptr 0 0), (5, .val (.int .i64 (i : Int)))], [(0, ⟨30, [.val (.string k.s), .val (.int .i64 k.n)]⟩)]⟩ : Cut)) (((M a).g b).n)) (by kernel_rfl) (find48_pre M bx a b k) (fun i hi => ?_) ?_ (fun _ => Runs.ret C (find48_post M bx a b k (((M a).g b).n)))
  · refine (find48_round M bx a b k i).trans ?_
    simp only [dlt hi, dge, wr hi ((hM a).2 b), cond_true, cond_false, Bool.and_self, Bool.true_and, map_cond, toR_cond, some_cond, Option.map_some, Option.map_none, toR_some, toR_none, cnd_and, cnd_or, cnd_not, S.keq, S.eqC, S.alikeC]
    first | done | rfl
  · refine (find48_round M bx a b k (((M a).g b).n)).trans ?_
    simp only [dnl, cond_false]
    rfl
theorem ent_find48 (M : Nat → Mo) (bx : Nat → XR) (hM : Fit M) : Ent M bx (17, noMem (onPK fun a b k => LI (S.find ((M a).g b) k))) := by
  letI := rowsB M bx
  refine EntryS.of (fun args t v h1 h2 => ?_) (inv_stable M bx)
  obtain ⟨a, b, k, rfl, rfl⟩ := onPK_eq h1
  cases h2
  refine ⟨ok_val _ _, ?_, fun w m hI => Runs.calls (body := Try.f17.body.getD .skip) Try.func17 (by kernel_rfl) (by kernel_rfl) ?_ (run_find48 M bx hM a b k) w hI m⟩ <;>
  · intro x hx
    simp only [List.mem_cons, List.not_mem_nil, or_false] at hx
    rcases hx with rfl | rfl <;> first | exact ok_val _ _ | exact ok_xs
set_option maxRecDepth 100000 in
theorem idx119_pre (M : Nat → Mo) (bx : Nat → XR) (a b : Nat) (k : K) : letI := rowsB M (fun _ => ⟨(bx 0).A, 2, 1, 1, fun _ => [.val (.string k.s), .val (.int .i64 k.n)]⟩)
    evK Try.prog ext (tab2 AL []) 80 19 (seqL (preOf (bodyOf Try.f31))) (⟨argS [.xs [a, b], .fn 32 [.xp [0, 0, 0] 0 0]], fun _ => none, 0⟩) (grab Try.prog Try.f31 [0, 1, 7, 8] [] 0) =
    some (Res.cut Ex.normal (Cut.mk [(0, SV.xs [a, b]), (1, SV.fn 32 [SV.xp [0, 0, 0] 0 0]), (7, SV.val (Value.int IntKind.i64 (↑((M a).g b).n : Int))), (8, SV.val (Value.int IntKind.i64 0))] [])) := by kernel_rfl
set_option maxRecDepth 100000 in
theorem idx119_round (M : Nat → Mo) (bx : Nat → XR) (a b : Nat) (k : K) (i : Nat) : letI := rowsB M (fun _ => ⟨(bx 0).A, 2, 1, 1, fun _ => [.val (.string k.s), .val (.int .i64 k.n)]⟩)
    evK Try.prog ext (tab2 AL []) 80 19 (seqL (flat (roundOf (bodyOf Try.f31)))) ((⟨[(0, .xs [a, b]), (1, .fn 32 [.xp [0, 0, 0] 0 0]), (7, .val (.int .i64 ((M a).g b).n)), (8, .val (.int .i64 (i : Int)))], []⟩ : Cut).st 0) (grab Try.prog Try.f31 [0, 1, 7, 8] [] 0) =
    (bif decide ((↑i : Int) < (↑((M a).g b).n : Int)) then 
     (bif decide (0 ≤ (↑i : Int)) && decide ((↑i : Int) < (↑((M a).g b).n : Int)) then 
      (bif (((M a).g b).g i).k.s == k.s && ((((M a).g b).g i).k.n == k.n && true) then some (Res.ret (SV.val (Value.int IntKind.i64 (↑i : Int)))) else some (Res.cut Ex.normal (Cut.mk [(0, SV.xs [a, b]), (1, SV.fn 32 [SV.xp [0, 0, 0] 0 0]), (7, SV.val (Value.int IntKind.i64 (↑((M a).g b).n : Int))), (8, SV.val (Value.int IntKind.i64 (IntKind.i64.wrap ((↑i : Int) + 1))))] []))) else none) else some (Res.cut (Ex.exit 0) (Cut.mk [(0, SV.xs [a, b]), (1, SV.fn 32 [SV.xp [0, 0, 0] 0 0]), (7, SV.val (Value.int IntKind.i64 (↑((M a).g b).n : Int))), (8, SV.val (Value.int IntKind.i64 (↑i : Int)))] []))) := by kernel_rfl
set_option maxRecDepth 100000 in
theorem idx119_post (M : Nat → Mo) (bx : Nat → XR) (a b : Nat) (k : K) (i : Nat) : letI := rowsB M (fun _ => ⟨(bx 0).A, 2, 1, 1, fun _ => [.val (.string k.s), .val (.int .i64 k.n)]⟩)
    evK Try.prog ext (tab2 AL []) 80 19 (seqL (postOf (bodyOf Try.f31))) ((⟨[(0, .xs [a, b]), (1, .fn 32 [.xp [0, 0, 0] 0 0]), (7, .val (.int .i64 ((M a).g b).n)), (8, .val (.int .i64 (i : Int)))], []⟩ : Cut).st 0) (grab Try.prog Try.f31 [0, 1, 7, 8] [] 0) =
    some (Res.ret (SV.val (Value.int IntKind.i64 (-1)))) := by kernel_rfl
set_option maxRecDepth 100000 in
theorem run_idx119 (M : Nat → Mo) (bx : Nat → XR) (hM : Fit M) (a b : Nat) (k : K) : letI := rowsB M (fun _ => ⟨(bx 0).A, 2, 1, 1, fun _ => [.val (.string k.s), .val (.int .i64 k.n)]⟩)
    Runs Try.prog (Inv M (fun _ => ⟨(bx 0).A, 2, 1, 1, fun _ => [.val (.string k.s), .val (.int .i64 k.n)]⟩)) 19 Try.f31 ((fun x : Int => SV.val (.int .i64 x)) ((seek (fun i => bif S.keq (((M a).g b).g i).k k then some (i : Int) else none) (((M a).g b).n) 0).getD (-1))) [] (bodyOf Try.f31) (⟨argS [.xs [a, b], .fn 32 [.xp [0, 0, 0] 0 0]], fun _ => none, 0⟩) := by
  letI := rowsB M (fun _ => ⟨(bx 0).A, 2, 1, 1, fun _ => [.val (.string k.s), .val (.int .i64 k.n)]⟩)
  have C := ctxB M (fun _ => ⟨(bx 0).A, 2, 1, 1, fun _ => [.val (.string k.s), .val (.int .i64 k.n)]⟩) entsAL entsS_nil
  refine Runs.seekFn C (n := ((M a).g b).n) (p := fun i => bif S.keq (((M a).g b).g i).k k then some (i : Int) else none) (f := (fun x : Int => SV.val (.int .i64 x))) (z := (-1)) (hd := fun i => (⟨[(0, .xs [a, b]), (1, .fn 32 [.xp [0, 0, 0] 0 0]), (7, .val (.int .i64 ((M a).g b).n)), (8, .val (.int .i64 (i : Int)))], []⟩ : Cut)) (c' := (fun i : Nat => (⟨[(0, .xs [a, b]), (1, .fn 32 [.xp [0, 0, 0] 0 0]), (7, .val (.int .i64 ((M a).g b).n)), (8, .val (.int .i64 (i : Int)))], []⟩ : Cut)) (((M a).g b).n)) (by kernel_rfl) (idx119_pre M bx a b k) (fun i hi => ?_) ?_ (fun _ => Runs.ret C (idx119_post M bx a b k (((M a).g b).n)))
  · refine (idx119_round M bx a b k i).trans ?_
    simp only [dlt hi, dge, wr hi ((hM a).2 b), cond_true, cond_false, Bool.and_self, Bool.true_and, map_cond, toR_cond, some_cond, Option.map_some, Option.map_none, toR_some, toR_none, cnd_and, cnd_or, cnd_not, S.keq, S.eqC, S.alikeC]
    first | done | rfl
  · refine (idx119_round M bx a b k (((M a).g b).n)).trans ?_
    simp only [dnl, cond_false]
    rfl
theorem ent_idxA (M : Nat → Mo) (bx : Nat → XR) (hM : Fit M) : Ent M bx (31, idxA M) := by
  letI := rowsB M bx
  intro args mem t v h1 h2 hok
  obtain ⟨a, b, l, k, rfl, hk, rfl⟩ := idxA_eq h1
  obtain ⟨q, blk, rfl, hq, hc⟩ := keyAt_eq hk
  cases h2
  refine ⟨ok_val _ _, fun w0 m w hI hm => ?_⟩
  · have hw : Inv M bx w := inv_stable M bx _ _ hI hm.below
    have hw' : Inv M (fun _ => ⟨some ⟨m q, 0, none⟩, 2, 1, 1, fun _ => [.val (.string k.s), .val (.int .i64 k.n)]⟩) w := ⟨hw.1, xok_box hw.2 (fun _ => by
      have := box_row (bx' := (fun _ => ⟨some ⟨m q, 0, none⟩, 2, 1, 1, fun _ => [.val (.string k.s), .val (.int .i64 k.n)]⟩)) hm hq (by rw [hc]; exact simple_key k)
      rw [hc] at this
      exact this)⟩
    have := @Runs.calls (rowsB M (fun _ => ⟨some ⟨m q, 0, none⟩, 2, 1, 1, fun _ => [.val (.string k.s), .val (.int .i64 k.n)]⟩)) Try.prog (Inv M (fun _ => ⟨some ⟨m q, 0, none⟩, 2, 1, 1, fun _ => [.val (.string k.s), .val (.int .i64 k.n)]⟩)) 19 Try.f31 _ 31 (Try.f31.body.getD .skip) [.xs [a, b], .fn 32 [.xp [0, 0, 0] 0 0]] Try.func31 (by kernel_rfl) (by kernel_rfl) (by
      letI := rowsB M (fun _ => ⟨some ⟨m q, 0, none⟩, 2, 1, 1, fun _ => [.val (.string k.s), .val (.int .i64 k.n)]⟩)
      intro x hx
      simp only [List.mem_cons, List.not_mem_nil, or_false] at hx
      rcases hx with rfl | rfl
      · exact ok_xs
      · exact ok_fn.2 (fun c hc => by
          simp only [List.mem_cons, List.not_mem_nil, or_false] at hc
          subst hc
          exact ok_xp.2 (show 0 < 1 by decide))) (run_idx119 M (fun _ => ⟨some ⟨m q, 0, none⟩, 2, 1, 1, fun _ => [.val (.string k.s), .val (.int .i64 k.n)]⟩) hM a b k) w hw' m
    have hargs : (List.map (@SV.den (rowsB M (fun _ => ⟨some ⟨m q, 0, none⟩, 2, 1, 1, fun _ => [.val (.string k.s), .val (.int .i64 k.n)]⟩)) m) [SV.xs [a, b], SV.fn 32 [SV.xp [0, 0, 0] 0 0]]) = (List.map (@SV.den (rowsB M bx) m) [SV.xs [a, b], SV.fn 32 [SV.ptr q 0]]) := by
      simp only [List.map_cons, List.map_nil, @den_xs (rowsB M (fun _ => ⟨some ⟨m q, 0, none⟩, 2, 1, 1, fun _ => [.val (.string k.s), .val (.int .i64 k.n)]⟩)), @den_xs (rowsB M bx), @den_fn (rowsB M (fun _ => ⟨some ⟨m q, 0, none⟩, 2, 1, 1, fun _ => [.val (.string k.s), .val (.int .i64 k.n)]⟩)), @den_fn (rowsB M bx), @den_xp (rowsB M (fun _ => ⟨some ⟨m q, 0, none⟩, 2, 1, 1, fun _ => [.val (.string k.s), .val (.int .i64 k.n)]⟩)), @den_ptr (rowsB M bx)]
      rfl
    rw [hargs] at this
    refine Calls.mono this fun e w' ⟨⟨m', he⟩, hb⟩ => ⟨?_, hb⟩
    rw [he, @den_val (rowsB M (fun _ => ⟨some ⟨m q, 0, none⟩, 2, 1, 1, fun _ => [.val (.string k.s), .val (.int .i64 k.n)]⟩)), @den_val (rowsB M bx)]
    rfl
set_option maxRecDepth 100000 in
theorem idx83_post (M : Nat → Mo) (bx : Nat → XR) (a b : Nat) (i : Nat) : letI := rowsB M bx
    evK Try.prog ext (tab2 AL []) 80 19 (seqL (postOf (bodyOf Try.f31))) ((⟨[(0, .xs [a, b]), (1, fnv 83), (7, .val (.int .i64 ((M a).g b).n)), (8, .val (.int .i64 (i : Int)))], []⟩ : Cut).st 0) (grab Try.prog Try.f31 [0, 1, 7, 8] [] 0) =
    some (Res.ret (SV.val (Value.int IntKind.i64 (-1)))) := by kernel_rfl
set_option maxRecDepth 100000 in
theorem idx84_post (M : Nat → Mo) (bx : Nat → XR) (a b : Nat) (i : Nat) : letI := rowsB M bx
    evK Try.prog ext (tab2 AL []) 80 19 (seqL (postOf (bodyOf Try.f31))) ((⟨[(0, .xs [a, b]), (1, fnv 84), (7, .val (.int .i64 ((M a).g b).n)), (8, .val (.int .i64 (i : Int)))], []⟩ : Cut).st 0) (grab Try.prog Try.f31 [0, 1, 7, 8] [] 0) =
    some (Res.ret (SV.val (Value.int IntKind.i64 (-1)))) := by kernel_rfl
end Go.Proofs.Ytaojjpdlfnphiaa.PDescKinds
end
section
/- Contracts by evaluation: what each function of a list answers. Written by a program of this session. -/
namespace Go.Proofs.Ytaojjpdlfnphiaa.PDescKinds
open Go.RowKit Go.Ev
set_option linter.unusedSimpArgs false
set_option linter.unusedVariables false
set_option maxRecDepth 100000
abbrev BvL0 : Tab := AL
theorem Bvents0 : ∀ p ∈ BvL0, E p := entsAL
set_option maxHeartbeats 4000000 in
theorem ev_num2 (a b : Nat) : evFn Try.prog ext (tab BvL0) 40 27 [.float .f64 a, .float .f64 b] = (T.num2 a b).val :=
  Eq.trans (b := 
    (bif decide (IntKind.u64.wrap (↑(BitVec.ofInt IntKind.u64.bits (↑a : Int) &&& ~~~BitVec.ofInt IntKind.u64.bits 9223372036854775808).toNat : Int) > 9218868437227405312) then 
     (bif decide (IntKind.u64.wrap (↑(BitVec.ofInt IntKind.u64.bits (↑b : Int) &&& ~~~BitVec.ofInt IntKind.u64.bits 9223372036854775808).toNat : Int) > 9218868437227405312) then some (Value.bool true) else some (Value.bool ((↑a : Int) == (↑b : Int)))) else some (Value.bool ((↑a : Int) == (↑b : Int))))) (by kernel_rfl) (by
    simp only [T.num2, T.B, DT.val_node, DT.val_leaf, DT.bind, DT.val_bad]
    repeat' (with_reducible refine bif_eq (fun h => ?_) (fun h => ?_))
    all_goals first | (simp only [*, R.num2, R.big, cond_true, cond_false, Bool.and_true, Bool.true_and, Bool.and_false, Bool.false_and, Bool.or_true, Bool.true_or, Bool.or_false, Bool.false_or]; done) | (simp_all [R.num2, R.big]; done) | grind [R.num2, R.big])
theorem ent_num2 : E (27, onFF T.num2) := byEv Bvents0 40 fun args t h => by
  obtain ⟨a, b, rfl, rfl⟩ := onFF_eq h
  exact ev_num2 a b
abbrev BvL1 : Tab := (27, onFF T.num2) :: BvL0
theorem Bvents1 : ∀ p ∈ BvL1, E p := entries_cons ent_num2 Bvents0
set_option maxHeartbeats 4000000 in
theorem ev_eqC (a b : V) : evFn Try.prog ext (tab BvL1) 40 28 [a.agg, b.agg] = (T.eqC a b).val :=
  Eq.trans (b := 
    (bif a.k == b.k then 
     (bif a.b == b.b then 
      (bif a.s.toList == b.s.toList then 
       (bif a.id == b.id then some (Value.bool (S.numSame a.n b.n)) else some (Value.bool false)) else some (Value.bool false)) else some (Value.bool false)) else some (Value.bool false))) (by kernel_rfl) (by
    simp only [T.eqC, T.B, DT.val_node, DT.val_leaf, DT.bind, DT.val_bad]
    repeat' (with_reducible refine bif_eq (fun h => ?_) (fun h => ?_))
    all_goals first | (simp only [*, S.eqC, cond_true, cond_false, Bool.and_true, Bool.true_and, Bool.and_false, Bool.false_and, Bool.or_true, Bool.true_or, Bool.or_false, Bool.false_or]; done) | (simp_all [S.eqC]; done) | grind [S.eqC])
theorem ent_eqC : E (28, onVV T.eqC) := byEv Bvents1 40 fun args t h => by
  obtain ⟨a, b, rfl, rfl⟩ := onVV_eq h
  exact ev_eqC a b
abbrev BvL2 : Tab := (28, onVV T.eqC) :: BvL1
theorem Bvents2 : ∀ p ∈ BvL2, E p := entries_cons ent_eqC Bvents1
set_option maxHeartbeats 4000000 in
theorem ev_alikeC (a b : D) : evFn Try.prog ext (tab BvL2) 40 30 [a.agg, b.agg] = (T.alikeC a b).val :=
  Eq.trans (b := 
    (bif S.eqC a.v b.v then 
     (bif S.eqC a.g b.g then 
      (bif S.eqC a.t b.t then 
       (bif a.w == b.w then 
        (bif a.e == b.e then some (Value.bool (a.c == b.c)) else some (Value.bool false)) else some (Value.bool false)) else some (Value.bool false)) else some (Value.bool false)) else some (Value.bool false))) (by kernel_rfl) (by
    simp only [T.alikeC, T.B, DT.val_node, DT.val_leaf, DT.bind, DT.val_bad]
    repeat' (with_reducible refine bif_eq (fun h => ?_) (fun h => ?_))
    all_goals first | (simp only [*, S.alikeC, cond_true, cond_false, Bool.and_true, Bool.true_and, Bool.and_false, Bool.false_and, Bool.or_true, Bool.true_or, Bool.or_false, Bool.false_or]; done) | (simp_all [S.alikeC]; done) | grind [S.alikeC])
theorem ent_alikeC : E (30, onDD T.alikeC) := byEv Bvents2 40 fun args t h => by
  obtain ⟨a, b, rfl, rfl⟩ := onDD_eq h
  exact ev_alikeC a b
abbrev BvL3 : Tab := (30, onDD T.alikeC) :: BvL2
theorem Bvents3 : ∀ p ∈ BvL3, E p := entries_cons ent_alikeC Bvents2
set_option maxHeartbeats 4000000 in
theorem ev_eqR (a b : V) : evFn Try.prog ext (tab BvL3) 40 19 [a.agg, b.agg] = (T.eqR a b).val :=
  Eq.trans (b := 
    (bif a.k == b.k then 
     (bif a.b == b.b then 
      (bif a.s.toList == b.s.toList then 
       (bif a.id == b.id then some (Value.bool (R.num2 a.n b.n)) else some (Value.bool false)) else some (Value.bool false)) else some (Value.bool false)) else some (Value.bool false))) (by kernel_rfl) (by
    simp only [T.eqR, T.B, DT.val_node, DT.val_leaf, DT.bind, DT.val_bad]
    repeat' (with_reducible refine bif_eq (fun h => ?_) (fun h => ?_))
    all_goals first | (simp only [*, R.eqR, cond_true, cond_false, Bool.and_true, Bool.true_and, Bool.and_false, Bool.false_and, Bool.or_true, Bool.true_or, Bool.or_false, Bool.false_or]; done) | (simp_all [R.eqR]; done) | grind [R.eqR])
theorem ent_eqR : E (19, onVV T.eqR) := byEv Bvents3 40 fun args t h => by
  obtain ⟨a, b, rfl, rfl⟩ := onVV_eq h
  exact ev_eqR a b
abbrev BvL4 : Tab := (19, onVV T.eqR) :: BvL3
theorem Bvents4 : ∀ p ∈ BvL4, E p := entries_cons ent_eqR Bvents3
set_option maxHeartbeats 4000000 in
theorem ev_eqDR (a b : D) : evFn Try.prog ext (tab BvL4) 40 20 [a.agg, b.agg] = (T.eqDR a b).val :=
  Eq.trans (b := 
    (bif R.eqR a.v b.v then 
     (bif R.eqR a.g b.g then 
      (bif R.eqR a.t b.t then 
       (bif a.w == b.w then 
        (bif a.e == b.e then some (Value.bool (a.c == b.c)) else some (Value.bool false)) else some (Value.bool false)) else some (Value.bool false)) else some (Value.bool false)) else some (Value.bool false))) (by kernel_rfl) (by
    simp only [T.eqDR, T.B, DT.val_node, DT.val_leaf, DT.bind, DT.val_bad]
    repeat' (with_reducible refine bif_eq (fun h => ?_) (fun h => ?_))
    all_goals first | (simp only [*, R.eqDR, cond_true, cond_false, Bool.and_true, Bool.true_and, Bool.and_false, Bool.false_and, Bool.or_true, Bool.true_or, Bool.or_false, Bool.false_or]; done) | (simp_all [R.eqDR]; done) | grind [R.eqDR])
theorem ent_eqDR : E (20, onDD T.eqDR) := byEv Bvents4 40 fun args t h => by
  obtain ⟨a, b, rfl, rfl⟩ := onDD_eq h
  exact ev_eqDR a b
abbrev BvL5 : Tab := (20, onDD T.eqDR) :: BvL4
theorem Bvents5 : ∀ p ∈ BvL5, E p := entries_cons ent_eqDR Bvents4
end Go.Proofs.Ytaojjpdlfnphiaa.PDescKinds
end
section
/- Moments: functions with one loop, piece by piece. Written by a program of this session. -/
set_option linter.unusedSimpArgs false
set_option linter.unusedVariables false
set_option linter.unusedSectionVars false
namespace Go.Proofs.Ytaojjpdlfnphiaa.PDescKinds
open Go.RowKit Go.Ev
namespace R
def sameSh (a b : Sh) : Bool := bif a.cl != b.cl || (!eqR a.p b.p || (!(a.x == b.x) || (a.n : Int) != (b.n : Int))) then false else
  (seek (fun i => bif !S.keq (a.g i).k (b.g i).k || !eqDR (a.g i).d (b.g i).d then some false else none) a.n 0).getD true
def sameM (a b : Mo) : Bool := bif (a.n : Int) != (b.n : Int) then false else (seek (fun i => bif !sameSh (a.g i) (b.g i) then some false else none) a.n 0).getD true
end R
theorem eq_of_bne {m n : Nat} (h : ((m : Int) != (n : Int)) = false) : m = n := by
  rw [bne_eq_false_iff_eq] at h
  omega
theorem sh_guard {a b c : Bool} {m n : Nat} (h : (a || (b || (c || (m : Int) != (n : Int)))) = false) : m = n := by
  simp only [Bool.or_eq_false_iff] at h
  exact eq_of_bne h.2.2.2
set_option maxRecDepth 100000 in
theorem sameSh81_pre (M : Nat → Mo) (bx : Nat → XR) (q r : SA) : letI := rowsB M bx
    evK Try.prog ext (tab2 BvL5 []) 80 71 (seqL (preOf (bodyOf Try.f18))) (⟨argS [q.sv, r.sv], fun _ => none, 0⟩) (grab Try.prog Try.f18 [2, 3, 5] [0, 1] 2) =
    (bif q.cl != r.cl then some (Res.ret (SV.val (Value.bool false))) else 
     (bif !R.eqR q.p r.p then some (Res.ret (SV.val (Value.bool false))) else 
      (bif !q.x == r.x then some (Res.ret (SV.val (Value.bool false))) else 
       (bif (↑((M q.a).g q.b).n : Int) != (↑((M r.a).g r.b).n : Int) then some (Res.ret (SV.val (Value.bool false))) else some (Res.cut Ex.normal (Cut.mk [(2, SV.ptr 0 0), (3, SV.ptr 1 0), (5, SV.val (Value.int IntKind.i64 0))] [(0, Blk.mk 52 [SV.val (Value.int IntKind.i64 q.cl), SV.val (Value.int IntKind.i64 q.p.k), SV.val (Value.bool q.p.b), SV.val (Value.float FloatKind.f64 q.p.n), SV.val (Value.string q.p.s), SV.val (Value.int IntKind.i64 q.p.id), SV.val (Value.bool q.x), SV.xs [q.a, q.b]]), (1, Blk.mk 52 [SV.val (Value.int IntKind.i64 r.cl), SV.val (Value.int IntKind.i64 r.p.k), SV.val (Value.bool r.p.b), SV.val (Value.float FloatKind.f64 r.p.n), SV.val (Value.string r.p.s), SV.val (Value.int IntKind.i64 r.p.id), SV.val (Value.bool r.x), SV.xs [r.a, r.b]])])))))) := by kernel_rfl
set_option maxRecDepth 100000 in
theorem sameSh81_round (M : Nat → Mo) (bx : Nat → XR) (q r : SA) (i : Nat) : letI := rowsB M bx
    evK Try.prog ext (tab2 BvL5 []) 80 71 (seqL (flat (roundOf (bodyOf Try.f18)))) ((⟨[(2, .ptr 0 0), (3, .ptr 1 0), (5, (.val (.int .i64 (i : Int))))], [(0, ⟨52, shCells q.cl q.p q.x [q.a, q.b]⟩), (1, ⟨52, shCells r.cl r.p r.x [r.a, r.b]⟩)]⟩ : Cut).st 2) (grab Try.prog Try.f18 [2, 3, 5] [0, 1] 2) =
    (bif decide ((↑i : Int) < (↑((M q.a).g q.b).n : Int)) then 
     (bif decide (0 ≤ (↑i : Int)) && decide ((↑i : Int) < (↑((M q.a).g q.b).n : Int)) then 
      (bif decide (0 ≤ (↑i : Int)) && decide ((↑i : Int) < (↑((M r.a).g r.b).n : Int)) then 
       (bif !((((M q.a).g q.b).g i).k.s == (((M r.a).g r.b).g i).k.s && ((((M q.a).g q.b).g i).k.n == (((M r.a).g r.b).g i).k.n && true)) then some (Res.ret (SV.val (Value.bool false))) else 
        (bif decide (0 ≤ (↑i : Int)) && decide ((↑i : Int) < (↑((M q.a).g q.b).n : Int)) then 
         (bif decide (0 ≤ (↑i : Int)) && decide ((↑i : Int) < (↑((M r.a).g r.b).n : Int)) then 
          (bif !R.eqDR (((M q.a).g q.b).g i).d (((M r.a).g r.b).g i).d then some (Res.ret (SV.val (Value.bool false))) else some (Res.cut Ex.normal (Cut.mk [(2, SV.ptr 0 0), (3, SV.ptr 1 0), (5, SV.val (Value.int IntKind.i64 (IntKind.i64.wrap ((↑i : Int) + 1))))] [(0, Blk.mk 52 [SV.val (Value.int IntKind.i64 q.cl), SV.val (Value.int IntKind.i64 q.p.k), SV.val (Value.bool q.p.b), SV.val (Value.float FloatKind.f64 q.p.n), SV.val (Value.string q.p.s), SV.val (Value.int IntKind.i64 q.p.id), SV.val (Value.bool q.x), SV.xs [q.a, q.b]]), (1, Blk.mk 52 [SV.val (Value.int IntKind.i64 r.cl), SV.val (Value.int IntKind.i64 r.p.k), SV.val (Value.bool r.p.b), SV.val (Value.float FloatKind.f64 r.p.n), SV.val (Value.string r.p.s), SV.val (Value.int IntKind.i64 r.p.id), SV.val (Value.bool r.x), SV.xs [r.a, r.b]])]))) else none) else none)) else none) else none) else some (Res.cut (Ex.exit 0) (Cut.mk [(2, SV.ptr 0 0), (3, SV.ptr 1 0), (5, SV.val (Value.int IntKind.i64 (↑i : Int)))] [(0, Blk.mk 52 [SV.val (Value.int IntKind.i64 q.cl), SV.val (Value.int IntKind.i64 q.p.k), SV.val (Value.bool q.p.b), SV.val (Value.float FloatKind.f64 q.p.n), SV.val (Value.string q.p.s), SV.val (Value.int IntKind.i64 q.p.id), SV.val (Value.bool q.x), SV.xs [q.a, q.b]]), (1, Blk.mk 52 [SV.val (Value.int IntKind.i64 r.cl), SV.val (Value.int IntKind.i64 r.p.k), SV.val (Value.bool r.p.b), SV.val (Value.float FloatKind.f64 r.p.n), SV.val (Value.string r.p.s), SV.val (Value.int IntKind.i64 r.p.id), SV.val (Value.bool r.x), SV.xs [r.a, r.b]])]))) := by kernel_rfl
set_option maxRecDepth 100000 in
theorem sameSh81_post (M : Nat → Mo) (bx : Nat → XR) (q r : SA) (i : Nat) : letI := rowsB M bx
    evK Try.prog ext (tab2 BvL5 []) 80 71 (seqL (postOf (bodyOf Try.f18))) ((⟨[(2, .ptr 0 0), (3, .ptr 1 0), (5, (.val (.int .i64 (i : Int))))], [(0, ⟨52, shCells q.cl q.p q.x [q.a, q.b]⟩), (1, ⟨52, shCells r.cl r.p r.x [r.a, r.b]⟩)]⟩ : Cut).st 2) (grab Try.prog Try.f18 [2, 3, 5] [0, 1] 2) =
    some (Res.ret (SV.val (Value.bool true))) := by kernel_rfl
set_option maxRecDepth 100000 in
theorem run_sameSh81 (M : Nat → Mo) (bx : Nat → XR) (hM : Fit M) (q r : SA) : letI := rowsB M bx
    Runs Try.prog (Inv M bx) 71 Try.f18 ((fun x : Bool => SV.val (.bool x)) (bif q.cl != r.cl || (!R.eqR q.p r.p || (!(q.x == r.x) || (((M q.a).g q.b).n : Int) != (((M r.a).g r.b).n : Int))) then false else (seek (fun i => bif !S.keq (((M q.a).g q.b).g i).k (((M r.a).g r.b).g i).k || !R.eqDR (((M q.a).g q.b).g i).d (((M r.a).g r.b).g i).d then some false else none) (((M q.a).g q.b).n) 0).getD true)) [] (bodyOf Try.f18) (⟨argS [q.sv, r.sv], fun _ => none, 0⟩) := by
  letI := rowsB M bx
  have C := ctxB M bx Bvents5 entsS_nil
  have hp := (sameSh81_pre M bx q r).trans (show _ = bif q.cl != r.cl || (!R.eqR q.p r.p || (!(q.x == r.x) || (((M q.a).g q.b).n : Int) != (((M r.a).g r.b).n : Int))) then some (Res.ret ((fun x : Bool => SV.val (.bool x)) false)) else some (Res.cut .normal ((fun i : Nat => (⟨[(2, .ptr 0 0), (3, .ptr 1 0), (5, (.val (.int .i64 (i : Int))))], [(0, ⟨52, shCells q.cl q.p q.x [q.a, q.b]⟩), (1, ⟨52, shCells r.cl r.p r.x [r.a, r.b]⟩)]⟩ : Cut)) 0)) by
    simp only [cnd_and, cnd_or, cnd_not, Bool.or_assoc]
    first | done | rfl)
  cases hg : q.cl != r.cl || (!R.eqR q.p r.p || (!(q.x == r.x) || (((M q.a).g q.b).n : Int) != (((M r.a).g r.b).n : Int))) with
  | true =>
    rw [hg] at hp
    exact retPre C (by kernel_rfl) hp
  | false =>
    rw [hg] at hp
    show Runs _ _ _ _ ((fun x : Bool => SV.val (.bool x)) ((seek (fun i => bif !S.keq (((M q.a).g q.b).g i).k (((M r.a).g r.b).g i).k || !R.eqDR (((M q.a).g q.b).g i).d (((M r.a).g r.b).g i).d then some false else none) (((M q.a).g q.b).n) 0).getD true)) _ _ _
    refine Runs.seekFn C (n := ((M q.a).g q.b).n) (p := fun i => bif !S.keq (((M q.a).g q.b).g i).k (((M r.a).g r.b).g i).k || !R.eqDR (((M q.a).g q.b).g i).d (((M r.a).g r.b).g i).d then some false else none) (f := (fun x : Bool => SV.val (.bool x))) (z := true) (hd := fun i => (⟨[(2, .ptr 0 0), (3, .ptr 1 0), (5, (.val (.int .i64 (i : Int))))], [(0, ⟨52, shCells q.cl q.p q.x [q.a, q.b]⟩), (1, ⟨52, shCells r.cl r.p r.x [r.a, r.b]⟩)]⟩ : Cut)) (c' := (fun i : Nat => (⟨[(2, .ptr 0 0), (3, .ptr 1 0), (5, (.val (.int .i64 (i : Int))))], [(0, ⟨52, shCells q.cl q.p q.x [q.a, q.b]⟩), (1, ⟨52, shCells r.cl r.p r.x [r.a, r.b]⟩)]⟩ : Cut)) (((M q.a).g q.b).n)) (by kernel_rfl) hp (fun i hi => ?_) ?_ (fun _ => Runs.ret C (sameSh81_post M bx q r (((M q.a).g q.b).n)))
    · refine (sameSh81_round M bx q r i).trans ?_
      have hi2 : i < ((M r.a).g r.b).n := by have := sh_guard hg; omega
      simp only [dlt hi, dge, wr hi ((hM q.a).2 q.b), cond_true, cond_false, Bool.and_self, Bool.true_and, map_cond, toR_cond, some_cond, Option.map_some, Option.map_none, toR_some, toR_none, cnd_and, cnd_or, cnd_not, S.keq, S.eqC, S.alikeC, dlt hi2]
      first | done | rfl
    · refine (sameSh81_round M bx q r (((M q.a).g q.b).n)).trans ?_
      simp only [dnl, cond_false]
      rfl
theorem ent_sameSh81 (M : Nat → Mo) (bx : Nat → XR) (hM : Fit M) : Ent M bx (18, noMem (onShSh fun q r => LB (R.sameSh (q.sh M) (r.sh M)))) := by
  letI := rowsB M bx
  refine EntryS.of (fun args t v h1 h2 => ?_) (inv_stable M bx)
  obtain ⟨q, r, rfl, rfl⟩ := onShSh_eq h1
  cases h2
  refine ⟨ok_val _ _, ?_, fun w m hI => Runs.calls (body := Try.f18.body.getD .skip) Try.func18 (by kernel_rfl) (by kernel_rfl) ?_ (run_sameSh81 M bx hM q r) w hI m⟩ <;>
  · intro x hx
    simp only [List.mem_cons, List.not_mem_nil, or_false] at hx
    rcases hx with rfl | rfl <;> exact ok_sa _ _
set_option maxRecDepth 100000 in
theorem same40_pre (M : Nat → Mo) (bx : Nat → XR) (a b : Nat) : letI := rowsB M bx
    evK Try.prog ext (tab2 BvL5 [(18, noMem (onShSh fun q r => LB (R.sameSh (q.sh M) (r.sh M))))]) 80 27 (seqL (preOf (bodyOf Try.f9))) (⟨argS [.xs [a], .xs [b]], fun _ => none, 0⟩) (grab Try.prog Try.f9 [0, 1, 5] [] 0) =
    (bif (↑(M a).n : Int) != (↑(M b).n : Int) then some (Res.ret (SV.val (Value.bool false))) else some (Res.cut Ex.normal (Cut.mk [(0, SV.xs [a]), (1, SV.xs [b]), (5, SV.val (Value.int IntKind.i64 0))] []))) := by kernel_rfl
set_option maxRecDepth 100000 in
theorem same40_round (M : Nat → Mo) (bx : Nat → XR) (a b : Nat) (i : Nat) : letI := rowsB M bx
    evK Try.prog ext (tab2 BvL5 [(18, noMem (onShSh fun q r => LB (R.sameSh (q.sh M) (r.sh M))))]) 80 27 (seqL (flat (roundOf (bodyOf Try.f9)))) ((⟨[(0, .xs [a]), (1, .xs [b]), (5, (.val (.int .i64 (i : Int))))], []⟩ : Cut).st 0) (grab Try.prog Try.f9 [0, 1, 5] [] 0) =
    (bif decide ((↑i : Int) < (↑(M a).n : Int)) then 
     (bif decide (0 ≤ (↑i : Int)) && decide ((↑i : Int) < (↑(M a).n : Int)) then 
      (bif decide (0 ≤ (↑i : Int)) && decide ((↑i : Int) < (↑(M b).n : Int)) then 
       (bif !R.sameSh (SA.sh M (SA.mk ((M a).g i).cl ((M a).g i).p ((M a).g i).x a i)) (SA.sh M (SA.mk ((M b).g i).cl ((M b).g i).p ((M b).g i).x b i)) then some (Res.ret (SV.val (Value.bool false))) else some (Res.cut Ex.normal (Cut.mk [(0, SV.xs [a]), (1, SV.xs [b]), (5, SV.val (Value.int IntKind.i64 (IntKind.i64.wrap ((↑i : Int) + 1))))] []))) else none) else none) else some (Res.cut (Ex.exit 0) (Cut.mk [(0, SV.xs [a]), (1, SV.xs [b]), (5, SV.val (Value.int IntKind.i64 (↑i : Int)))] []))) := by kernel_rfl
set_option maxRecDepth 100000 in
theorem same40_post (M : Nat → Mo) (bx : Nat → XR) (a b : Nat) (i : Nat) : letI := rowsB M bx
    evK Try.prog ext (tab2 BvL5 [(18, noMem (onShSh fun q r => LB (R.sameSh (q.sh M) (r.sh M))))]) 80 27 (seqL (postOf (bodyOf Try.f9))) ((⟨[(0, .xs [a]), (1, .xs [b]), (5, (.val (.int .i64 (i : Int))))], []⟩ : Cut).st 0) (grab Try.prog Try.f9 [0, 1, 5] [] 0) =
    some (Res.ret (SV.val (Value.bool true))) := by kernel_rfl
set_option maxRecDepth 100000 in
theorem run_same40 (M : Nat → Mo) (bx : Nat → XR) (hM : Fit M) (a b : Nat) : letI := rowsB M bx
    Runs Try.prog (Inv M bx) 27 Try.f9 ((fun x : Bool => SV.val (.bool x)) (bif ((M a).n : Int) != ((M b).n : Int) then false else (seek (fun i => bif !R.sameSh ((M a).g i) ((M b).g i) then some false else none) ((M a).n) 0).getD true)) [] (bodyOf Try.f9) (⟨argS [.xs [a], .xs [b]], fun _ => none, 0⟩) := by
  letI := rowsB M bx
  have C := ctxB M bx Bvents5 (entsS_cons (ent_sameSh81 M bx hM) entsS_nil)
  have hp := (same40_pre M bx a b).trans (show _ = bif ((M a).n : Int) != ((M b).n : Int) then some (Res.ret ((fun x : Bool => SV.val (.bool x)) false)) else some (Res.cut .normal ((fun i : Nat => (⟨[(0, .xs [a]), (1, .xs [b]), (5, (.val (.int .i64 (i : Int))))], []⟩ : Cut)) 0)) by
    simp only [cnd_and, cnd_or, cnd_not, Bool.or_assoc]
    first | done | rfl)
  cases hg : ((M a).n : Int) != ((M b).n : Int) with
  | true =>
    rw [hg] at hp
    exact retPre C (by kernel_rfl) hp
  | false =>
    rw [hg] at hp
    show Runs _ _ _ _ ((fun x : Bool => SV.val (.bool x)) ((seek (fun i => bif !R.sameSh ((M a).g i) ((M b).g i) then some false else none) ((M a).n) 0).getD true)) _ _ _
    refine Runs.seekFn C (n := (M a).n) (p := fun i => bif !R.sameSh ((M a).g i) ((M b).g i) then some false else none) (f := (fun x : Bool => SV.val (.bool x))) (z := true) (hd := fun i => (⟨[(0, .xs [a]), (1, .xs [b]), (5, (.val (.int .i64 (i : Int))))], []⟩ : Cut)) (c' := (fun i : Nat => (⟨[(0, .xs [a]), (1, .xs [b]), (5, (.val (.int .i64 (i : Int))))], []⟩ : Cut)) ((M a).n)) (by kernel_rfl) hp (fun i hi => ?_) ?_ (fun _ => Runs.ret C (same40_post M bx a b ((M a).n)))
    · refine (same40_round M bx a b i).trans ?_
      have hi2 : i < (M b).n := by have := eq_of_bne hg; omega
      simp only [dlt hi, dge, wr hi (hM a).1, cond_true, cond_false, Bool.and_self, Bool.true_and, map_cond, toR_cond, some_cond, Option.map_some, Option.map_none, toR_some, toR_none, cnd_and, cnd_or, cnd_not, S.keq, S.eqC, S.alikeC, dlt hi2]
      first | done | rfl
    · refine (same40_round M bx a b ((M a).n)).trans ?_
      simp only [dnl, cond_false]
      rfl
theorem ent_same40 (M : Nat → Mo) (bx : Nat → XR) (hM : Fit M) : Ent M bx (9, noMem (onMM fun a b => LB (R.sameM (M a) (M b)))) := by
  letI := rowsB M bx
  refine EntryS.of (fun args t v h1 h2 => ?_) (inv_stable M bx)
  obtain ⟨a, b, rfl, rfl⟩ := onMM_eq h1
  cases h2
  refine ⟨ok_val _ _, ?_, fun w m hI => Runs.calls (body := Try.f9.body.getD .skip) Try.func9 (by kernel_rfl) (by kernel_rfl) ?_ (run_same40 M bx hM a b) w hI m⟩ <;>
  · intro x hx
    simp only [List.mem_cons, List.not_mem_nil, or_false] at hx
    rcases hx with rfl | rfl <;> exact ok_xs
end Go.Proofs.Ytaojjpdlfnphiaa.PDescKinds
end
section
/- Moments: Broken. Written by a program of this session. -/
set_option linter.unusedSimpArgs false
set_option linter.unusedVariables false
set_option linter.unusedSectionVars false
namespace Go.Proofs.Ytaojjpdlfnphiaa.PDescKinds
open Go.RowKit Go.Ev
namespace S
end S
namespace R
end R
def thenOf : Code → Code
  | .cond _ t _ => t
  | c => c
def elseOf : Code → Code
  | .cond _ _ e => e
  | c => c
end Go.Proofs.Ytaojjpdlfnphiaa.PDescKinds
end
section
/- Moments: few; the law's own pieces. Written by a program of this session. -/
set_option linter.unusedSimpArgs false
set_option linter.unusedVariables false
set_option linter.unusedSectionVars false
namespace Go.Proofs.Ytaojjpdlfnphiaa.PDescKinds
open Go.RowKit Go.Ev
namespace S
def fewAcc (s : Mo) : Nat → Nat → Int → Int
  | 0, _, x => x
  | k + 1, i, x => bif decide ((i : Int) < (s.n : Int)) && decide ((i : Int) ≤ 60) then fewAcc s k (i + 1) (IntKind.i64.wrap (x + ((s.g i).n : Int))) else x
def few (s : Mo) : Bool := decide ((s.n : Int) ≤ 60) && decide (fewAcc s 62 0 0 ≤ 400)
end S
set_option maxRecDepth 100000 in
theorem few35_pre (M : Nat → Mo) (bx : Nat → XR) (a : Nat) (x : Int) : letI := rowsB M bx
    evK Try.prog ext (tab2 BvL5 []) 80 30 (seqL (preOf (bodyOf Try.f5))) (⟨argS [.xs [a]], fun _ => none, 0⟩) (grab Try.prog Try.f5 [0, 3, 4] [] 0) =
    some (Res.cut Ex.normal (Cut.mk [(0, SV.xs [a]), (3, SV.val (Value.int IntKind.i64 0)), (4, SV.val (Value.int IntKind.i64 0))] [])) := by kernel_rfl
set_option maxRecDepth 100000 in
theorem few35_round (M : Nat → Mo) (bx : Nat → XR) (a : Nat) (x : Int) (i : Nat) : letI := rowsB M bx
    evK Try.prog ext (tab2 BvL5 []) 80 30 (seqL (flat (roundOf (bodyOf Try.f5)))) ((⟨[(0, .xs [a]), (3, .val (.int .i64 x)), (4, (.val (.int .i64 (i : Int))))], []⟩ : Cut).st 0) (grab Try.prog Try.f5 [0, 3, 4] [] 0) =
    (bif decide ((↑i : Int) < (↑(M a).n : Int)) then 
     (bif decide ((↑i : Int) ≤ 60) then 
      (bif decide (0 ≤ (↑i : Int)) && decide ((↑i : Int) < (↑(M a).n : Int)) then some (Res.cut Ex.normal (Cut.mk [(0, SV.xs [a]), (3, SV.val (Value.int IntKind.i64 (IntKind.i64.wrap (x + (↑((M a).g i).n : Int))))), (4, SV.val (Value.int IntKind.i64 (IntKind.i64.wrap ((↑i : Int) + 1))))] [])) else none) else some (Res.cut (Ex.exit 0) (Cut.mk [(0, SV.xs [a]), (3, SV.val (Value.int IntKind.i64 x)), (4, SV.val (Value.int IntKind.i64 (↑i : Int)))] []))) else some (Res.cut (Ex.exit 0) (Cut.mk [(0, SV.xs [a]), (3, SV.val (Value.int IntKind.i64 x)), (4, SV.val (Value.int IntKind.i64 (↑i : Int)))] []))) := by kernel_rfl
set_option maxRecDepth 100000 in
theorem few35_post (M : Nat → Mo) (bx : Nat → XR) (a : Nat) (x : Int) (i : Nat) : letI := rowsB M bx
    evK Try.prog ext (tab2 BvL5 []) 80 30 (seqL (postOf (bodyOf Try.f5))) ((⟨[(0, .xs [a]), (3, .val (.int .i64 x)), (4, (.val (.int .i64 (i : Int))))], []⟩ : Cut).st 0) (grab Try.prog Try.f5 [0, 3, 4] [] 0) =
    (bif decide ((↑(M a).n : Int) ≤ 60) then some (Res.ret (SV.val (Value.bool (decide (x ≤ 400))))) else some (Res.ret (SV.val (Value.bool false)))) := by kernel_rfl
theorem run_fewL (M : Nat → Mo) (bx : Nat → XR) (hM : Fit M) (a : Nat) : letI := rowsB M bx
    ∀ (k i : Nat) (x : Int), 61 ≤ i + k → Runs Try.prog (Inv M bx) 30 Try.f5 (.val (.bool (decide (((M a).n : Int) ≤ 60) && decide (S.fewAcc (M a) (k + 1) i x ≤ 400))))
      [.loop (idOf (bodyOf Try.f5)) (roundOf (bodyOf Try.f5)) k, .rest (postOf (bodyOf Try.f5))] (flat (roundOf (bodyOf Try.f5))) ((⟨[(0, .xs [a]), (3, .val (.int .i64 x)), (4, .val (.int .i64 (i : Int)))], []⟩ : Cut).st 0) := by
  letI := rowsB M bx
  have C := ctxB M bx Bvents5 entsS_nil
  intro k
  induction k with
  | zero =>
    intro i x h
    have h60 : decide ((i : Int) ≤ 60) = false := decide_eq_false (by omega)
    have e : S.fewAcc (M a) (0 + 1) i x = x := by simp only [S.fewAcc, h60, Bool.and_false, cond_false]
    rw [e]
    have hr := few35_round M bx a x i
    rw [h60] at hr
    have hpost : Runs Try.prog (Inv M bx) 30 Try.f5 (.val (.bool (decide (((M a).n : Int) ≤ 60) && decide (x ≤ 400)))) [] (postOf (bodyOf Try.f5)) ((⟨[(0, .xs [a]), (3, .val (.int .i64 x)), (4, .val (.int .i64 (i : Int)))], []⟩ : Cut).st 0) := Runs.ret C ((few35_post M bx a x i).trans (by
      cases decide (((M a).n : Int) ≤ 60) <;> rfl))
    exact Runs.step (ex := .exit (idOf (bodyOf Try.f5))) (c := (⟨[(0, .xs [a]), (3, .val (.int .i64 x)), (4, .val (.int .i64 (i : Int)))], []⟩ : Cut)) C (hr.trans (by cases decide ((i : Int) < ((M a).n : Int)) <;> rfl)) (RunsX.out (RunsX.rest hpost))
  | succ k ih =>
    intro i x h
    have hr := few35_round M bx a x i
    have hpost : ∀ y, S.fewAcc (M a) (k + 1 + 1) i x = y → y = x → Runs Try.prog (Inv M bx) 30 Try.f5 (.val (.bool (decide (((M a).n : Int) ≤ 60) && decide (y ≤ 400)))) [] (postOf (bodyOf Try.f5)) ((⟨[(0, .xs [a]), (3, .val (.int .i64 x)), (4, .val (.int .i64 (i : Int)))], []⟩ : Cut).st 0) := fun y _ hy => by
      rw [hy]
      exact Runs.ret C ((few35_post M bx a x i).trans (by cases decide (((M a).n : Int) ≤ 60) <;> rfl))
    by_cases hi : i < (M a).n
    · by_cases h60 : (i : Int) ≤ 60
      · have e : S.fewAcc (M a) (k + 1 + 1) i x = S.fewAcc (M a) (k + 1) (i + 1) (IntKind.i64.wrap (x + (((M a).g i).n : Int))) := by
          show (bif decide ((i : Int) < ((M a).n : Int)) && decide ((i : Int) ≤ 60) then _ else _) = _
          rw [dlt hi, decide_eq_true h60]; rfl
        rw [e]
        refine Runs.step (ex := .normal) (c := ⟨[(0, .xs [a]), (3, .val (.int .i64 (IntKind.i64.wrap (x + (((M a).g i).n : Int))))), (4, .val (.int .i64 ((i + 1 : Nat) : Int)))], []⟩) C (hr.trans ?_) (RunsX.again (ih (i + 1) (IntKind.i64.wrap (x + (((M a).g i).n : Int))) (by omega)))
        simp only [dlt hi, dge, decide_eq_true h60, wr hi (hM a).1, cond_true, Bool.and_self]
        first | done | rfl
      · have e : S.fewAcc (M a) (k + 1 + 1) i x = x := by
          show (bif decide ((i : Int) < ((M a).n : Int)) && decide ((i : Int) ≤ 60) then _ else _) = _
          rw [decide_eq_false h60, Bool.and_false]; rfl
        have hp := hpost _ e rfl
        rw [e]
        refine Runs.step (ex := .exit (idOf (bodyOf Try.f5))) (c := (⟨[(0, .xs [a]), (3, .val (.int .i64 x)), (4, .val (.int .i64 (i : Int)))], []⟩ : Cut)) C (hr.trans ?_) (RunsX.out (RunsX.rest hp))
        simp only [dlt hi, decide_eq_false h60, cond_true, cond_false]
        rfl
    · have hd : decide ((i : Int) < ((M a).n : Int)) = false := decide_eq_false (by omega)
      have e : S.fewAcc (M a) (k + 1 + 1) i x = x := by
        show (bif decide ((i : Int) < ((M a).n : Int)) && decide ((i : Int) ≤ 60) then _ else _) = _
        rw [hd, Bool.false_and]; rfl
      have hp := hpost _ e rfl
      rw [e]
      refine Runs.step (ex := .exit (idOf (bodyOf Try.f5))) (c := (⟨[(0, .xs [a]), (3, .val (.int .i64 x)), (4, .val (.int .i64 (i : Int)))], []⟩ : Cut)) C (hr.trans ?_) (RunsX.out (RunsX.rest hp))
      simp only [hd, cond_false]
      rfl
theorem run_few35 (M : Nat → Mo) (bx : Nat → XR) (hM : Fit M) (a : Nat) : letI := rowsB M bx
    Runs Try.prog (Inv M bx) 30 Try.f5 (.val (.bool (S.few (M a)))) [] (bodyOf Try.f5) ⟨argS [.xs [a]], fun _ => none, 0⟩ := by
  letI := rowsB M bx
  have C := ctxB M bx Bvents5 entsS_nil
  exact Runs.looped C (by kernel_rfl) 61 (few35_pre M bx a 0) (run_fewL M bx hM a 61 0 0 (by omega))
theorem ent_few35 (M : Nat → Mo) (bx : Nat → XR) (hM : Fit M) : Ent M bx (5, noMem (onM fun a => LB (S.few (M a)))) := by
  letI := rowsB M bx
  refine EntryS.of (fun args t v h1 h2 => ?_) (inv_stable M bx)
  obtain ⟨a, rfl, rfl⟩ := onM_eq h1
  cases h2
  refine ⟨ok_val _ _, ?_, fun w m hI => Runs.calls (body := Try.f5.body.getD .skip) Try.func5 (by kernel_rfl) (by kernel_rfl) ?_ (run_few35 M bx hM a) w hI m⟩ <;>
  · intro x hx
    simp only [List.mem_cons, List.not_mem_nil, or_false] at hx
    rcases hx with rfl; exact ok_xs
namespace S
end S
end Go.Proofs.Ytaojjpdlfnphiaa.PDescKinds
end
section
/- What the rows' arguments read as_: descriptors as_ plain data; what the rows' tables give. -/
set_option linter.unusedSimpArgs false
set_option linter.unusedVariables false
set_option linter.unusedSectionVars false
namespace Go.Proofs.Ytaojjpdlfnphiaa.PDescKinds
open Go.ChangeShapes Go.WideShapes Go.ChangeAt Go.RowKit Go.Lib
section
variable {H : Type} {enc : TypeId × Value → H} {P : Program} {w : World} {base : Nat} {spare : Nat → Bool} {held : Bool} {fuel : Nat} {t : TypeId} {cs : List Value} {x : DataW H × List MemPlace}
end
def V.list (v : V) : List Value := [.int .i64 v.k, .bool v.b, .float .f64 v.n, .string v.s, .int .i64 v.id]
def D.list (d : D) : List Value := d.v.list ++ (d.g.list ++ (d.t.list ++ [.int .i64 d.w, .int .i64 d.e, .int .i64 d.c]))
section
variable {H : Type} {enc : TypeId × Value → H} {w : World} {base : Nat} {spare : Nat → Bool} {held : Bool} {fuel : Nat} {cs : List Value} {x : DataW H × List MemPlace}
end
theorem own : ownKnob Try.prog.godebug = none := by kernel_rfl
end Go.Proofs.Ytaojjpdlfnphiaa.PDescKinds
end
section
/- cameoref10.Copy: shapes in memory of their own. -/
set_option linter.unusedSimpArgs false
set_option linter.unusedVariables false
set_option linter.unusedSectionVars false
namespace Go.Ev
open Go.RowKit
section
variable [XEnv]
variable {P : Program} {X : ExtFn} {call : CallFn} {I : World → Prop} {N : Nat} {ops : Array Oper} {w0 : World} {Q : Exit → Act → World → Prop}
/-- Some operations of a region, and what is behind them. -/
theorem ops_sound_tail (hX : ExtSound P X) (hI : I w0) (hs : Stable I) (hXO : ∀ w, I w → XOk w) (hcall : CallSound P I call) (tail : List Oper) : ∀ (l : List Oper) (st st' : St) (m : Nat → Nat) (a : Act) (w : World), evOps P X call ops N l st = some st' → SR w0 N m st a w →
    (∀ m' a' w', Later st m st' m' → SR w0 N m' st' a' w' → wpList P ops Q tail a' w') → wpList P ops Q (l ++ tail) a w
  | [], st, st', m, a, w, h, hr, k => by
    simp only [evOps, Option.some.injEq] at h
    subst h
    exact k m a w (Later.refl _ _) hr
  | o :: r, st, st', m, a, w, h, hr, k => by
    unfold evOps at h
    cases hdg : dstOk N o.dst && knownG ops st.tmps o with
    | false => rw [hdg] at h; cases h
    | true =>
      rw [hdg] at h
      rw [Bool.and_eq_true] at hdg
      obtain ⟨hd, hgk⟩ := hdg
      simp only [cond_true] at h
      simp only [List.cons_append]
      unfold wpList
      rw [want_eq hr.ar.tm o hgk]
      cases hw : wantS ops st.tmps o with
      | true =>
        rw [hw] at h
        simp only [cond_true] at h
        simp only [if_true]
        split at h
        · rename_i v e he
          refine .inl (op_sound hX hI hs hXO hcall he (fun _ => hr.fresh _ (Nat.le_refl _)) (fun _ => hr.fresh) hr.ar.look_ok hr.ar.eval hr.mr ?_)
          intro m' w' hag hmr hv hg hall
          have hf := hall hr.fresh
          exact ops_sound_tail hX hI hs hXO hcall tail r _ st' m' _ w' h ⟨hmr, hr.ar.put hag hg hd hv, hf.1⟩ (fun m2 a2 w2 hl hr2 => k m2 a2 w2 (Later.trans ⟨hag, hg, hf.2⟩ hl) hr2)
        · cases h
      | false =>
        rw [hw] at h
        simp only [cond_false] at h
        simp only [Bool.false_eq_true, if_false]
        exact ops_sound_tail hX hI hs hXO hcall tail r _ st' m _ w h ⟨hr.mr, (den_val m undef) ▸ hr.ar.put (v := .val undef) (Agree.refl _ _) (Grows.refl _) hd (ok_val _ _), hr.fresh⟩ (fun m2 a2 w2 hl hr2 => k m2 a2 w2 ⟨hl.agree, hl.grows, hl.le⟩ hr2)
theorem pickT_mem (t : Nat) : ∀ ts : List (Nat × SV), pickT ts t = SV.unk ∨ (t, pickT ts t) ∈ ts
  | [] => .inl rfl
  | p :: r => by
    simp only [pickT]
    cases h : Nat.beq t p.1 with
    | true =>
      have := Nat.eq_of_beq_eq_true h
      subst this
      exact .inr List.mem_cons_self
    | false =>
      rcases pickT_mem t r with h | h
      · exact .inl h
      · exact .inr (List.mem_cons_of_mem _ h)
/-- All that is, is as_ if it had come in. -/
theorem epoch {a : Act} {w : World} (hs : a.tmps.size = N) (hd : a.defers = []) (ts : List (Nat × SV)) (m : Nat → Nat) (h : ∀ p ∈ ts, a.tmps.getD p.1 undef = p.2.den m) (hok : ∀ p ∈ ts, p.2.ok fun _ => none) :
    SR w N m ((Cut.mk ts []).st 0) a w := by
  refine ⟨MR.start w m, ⟨hs, hd, fun t ht => ?_, fun t => ?_⟩, fun _ _ => rfl⟩
  · have ht : (pickT ts t).known = true := ht
    show a.tmps.getD t undef = (pickT ts t).den m
    rcases pickT_mem t ts with h1 | h1
    · rw [h1] at ht; cases ht
    · exact h _ h1
  · show (pickT ts t).ok _
    rcases pickT_mem t ts with h1 | h1
    · rw [h1]; exact ok_unk
    · exact hok _ h1
/-- The same, with own blocks. -/
theorem epochB {a : Act} {w w' : World} {next : Nat} (hb : Below w.heap.size w w') (hs : a.tmps.size = N) (hd : a.defers = []) (ts : List (Nat × SV)) (bs : List (Nat × Blk)) (m : Nat → Nat) (h : ∀ p ∈ ts, a.tmps.getD p.1 undef = p.2.den m)
    (hok : ∀ p ∈ ts, p.2.ok (pickM bs)) (hblk : ∀ b k, pickM bs b = some k → w.heap.size ≤ m b ∧ w'.heap[m b]? = some (.cells (k.cells.map (SV.den m)).toArray k.ty (0, 0)) ∧ ∀ c ∈ k.cells, c.ok (pickM bs))
    (hinj : ∀ b b' k k', pickM bs b = some k → pickM bs b' = some k' → m b = m b' → b = b') (hfr : ∀ b, next ≤ b → pickM bs b = none) :
    SR w N m ((Cut.mk ts bs).st next) a w' := by
  refine ⟨⟨hb, hblk, hinj⟩, ⟨hs, hd, fun t ht => ?_, fun t => ?_⟩, hfr⟩
  · have ht : (pickT ts t).known = true := ht
    show a.tmps.getD t undef = (pickT ts t).den m
    rcases pickT_mem t ts with h1 | h1
    · rw [h1] at ht; cases ht
    · exact h _ h1
  · show (pickT ts t).ok _
    rcases pickT_mem t ts with h1 | h1
    · rw [h1]; exact ok_unk
    · exact hok _ h1
theorem pickM_two {x y b : Nat} {k k1 k2 : Blk} (h : pickM [(x, k1), (y, k2)] b = some k) : (b = x ∧ k = k1) ∨ (b = y ∧ k = k2) := by
  simp only [pickM] at h
  cases h1 : Nat.beq b x with
  | true =>
    rw [h1] at h
    simp only [cond_true, Option.some.injEq] at h
    exact .inl ⟨Nat.eq_of_beq_eq_true h1, h.symm⟩
  | false =>
    rw [h1] at h
    simp only [cond_false] at h
    cases h2 : Nat.beq b y with
    | true =>
      rw [h2] at h
      simp only [cond_true, Option.some.injEq] at h
      exact .inr ⟨Nat.eq_of_beq_eq_true h2, h.symm⟩
    | false => rw [h2] at h; cases h
end
end Go.Ev
namespace Go.Proofs.Ytaojjpdlfnphiaa.PDescKinds
open Go.RowKit Go.Ev
/-! ### Moments as_ the world has them -/
def Pr.list (q : Pr) : List Value := .string q.k.s :: .int .i64 q.k.n :: q.d.list
theorem Pr.cells_list (q : Pr) : q.cells = q.list.map SV.val := rfl
/-- A shape's cells, its properties where u says. -/
def shVals (s : Sh) (u : Value) : List Value := [.int .i64 s.cl, .int .i64 s.p.k, .bool s.p.b, .float .f64 s.p.n, .string s.p.s, .int .i64 s.p.id, .bool s.x, u]
def Sh.row (s : Sh) : Value := .slice s.A s.n s.c
structure RawMo (w : World) (mo : Mo) : Prop where
  nils : ∀ j, (mo.g j).A = none → (mo.g j).n = 0 ∧ (mo.g j).c = 0
  top : ∀ j, j < mo.n → ∃ a, mo.A = some a ∧ a.block < w.heap.size ∧ ∀ t v, (shVals (mo.g j) (mo.g j).row)[t]? = some v → w.cell? (a.add (j * 8 + t)) = some v
  row : ∀ j i, i < (mo.g j).n → ∃ a, (mo.g j).A = some a ∧ a.block < w.heap.size ∧ ∀ t v, ((mo.g j).g i).list[t]? = some v → w.cell? (a.add (i * 20 + t)) = some v
theorem add_block (a : Addr) (k : Nat) : (a.add k).block = a.block := by unfold Addr.add; split <;> rfl
theorem RawMo.below {w w' : World} {mo : Mo} (h : RawMo w mo) (hb : Below w.heap.size w w') : RawMo w' mo := by
  refine ⟨h.nils, fun j hj => ?_, fun j i hi => ?_⟩
  · obtain ⟨a, h1, h2, h3⟩ := h.top j hj
    exact ⟨a, h1, Nat.lt_of_lt_of_le h2 hb.size, fun t v ht => (hb.cell (by rw [add_block]; exact h2)).trans (h3 t v ht)⟩
  · obtain ⟨a, h1, h2, h3⟩ := h.row j i hi
    exact ⟨a, h1, Nat.lt_of_lt_of_le h2 hb.size, fun t v ht => (hb.cell (by rw [add_block]; exact h2)).trans (h3 t v ht)⟩
/-- No box. -/
def noBox : Nat → XR := fun _ => ⟨none, 1, 0, 0, fun _ => []⟩
theorem xok_raw {M : Nat → Mo} {w : World} (h : ∀ k, RawMo w (M k)) : @XOk (rowsB M noBox) w := by
  intro r
  match r with
  | [k] =>
    intro j hj
    obtain ⟨a, h1, h2, h3⟩ := (h k).top j hj
    refine ⟨rfl, fun s hs mem => @Simple.ok (rowsB M noBox) _ (simple_sh _ _ _ _ _ s hs) mem, a, h1, h2, fun t s ht m => ?_⟩
    have ht : (shCells ((M k).g j).cl ((M k).g j).p ((M k).g j).x [k, j])[t]? = some s := ht
    have e : (shCells ((M k).g j).cl ((M k).g j).p ((M k).g j).x [k, j]).map (@SV.den (rowsB M noBox) m) = shVals ((M k).g j) ((M k).g j).row := by
      simp only [shCells, List.map_cons, List.map_nil, @den_val (rowsB M noBox), @den_xs (rowsB M noBox)]
      rfl
    refine h3 t _ ?_
    rw [← e, List.getElem?_map, ht]
    rfl
  | [k, j] =>
    intro i hi
    obtain ⟨a, h1, h2, h3⟩ := (h k).row j i hi
    refine ⟨rfl, fun s hs mem => @Simple.ok (rowsB M noBox) _ (simple_pr _ s hs) mem, a, h1, h2, fun t s ht m => ?_⟩
    have ht : (((M k).g j).g i).cells[t]? = some s := ht
    rw [Pr.cells_list, List.getElem?_map, Option.map_eq_some_iff] at ht
    obtain ⟨v, hv, rfl⟩ := ht
    rw [@den_val (rowsB M noBox)]
    exact h3 t v hv
  | [] => intro j hj; exact absurd hj (Nat.not_lt_zero _)
  | _ :: _ :: _ :: _ => intro j hj; exact absurd hj (Nat.not_lt_zero _)
def inB : Code → Code
  | .block _ c => c
  | c => c
def opsOf : Code → Array Oper
  | .region _ ops _ => ops
  | _ => #[]
namespace Copy
noncomputable def rd : List Code := flat (roundOf (bodyOf Try.f6))
noncomputable def inn : List Code := flat (inB (rd.getD 2 .skip))
noncomputable def ops6 : Array Oper := opsOf (inn.getD 1 .skip)
noncomputable def ops7 : Array Oper := opsOf (inn.getD 2 .skip)
noncomputable def o19 : Oper := ops6.toList.getD 3 default
noncomputable def o24 : Oper := ops7.toList.getD 3 default
noncomputable def o25 : Oper := ops7.toList.getD 4 default
abbrev CL : GFn := tab2 BvL5 []
noncomputable abbrev cw : CallFn := callWith Try.prog CL (ev Try.prog ext CL 0)
end Copy
namespace Copy
/-- A shape's cells, its properties where u says. -/
def shCells7 (s : Sh) (u : SV) : List SV := [.val (.int .i64 s.cl), .val (.int .i64 s.p.k), .val (.bool s.p.b), .val (.float .f64 s.p.n), .val (.string s.p.s), .val (.int .i64 s.p.id), .val (.bool s.x), u]
abbrev hd (a i : Nat) (v : Value) : Cut := ⟨[(0, .xs [a]), (3, .val v), (4, .val (.int .i64 (i : Int)))], []⟩
abbrev boxed (a i : Nat) (v : Value) (l : List SV) : Cut := ⟨[(0, .xs [a]), (3, .val v), (4, .val (.int .i64 (i : Int))), (5, .ptr 0 0)], [(0, ⟨52, l⟩)]⟩
set_option maxRecDepth 100000 in
theorem cp0 (M : Nat → Mo) (bx : Nat → XR) (a : Nat) : letI := rowsB M bx
    evK Try.prog ext Copy.CL 80 26 (seqL (preOf (bodyOf Try.f6))) ⟨argS [.xs [a]], fun _ => none, 0⟩ (grab Try.prog Try.f6 [0, 3, 4] [] 0) =
    some (.cut .normal (hd a 0 (.slice none 0 0))) := by kernel_rfl
set_option maxRecDepth 100000 in
theorem cp1 (M : Nat → Mo) (bx : Nat → XR) (a i : Nat) (v : Value) : letI := rowsB M bx
    evK Try.prog ext Copy.CL 80 26 (seqL (rd.take 2)) ((hd a i v).st 0) (grab Try.prog Try.f6 [0, 3, 4] [] 0) =
    bif decide ((i : Int) < ((M a).n : Int)) then some (.cut .normal (hd a i v)) else some (.cut (.exit 0) (hd a i v)) := by kernel_rfl
set_option maxRecDepth 100000 in
theorem cp2 (M : Nat → Mo) (bx : Nat → XR) (a i : Nat) (v : Value) : letI := rowsB M bx
    evK Try.prog ext Copy.CL 80 26 (seqL (inn.take 1)) ((hd a i v).st 0) (grab Try.prog Try.f6 [0, 3, 4, 5] [0] 1) =
    bif decide (0 ≤ (i : Int)) && decide ((i : Int) < ((M a).n : Int)) then some (.cut .normal (boxed a i v (shCells ((M a).g i).cl ((M a).g i).p ((M a).g i).x [a, i]))) else none := by kernel_rfl
set_option maxRecDepth 100000 in
theorem cp3 (M : Nat → Mo) (bx : Nat → XR) (a i : Nat) (v : Value) (s : Sh) : letI := rowsB M bx
    (evOps Try.prog ext cw ops6 26 (ops6.toList.take 3) ((boxed a i v (shCells s.cl s.p s.x [a, i])).st 1)).bind (cutS [0, 3, 4, 5, 16, 18] [0, 1] 2) =
    some ⟨[(0, .xs [a]), (3, .val v), (4, .val (.int .i64 (i : Int))), (5, .ptr 0 0), (16, .slc 1 0 0 0), (18, .xs [a, i])], [(0, ⟨52, shCells s.cl s.p s.x [a, i]⟩), (1, ⟨55, []⟩)]⟩ := by kernel_rfl
set_option maxRecDepth 100000 in
theorem cp4 (M : Nat → Mo) (bx : Nat → XR) (a i : Nat) (v : Value) (s : Sh) (L : List SV) (n c : Nat) : letI := rowsB M bx
    (evOps Try.prog ext cw ops6 26 (ops6.toList.drop 4) ((⟨[(0, .xs [a]), (3, .val v), (4, .val (.int .i64 (i : Int))), (5, .ptr 0 0), (19, .slc 1 0 n c)], [(0, ⟨52, shCells s.cl s.p s.x [a, i]⟩), (1, ⟨55, L⟩)]⟩ : Cut).st 2)).map (fun st => (st.tmps 0, st.tmps 3, st.tmps 4, st.tmps 5, st.mem 0, st.mem 1)) =
    some (.xs [a], .val v, .val (.int .i64 (i : Int)), .ptr 0 0, some ⟨52, shCells7 s (.slc 1 0 n c)⟩, some ⟨55, L⟩) := by kernel_rfl
set_option maxRecDepth 100000 in
theorem cp5 (M : Nat → Mo) (bx : Nat → XR) (a i : Nat) (v : Value) (s : Sh) (L : List SV) (n c : Nat) : letI := rowsB M bx
    (evOps Try.prog ext cw ops7 26 (ops7.toList.take 3) ((⟨[(0, .xs [a]), (3, .val v), (4, .val (.int .i64 (i : Int))), (5, .ptr 0 0)], [(0, ⟨52, shCells7 s (.slc 1 0 n c)⟩), (1, ⟨55, L⟩)]⟩ : Cut).st 2)).map (fun st => (st.tmps 0, st.tmps 4, st.tmps 21, st.tmps 23, st.mem 1, st.mem 2)) =
    some (.xs [a], .val (.int .i64 (i : Int)), .val v, .slc 2 0 1 1, some ⟨55, L⟩, some ⟨52, shCells7 s (.slc 1 0 n c)⟩) := by kernel_rfl
set_option maxRecDepth 100000 in
theorem cp6 (M : Nat → Mo) (bx : Nat → XR) (a i : Nat) (v : Value) : letI := rowsB M bx
    evK Try.prog ext Copy.CL 80 26 (seqL (rd.drop 3)) ((hd a i v).st 0) (grab Try.prog Try.f6 [0, 3, 4] [] 0) =
    some (.cut .normal ⟨[(0, .xs [a]), (3, .val v), (4, .val (.int .i64 (IntKind.i64.wrap ((i : Int) + 1))))], []⟩) := by kernel_rfl
set_option maxRecDepth 100000 in
theorem cp7 (M : Nat → Mo) (bx : Nat → XR) (a i : Nat) (v : Value) : letI := rowsB M bx
    evK Try.prog ext Copy.CL 80 26 (seqL (postOf (bodyOf Try.f6))) ((hd a i v).st 0) (grab Try.prog Try.f6 [0, 3, 4] [] 0) =
    some (.ret (.val v)) := by kernel_rfl
theorem rd_eq : rd = rd.take 2 ++ (Code.block 1 (inB (rd.getD 2 .skip)) :: rd.drop 3) := by kernel_rfl
theorem inn_eq : inn = inn.take 1 ++ [.region 6 ops6 false, .region 7 ops7 false] := by kernel_rfl
theorem ops6_eq : ops6.toList = ops6.toList.take 3 ++ (o19 :: ops6.toList.drop 4) := by kernel_rfl
theorem ops7_eq : ops7.toList = ops7.toList.take 3 ++ [o24, o25] := by kernel_rfl
theorem o19_op : o19.op = .call { callee := .builtin .append, args := #[.tmp 16, .tmp 18], argTypes := #[50, 50] } := by kernel_rfl
theorem o19_guard : o19.guard = none := by kernel_rfl
theorem o19_dst : o19.dst = some 19 := by kernel_rfl
theorem o24_op : o24.op = .call { callee := .builtin .append, args := #[.tmp 21, .tmp 23], argTypes := #[22, 22] } := by kernel_rfl
theorem o24_guard : o24.guard = none := by kernel_rfl
theorem o24_dst : o24.dst = some 24 := by kernel_rfl
theorem o25_op : o25.op = .assign (.tmp 24) := by kernel_rfl
theorem o25_guard : o25.guard = none := by kernel_rfl
theorem o25_dst : o25.dst = some 3 := by kernel_rfl
theorem info60 : ∃ (i : TypeInfo) (z : Value), Try.prog.info? 52 = some i ∧ i.zero = some z ∧ i.size = 8 ∧ i.bytes = 88 ∧ z.cells.size = 8 := by
  have h : (Try.prog.info? 52).bind (fun i => i.zero.map fun z => (i.size, i.bytes, z.cells.size)) = some (8, 88, 8) := by kernel_rfl
  obtain ⟨i, hi, h⟩ := Option.bind_eq_some_iff.1 h
  obtain ⟨z, hz, h⟩ := Option.map_eq_some_iff.1 h
  simp only [Prod.mk.injEq] at h
  exact ⟨i, z, hi, hz, h.1, h.2.1, h.2.2⟩
theorem info66 : ∃ (i : TypeInfo) (z : Value), Try.prog.info? 55 = some i ∧ i.zero = some z ∧ i.size = 20 ∧ i.bytes = 192 ∧ z.cells.size = 20 := by
  have h : (Try.prog.info? 55).bind (fun i => i.zero.map fun z => (i.size, i.bytes, z.cells.size)) = some (20, 192, 20) := by kernel_rfl
  obtain ⟨i, hi, h⟩ := Option.bind_eq_some_iff.1 h
  obtain ⟨z, hz, h⟩ := Option.map_eq_some_iff.1 h
  simp only [Prod.mk.injEq] at h
  exact ⟨i, z, hi, hz, h.1, h.2.1, h.2.2⟩
end Copy
end Go.Proofs.Ytaojjpdlfnphiaa.PDescKinds
end
section
/- cameoref10.Copy: a round; the whole. -/
set_option linter.unusedSimpArgs false
set_option linter.unusedVariables false
set_option linter.unusedSectionVars false
namespace Go.Proofs.Ytaojjpdlfnphiaa.PDescKinds
open Go.RowKit Go.Ev
/-! Rows laid one behind the other -/
theorem flat_len {f : Nat → List Value} {z : Nat} (hz : ∀ t, (f t).length = z) (n : Nat) : ((List.range n).flatMap f).length = n * z := by
  induction n with
  | zero => simp
  | succ n ih => rw [List.range_succ, List.flatMap_append, List.length_append, ih, Nat.succ_mul]; simp [hz]
theorem flat_in {f : Nat → List Value} {z : Nat} (hz : ∀ t, (f t).length = z) : ∀ (n t k : Nat) (u : Value), t < n → (f t)[k]? = some u → ((List.range n).flatMap f)[t * z + k]? = some u
  | 0, t, k, u, h, _ => absurd h (Nat.not_lt_zero _)
  | n + 1, t, k, u, h, hk => by
    have hkz : k < z := by rw [← hz t]; exact (List.getElem?_eq_some_iff.1 hk).1
    rw [List.range_succ, List.flatMap_append]
    by_cases e : t = n
    · subst e
      rw [List.getElem?_append_right (by rw [flat_len hz]; omega), flat_len hz]
      simpa using hk
    · have hlt : t < n := by omega
      have h1 : t * z + k < n * z := by
        have : (t + 1) * z ≤ n * z := Nat.mul_le_mul_right z hlt
        rw [Nat.add_mul] at this
        omega
      rw [List.getElem?_append_left (by rw [flat_len hz]; exact h1)]
      exact flat_in hz n t k u hlt hk
theorem flat_out {f : Nat → List Value} {z : Nat} (hz : ∀ t, (f t).length = z) : ∀ (n j : Nat) (u : Value), ((List.range n).flatMap f)[j]? = some u → ∃ t k, t < n ∧ j = t * z + k ∧ (f t)[k]? = some u
  | 0, j, u, h => by simp at h
  | n + 1, j, u, h => by
    rw [List.range_succ, List.flatMap_append] at h
    by_cases hj : j < n * z
    · rw [List.getElem?_append_left (by rw [flat_len hz]; exact hj)] at h
      obtain ⟨t, k, h1, h2, h3⟩ := flat_out hz n j u h
      exact ⟨t, k, by omega, h2, h3⟩
    · rw [List.getElem?_append_right (by rw [flat_len hz]; omega), flat_len hz] at h
      refine ⟨n, j - n * z, by omega, by omega, by simpa using h⟩
theorem flat_congr {f g : Nat → List Value} (n : Nat) (h : ∀ j, j < n → f j = g j) : (List.range n).flatMap f = (List.range n).flatMap g := by
  induction n with
  | zero => rfl
  | succ n ih => rw [List.range_succ, List.flatMap_append, List.flatMap_append, ih fun j hj => h j (by omega)]; simp [h n (by omega)]
theorem Pr.list_length (q : Pr) : q.list.length = 20 := rfl
theorem shVals_length (s : Sh) (u : Value) : (shVals s u).length = 8 := rfl
theorem Pr.list_one (q : Pr) : ∀ u ∈ q.list, u.oneCell' = true := by
  intro u hu
  simp only [Pr.list, D.list, V.list, List.cons_append, List.nil_append, List.mem_cons, List.not_mem_nil, or_false] at hu
  rcases hu with rfl | rfl | rfl | rfl | rfl | rfl | rfl | rfl | rfl | rfl | rfl | rfl | rfl | rfl | rfl | rfl | rfl | rfl | rfl | rfl <;> rfl
theorem shVals_one (s : Sh) (A : Option Addr) (n c : Nat) : ∀ u ∈ shVals s (.slice A n c), u.oneCell' = true := by
  intro u hu
  simp only [shVals, List.mem_cons, List.not_mem_nil, or_false] at hu
  rcases hu with rfl | rfl | rfl | rfl | rfl | rfl | rfl | rfl <;> rfl
theorem own_ne {w : World} {b b' n n' : Nat} {v u : Value} {xs ys : List Value} (h : w.ownsRow b 52 8 v n xs) (h' : w.ownsRow b' 55 20 u n' ys) : u.ownBlock = none ∨ u.ownBlock ≠ v.ownBlock := by
  rcases h'.2 with ⟨rfl, _⟩ | ⟨g', cap', cur', rfl, _, hg', _⟩
  · exact .inl rfl
  · refine .inr fun e => ?_
    rcases h.2 with ⟨rfl, _⟩ | ⟨g, cap, cur, rfl, _, hg, _⟩
    · simp [Value.ownBlock] at e
    · simp only [Value.ownBlock, Option.some.injEq] at e
      subst e
      rw [hg] at hg'
      simp at hg'
theorem grown_of {w w' : World} (hb : Below w.heap.size w w') (row : Option Nat) : w.grownBy w' row := ⟨hb.os, hb.tape, hb.output, hb.size, fun k hk _ => hb.block k hk⟩
namespace Copy
theorem put_self (a : Act) (d : Nat) (v : Value) (h : d < a.tmps.size) : (a.put (some d) v).tmps.getD d undef = v := by
  show (a.tmps.setIfInBounds d v).getD d undef = v
  simp [h]
theorem put_ne (a : Act) (d t : Nat) (v : Value) (h : d ≠ t) : (a.put (some d) v).tmps.getD t undef = a.tmps.getD t undef := by
  show (a.tmps.setIfInBounds d v).getD t undef = _
  simp [Array.getElem?_setIfInBounds_ne h]
section
variable {M : Nat → Mo} {bx : Nat → XR} {a : Nat} {w0 : World}
def rowOf (s : Sh) : List Value := (List.range s.n).flatMap fun t => (s.g t).list
structure Head (M : Nat → Mo) (a : Nat) (w0 : World) (i k : Nat) (v : Value) (S : Nat → Value) (act : Act) (w : World) : Prop where
  below : Below w0.heap.size w0 w
  size : act.tmps.size = 26
  defers : act.defers = []
  t0 : act.tmps.getD 0 undef = .slice (M a).A (M a).n (M a).c
  t3 : act.tmps.getD 3 undef = v
  t4 : act.tmps.getD 4 undef = .int .i64 (i : Int)
  own : w.ownsRow w0.heap.size 52 8 v k ((List.range k).flatMap fun j => shVals ((M a).g j) (S j))
  rows : ∀ j, j < k → w.ownsRow w0.heap.size 55 20 (S j) ((M a).g j).n (rowOf ((M a).g j))
theorem Head.enter {i k : Nat} {v : Value} {S : Nat → Value} {act : Act} {w : World} (h : Head M a w0 i k v S act w) : @SR (rowsB M bx) w 26 (fun _ => 0) ((hd a i v).st 0) act w := by
  letI := rowsB M bx
  refine epoch h.size h.defers _ _ (fun p hp => ?_) (fun p hp => ?_)
  · simp only [List.mem_cons, List.not_mem_nil, or_false] at hp
    rcases hp with rfl | rfl | rfl
    · exact h.t0.trans (den_xs _ [a]).symm
    · exact h.t3.trans (den_val _ _).symm
    · exact h.t4.trans (den_val _ _).symm
  · simp only [List.mem_cons, List.not_mem_nil, or_false] at hp
    rcases hp with rfl | rfl | rfl
    · exact ok_xs
    · exact ok_val _ _
    · exact ok_val _ _
theorem Head.later {i i' k : Nat} {v : Value} {S : Nat → Value} {act act' : Act} {w w' : World} (h : Head M a w0 i k v S act w) (hb : Below w.heap.size w w') (h1 : act'.tmps.size = 26) (h2 : act'.defers = [])
    (h3 : act'.tmps.getD 0 undef = .slice (M a).A (M a).n (M a).c) (h4 : act'.tmps.getD 3 undef = v) (h5 : act'.tmps.getD 4 undef = .int .i64 (i' : Int)) : Head M a w0 i' k v S act' w' :=
  ⟨h.below.trans (hb.mono h.below.size), h1, h2, h3, h4, h5, h.own.kept (grown_of hb none) (by cases hv : v.ownBlock <;> simp), fun j hj => (h.rows j hj).kept (grown_of hb none) (by cases hv : (S j).ownBlock <;> simp)⟩
theorem cells7_den [XEnv] (m : Nat → Nat) (s : Sh) (n c : Nat) : (shCells7 s (.slc 1 0 n c)).map (SV.den m) = shVals s (.slice (some ⟨m 1, 0, none⟩) n c) := by
  simp only [shCells7, List.map_cons, List.map_nil, den_val, den_slc]
  rfl
theorem vals_den' [XEnv] (m : Nat → Nat) (cur : Array Value) : ((cur.toList.map SV.val).map (SV.den m)).toArray = cur := by
  rw [List.map_map, show (SV.den m ∘ SV.val) = _root_.id from funext fun v => den_val m v, List.map_id]
abbrev two (a i : Nat) (v : Value) (s : Sh) (n c : Nat) (cur : Array Value) : Cut := ⟨[(0, .xs [a]), (3, .val v), (4, .val (.int .i64 (i : Int))), (5, .ptr 0 0)], [(0, ⟨52, shCells7 s (.slc 1 0 n c)⟩), (1, ⟨55, cur.toList.map SV.val⟩)]⟩
set_option maxRecDepth 100000 in
theorem tail7 (hI : Inv M bx w0) (hn : (M a).n ≤ 1048576) {i c : Nat} {v : Value} {S : Nat → Value} {act a5 : Act} {w w5 : World} {m : Nat → Nat} {cur : Array Value} (h : Head M a w0 i i v S act w) (hi : i < (M a).n)
    (hr : @SR (rowsB M bx) w 26 m ((two a i v ((M a).g i) ((M a).g i).n c cur).st 2) a5 w5) (hc1 : ((M a).g i).n ≤ c) (hc2 : c ≤ maxLen) (hc3 : cur.size = c * 20) (hc4 : cur.toList.take (((M a).g i).n * 20) = rowOf ((M a).g i))
    {Q : Exit → Act → World → Prop} (hQ : ∀ v' S' act' w', Head M a w0 i (i + 1) v' S' act' w' → Q .normal act' w') : wpL Try.prog [.region 7 ops7 false] Q a5 w5 := by
  letI := rowsB M bx
  have hIw : Inv M bx w := inv_stable _ _ _ _ hI h.below
  have C := ctxB M bx Bvents5 entsS_nil
  have hc : CallSound Try.prog (Inv M bx) cw := call_sound C.hs C.hG (ev_sound mixed ext_sound C.hs C.hXO C.hG 0).1
  simp only [wpL]
  refine wp_region_list ?_
  rw [ops7_eq]
  obtain ⟨st, hst, hpr⟩ := Option.map_eq_some_iff.1 (cp5 M bx a i v ((M a).g i) (cur.toList.map SV.val) ((M a).g i).n c)
  simp only [Prod.mk.injEq] at hpr
  obtain ⟨p0, p4, p21, p23, pm1, pm2⟩ := hpr
  refine ops_sound_tail ext_sound hIw C.hs C.hXO hc _ _ _ _ m a5 w5 hst hr ?_
  intro m6 a6 w6 _ hr6
  have b6 := hr6.mr.below
  have e21 : a6.eval (.tmp 21) = v := (hr6.ar.tm 21 (by rw [p21]; rfl)).trans (by rw [p21]; exact den_val _ _)
  have e23 : a6.eval (.tmp 23) = .slice (some ⟨m6 2, 0, none⟩) 1 1 := (hr6.ar.tm 23 (by rw [p23]; rfl)).trans (by rw [p23]; exact den_slc _ _ _ _ _)
  have hb1 := hr6.mr.blk 1 _ pm1
  have hb2 := hr6.mr.blk 2 _ pm2
  have hsz6 : a6.tmps.size = 26 := hr6.ar.size
  have hh1 : w6.heap[m6 1]? = some (.cells cur 55 (0, 0)) := by
    have := hb1.2.1
    rw [vals_den'] at this
    exact this
  have hh2 : w6.heap[m6 2]? = some (.cells (shVals ((M a).g i) (.slice (some ⟨m6 1, 0, none⟩) ((M a).g i).n c)).toArray 52 (0, 0)) := by
    have := hb2.2.1
    rw [cells7_den] at this
    exact this
  have hown : w6.ownsRow w0.heap.size 52 8 v i ((List.range i).flatMap fun j => shVals ((M a).g j) (S j)) := h.own.kept (grown_of b6 none) (by cases hv : v.ownBlock <;> simp)
  have hU : w6.ownsRow w0.heap.size 55 20 (.slice (some ⟨m6 1, 0, none⟩) ((M a).g i).n c) ((M a).g i).n (rowOf ((M a).g i)) :=
    ⟨flat_len (fun t => Pr.list_length _) _, .inr ⟨m6 1, c, cur, rfl, Nat.le_trans h.below.size hb1.1, hh1, hc1, hc2, hc3, hc4⟩⟩
  have hM : maxLen = 9223372036854775807 := by decide +kernel
  obtain ⟨i60, z60, hi1, hi2, hi3, hi4, hi5⟩ := info60
  refine wpList_append_own w6 o24_guard (.tmp 21) (.tmp 23) 22 o24_op w0.heap.size 52 i60 z60 8 88 Try.underlying22 hi1 hi2 hi3 hi4 hi5 (by decide) _ i _ e21 hown ⟨m6 2, 0, none⟩ 1 1 (shVals ((M a).g i) (.slice (some ⟨m6 1, 0, none⟩) ((M a).g i).n c)) e23 rfl ?_ (shVals_one _ _ _ _) ?_ ?_ ?_ ?_
  · intro j u hu
    rw [add_none, cell_of_row w6 (m6 2) _ _ 52 (0, 0) hh2]
    simpa using hu
  · omega
  · omega
  · exact Nat.le_trans h.below.size b6.size
  intro v' w7 hown7 hgr hnil
  refine wpList_plain o25_guard fun K hK => ?_
  have hex : (execOp (a6.put o24.dst v').eval o25).run Try.prog w7 = .ok (.value v') w7 := by
    have e24 : (a6.put o24.dst v').eval (.tmp 24) = v' := by rw [o24_dst]; exact put_self a6 24 v' (by omega)
    unfold execOp
    simp only [o25_op, e24, Sem.run_pure]
  unfold Oper.wp
  rw [hex, Oper.upon_value, o24_dst, o25_dst]
  have hsz7 : (a6.put (some 24) v').tmps.size = 26 := by simp [Act.put, hsz6]
  have e3 : ((a6.put (some 24) v').put (some 3) v').tmps.getD 3 undef = v' := put_self _ 3 v' (by omega)
  have eo : ∀ t, t ≠ 24 → t ≠ 3 → ((a6.put (some 24) v').put (some 3) v').tmps.getD t undef = a6.tmps.getD t undef := fun t h1 h2 => by rw [put_ne _ _ _ _ (Ne.symm h2), put_ne _ _ _ _ (Ne.symm h1)]
  have hbel6 : Below w0.heap.size w0 w6 := h.below.trans (b6.mono h.below.size)
  refine hK _ _ (hQ v' (fun j => if j = i then .slice (some ⟨m6 1, 0, none⟩) ((M a).g i).n c else S j) _ _ ⟨?_, by simp [Act.put, hsz6], hr6.ar.defers, ?_, e3, ?_, ?_, ?_⟩)
  · exact hbel6.trans ⟨hgr.os, hgr.tape, hgr.output, hgr.size, fun k hk => hgr.block k (Nat.lt_of_lt_of_le hk hbel6.size) (fun e => by
      have := (hown.lt k e.symm).1
      omega)⟩
  · rw [eo 0 (by decide) (by decide)]
    exact (hr6.ar.tm 0 (by rw [p0]; rfl)).trans (by rw [p0]; exact den_xs _ [a])
  · rw [eo 4 (by decide) (by decide)]
    exact (hr6.ar.tm 4 (by rw [p4]; rfl)).trans (by rw [p4]; exact den_val _ _)
  · have e : ((List.range (i + 1)).flatMap fun j => shVals ((M a).g j) (if j = i then .slice (some ⟨m6 1, 0, none⟩) ((M a).g i).n c else S j)) =
        ((List.range i).flatMap fun j => shVals ((M a).g j) (S j)) ++ shVals ((M a).g i) (.slice (some ⟨m6 1, 0, none⟩) ((M a).g i).n c) := by
      rw [List.range_succ, List.flatMap_append, flat_congr i (g := fun j => shVals ((M a).g j) (S j)) fun j hj => by rw [if_neg (by omega)]]
      simp
    rw [e]
    exact hown7
  · intro j hj
    by_cases e : j = i
    · subst e
      simp only [if_true]
      exact hU.kept hgr (own_ne hown hU)
    · simp only [if_neg e]
      have := (h.rows j (by omega)).kept (grown_of b6 none) (by cases hv : (S j).ownBlock <;> simp)
      exact this.kept hgr (own_ne hown this)
set_option maxRecDepth 100000 in
theorem tail6 (hI : Inv M bx w0) (hn : (M a).n ≤ 1048576) {i c g : Nat} {v : Value} {S : Nat → Value} {act a3 : Act} {w w3 w4 : World} {m3 : Nat → Nat} (h : Head M a w0 i i v S act w) (hi : i < (M a).n) {st3 : St}
    (hr3 : @SR (rowsB M bx) w 26 m3 ((⟨[(0, .xs [a]), (3, .val v), (4, .val (.int .i64 (i : Int))), (5, .ptr 0 0), (16, .slc 1 0 0 0), (18, .xs [a, i])], [(0, ⟨52, shCells ((M a).g i).cl ((M a).g i).p ((M a).g i).x [a, i]⟩), (1, ⟨55, []⟩)]⟩ : Cut).st 2) a3 w3)
    (hown : w4.ownsRow w.heap.size 55 20 (.slice (some ⟨g, 0, none⟩) ((M a).g i).n c) ((M a).g i).n (rowOf ((M a).g i))) (hgr : w3.grownBy w4 (some (m3 1)))
    {Q : Exit → Act → World → Prop} (hQ : ∀ v' S' act' w', Head M a w0 i (i + 1) v' S' act' w' → Q .normal act' w') :
    wpList Try.prog ops6 (Exit.then (wpL Try.prog [.region 7 ops7 false] Q) Q) (ops6.toList.drop 4) (a3.put o19.dst (.slice (some ⟨g, 0, none⟩) ((M a).g i).n c)) w4 := by
  letI := rowsB M bx
  have hIw : Inv M bx w := inv_stable _ _ _ _ hI h.below
  have C := ctxB M bx Bvents5 entsS_nil
  have hc : CallSound Try.prog (Inv M bx) cw := call_sound C.hs C.hG (ev_sound mixed ext_sound C.hs C.hXO C.hG 0).1
  have b3 := hr3.mr.below
  have hb0 := hr3.mr.blk 0 ⟨52, shCells ((M a).g i).cl ((M a).g i).p ((M a).g i).x [a, i]⟩ rfl
  have hb1 := hr3.mr.blk 1 ⟨55, []⟩ rfl
  have hne01 : m3 0 ≠ m3 1 := fun e => by have := hr3.mr.inj 0 1 _ _ rfl rfl e; cases this
  have hsz3 : a3.tmps.size = 26 := hr3.ar.size
  rcases hown.2 with ⟨e, _⟩ | ⟨g', cap, cur, e, hgb, hgh, h1, h2, h3, h4⟩
  · cases e
  simp only [Value.slice.injEq, Option.some.injEq, Addr.mk.injEq, and_true] at e
  obtain ⟨rfl, _, rfl⟩ := e
  have hw40 : w4.heap[m3 0]? = some (.cells ((shCells ((M a).g i).cl ((M a).g i).p ((M a).g i).x [a, i]).map (SV.den m3)).toArray 52 (0, 0)) := (hgr.block (m3 0) (Array.getElem?_eq_some_iff.1 hb0.2.1).1 (fun e => hne01 (Option.some.inj e))).trans hb0.2.1
  have hne : m3 0 ≠ g := fun e => by
    rw [e, hgh] at hw40
    simp at hw40
  have b4 : Below w.heap.size w w4 := b3.trans ⟨hgr.os, hgr.tape, hgr.output, hgr.size, fun k hk => hgr.block k (Nat.lt_of_lt_of_le hk b3.size) (fun e => by
    have := Option.some.inj e
    have := hb1.1
    omega)⟩
  have hr4 : SR w 26 (fun b => if b = 0 then m3 0 else g) ((⟨[(0, .xs [a]), (3, .val v), (4, .val (.int .i64 (i : Int))), (5, .ptr 0 0), (19, .slc 1 0 ((M a).g i).n c)], [(0, ⟨52, shCells ((M a).g i).cl ((M a).g i).p ((M a).g i).x [a, i]⟩), (1, ⟨55, cur.toList.map SV.val⟩)]⟩ : Cut).st 2) (a3.put o19.dst (.slice (some ⟨g, 0, none⟩) ((M a).g i).n c)) w4 := by
    rw [o19_dst]
    have eo : ∀ t, t ≠ 19 → (a3.put (some 19) (.slice (some ⟨g, 0, none⟩) ((M a).g i).n c)).tmps.getD t undef = a3.tmps.getD t undef := fun t h1 => put_ne _ _ _ _ (Ne.symm h1)
    refine epochB (a := a3.put (some 19) (.slice (some ⟨g, 0, none⟩) ((M a).g i).n c)) b4 (by simp [Act.put, hsz3]) hr3.ar.defers _ _ _ (fun p hp => ?_) (fun p hp => ?_) (fun b k hk => ?_) (fun b b' k k' hk hk' he => ?_) (fun b hb => ?_)
    · simp only [List.mem_cons, List.not_mem_nil, or_false] at hp
      rcases hp with rfl | rfl | rfl | rfl | rfl
      · rw [eo 0 (by decide)]; exact (hr3.ar.tm 0 rfl).trans (by rw [den_xs]; exact den_xs _ [a])
      · rw [eo 3 (by decide)]; exact (hr3.ar.tm 3 rfl).trans (by rw [den_val]; exact den_val _ _)
      · rw [eo 4 (by decide)]; exact (hr3.ar.tm 4 rfl).trans (by rw [den_val]; exact den_val _ _)
      · rw [eo 5 (by decide)]; exact (hr3.ar.tm 5 rfl).trans (by rw [den_ptr]; exact den_ptr _ 0 0)
      · rw [put_self a3 19 _ (by omega), den_slc]; rfl
    · simp only [List.mem_cons, List.not_mem_nil, or_false] at hp
      rcases hp with rfl | rfl | rfl | rfl | rfl
      · exact ok_xs
      · exact ok_val _ _
      · exact ok_val _ _
      · exact ok_ptr.2 rfl
      · exact ok_slc.2 rfl
    · rcases pickM_two hk with ⟨rfl, rfl⟩ | ⟨rfl, rfl⟩
      · refine ⟨hb0.1, ?_, fun c hc => (simple_sh _ _ _ _ _ c hc).ok _⟩
        show w4.heap[m3 0]? = _
        rw [hw40]
        rfl
      · refine ⟨hgb, ?_, fun c hc => ?_⟩
        · show w4.heap[g]? = _
          rw [vals_den']
          exact hgh
        · obtain ⟨u, _, rfl⟩ := List.mem_map.1 hc
          exact ok_val _ _
    · rcases pickM_two hk with ⟨rfl, _⟩ | ⟨rfl, _⟩ <;> rcases pickM_two hk' with ⟨rfl, _⟩ | ⟨rfl, _⟩
      · rfl
      · exact absurd he hne
      · exact absurd he.symm hne
      · rfl
    · cases hq : pickM _ b with
      | none => rfl
      | some k => rcases pickM_two hq with ⟨rfl, _⟩ | ⟨rfl, _⟩ <;> omega
  obtain ⟨st, hst, hpr⟩ := Option.map_eq_some_iff.1 (cp4 M bx a i v ((M a).g i) (cur.toList.map SV.val) ((M a).g i).n c)
  simp only [Prod.mk.injEq] at hpr
  obtain ⟨p0, p3, p4, p5, pm0, pm1⟩ := hpr
  rw [← List.append_nil (ops6.toList.drop 4)]
  refine ops_sound_tail ext_sound hIw C.hs C.hXO hc [] _ _ _ _ _ _ hst hr4 ?_
  intro m5 a5 w5 _ hr5
  refine tail7 (bx := bx) (m := m5) (cur := cur) hI hn h hi ?_ h1 h2 h3 h4 hQ
  have q0 := hr5.mr.blk 0 _ pm0
  have q1 := hr5.mr.blk 1 _ pm1
  refine epochB hr5.mr.below hr5.ar.size hr5.ar.defers _ _ _ (fun p hp => ?_) (fun p hp => ?_) (fun b k hk => ?_) (fun b b' k k' hk hk' he => ?_) (fun b hb => ?_)
  · simp only [List.mem_cons, List.not_mem_nil, or_false] at hp
    rcases hp with rfl | rfl | rfl | rfl
    · exact (hr5.ar.tm 0 (by rw [p0]; rfl)).trans (by rw [p0])
    · exact (hr5.ar.tm 3 (by rw [p3]; rfl)).trans (by rw [p3])
    · exact (hr5.ar.tm 4 (by rw [p4]; rfl)).trans (by rw [p4])
    · exact (hr5.ar.tm 5 (by rw [p5]; rfl)).trans (by rw [p5])
  · simp only [List.mem_cons, List.not_mem_nil, or_false] at hp
    rcases hp with rfl | rfl | rfl | rfl
    · exact ok_xs
    · exact ok_val _ _
    · exact ok_val _ _
    · exact ok_ptr.2 rfl
  · rcases pickM_two hk with ⟨rfl, rfl⟩ | ⟨rfl, rfl⟩
    · refine ⟨q0.1, q0.2.1, fun c hc => ?_⟩
      simp only [shCells7, List.mem_cons, List.not_mem_nil, or_false] at hc
      rcases hc with rfl | rfl | rfl | rfl | rfl | rfl | rfl | rfl <;> first | exact ok_val _ _ | exact ok_slc.2 rfl
    · refine ⟨q1.1, q1.2.1, fun c hc => ?_⟩
      obtain ⟨u, _, rfl⟩ := List.mem_map.1 hc
      exact ok_val _ _
  · rcases pickM_two hk with ⟨rfl, _⟩ | ⟨rfl, _⟩ <;> rcases pickM_two hk' with ⟨rfl, _⟩ | ⟨rfl, _⟩
    · rfl
    · exact hr5.mr.inj 0 1 _ _ pm0 pm1 he
    · exact hr5.mr.inj 1 0 _ _ pm1 pm0 he
    · rfl
  · cases hq : pickM _ b with
    | none => rfl
    | some k => rcases pickM_two hq with ⟨rfl, _⟩ | ⟨rfl, _⟩ <;> omega
set_option maxRecDepth 100000 in
theorem inner (hI : Inv M bx w0) (hn : (M a).n ≤ 1048576) (hp : ∀ j, ((M a).g j).n ≤ 1048576) (hnil : ∀ j, ((M a).g j).A = none → ((M a).g j).n = 0 ∧ ((M a).g j).c = 0)
    {i : Nat} {v : Value} {S : Nat → Value} {act a1 : Act} {w w1 : World} {m1 : Nat → Nat} (h : Head M a w0 i i v S act w) (hi : i < (M a).n) (hr1 : @SR (rowsB M bx) w 26 m1 ((hd a i v).st 0) a1 w1) {Q : Exit → Act → World → Prop}
    (hQ : ∀ v' S' act' w', Head M a w0 i (i + 1) v' S' act' w' → Q .normal act' w') : wpL Try.prog inn Q a1 w1 := by
  letI := rowsB M bx
  have hIw : Inv M bx w := inv_stable _ _ _ _ hI h.below
  have C := ctxB M bx Bvents5 entsS_nil
  have hc : CallSound Try.prog (Inv M bx) cw := call_sound C.hs C.hG (ev_sound mixed ext_sound C.hs C.hXO C.hG 0).1
  rw [inn_eq, wpL_app]
  have e2 := cp2 M bx a i v
  rw [dlt hi, dge] at e2
  simp only [cond_true, Bool.and_self] at e2
  refine piece C.mix C.hX C.hs C.hXO C.hG e2 hIw hr1 (fun v hv => by cases hv) (fun ex d hd m2 a2 w2 hr2 => ?_)
  cases hd
  show (Code.region 6 ops6 false).wp Try.prog (Exit.then (wpL Try.prog [.region 7 ops7 false] Q) Q) a2 w2
  refine wp_region_list ?_
  rw [ops6_eq]
  obtain ⟨st3, hst3, hcut3⟩ := Option.bind_eq_some_iff.1 (cp3 M bx a i v ((M a).g i))
  refine ops_sound_tail ext_sound hIw C.hs C.hXO hc _ _ _ _ m2 a2 w2 hst3 hr2 ?_
  intro m3 a3 w3 _ hr3
  have hr3 := cut_sound hcut3 hr3
  have b3 := hr3.mr.below
  have e16 : a3.eval (.tmp 16) = .slice (some ⟨m3 1, 0, none⟩) 0 0 := (hr3.ar.tm 16 rfl).trans (den_slc m3 1 0 0 0)
  have e18 : a3.eval (.tmp 18) = .slice ((M a).g i).A ((M a).g i).n ((M a).g i).c := (hr3.ar.tm 18 rfl).trans (den_xs m3 [a, i])
  have hb1 := hr3.mr.blk 1 ⟨55, []⟩ rfl
  have hlit : w3.ownsRow w.heap.size 55 20 (.slice (some ⟨m3 1, 0, none⟩) 0 0) 0 [] := ⟨rfl, .inr ⟨m3 1, 0, #[], rfl, hb1.1, hb1.2.1, Nat.le_refl _, Nat.zero_le _, rfl, rfl⟩⟩
  have key : ∀ (g c' : Nat) (w4 : World), w4.ownsRow w.heap.size 55 20 (.slice (some ⟨g, 0, none⟩) ((M a).g i).n c') ((M a).g i).n (rowOf ((M a).g i)) → w3.grownBy w4 (some (m3 1)) → _ :=
    fun g c' w4 h1 h2 => tail6 (bx := bx) (Q := Q) hI hn h hi (st3 := st3) hr3 h1 h2 hQ
  obtain ⟨i66, z66, hi1, hi2, hi3, hi4, hi5⟩ := info66
  cases hA : ((M a).g i).A with
  | none =>
    obtain ⟨h0, h0c⟩ := hnil i hA
    rw [hA, h0, h0c] at e18
    refine wpList_append_own_none o19_guard (.tmp 16) (.tmp 18) 50 o19_op w.heap.size 55 i66 20 Try.underlying50 hi1 _ 0 [] e16 hlit e18 ?_
    have := key (m3 1) 0 w3 (by
      have e : rowOf ((M a).g i) = [] := by unfold rowOf; rw [h0]; rfl
      rw [e, h0]; exact hlit) ⟨rfl, rfl, rfl, Nat.le_refl _, fun _ _ _ => rfl⟩
    rw [h0] at this
    exact this
  | some ad =>
    rw [hA] at e18
    refine wpList_append_own w3 o19_guard (.tmp 16) (.tmp 18) 50 o19_op w.heap.size 55 i66 z66 20 192 Try.underlying50 hi1 hi2 hi3 hi4 hi5 (by decide) _ 0 [] e16 hlit ad ((M a).g i).n ((M a).g i).c (rowOf ((M a).g i)) e18 ?_ ?_ ?_ ?_ ?_ b3.size ?_
    · exact flat_len (fun t => Pr.list_length _) _
    · intro j u hu
      obtain ⟨t, k, ht, rfl, hk⟩ := flat_out (fun t => Pr.list_length _) _ _ _ hu
      have hX := (inv_stable M bx _ _ hIw b3).2 [a, i] t ht
      obtain ⟨_, _, ad', hA', _, hcell⟩ := hX
      have hA' : ((M a).g i).A = some ad' := hA'
      rw [hA] at hA'
      cases hA'
      have := hcell k (.val u) (by
        show (((M a).g i).g t).cells[k]? = _
        rw [Pr.cells_list, List.getElem?_map, hk]; rfl) m3
      rw [den_val] at this
      exact this
    · intro u hu
      obtain ⟨t, _, hu⟩ := List.mem_flatMap.1 hu
      exact Pr.list_one _ u hu
    · have : maxLen = 9223372036854775807 := by decide +kernel
      have := hp i
      omega
    · have := hp i
      omega
    · intro v' w4 hown hgr hnilv
      rw [Nat.zero_add, List.nil_append] at hown
      have hown' := hown
      rcases hown.2 with ⟨rfl, _⟩ | ⟨g, cap, cur, rfl, _⟩
      · have := (hnilv.1 rfl).1
        cases this
      · exact key g cap w4 hown' hgr
set_option maxRecDepth 100000 in
theorem round (hI : Inv M bx w0) (hn : (M a).n ≤ 1048576) (hp : ∀ j, ((M a).g j).n ≤ 1048576) (hnil : ∀ j, ((M a).g j).A = none → ((M a).g j).n = 0 ∧ ((M a).g j).c = 0)
    {i : Nat} {v : Value} {S : Nat → Value} {act : Act} {w : World} (h : Head M a w0 i i v S act w) (hi : i < (M a).n) {Q : Exit → Act → World → Prop}
    (hQ : ∀ v' S' act' w', Head M a w0 (i + 1) (i + 1) v' S' act' w' → Q .normal act' w') : wpL Try.prog rd Q act w := by
  letI := rowsB M bx
  have hIw : Inv M bx w := inv_stable _ _ _ _ hI h.below
  have C := ctxB M bx Bvents5 entsS_nil
  have hr := h.enter (bx := bx)
  rw [rd_eq, wpL_app]
  have e1 := cp1 M bx a i v
  rw [dlt hi] at e1
  simp only [cond_true] at e1
  refine piece C.mix C.hX C.hs C.hXO C.hG e1 hIw hr (fun v hv => by cases hv) (fun ex d hd m1 a1 w1 hr1 => ?_)
  cases hd
  show wpL Try.prog (Code.block 1 (inB (rd.getD 2 .skip)) :: rd.drop 3) Q a1 w1
  simp only [wpL]
  refine wp_block (wpL_flat _ ?_)
  refine inner (bx := bx) hI hn hp hnil h hi hr1 (fun v' S' act' w' h' => ?_)
  show wpL Try.prog (rd.drop 3) Q act' w'
  have hI' : Inv M bx w' := inv_stable _ _ _ _ hI h'.below
  have e6 := cp6 M bx a i v'
  rw [wr hi (by omega)] at e6
  refine piece C.mix C.hX C.hs C.hXO C.hG e6 hI' (h'.enter (bx := bx)) (fun v hv => by cases hv) (fun ex d hd m2 a2 w2 hr2 => ?_)
  cases hd
  exact hQ v' S' a2 w2 (h'.later (hr2.mr.below) hr2.ar.size hr2.ar.defers ((hr2.ar.tm 0 rfl).trans (den_xs _ [a])) ((hr2.ar.tm 3 rfl).trans (den_val _ _)) ((hr2.ar.tm 4 rfl).trans (den_val _ _)))
/-- What Copy hands out. -/
def Copied (M : Nat → Mo) (a : Nat) (w0 : World) (v : Value) (S : Nat → Value) (w : World) : Prop :=
  Below w0.heap.size w0 w ∧ w.ownsRow w0.heap.size 52 8 v (M a).n ((List.range (M a).n).flatMap fun j => shVals ((M a).g j) (S j)) ∧
  ∀ j, j < (M a).n → w.ownsRow w0.heap.size 55 20 (S j) ((M a).g j).n (rowOf ((M a).g j))
set_option maxRecDepth 100000 in
theorem calls (hI : Inv M bx w0) (hn : (M a).n ≤ 1048576) (hp : ∀ j, ((M a).g j).n ≤ 1048576) (hnil : ∀ j, ((M a).g j).A = none → ((M a).g j).n = 0 ∧ ((M a).g j).c = 0) :
    Calls Try.prog 6 #[.slice (M a).A (M a).n (M a).c] w0 (fun e w' => ∃ v S, e = .returned v ∧ Copied M a w0 v S w') := by
  letI := rowsB M bx
  have C := ctxB M bx Bvents5 entsS_nil
  refine calls_of_wp Try.func6 (c := Try.f6.body.getD .skip) (by kernel_rfl) ?_
  refine wpL_flat _ ?_
  show wpL Try.prog (bodyOf Try.f6) _ _ _
  rw [split_loop (bodyOf Try.f6) (by kernel_rfl), wpL_app]
  have hst := start_sound (fn := Try.f6) [.xs [a]] (fun x hx => by
    simp only [List.mem_cons, List.not_mem_nil, or_false] at hx
    subst hx
    exact ok_xs) w0 (fun _ => 0)
  have loop : ∀ (k i : Nat) (v : Value) (S : Nat → Value) (act : Act) (w : World), Head M a w0 i i v S act w → i ≤ (M a).n → (M a).n - i < k →
      Code.rounds Try.prog (roundOf (bodyOf Try.f6)) (Exit.inBlock (idOf (bodyOf Try.f6)) (Exit.then (wpL Try.prog (postOf (bodyOf Try.f6)) (bodyPost Try.prog Try.f6 (fun e w' => ∃ v S, e = .returned v ∧ Copied M a w0 v S w'))) (bodyPost Try.prog Try.f6 (fun e w' => ∃ v S, e = .returned v ∧ Copied M a w0 v S w')))) k act w := by
    intro k
    induction k with
    | zero => intro i v S act w h h1 h2; omega
    | succ k ih =>
      intro i v S act w h h1 h2
      rw [rounds_succ]
      refine wpL_flat _ ?_
      show wpL Try.prog rd _ act w
      by_cases hi : i < (M a).n
      · exact round (bx := bx) hI hn hp hnil h hi (fun v' S' act' w' h' => ih (i + 1) v' S' act' w' h' (by omega) (by omega))
      · obtain rfl : i = (M a).n := by omega
        have hIw : Inv M bx w := inv_stable _ _ _ _ hI h.below
        rw [rd_eq, wpL_app]
        have e1 := cp1 M bx a (M a).n v
        rw [dnl] at e1
        simp only [cond_false] at e1
        refine piece C.mix C.hX C.hs C.hXO C.hG e1 hIw (h.enter (bx := bx)) (fun v hv => by cases hv) (fun ex d hd m1 a1 w1 hr1 => ?_)
        cases hd
        have h1 := h.later (hr1.mr.below) hr1.ar.size hr1.ar.defers ((hr1.ar.tm 0 rfl).trans (den_xs _ [a])) ((hr1.ar.tm 3 rfl).trans (den_val _ _)) ((hr1.ar.tm 4 rfl).trans (den_val _ _))
        have hI1 : Inv M bx w1 := inv_stable _ _ _ _ hI h1.below
        show wpL Try.prog (postOf (bodyOf Try.f6)) _ a1 w1
        refine piece C.mix C.hX C.hs C.hXO C.hG (cp7 M bx a (M a).n v) hI1 (h1.enter (bx := bx)) (fun u hu m' a' w' g1 g2 g3 => ?_) (fun ex d hd => by cases hd)
        cases hu
        rw [den_val] at g2
        have h2 := h1.below.trans (g3.mono h1.below.size)
        exact ⟨g1, _, g2, v, S, rfl, h2, h1.own.kept (grown_of g3 none) (by cases hv : v.ownBlock <;> simp), fun j hj => (h1.rows j hj).kept (grown_of g3 none) (by cases hv : (S j).ownBlock <;> simp)⟩
  refine piece C.mix C.hX C.hs C.hXO C.hG (cp0 M bx a) hI hst (fun v hv => by cases hv) (fun ex d hd m1 a1 w1 hr1 => ?_)
  cases hd
  show wpL Try.prog (Code.block (idOf (bodyOf Try.f6)) (.loop (roundOf (bodyOf Try.f6))) :: postOf (bodyOf Try.f6)) _ a1 w1
  simp only [wpL]
  refine wp_block (wp_loop_rounds ((M a).n + 1) ?_)
  refine loop ((M a).n + 1) 0 (.slice none 0 0) (fun _ => undef) a1 w1 ⟨hr1.mr.below, hr1.ar.size, hr1.ar.defers, (hr1.ar.tm 0 rfl).trans (den_xs _ [a]), (hr1.ar.tm 3 rfl).trans (den_val _ _), (hr1.ar.tm 4 rfl).trans (den_val _ _), World.ownsRow_nil _ _ _ _, fun j hj => absurd hj (Nat.not_lt_zero _)⟩ (Nat.zero_le _) (by omega)
end
end Copy
end Go.Proofs.Ytaojjpdlfnphiaa.PDescKinds
end
section
/- InvariantBroken: the law runs; what is left is plain. -/
set_option linter.unusedSimpArgs false
set_option linter.unusedVariables false
set_option linter.unusedSectionVars false
namespace Go.Proofs.Ytaojjpdlfnphiaa.PDescKinds
open Go.RowKit Go.Ev
def slA : Value → Option Addr
  | .slice A _ _ => A
  | _ => none
def slC : Value → Nat
  | .slice _ _ c => c
  | _ => 0
/-- The same moment, elsewhere. -/
def Twin (mo m : Mo) : Prop := mo.n = m.n ∧ ∃ f : Nat → Option Addr × Nat, mo.g = fun j => { m.g j with A := (f j).1, c := (f j).2 }
theorem own_slice {w : World} {b e z n : Nat} {v : Value} {xs : List Value} (h : w.ownsRow b e z v n xs) : v = .slice (slA v) n (slC v) ∧ (slA v = none → n = 0 ∧ slC v = 0) := by
  rcases h.2 with ⟨rfl, rfl⟩ | ⟨g, cap, cur, rfl, _⟩
  · exact ⟨rfl, fun _ => ⟨rfl, rfl⟩⟩
  · exact ⟨rfl, fun h => by cases h⟩
theorem own_cell {w : World} {b e z n : Nat} {v : Value} {f : Nat → List Value} (hz : ∀ t, (f t).length = z) (h : w.ownsRow b e z v n ((List.range n).flatMap f)) (t : Nat) (ht : t < n) :
    ∃ a, slA v = some a ∧ a.block < w.heap.size ∧ ∀ k u, (f t)[k]? = some u → w.cell? (a.add (t * z + k)) = some u := by
  have hl := h.lt
  have hc := h.cells (g := (v.ownBlock).getD 0)
  rcases h.2 with ⟨_, h0⟩ | ⟨g, cap, cur, rfl, _⟩
  · omega
  · exact ⟨⟨g, 0, none⟩, rfl, (hl g rfl).2, fun k u hk => hc rfl _ _ (flat_in hz n t k u ht hk)⟩
theorem copied_mo {M : Nat → Mo} {a : Nat} {w0 w : World} {v : Value} {S : Nat → Value} (h : Copy.Copied M a w0 v S w) (hr : RawMo w0 (M a)) :
    ∃ mo : Mo, v = .slice mo.A mo.n mo.c ∧ RawMo w mo ∧ Twin mo (M a) := by
  obtain ⟨hb, ho, hrow⟩ := h
  have hr' := hr.below hb
  refine ⟨⟨slA v, (M a).n, slC v, fun j => { (M a).g j with A := if j < (M a).n then slA (S j) else ((M a).g j).A, c := if j < (M a).n then slC (S j) else ((M a).g j).c }⟩, (own_slice ho).1, ?_, rfl, fun j => (if j < (M a).n then slA (S j) else ((M a).g j).A, if j < (M a).n then slC (S j) else ((M a).g j).c), rfl⟩
  refine ⟨fun j hj => ?_, fun j hj => ?_, fun j i hi => ?_⟩
  · simp only at hj ⊢
    by_cases h : j < (M a).n
    · simp only [if_pos h] at hj ⊢
      exact (own_slice (hrow j h)).2 hj
    · simp only [if_neg h] at hj ⊢
      exact hr.nils j hj
  · simp only at hj ⊢
    obtain ⟨ad, h1, h2, h3⟩ := own_cell (fun t => shVals_length _ _) ho j hj
    refine ⟨ad, h1, h2, fun t u ht => h3 t u ?_⟩
    simp only [Sh.row, if_pos hj] at ht
    have e := (own_slice (hrow j hj)).1
    rw [e]
    exact ht
  · simp only at hi ⊢
    by_cases h : j < (M a).n
    · simp only [if_pos h]
      exact own_cell (fun t => Pr.list_length _) (hrow j h) i hi
    · simp only [if_neg h]
      exact hr'.row j i hi
/-! A call of one argument, and its answer in a variable -/
theorem call_region {P : Program} {id : Nat} {ops : Array Oper} {mv cl asg : Oper} {src d1 d2 d3 : Nat} {f : FuncId} {ats : Array TypeId} {va : Value} {a : Act} {w : World} {N : Nat} {R : Ending → World → Prop} {Q : Exit → Act → World → Prop}
    (hops : ops.toList = [mv, cl, asg]) (g1 : mv.guard = none) (g2 : cl.guard = none) (g3 : asg.guard = none) (o1 : mv.op = .move (.tmp src)) (t1 : mv.dst = some d1) (o2 : cl.op = .call { callee := .value (.func f), args := #[.tmp d1], argTypes := ats }) (t2 : cl.dst = some d2)
    (o3 : asg.op = .assign (.tmp d2)) (t3 : asg.dst = some d3) (he : enters P f = true) (hs : a.tmps.size = N) (l1 : d1 < N) (l2 : d2 < N) (hv : a.tmps.getD src undef = va) (hc : Calls P f #[va] w R) (hR : ∀ e w', R e w' → ∃ v, e = .returned v)
    (h : ∀ v w', R (.returned v) w' → Q .normal (((a.put (some d1) va).put (some d2) v).put (some d3) v) w') : (Code.region id ops false).wp P Q a w := by
  refine wp_region_list ?_
  rw [hops]
  refine wpList_plain g1 fun K hK => ?_
  have e1 : a.eval (.tmp src) = va := hv
  have x1 : (execOp a.eval mv).run P w = .ok (.value va) w := by
    unfold execOp
    simp only [o1, e1, Sem.run_pure]
  unfold Oper.wp
  rw [x1, Oper.upon_value, t1]
  refine hK _ _ (wpList_plain g2 fun K hK => ?_)
  have e2 : (a.put (some d1) va).eval (.tmp d1) = va := Copy.put_self a d1 va (by omega)
  have x2 : (execOp (a.put (some d1) va).eval cl).run P w = .ok (.enter f #[va]) w := by
    rw [← run_enters he #[va] w]
    unfold execOp
    have em : (#[Operand.tmp d1] : Array Operand).map (a.put (some d1) va).eval = #[va] := by simp [e2]
    simp only [o2, resolve, em, Act.eval, Deferred.ofValue, Sem.run_bind, Sem.run_pure, Result.andThen_ok, invoke]
    simp
  unfold Oper.wp
  rw [x2, Oper.upon_enter, t2]
  refine Calls.mono hc fun e w' hr => ?_
  obtain ⟨v, rfl⟩ := hR e w' hr
  refine hK _ _ (wpList_plain g3 fun K hK => ?_)
  have e3 : ((a.put (some d1) va).put (some d2) v).eval (.tmp d2) = v := Copy.put_self _ d2 v (by simp [Act.put]; omega)
  have x3 : (execOp ((a.put (some d1) va).put (some d2) v).eval asg).run P w' = .ok (.value v) w' := by
    unfold execOp
    simp only [o3, e3, Sem.run_pure]
  unfold Oper.wp
  rw [x3, Oper.upon_value, t3]
  exact hK _ _ (h v w' hr)
theorem body_mono {P : Program} {fn : Func} {R R' : Ending → World → Prop} (h : ∀ e w, R e w → R' e w) {e : Exit} {a : Act} {w : World} (hb : bodyPost P fn R e a w) : bodyPost P fn R' e a w := by
  cases e with
  | normal => obtain ⟨h1, v, h2, h3⟩ := hb; exact ⟨h1, v, h2, h _ _ h3⟩
  | ret => obtain ⟨h1, v, h2, h3⟩ := hb; exact ⟨h1, v, h2, h _ _ h3⟩
  | panic c => exact ⟨hb.1, h _ _ hb.2⟩
  | outgrown => exact h _ _ hb
  | _ => exact hb
/-! The law -/
def Sh0 : Sh := ⟨0, S.V0, false, none, 0, 0, fun _ => ⟨⟨⟨#[]⟩, 0⟩, S.D0⟩⟩
def Mo0 : Mo := ⟨none, 0, 0, fun _ => Sh0⟩
def moments (m0 m1 m2 m3 : Mo) : Nat → Mo
  | 0 => m0
  | 1 => m1
  | 2 => m2
  | 3 => m3
  | _ => Mo0
theorem raw0 (w : World) : RawMo w Mo0 := ⟨fun _ _ => ⟨rfl, rfl⟩, fun j hj => absurd hj (Nat.not_lt_zero _), fun j i hi => absurd hi (Nat.not_lt_zero _)⟩
theorem raw_moments {w : World} {m0 m1 m2 m3 : Mo} (h0 : RawMo w m0) (h1 : RawMo w m1) (h2 : RawMo w m2) (h3 : RawMo w m3) : ∀ k, RawMo w (moments m0 m1 m2 m3 k)
  | 0 => h0
  | 1 => h1
  | 2 => h2
  | 3 => h3
  | _ + 4 => raw0 w
def Small (m : Mo) : Prop := m.n ≤ 1048576 ∧ ∀ j, (m.g j).n ≤ 1048576
theorem small0 : Small Mo0 := ⟨by decide, fun _ => by show 0 ≤ _; omega⟩
theorem fit_moments {m0 m1 m2 m3 : Mo} (h0 : Small m0) (h1 : Small m1) (h2 : Small m2) (h3 : Small m3) : Fit (moments m0 m1 m2 m3) := by
  have key : ∀ m : Mo, Small m → (m.n : Int) ≤ 9223372036854775807 ∧ ∀ j, ((m.g j).n : Int) ≤ 9223372036854775807 := fun m h => ⟨by have := h.1; omega, fun j => by have := h.2 j; omega⟩
  intro k
  match k with
  | 0 => exact key m0 h0
  | 1 => exact key m1 h1
  | 2 => exact key m2 h2
  | 3 => exact key m3 h3
  | _ + 4 => exact key Mo0 small0
namespace Brk
end Brk
end Go.Proofs.Ytaojjpdlfnphiaa.PDescKinds
end
section
/- Own rows that grow beside what is computed: lists of deltas. -/
set_option linter.unusedSimpArgs false
set_option linter.unusedVariables false
set_option linter.unusedSectionVars false
namespace Go.Ev
section
variable [XEnv]
variable {P : Program} {X : ExtFn} {G : GFn} {I : World → Prop} {N : Nat} {fn : Func} {fs : List Fr} {l : List Code} {k : Nat} {ts bs : List Nat} {next : Nat}
end
end Go.Ev
namespace Go.Proofs.Ytaojjpdlfnphiaa.PDescKinds
open Go.RowKit Go.Ev
/-- A delta. -/
structure Dl where
  o : Int
  what : Int
  n : Int
  yes : Bool
  v : V
  k : K
  d : D
def K0 : K := ⟨⟨#[]⟩, 0⟩
def Dl.list (x : Dl) : List Value := .int .i64 x.o :: .int .i64 x.what :: .int .i64 x.n :: .bool x.yes :: (x.v.list ++ (.string x.k.s :: .int .i64 x.k.n :: x.d.list))
def Dl.cells (x : Dl) : List SV := x.list.map SV.val
section
variable {M : Nat → Mo} {bx : Nat → XR} {N : Nat} {w0 : World} {tv : Nat} {ts : List (Nat × SV)} {L : List Dl} {a : Act} {w : World}
end
end Go.Proofs.Ytaojjpdlfnphiaa.PDescKinds
end
section
/- invariant.between, from its beginning to its end. -/
set_option linter.unusedSimpArgs false
set_option linter.unusedVariables false
set_option linter.unusedSectionVars false
namespace Go.Proofs.Ytaojjpdlfnphiaa.PDescKinds
open Go.RowKit Go.Ev
theorem own_base {w : World} {b b' e z n : Nat} {v : Value} {xs : List Value} (h : w.ownsRow b e z v n xs) (hb : b' ≤ b) : w.ownsRow b' e z v n xs := by
  refine ⟨h.1, ?_⟩
  rcases h.2 with h | ⟨g, cap, cur, h1, h2, h3⟩
  · exact .inl h
  · exact .inr ⟨g, cap, cur, h1, Nat.le_trans hb h2, h3⟩
namespace Btw
end Btw
end Go.Proofs.Ytaojjpdlfnphiaa.PDescKinds
end
section
/- invariant.Diff runs, of two moments of one length. -/
set_option linter.unusedSimpArgs false
set_option linter.unusedVariables false
set_option linter.unusedSectionVars false
namespace Go.Proofs.Ytaojjpdlfnphiaa.PDescKinds
open Go.RowKit Go.Ev
theorem put_all (a : Act) (N d : Nat) (v : Value) (hs : a.tmps.size = N) (hd : d < N) : (a.put (some d) v).tmps.size = N ∧ (a.put (some d) v).defers = a.defers ∧ (a.put (some d) v).tmps.getD d undef = v ∧ ∀ t, d ≠ t → (a.put (some d) v).tmps.getD t undef = a.tmps.getD t undef :=
  ⟨by simp [Act.put, hs], rfl, Copy.put_self a d v (by omega), fun t h => Copy.put_ne a d t v h⟩
theorem wpOp_of {P : Program} {ops : Array Oper} {Q : Exit → Act → World → Prop} {i : Nat} {o : Oper} {K : Act → World → Prop} {a : Act} {w : World} (hi : ops[i]? = some o) (hg : o.guard = none) (h : o.wp P a w K Q) : wpOp P ops Q i K a w := by
  unfold Go.wpOp
  simp only [hi, Region.wanted, hg, if_true]
  exact .inl h
namespace Df
end Df
end Go.Proofs.Ytaojjpdlfnphiaa.PDescKinds
end
section
/- Operations that only read, taken first where a region draws its order. -/
set_option linter.unusedSimpArgs false
set_option linter.unusedVariables false
set_option linter.unusedSectionVars false
namespace Go.Ev
open Go.RowKit Go.Proofs.Ytaojjpdlfnphiaa.PDescKinds
variable [XEnv]
/-- The length of a slice that is a plain value. -/
def lenV (P : Program) (b : Builtin) (ts : Array TypeId) (args : List SV) : Option SV :=
  match b with
  | .len => match args with
    | [.val (.slice _ n _)] => match ts[0]? with
      | some t => match pureRun P (underlying t) with
        | some (.slice _) => some (.val (.int .i64 n))
        | _ => none
      | none => none
    | _ => none
  | _ => none
/-- What an operation that only reads yields. -/
def evP (P : Program) (ρ : Operand → SV) (o : Oper) : Option SV :=
  match o.op with
  | .move x => bif (ρ x).known then some (ρ x) else none
  | .assign x => bif (ρ x).known then some (ρ x) else none
  | .load t x => match ρ x with
    | .xp r i off => evLoad P t ⟨t, (XEnv.env r).g i⟩ off
    | _ => none
  | .fieldAddr s x i => match ρ x with
    | .xp r j off => match fieldOff P s i with
      | some d => some (.xp r j (off + d))
      | none => none
    | .val (.pointer (some A)) => match fieldOff P s i with
      | some d => some (.val (.pointer (some (A.add d))))
      | none => none
    | _ => none
  | .nilCheck x => match ρ x with
    | .xp r j off => some (.xp r j off)
    | .val (.pointer (some A)) => some (.val (.pointer (some A)))
    | _ => none
  | .call c => match c.callee with
    | .builtin b => match lenV P b c.argTypes (c.args.toList.map ρ) with
      | some v => some v
      | none => lenOf P b c.argTypes (c.args.toList.map ρ)
    | _ => none
  | .binOp op t x y _ => match ρ x with
    | .val a => match ρ y with
      | .val b => match binV P op t x y a b with
        | some v => some (.val v)
        | none => none
      | _ => none
    | _ => none
  | .indexAddr t x i => match ρ x with
    | .val (.slice (some A) n _) => match ρ i with
      | .val (.int _ j) => match pureRun P (underlying t) with
        | some (.slice elem) => match pureRun P (sizeOf elem) with
          | some size => bif decide (0 ≤ j) && decide (j < n) then some (.val (.pointer (some (A.add (j.toNat * size))))) else none
          | none => none
        | _ => none
      | _ => none
    | _ => idxAddr P t (ρ x) (ρ i)
  | .build _ _ => bif o.op.operands.toList.all (fun x => (ρ x).isVal) && noSelect o.op then
      match pureRun P (execOp (fun x => (ρ x).un) o) with
      | some (.value v) => some (.val v)
      | _ => none
    else none
  | .extract _ _ => bif o.op.operands.toList.all (fun x => (ρ x).isVal) && noSelect o.op then
      match pureRun P (execOp (fun x => (ρ x).un) o) with
      | some (.value v) => some (.val v)
      | _ => none
    else none
  | .unOp _ _ _ => bif o.op.operands.toList.all (fun x => (ρ x).isVal) && noSelect o.op then
      match pureRun P (execOp (fun x => (ρ x).un) o) with
      | some (.value v) => some (.val v)
      | _ => none
    else none
  | _ => none
section
variable {P : Program} {ρ : Operand → SV} {o : Oper} {m : Nat → Nat} {a : Act} {w : World} {v : SV}
theorem evP_run (hX0 : XOk w) (hok : ∀ x, (ρ x).ok fun _ => none) (he : ∀ x, (ρ x).known = true → a.eval x = (ρ x).den m) (h : evP P ρ o = some v) :
    (execOp a.eval o).run P w = .ok (.value (v.den m)) w ∧ v.ok fun _ => none := by
  unfold evP at h
  split at h
  · rename_i x ho
    cases hkn : (ρ x).known with
    | false => rw [hkn] at h; cases h
    | true =>
      rw [hkn] at h
      simp only [cond_true, Option.some.injEq] at h
      subst h
      exact ⟨by unfold execOp; simp only [ho, he x hkn, Sem.run_pure], hok x⟩
  · rename_i x ho
    cases hkn : (ρ x).known with
    | false => rw [hkn] at h; cases h
    | true =>
      rw [hkn] at h
      simp only [cond_true, Option.some.injEq] at h
      subst h
      exact ⟨by unfold execOp; simp only [ho, he x hkn, Sem.run_pure], hok x⟩
  · rename_i t x ho
    split at h
    · rename_i r i off hx
      have hxo : (SV.xp r i off).ok fun _ => none := hx ▸ hok x
      obtain ⟨hl, huok⟩ := xload_sound (P := P) (m := m) (mem := fun _ => none) hX0 (ok_xp.1 hxo) h
      exact ⟨by unfold execOp; simp only [ho, he x (known_of hx rfl), hx, Sem.run_bind, hl, Result.andThen_ok, Sem.run_pure], huok⟩
    · cases h
  · rename_i s x i ho
    split at h
    · rename_i r j off hx
      split at h
      · rename_i d hd
        simp only [Option.some.injEq] at h
        subst h
        have hb : (SV.xp r j off).ok fun _ => none := hx ▸ hok x
        obtain ⟨_, _, ad, hA, _, _⟩ := hX0 r j (ok_xp.1 hb)
        exact ⟨by
          unfold execOp
          simp only [ho, he x (known_of hx rfl), hx, den_xp, hA, Option.map_some, Sem.run_bind, xfield_sound hd, Result.andThen_ok, Sem.run_pure]
          rw [add_add, Nat.add_assoc], ok_xp.2 (ok_xp.1 hb)⟩
      · cases h
    · rename_i A hx
      split at h
      · rename_i d hd
        simp only [Option.some.injEq] at h
        subst h
        exact ⟨by
          unfold execOp
          simp only [ho, he x (known_of hx rfl), hx, den_val, Sem.run_bind, xfield_sound hd, Result.andThen_ok, Sem.run_pure], ok_val _ _⟩
      · cases h
    · cases h
  · rename_i x ho
    split at h
    · rename_i r j off hx
      simp only [Option.some.injEq] at h
      subst h
      have hb : (SV.xp r j off).ok fun _ => none := hx ▸ hok x
      obtain ⟨_, _, ad, hA, _, _⟩ := hX0 r j (ok_xp.1 hb)
      exact ⟨by unfold execOp; simp only [ho, he x (known_of hx rfl), hx, den_xp, hA, Option.map_some, Sem.run_pure], hb⟩
    · rename_i A hx
      simp only [Option.some.injEq] at h
      subst h
      exact ⟨by unfold execOp; simp only [ho, he x (known_of hx rfl), hx, den_val, Sem.run_pure], ok_val _ _⟩
    · cases h
  · rename_i c ho
    split at h
    · rename_i bi hbi
      obtain ⟨cal, ags, ts⟩ := c
      simp only at hbi h
      subst hbi
      split at h
      · rename_i v' hlv
        simp only [Option.some.injEq] at h
        subst h
        unfold lenV at hlv
        split at hlv
        · split at hlv
          · rename_i A n cap hargs
            split at hlv
            case h_2 => cases hlv
            rename_i ty hty
            split at hlv
            case h_2 => cases hlv
            rename_i elem hel
            simp only [Option.some.injEq] at hlv
            subst hlv
            have hmap : ags.map a.eval = #[.slice A n cap] := by
              rw [map_eval (m := m) he (by rw [hargs]; intro x hx; rcases List.mem_singleton.1 hx with rfl; rfl), hargs]
              simp [den_val]
            have : (execOp a.eval o).run P w = .ok (.value (.int .i64 n)) w := by
              unfold execOp
              have h0 : (#[Value.slice A n cap] : Array Value)[0]? = some (.slice A n cap) := rfl
              simp only [ho, resolve, hmap, Sem.run_bind, Sem.run_pure, Result.andThen_ok, invoke, builtin, Builtin.len_, hty, h0, pureRun_run _ hel w]
              rfl
            exact ⟨by rw [den_val]; exact this, ok_val _ _⟩
          · cases hlv
        · cases hlv
      unfold lenOf at h
      split at h
      · split at h
        · rename_i b off n cap hargs
          split at h
          case h_2 => cases h
          split at h
          case h_2 => cases h
          have := args_ok hok (.slc b off n cap) (show SV.slc b off n cap ∈ ags.toList.map ρ by rw [hargs]; simp)
          exact absurd (ok_slc.1 this) (by simp)
        · rename_i r hargs
          split at h
          case h_2 => cases h
          rename_i ty hty
          split at h
          case h_2 => cases h
          rename_i elem hel
          simp only [Option.some.injEq] at h
          subst h
          have hmap : ags.map a.eval = #[.slice (XEnv.env r).A (XEnv.env r).n (XEnv.env r).c] := by
            rw [map_eval (m := m) he (by rw [hargs]; intro x hx; rcases List.mem_singleton.1 hx with rfl; rfl), hargs]
            simp [den_xs]
          have : (execOp a.eval o).run P w = .ok (.value (.int .i64 (XEnv.env r).n)) w := by
            unfold execOp
            have h0 : (#[Value.slice (XEnv.env r).A (XEnv.env r).n (XEnv.env r).c] : Array Value)[0]? = some (.slice (XEnv.env r).A (XEnv.env r).n (XEnv.env r).c) := rfl
            simp only [ho, resolve, hmap, Sem.run_bind, Sem.run_pure, Result.andThen_ok, invoke, builtin, Builtin.len_, hty, h0, pureRun_run _ hel w]
            rfl
          exact ⟨by rw [den_val]; exact this, ok_val _ _⟩
        · cases h
      · cases h
    · cases h
  · rename_i op t x y yt ho
    split at h
    · rename_i p hx
      split at h
      · rename_i q hy
        split at h
        · rename_i u hu
          simp only [Option.some.injEq] at h
          subst h
          have h1 : a.eval x = p := by rw [he x (known_of hx rfl), hx]; exact den_val _ _
          have h2 : a.eval y = q := by rw [he y (known_of hy rfl), hy]; exact den_val _ _
          exact ⟨by unfold execOp; simp only [ho, h1, h2]; rw [Sem.run_bind, binV_run hu w, den_val]; rfl, ok_val _ _⟩
        · cases h
      · cases h
    · cases h
  · rename_i t x i ho
    split at h
    · rename_i A n c hx
      split at h
      · rename_i kk q hi
        split at h
        · rename_i elem hu
          split at h
          · rename_i size hsz
            cases hb : (decide (0 ≤ q) && decide (q < (n : Int))) with
            | false => rw [hb] at h; cases h
            | true =>
              rw [hb] at h
              simp only [cond_true, Option.some.injEq] at h
              subst h
              rw [Bool.and_eq_true, decide_eq_true_eq, decide_eq_true_eq] at hb
              have h1 : a.eval x = .slice (some A) n c := by rw [he x (known_of hx rfl), hx, den_val]
              have h2 : a.eval i = .int kk q := by rw [he i (known_of hi rfl), hi, den_val]
              exact ⟨by
                unfold execOp
                simp only [ho, h1, h2, Instr.indexAt, asIntOf, Sem.run_bind, Sem.run_pure, Result.andThen_ok, pureRun_run _ hu w, if_pos hb, pureRun_run _ hsz w, den_val], ok_val _ _⟩
          · cases h
        · cases h
      · cases h
    · obtain ⟨k1, k2⟩ := idx_known h
      obtain ⟨hl, huok⟩ := idx_sound (P := P) (w := w) (m := m) hX0 h (hok x)
      exact ⟨by unfold execOp; simp only [ho, he x k1, he i k2, Sem.run_bind, hl, Result.andThen_ok, Sem.run_pure], huok⟩
  · rename_i t ps ho
    cases hc : (o.op.operands.toList.all (fun x => (ρ x).isVal) && noSelect o.op) with
    | false => rw [hc] at h; cases h
    | true =>
      rw [hc] at h
      simp only [cond_true] at h
      rw [Bool.and_eq_true] at hc
      have hns : ∀ cs b, o.op ≠ .select cs b := fun cs b hh => by rw [hh] at hc; cases hc.2
      have hev : ∀ x ∈ o.op.operands, a.eval x = (ρ x).un := fun x hx => by
        have := List.all_eq_true.1 hc.1 x (by simpa using hx)
        cases hq : ρ x with
        | val u => rw [he x (known_of hq rfl), hq, den_val]; rfl
        | _ => rw [hq] at this; cases this
      have h2 : execOp (fun x => (ρ x).un) o = execOp a.eval o := execOp_congr o hns fun x hx => (hev x hx).symm
      split at h
      · rename_i u hu
        simp only [Option.some.injEq] at h
        subst h
        rw [h2] at hu
        exact ⟨by rw [den_val]; exact pureRun_run _ hu w, ok_val _ _⟩
      · cases h
  · rename_i _ _ ho
    cases hc : (o.op.operands.toList.all (fun x => (ρ x).isVal) && noSelect o.op) with
    | false => rw [hc] at h; cases h
    | true =>
      rw [hc] at h
      simp only [cond_true] at h
      rw [Bool.and_eq_true] at hc
      have hns : ∀ cs b, o.op ≠ .select cs b := fun cs b hh => by rw [hh] at hc; cases hc.2
      have hev : ∀ x ∈ o.op.operands, a.eval x = (ρ x).un := fun x hx => by
        have := List.all_eq_true.1 hc.1 x (by simpa using hx)
        cases hq : ρ x with
        | val u => rw [he x (known_of hq rfl), hq, den_val]; rfl
        | _ => rw [hq] at this; cases this
      have h2 : execOp (fun x => (ρ x).un) o = execOp a.eval o := execOp_congr o hns fun x hx => (hev x hx).symm
      split at h
      · rename_i u hu
        simp only [Option.some.injEq] at h
        subst h
        rw [h2] at hu
        exact ⟨by rw [den_val]; exact pureRun_run _ hu w, ok_val _ _⟩
      · cases h
  · rename_i _ _ _ ho
    cases hc : (o.op.operands.toList.all (fun x => (ρ x).isVal) && noSelect o.op) with
    | false => rw [hc] at h; cases h
    | true =>
      rw [hc] at h
      simp only [cond_true] at h
      rw [Bool.and_eq_true] at hc
      have hns : ∀ cs b, o.op ≠ .select cs b := fun cs b hh => by rw [hh] at hc; cases hc.2
      have hev : ∀ x ∈ o.op.operands, a.eval x = (ρ x).un := fun x hx => by
        have := List.all_eq_true.1 hc.1 x (by simpa using hx)
        cases hq : ρ x with
        | val u => rw [he x (known_of hq rfl), hq, den_val]; rfl
        | _ => rw [hq] at this; cases this
      have h2 : execOp (fun x => (ρ x).un) o = execOp a.eval o := execOp_congr o hns fun x hx => (hev x hx).symm
      split at h
      · rename_i u hu
        simp only [Option.some.injEq] at h
        subst h
        rw [h2] at hu
        exact ⟨by rw [den_val]; exact pureRun_run _ hu w, ok_val _ _⟩
      · cases h
  · cases h
end
/-- Operations taken first, one behind the other. -/
def takes (P : Program) (ops : Array Oper) (N : Nat) : List Nat → (Nat → SV) → Array Bool → Option ((Nat → SV) × Array Bool)
  | [], t, l => some (t, l)
  | i :: r, t, l => match ops[i]? with
    | some o => bif o.guard.isNone && (Region.free .any ops l i && ((Region.ready .any ops l).contains i && dstOk N o.dst)) then
        match evP P (look t) o with
        | some v => takes P ops N r (putS t o.dst v) (l.setIfInBounds i true)
        | none => none
      else none
    | none => none
section
variable {P : Program} {ops : Array Oper} {N : Nat} {m : Nat → Nat} {S : World → Prop} {Q : Act → World → Prop}
/-- What must come behind a region, with nothing said of how it might die. -/
abbrev onlyN (Q : Act → World → Prop) : Exit → Act → World → Prop := fun e a w => match e with | .normal => Q a w | _ => False
theorem takes_sound (hS : ∀ w, S w → XOk w) (hns : Region.noSelect ops = true) : ∀ (is : List Nat) (t t' : Nat → SV) (l l' : Array Bool) (fuel : Nat) (a : Act) (w : World), takes P ops N is t l = some (t', l') → AR N m t (fun _ => none) a → S w →
    (∀ a', AR N m t' (fun _ => none) a' → wpAnyH P .any ops (onlyN Q) S fuel l' a' w) → wpAnyH P .any ops (onlyN Q) S (is.length + fuel) l a w
  | [], t, t', l, l', fuel, a, w, h, har, hSw, k => by
    simp only [takes, Option.some.injEq, Prod.mk.injEq] at h
    obtain ⟨rfl, rfl⟩ := h
    simpa using k a har
  | i :: r, t, t', l, l', fuel, a, w, h, har, hSw, k => by
    unfold takes at h
    split at h
    · rename_i o ho
      cases hc : (o.guard.isNone && (Region.free .any ops l i && ((Region.ready .any ops l).contains i && dstOk N o.dst))) with
      | false => rw [hc] at h; cases h
      | true =>
        rw [hc] at h
        simp only [cond_true] at h
        simp only [Bool.and_eq_true] at hc
        obtain ⟨hg, hf, hr, hd⟩ := hc
        split at h
        · rename_i v hv
          have hgn : o.guard = none := by simpa using hg
          have hy : YieldsIf P ops S o (v.den m) a := .inl ⟨by simp [Region.wanted, hgn], fun w' hw' => (evP_run (m := m) (hS w' hw') (fun x => har.look_ok x) (fun x hk => har.eval x hk) hv).1⟩
          have hvok := (evP_run (m := m) (hS w hSw) (fun x => har.look_ok x) (fun x hk => har.eval x hk) hv).2
          rw [show (i :: r).length + fuel = (r.length + fuel) + 1 by simp only [List.length_cons]; omega]
          refine wpAnyH_take ho hns hf hr (fun c a w h => h.elim) hy hSw ?_
          exact takes_sound hS hns r _ t' _ l' fuel _ w h (har.put (Agree.refl _ _) (Grows.refl _) hd hvok) hSw k
        · cases h
    · cases h
end
/-- Operations that only read, one behind the other. -/
def reads (P : Program) (N : Nat) : List Oper → (Nat → SV) → Option (Nat → SV)
  | [], t => some t
  | o :: r, t => if o.guard.isNone && dstOk N o.dst then
      match evP P (look t) o with
      | some v => reads P N r (putS t o.dst v)
      | none => none
    else none
section
variable {P : Program} {N : Nat} {m : Nat → Nat} {Q : Exit → Act → World → Prop}
theorem reads_sound {os : Array Oper} {rest : List Oper} : ∀ (ops : List Oper) (t t' : Nat → SV) (a : Act) (w : World), XOk w → reads P N ops t = some t' → AR N m t (fun _ => none) a →
    (∀ a', AR N m t' (fun _ => none) a' → wpList P os Q rest a' w) → wpList P os Q (ops ++ rest) a w
  | [], t, t', a, w, _, h, har, k => by
    simp only [reads, Option.some.injEq] at h
    subst h
    exact k a har
  | o :: r, t, t', a, w, hX, h, har, k => by
    unfold reads at h
    cases hc : (o.guard.isNone && dstOk N o.dst) with
    | false => rw [hc] at h; cases h
    | true =>
      rw [hc] at h
      simp only [if_true] at h
      rw [Bool.and_eq_true] at hc
      obtain ⟨hg, hd⟩ := hc
      split at h
      · rename_i v hv
        obtain ⟨hr, hvok⟩ := evP_run (m := m) (w := w) hX (fun x => har.look_ok x) (fun x hk => har.eval x hk) hv
        show wpList P os Q (o :: (r ++ rest)) a w
        refine wpList_plain (by simpa using hg) fun K hK => ?_
        unfold Oper.wp
        rw [hr, Oper.upon_value]
        exact hK _ _ (reads_sound r _ t' _ w hX h (har.put (Agree.refl _ _) (Grows.refl _) hd hvok) k)
      · cases h
end
end Go.Ev
end
section
/- Own rows: a store into a member; own moments. -/
set_option linter.unusedSimpArgs false
set_option linter.unusedVariables false
set_option linter.unusedSectionVars false
namespace Go.Proofs.Ytaojjpdlfnphiaa.PDescKinds
open Go.RowKit Go.Ev
/-- A list with some members of it put anew. -/
def splice {α : Type} (l : List α) (o : Nat) (cs : List α) : List α := l.take o ++ cs ++ l.drop (o + cs.length)
theorem splice_len {α : Type} (l : List α) (o : Nat) (cs : List α) (h : o + cs.length ≤ l.length) : (splice l o cs).length = l.length := by
  simp [splice]
  omega
theorem splice_at {α : Type} (l : List α) (o : Nat) (cs : List α) (h : o + cs.length ≤ l.length) (j : Nat) : (splice l o cs)[j]? = if j < o then l[j]? else if j < o + cs.length then cs[j - o]? else l[j]? := by
  unfold splice
  by_cases h1 : j < o
  · rw [if_pos h1, List.append_assoc, List.getElem?_append_left (by rw [List.length_take]; omega), List.getElem?_take, if_pos h1]
  · rw [if_neg h1]
    by_cases h2 : j < o + cs.length
    · rw [if_pos h2, List.getElem?_append_left (by rw [List.length_append, List.length_take]; omega), List.getElem?_append_right (by rw [List.length_take]; omega), List.length_take]
      congr 1
      omega
    · rw [if_neg h2, List.getElem?_append_right (by rw [List.length_append, List.length_take]; omega), List.length_append, List.length_take, List.getElem?_drop]
      congr 1
      omega
theorem splice_take {α : Type} (l : List α) (o : Nat) (cs : List α) (m : Nat) (h : o + cs.length ≤ m) (hm : m ≤ l.length) : (splice l o cs).take m = splice (l.take m) o cs := by
  have hl : (l.take m).length = m := by rw [List.length_take]; omega
  apply List.ext_getElem?
  intro j
  rw [List.getElem?_take, splice_at _ _ _ (by omega), splice_at _ _ _ (by omega), List.getElem?_take]
  by_cases h1 : j < m
  · simp only [if_pos h1]
  · simp only [if_neg h1]
    rw [if_neg (by omega), if_neg (by omega)]
def fput {α : Type} (f : Nat → α) (t : Nat) (x : α) : Nat → α := fun j => if j = t then x else f j
theorem splice_flat {f : Nat → List Value} {z n t o : Nat} {cs : List Value} (hz : ∀ t, (f t).length = z) (ht : t < n) (ho : o + cs.length ≤ z) :
    splice ((List.range n).flatMap f) (t * z + o) cs = (List.range n).flatMap (fput f t (splice (f t) o cs)) := by
  have hz' : ∀ j, (fput f t (splice (f t) o cs) j).length = z := fun j => by
    unfold fput
    split
    · rw [splice_len _ _ _ (by rw [hz]; exact ho), hz]
    · exact hz j
  have hb : (t + 1) * z ≤ n * z := Nat.mul_le_mul_right z ht
  rw [Nat.add_mul, Nat.one_mul] at hb
  have hl : t * z + o + cs.length ≤ ((List.range n).flatMap f).length := by rw [flat_len hz]; omega
  apply List.ext_getElem?
  intro j
  cases hq : ((List.range n).flatMap (fput f t (splice (f t) o cs)))[j]? with
  | none =>
    rw [List.getElem?_eq_none_iff, flat_len hz'] at hq
    rw [List.getElem?_eq_none_iff, splice_len _ _ _ hl, flat_len hz]
    exact hq
  | some u =>
    obtain ⟨q, r, q1, rfl, q3⟩ := flat_out hz' n j u hq
    have hr : r < z := by rw [← hz' q]; exact (List.getElem?_eq_some_iff.1 q3).1
    rw [splice_at _ _ _ hl]
    by_cases e : q = t
    · subst e
      simp only [fput, if_pos] at q3
      rw [splice_at _ _ _ (by rw [hz]; exact ho)] at q3
      by_cases h1 : r < o
      · rw [if_pos h1] at q3
        rw [if_pos (by omega)]
        exact flat_in hz n q r u q1 q3
      · rw [if_neg h1] at q3
        rw [if_neg (by omega)]
        by_cases h2 : r < o + cs.length
        · rw [if_pos h2] at q3
          rw [if_pos (by omega), ← q3]
          congr 1
          omega
        · rw [if_neg h2] at q3
          rw [if_neg (by omega)]
          exact flat_in hz n q r u q1 q3
    · simp only [fput, if_neg e] at q3
      have hin := flat_in hz n q r u q1 q3
      rcases Nat.lt_or_gt_of_ne e with hlt | hgt
      · have : (q + 1) * z ≤ t * z := Nat.mul_le_mul_right z hlt
        rw [Nat.add_mul, Nat.one_mul] at this
        rw [if_pos (by omega)]
        exact hin
      · have : (t + 1) * z ≤ q * z := Nat.mul_le_mul_right z hgt
        rw [Nat.add_mul, Nat.one_mul] at this
        rw [if_neg (by omega), if_neg (by omega)]
        exact hin
theorem own_splice {w : World} {B e z n c g : Nat} {f : Nat → List Value} (h : w.ownsRow B e z (.slice (some ⟨g, 0, none⟩) n c) n ((List.range n).flatMap f)) (hz : ∀ t, (f t).length = z) {P : Program} {ty : TypeId} {t o : Nat} {x : Value} (ht : t < n)
    (hs : pureRun P (sizeOf ty) = some x.cells.size) (ho : o + x.cells.size ≤ z) (h1 : ∀ u ∈ x.cells.toList, u.oneCell' = true) :
    ∃ w', (Instr.storeAt ty (.pointer (some ⟨g, t * z + o, none⟩)) x).run P w = .ok () w' ∧ w'.ownsRow B e z (.slice (some ⟨g, 0, none⟩) n c) n ((List.range n).flatMap (fput f t (splice (f t) o x.cells.toList))) ∧ w.grownBy w' (some g) := by
  letI : XEnv := ⟨fun _ => ⟨none, 0, 0, 0, fun _ => []⟩⟩
  have hlen : x.cells.toList.length = x.cells.size := Array.length_toList
  have hb : (t + 1) * z ≤ n * z := Nat.mul_le_mul_right z ht
  rw [Nat.add_mul, Nat.one_mul] at hb
  rcases h.2 with ⟨e, _⟩ | ⟨g', cap, cur, e, h2, h3, h4, h5, h6, h7⟩
  · cases e
  simp only [Value.slice.injEq, Option.some.injEq, Addr.mk.injEq, and_true, true_and] at e
  obtain ⟨rfl, rfl⟩ := e
  have hcap : n * z ≤ c * z := Nat.mul_le_mul_right z h4
  have hcl : cur.toList.length = c * z := by rw [Array.length_toList]; exact h6
  have hev : evStore P ty ⟨e, cur.toList.map SV.val⟩ (t * z + o) (.val x) = some ⟨e, (splice cur.toList (t * z + o) x.cells.toList).map SV.val⟩ := by
    unfold evStore
    rw [hs]
    have c1 : Nat.beq (SV.val x).cells.length x.cells.size = true := by
      simp only [SV.cells, List.length_map, Array.length_toList]
      exact Nat.beq_refl _
    have c2 : Nat.ble (t * z + o + x.cells.size) (cur.toList.map SV.val).length = true := by
      rw [List.length_map, hcl]
      exact Nat.ble_eq_true_of_le (by omega)
    have c3 : (SV.val x).cells.all SV.one = true := by
      simp only [SV.cells, List.all_map, List.all_eq_true]
      exact fun u hu => h1 u hu
    simp only [c1, c2, c3, Bool.and_self, cond_true]
    simp only [SV.cells]
    unfold splice
    rw [List.map_append, List.map_append, List.map_take, List.map_drop, hlen]
  have hden : ∀ l : List Value, ((l.map SV.val).map (SV.den fun _ => 0)) = l := fun l => by
    rw [List.map_map, show (SV.den (fun _ => 0) ∘ SV.val) = _root_.id from funext fun v => den_val _ v, List.map_id]
  obtain ⟨hr, _, _⟩ := store_sound (P := P) (w := w) (m := fun _ => 0) (mem := fun _ => none) (g := g) (k := ⟨e, cur.toList.map SV.val⟩) hev (by rw [hden]; exact h3) (fun s hs => by
    obtain ⟨u, _, rfl⟩ := List.mem_map.1 hs
    exact ok_val _ _) (ok_val _ _)
  rw [den_val, hden] at hr
  refine ⟨_, hr, ⟨?_, .inr ⟨g, c, _, rfl, h2, setRow_heap _ _ _ _ _ _ h3, h4, h5, ?_, ?_⟩⟩, ⟨rfl, rfl, rfl, by simp [World.setRow], fun k _ hk => setRow_other _ _ _ _ (fun e => hk (by rw [e]))⟩⟩
  · refine flat_len (fun j => ?_) n
    unfold fput
    split
    · rw [splice_len _ _ _ (by rw [hz, hlen]; exact ho), hz]
    · exact hz j
  · show (splice cur.toList (t * z + o) x.cells.toList).toArray.size = _
    rw [List.size_toArray, splice_len _ _ _ (by rw [hlen, hcl]; omega), hcl]
  · rw [← splice_flat hz ht (by rw [hlen]; exact ho), ← h7]
    show (splice cur.toList (t * z + o) x.cells.toList).take (n * z) = _
    exact splice_take _ _ _ _ (by rw [hlen]; omega) (by rw [hcl]; exact hcap)
end Go.Proofs.Ytaojjpdlfnphiaa.PDescKinds
end
section
/- Own moments: what may be done with them. -/
set_option linter.unusedSimpArgs false
set_option linter.unusedVariables false
set_option linter.unusedSectionVars false
namespace Go.Proofs.Ytaojjpdlfnphiaa.PDescKinds
open Go.RowKit Go.Ev
/-- An append to an own row: where the row stands behind it. -/
theorem append_fresh {P : Program} (w : World) (base : Nat) (t ty e : TypeId) (i : TypeInfo) (z : Value) (size bytes : Nat) (ht : P.underlying t = some (.slice e)) (hi : P.info? e = some i) (hz : i.zero = some z)
    (hsize : i.size = size) (hby : i.bytes = bytes) (hzs : z.cells.size = size) (hsz : 0 < size) (v : Value) (n : Nat) (xs : List Value) (hown : w.ownsRow base e size v n xs)
    (a : Addr) (m c : Nat) (news : List Value) (hl : news.length = m * size) (hnews : ∀ j u, news[j]? = some u → w.cell? (a.add j) = some u) (h1 : ∀ u ∈ news, u.oneCell' = true)
    (h63 : n + m ≤ maxLen) (hbytes : (n + m) * bytes ≤ 140737488355328) (hbase : base ≤ w.heap.size) :
    ∃ v' w', (Builtin.append_ #[t, t] ty #[v, .slice (some a) m c]).run P w = .ok v' w' ∧ w'.ownsRow base e size v' (n + m) (xs ++ news) ∧ w.grownBy w' v.ownBlock ∧
      (v'.ownBlock = v.ownBlock ∨ ∃ g, v'.ownBlock = some g ∧ w.heap.size ≤ g) := by
  obtain ⟨v', w', hr, h2, h3, h4⟩ := run_append_own w base t ty e i z size bytes ht hi hz hsize hby hzs hsz v n xs hown a m c news hl hnews h1 h63 hbytes hbase
  refine ⟨v', w', hr, h2, h3, ?_⟩
  have hsmall : n + m ≤ 9223372036854775807 := by simp only [maxLen] at h63; omega
  subst hsize hby
  rcases hown.2 with ⟨rfl, rfl⟩ | ⟨g, cap, cur, rfl, hbg, hg, hnc, hcm, hcs, htake⟩
  · by_cases hm : m = 0
    · left; rw [h4.2 ⟨rfl, hm⟩]
    · right
      have := run_append_nil (P := P) w t ty e i z ht hi hz a m c news hl hnews (by omega) (by omega) (by have hb := hbytes; simp only [Nat.zero_add] at hb; omega)
      rw [this] at hr
      cases hr
      exact ⟨_, rfl, Nat.le_refl _⟩
  · by_cases hroom : n + m ≤ cap
    · left
      have hfit : n * i.size + news.length ≤ cur.size := by rw [hl, hcs, ← Nat.add_mul]; exact Nat.mul_le_mul_right _ hroom
      have := run_append_room (P := P) w t ty e i ht hi g n cap cur hg a m c news hl hnews h1 hroom hfit
      rw [this] at hr
      cases hr
      rfl
    · right
      have := run_append_grow (P := P) w t ty e i z ht hi hz ⟨g, 0, none⟩ n cap xs hown.1 (hown.cells (g := g) rfl) a m c news hl hnews (by omega) (by omega) (growslice_fits (by omega) hbytes)
      rw [this] at hr
      cases hr
      exact ⟨_, rfl, Nat.le_refl _⟩
theorem wp_append_fresh {P : Program} {w : World} {o : Oper} {a : Act} {K : Act → World → Prop} {Q : Exit → Act → World → Prop} (s x : Operand) (t : TypeId)
    (ho : o.op = .call { callee := .builtin .append, args := #[s, x], argTypes := #[t, t] })
    (base : Nat) (e : TypeId) (i : TypeInfo) (z : Value) (size bytes : Nat) (ht : P.underlying t = some (.slice e)) (hi : P.info? e = some i) (hz : i.zero = some z)
    (hsize : i.size = size) (hby : i.bytes = bytes) (hzs : z.cells.size = size) (hsz : 0 < size)
    (v : Value) (n : Nat) (xs : List Value) (hs : a.eval s = v) (hown : w.ownsRow base e size v n xs)
    (ad : Addr) (m c : Nat) (news : List Value) (hx : a.eval x = .slice (some ad) m c) (hl : news.length = m * size) (hnews : ∀ j u, news[j]? = some u → w.cell? (ad.add j) = some u) (h1 : ∀ u ∈ news, u.oneCell' = true)
    (h63 : n + m ≤ maxLen) (hbytes : (n + m) * bytes ≤ 140737488355328) (hbase : base ≤ w.heap.size)
    (h : ∀ v' w', w'.ownsRow base e size v' (n + m) (xs ++ news) → w.grownBy w' v.ownBlock → (v'.ownBlock = v.ownBlock ∨ ∃ g, v'.ownBlock = some g ∧ w.heap.size ≤ g) → K (a.put o.dst v') w') : o.wp P a w K Q := by
  obtain ⟨v', w', hr, h2, h3, h4⟩ := append_fresh (P := P) w base t o.type e i z size bytes ht hi hz hsize hby hzs hsz v n xs hown ad m c news hl hnews h1 h63 hbytes hbase
  have hex : (execOp a.eval o).run P w = .ok (.value v') w' := by
    unfold execOp
    simp only [ho, resolve, invoke, builtin, Sem.run_bind, Sem.run_pure, Result.andThen_ok, List.map_toArray, List.map_cons, List.map_nil, hs, hx, hr]
  unfold Oper.wp
  rw [hex, Oper.upon_value]
  exact h v' w' h2 h3 h4
/-! Own moments -/
structure OwnMo (B : Nat) (w : World) (mo : Mo) : Prop where
  row : w.ownsRow B 52 8 (.slice mo.A mo.n mo.c) mo.n ((List.range mo.n).flatMap fun j => shVals (mo.g j) (mo.g j).row)
  props : ∀ j, w.ownsRow B 55 20 (mo.g j).row (mo.g j).n (Copy.rowOf (mo.g j))
  sep : ∀ j l, j ≠ l → (mo.g j).row.ownBlock = none ∨ (mo.g j).row.ownBlock ≠ (mo.g l).row.ownBlock
  rest : ∀ j, mo.n ≤ j → (mo.g j).n = 0
theorem row_slice {w : World} {b e z n : Nat} {A : Option Addr} {c : Nat} {xs : List Value} (h : w.ownsRow b e z (.slice A n c) n xs) : A = none ∧ n = 0 ∧ c = 0 ∨ ∃ g, A = some ⟨g, 0, none⟩ ∧ b ≤ g ∧ g < w.heap.size := by
  rcases h.2 with ⟨e, h0⟩ | ⟨g, cap, cur, e, h1, h2, _⟩
  · cases e
    exact .inl ⟨rfl, rfl, rfl⟩
  · cases e
    exact .inr ⟨g, rfl, h1, (Array.getElem?_eq_some_iff.1 h2).1⟩
theorem own_at {w : World} {b e z n g c : Nat} {f : Nat → List Value} (hz : ∀ t, (f t).length = z) (h : w.ownsRow b e z (.slice (some ⟨g, 0, none⟩) n c) n ((List.range n).flatMap f)) {t : Nat} (ht : t < n) (k : Nat) (u : Value) (hk : (f t)[k]? = some u) : w.cell? ((⟨g, 0, none⟩ : Addr).add (t * z + k)) = some u :=
  h.cells (g := g) rfl _ _ (flat_in hz n t k u ht hk)
section
variable {B : Nat} {w w' : World} {mo : Mo}
theorem OwnMo.raw (h : OwnMo B w mo) : RawMo w mo := by
  refine ⟨fun j hj => ?_, fun j hj => ?_, fun j i hi => ?_⟩
  · rcases row_slice (h.props j) with ⟨_, h2, h3⟩ | ⟨g, h1, _⟩
    · exact ⟨h2, h3⟩
    · rw [hj] at h1; cases h1
  · have hr := h.row
    rcases row_slice hr with ⟨_, h2, _⟩ | ⟨g, h1, _, h3⟩
    · omega
    · rw [h1] at hr
      exact ⟨_, h1, h3, fun t v hv => own_at (fun t => shVals_length _ _) hr hj t v hv⟩
  · have hr := h.props j
    rcases row_slice hr with ⟨_, h2, _⟩ | ⟨g, h1, _, h3⟩
    · omega
    · unfold Sh.row at hr
      rw [h1] at hr
      exact ⟨_, h1, h3, fun t v hv => own_at (fun t => Pr.list_length _) hr hi t v hv⟩
theorem OwnMo.kept {row : Option Nat} (h : OwnMo B w mo) (hg : w.grownBy w' row) (h1 : (Value.slice mo.A mo.n mo.c).ownBlock = none ∨ (Value.slice mo.A mo.n mo.c).ownBlock ≠ row) (h2 : ∀ j, (mo.g j).row.ownBlock = none ∨ (mo.g j).row.ownBlock ≠ row) : OwnMo B w' mo :=
  ⟨h.row.kept hg h1, fun j => (h.props j).kept hg (h2 j), h.sep, h.rest⟩
theorem OwnMo.below (h : OwnMo B w mo) (hb : Below w.heap.size w w') : OwnMo B w' mo :=
  h.kept (grown_of hb none) (by cases (Value.slice mo.A mo.n mo.c).ownBlock <;> simp) (fun j => by cases (mo.g j).row.ownBlock <;> simp)
/-- A shape put anew, by a store into the moment's row. -/
theorem OwnMo.cells {P : Program} (h : OwnMo B w mo) {k o : Nat} {ty : TypeId} {x : Value} {s' : Sh} (hk : k < mo.n) (hs : pureRun P (sizeOf ty) = some x.cells.size) (ho : o + x.cells.size ≤ 8) (h1 : ∀ u ∈ x.cells.toList, u.oneCell' = true)
    (he : shVals s' s'.row = splice (shVals (mo.g k) (mo.g k).row) o x.cells.toList) (hr : s'.row = (mo.g k).row) (hn : s'.n = (mo.g k).n) (hg : s'.g = (mo.g k).g) :
    ∃ w' g, mo.A = some ⟨g, 0, none⟩ ∧ (Instr.storeAt ty (.pointer (some ⟨g, k * 8 + o, none⟩)) x).run P w = .ok () w' ∧ w.grownBy w' (some g) ∧ B ≤ g ∧ OwnMo B w' { mo with g := fput mo.g k s' } := by
  have hrow := h.row
  rcases row_slice hrow with ⟨_, h2, _⟩ | ⟨g, hA, hB, hlt⟩
  · omega
  rw [hA] at hrow
  obtain ⟨w', hrun, hown, hgr⟩ := own_splice hrow (fun t => shVals_length _ _) hk hs ho h1
  refine ⟨w', g, hA, hrun, hgr, hB, ?_, fun j => ?_, fun j l hjl => ?_, fun j hj => ?hrest⟩
  case hrest =>
    have hj : mo.n ≤ j := hj
    refine Eq.trans ?_ (h.rest j hj)
    simp only [fput]
    rw [if_neg (by omega)]
  · show w'.ownsRow B 52 8 (.slice mo.A mo.n mo.c) mo.n ((List.range mo.n).flatMap fun j => shVals (fput mo.g k s' j) (fput mo.g k s' j).row)
    rw [hA]
    have e : (fun j => shVals (fput mo.g k s' j) (fput mo.g k s' j).row) = fput (fun j => shVals (mo.g j) (mo.g j).row) k (splice (shVals (mo.g k) (mo.g k).row) o x.cells.toList) := by
      funext j
      unfold fput
      split
      · exact he
      · rfl
    rw [e]
    exact hown
  · have hp := (h.props j).kept hgr (by
      have := own_ne h.row (h.props j)
      rw [hA] at this
      exact this)
    show w'.ownsRow B 55 20 (fput mo.g k s' j).row (fput mo.g k s' j).n (Copy.rowOf (fput mo.g k s' j))
    unfold fput
    split
    · rename_i e
      subst e
      unfold Copy.rowOf
      rw [hr, hn, hg]
      exact hp
    · exact hp
  · have : ∀ i, (fput mo.g k s' i).row = (mo.g i).row := fun i => by
      unfold fput
      split
      · rename_i e; rw [e]; exact hr
      · rfl
    show (fput mo.g k s' j).row.ownBlock = none ∨ (fput mo.g k s' j).row.ownBlock ≠ (fput mo.g k s' l).row.ownBlock
    rw [this, this]
    exact h.sep j l hjl
/-- A shape's properties, elsewhere or longer: behind the store of where they stand. -/
theorem OwnMo.reprop {P : Program} {w1 : World} (h : OwnMo B w mo) {k : Nat} {s' : Sh} (hk : k < mo.n) (hs : pureRun P (sizeOf 50) = some 1) (hg : w.grownBy w1 (mo.g k).row.ownBlock) (hnew : w1.ownsRow B 55 20 s'.row s'.n (Copy.rowOf s'))
    (hf : s'.row.ownBlock = (mo.g k).row.ownBlock ∨ ∃ g, s'.row.ownBlock = some g ∧ w.heap.size ≤ g) (hc : s'.cl = (mo.g k).cl) (hp : s'.p = (mo.g k).p) (hx : s'.x = (mo.g k).x) :
    ∃ w' g, mo.A = some ⟨g, 0, none⟩ ∧ (Instr.storeAt 50 (.pointer (some ⟨g, k * 8 + 7, none⟩)) s'.row).run P w1 = .ok () w' ∧ w1.grownBy w' (some g) ∧ B ≤ g ∧ OwnMo B w' { mo with g := fput mo.g k s' } := by
  have hrow := h.row
  rcases row_slice hrow with ⟨_, h2, _⟩ | ⟨g, hA, hB, hlt⟩
  · omega
  have hrow1 := hrow.kept hg (by
    have := own_ne hrow (h.props k)
    rcases this with e | e
    · rw [e]; cases (Value.slice mo.A mo.n mo.c).ownBlock <;> simp
    · exact .inr (Ne.symm e))
  rw [hA] at hrow1
  have hcs : s'.row.cells = #[s'.row] := rfl
  obtain ⟨w', hrun, hown, hgr⟩ := own_splice (P := P) (ty := 50) (x := s'.row) (o := 7) (t := k) hrow1 (fun t => shVals_length _ _) hk hs (by rw [hcs]; exact Nat.le_refl 8) (fun u hu => by
    rw [hcs] at hu
    simp only [List.mem_cons, List.not_mem_nil, or_false] at hu
    subst hu
    rfl)
  have hne : ∀ u n ys, w1.ownsRow B 55 20 u n ys → u.ownBlock = none ∨ u.ownBlock ≠ some g := fun u n ys hu => by
    have := own_ne hrow1 hu
    exact this
  have hpl : ∀ j, j ≠ k → w1.ownsRow B 55 20 (mo.g j).row (mo.g j).n (Copy.rowOf (mo.g j)) := fun j hj => (h.props j).kept hg (h.sep j k hj)
  refine ⟨w', g, hA, hrun, hgr, hB, ?_, fun j => ?_, fun j l hjl => ?_, fun j hj => ?hrest⟩
  case hrest =>
    have hj : mo.n ≤ j := hj
    refine Eq.trans ?_ (h.rest j hj)
    simp only [fput]
    rw [if_neg (by omega)]
  · show w'.ownsRow B 52 8 (.slice mo.A mo.n mo.c) mo.n ((List.range mo.n).flatMap fun j => shVals (fput mo.g k s' j) (fput mo.g k s' j).row)
    rw [hA]
    have e : (fun j => shVals (fput mo.g k s' j) (fput mo.g k s' j).row) = fput (fun j => shVals (mo.g j) (mo.g j).row) k (splice (shVals (mo.g k) (mo.g k).row) 7 s'.row.cells.toList) := by
      funext j
      unfold fput
      split
      · unfold shVals
        rw [hc, hp, hx]
        rfl
      · rfl
    rw [e]
    exact hown
  · show w'.ownsRow B 55 20 (fput mo.g k s' j).row (fput mo.g k s' j).n (Copy.rowOf (fput mo.g k s' j))
    unfold fput
    split
    · exact hnew.kept hgr (hne _ _ _ hnew)
    · rename_i e
      exact (hpl j e).kept hgr (hne _ _ _ (hpl j e))
  · show (fput mo.g k s' j).row.ownBlock = none ∨ (fput mo.g k s' j).row.ownBlock ≠ (fput mo.g k s' l).row.ownBlock
    have hold : ∀ j, ∀ b, (mo.g j).row.ownBlock = some b → b < w.heap.size := fun j b hb => ((h.props j).lt b hb).2
    unfold fput
    by_cases ej : j = k
    · subst ej
      rw [if_pos rfl, if_neg (Ne.symm hjl)]
      rcases hf with e | ⟨b, e, hb⟩
      · rw [e]; exact h.sep j l hjl
      · refine .inr fun e2 => ?_
        rw [e] at e2
        have := hold l b e2.symm
        omega
    · rw [if_neg ej]
      by_cases el : l = k
      · subst el
        rw [if_pos rfl]
        rcases hf with e | ⟨b, e, hb⟩
        · rw [e]; exact h.sep j l hjl
        · refine .inr fun e2 => ?_
          rw [e] at e2
          have := hold j b e2
          omega
      · rw [if_neg el]
        exact h.sep j l hjl
/-- A property put anew. -/
theorem OwnMo.prop {P : Program} (h : OwnMo B w mo) {k i o : Nat} {ty : TypeId} {x : Value} {q' : Pr} (hi : i < (mo.g k).n) (hs : pureRun P (sizeOf ty) = some x.cells.size) (ho : o + x.cells.size ≤ 20) (h1 : ∀ u ∈ x.cells.toList, u.oneCell' = true)
    (he : q'.list = splice ((mo.g k).g i).list o x.cells.toList) :
    ∃ w' g, (mo.g k).A = some ⟨g, 0, none⟩ ∧ (Instr.storeAt ty (.pointer (some ⟨g, i * 20 + o, none⟩)) x).run P w = .ok () w' ∧ w.grownBy w' (some g) ∧ B ≤ g ∧ OwnMo B w' { mo with g := fput mo.g k { mo.g k with g := fput (mo.g k).g i q' } } := by
  have hrow := h.props k
  rcases row_slice hrow with ⟨_, h2, _⟩ | ⟨g, hA, hB, hlt⟩
  · omega
  unfold Sh.row at hrow
  rw [hA] at hrow
  obtain ⟨w', hrun, hown, hgr⟩ := own_splice hrow (fun t => Pr.list_length _) hi hs ho h1
  have hbk : (mo.g k).row.ownBlock = some g := by unfold Sh.row; rw [hA]; rfl
  have hrows : ∀ j, (fput mo.g k { mo.g k with g := fput (mo.g k).g i q' } j).row = (mo.g j).row := fun j => by
    unfold fput
    split
    · rename_i e; rw [e]; rfl
    · rfl
  refine ⟨w', g, hA, hrun, hgr, hB, ?_, fun j => ?_, fun j l hjl => ?_, fun j hj => ?hrest⟩
  case hrest =>
    have hj : mo.n ≤ j := hj
    have hk : k < mo.n := (Nat.lt_or_ge k mo.n).elim _root_.id fun h' => by have := h.rest k h'; omega
    refine Eq.trans ?_ (h.rest j hj)
    simp only [fput]
    rw [if_neg (by omega)]
  · have := h.row.kept hgr (by
      rcases own_ne h.row (h.props k) with e | e
      · rw [hbk] at e; cases e
      · exact .inr (fun e2 => e (hbk.trans e2.symm)))
    show w'.ownsRow B 52 8 (.slice mo.A mo.n mo.c) mo.n ((List.range mo.n).flatMap fun j => shVals (fput mo.g k { mo.g k with g := fput (mo.g k).g i q' } j) (fput mo.g k { mo.g k with g := fput (mo.g k).g i q' } j).row)
    have e : (fun j => shVals (fput mo.g k { mo.g k with g := fput (mo.g k).g i q' } j) (fput mo.g k { mo.g k with g := fput (mo.g k).g i q' } j).row) = fun j => shVals (mo.g j) (mo.g j).row := by
      funext j
      rw [hrows]
      unfold fput
      split
      · rename_i e; rw [e]; rfl
      · rfl
    rw [e]
    exact this
  · by_cases e : j = k
    · subst e
      have hq : Copy.rowOf (fput mo.g j { mo.g j with g := fput (mo.g j).g i q' } j) = (List.range (mo.g j).n).flatMap (fput (fun t => ((mo.g j).g t).list) i (splice ((mo.g j).g i).list o x.cells.toList)) := by
        unfold Copy.rowOf
        simp only [fput, if_pos]
        refine flat_congr _ fun t _ => ?_
        by_cases et : t = i
        · subst et
          simp only [if_pos, fput]
          exact he
        · simp only [if_neg et, fput]
      show w'.ownsRow B 55 20 (fput mo.g j { mo.g j with g := fput (mo.g j).g i q' } j).row (fput mo.g j { mo.g j with g := fput (mo.g j).g i q' } j).n (Copy.rowOf (fput mo.g j { mo.g j with g := fput (mo.g j).g i q' } j))
      rw [hq, hrows]
      have en : (fput mo.g j { mo.g j with g := fput (mo.g j).g i q' } j).n = (mo.g j).n := by simp [fput]
      rw [en]
      unfold Sh.row
      rw [hA]
      exact hown
    · have ef : fput mo.g k { mo.g k with g := fput (mo.g k).g i q' } j = mo.g j := by unfold fput; rw [if_neg e]
      show w'.ownsRow B 55 20 (fput mo.g k { mo.g k with g := fput (mo.g k).g i q' } j).row (fput mo.g k { mo.g k with g := fput (mo.g k).g i q' } j).n (Copy.rowOf (fput mo.g k { mo.g k with g := fput (mo.g k).g i q' } j))
      rw [ef]
      exact (h.props j).kept hgr (by rw [← hbk]; exact h.sep j k e)
  · show (fput mo.g k _ j).row.ownBlock = none ∨ (fput mo.g k _ j).row.ownBlock ≠ (fput mo.g k _ l).row.ownBlock
    rw [hrows, hrows]
    exact h.sep j l hjl
/-- A shape more. -/
theorem OwnMo.more {v : Value} {s : Sh} (h : OwnMo B w mo) (hg : w.grownBy w' (Value.slice mo.A mo.n mo.c).ownBlock) (hA : s.A = none) (hn : s.n = 0) (hc : s.c = 0)
    (hown : w'.ownsRow B 52 8 v (mo.n + 1) (((List.range mo.n).flatMap fun j => shVals (mo.g j) (mo.g j).row) ++ shVals s s.row)) :
    v = .slice (slA v) (mo.n + 1) (slC v) ∧ OwnMo B w' ⟨slA v, mo.n + 1, slC v, fput mo.g mo.n s⟩ := by
  have hv := (own_slice hown).1
  have hsr : s.row = .slice none 0 0 := by unfold Sh.row; rw [hA, hn, hc]
  refine ⟨hv, ?_, fun j => ?_, fun j l hjl => ?_, fun j hj => ?hrest⟩
  case hrest =>
    have hj : mo.n + 1 ≤ j := hj
    refine Eq.trans ?_ (h.rest j (by omega))
    simp only [fput]
    rw [if_neg (by omega)]
  · show w'.ownsRow B 52 8 (.slice (slA v) (mo.n + 1) (slC v)) (mo.n + 1) ((List.range (mo.n + 1)).flatMap fun j => shVals (fput mo.g mo.n s j) (fput mo.g mo.n s j).row)
    rw [← hv]
    have e : ((List.range (mo.n + 1)).flatMap fun j => shVals (fput mo.g mo.n s j) (fput mo.g mo.n s j).row) = ((List.range mo.n).flatMap fun j => shVals (mo.g j) (mo.g j).row) ++ shVals s s.row := by
      rw [List.range_succ, List.flatMap_append, flat_congr mo.n (g := fun j => shVals (mo.g j) (mo.g j).row) fun j hj => by simp only [fput]; rw [if_neg (by omega)]]
      simp [fput]
    rw [e]
    exact hown
  · show w'.ownsRow B 55 20 (fput mo.g mo.n s j).row (fput mo.g mo.n s j).n (Copy.rowOf (fput mo.g mo.n s j))
    unfold fput
    split
    · have : Copy.rowOf s = [] := by unfold Copy.rowOf; rw [hn]; rfl
      rw [this, hsr, hn]
      exact World.ownsRow_nil _ _ _ _
    · exact (h.props j).kept hg (own_ne h.row (h.props j))
  · show (fput mo.g mo.n s j).row.ownBlock = none ∨ (fput mo.g mo.n s j).row.ownBlock ≠ (fput mo.g mo.n s l).row.ownBlock
    unfold fput
    by_cases ej : j = mo.n
    · rw [if_pos ej, hsr]; exact .inl rfl
    · rw [if_neg ej]
      by_cases el : l = mo.n
      · rw [if_pos el, hsr]
        cases hb : (mo.g j).row.ownBlock with
        | none => exact .inl rfl
        | some b => exact .inr (by simp [Value.ownBlock])
      · rw [if_neg el]
        exact h.sep j l hjl
end
end Go.Proofs.Ytaojjpdlfnphiaa.PDescKinds
end
section
/- slices.Delete of one property. -/
set_option linter.unusedSimpArgs false
set_option linter.unusedVariables false
set_option linter.unusedSectionVars false
namespace Go.Proofs.Ytaojjpdlfnphiaa.PDescKinds
open Go.RowKit Go.Lib
open Go.Ev (add_none)
theorem cell_of {w : World} {g j : Nat} {cur : Array Value} {e : TypeId} (hg : w.heap[g]? = some (.cells cur e (0, 0))) : w.cell? ⟨g, j, none⟩ = cur[j]? := by
  have := Go.cell_of_row w g j cur e (0, 0) hg
  exact this
theorem zero66 : ∃ z : Value, (Try.prog.info? 55).bind (fun i => i.zero) = some z ∧ z.cells.toList.all Value.oneCell' = true := by
  have h : ((Try.prog.info? 55).bind (fun i => i.zero)).map (fun z => z.cells.toList.all Value.oneCell') = some true := by kernel_rfl
  obtain ⟨z, h1, h2⟩ := Option.map_eq_some_iff.1 h
  exact ⟨z, h1, h2⟩
theorem zeros_one {z : Array Value} (hz : z.toList.all Value.oneCell' = true) (hs : 0 < z.size) (n : Nat) : ∀ u ∈ (Builtin.zeroCells z n).toList, u.oneCell' = true := by
  intro u hu
  simp only [Builtin.zeroCells, Array.toList_map, List.mem_map] at hu
  obtain ⟨i, _, rfl⟩ := hu
  have hm : i % z.size < z.size := Nat.mod_lt _ hs
  rw [getElem!_pos z _ hm]
  exact List.all_eq_true.1 hz _ (by simp)
theorem run_clear66 {w : World} {g o n c : Nat} {cur : Array Value} (ty : TypeId) (hg : w.heap[g]? = some (.cells cur 55 (0, 0))) (hfit : o + n * 20 ≤ cur.size) :
    ∃ zs : List Value, zs.length = n * 20 ∧ (Builtin.clear_ #[50] ty #[.slice (some ⟨g, o, none⟩) n c]).run Try.prog w = .ok (.tuple #[]) (w.setRow g (cur.toList.take o ++ zs ++ cur.toList.drop (o + zs.length)).toArray) := by
  obtain ⟨i66, z66, q1, q2, q3, q4, q5⟩ := Copy.info66
  obtain ⟨z, e1, e2⟩ := zero66
  rw [q1, Option.bind_some, q2] at e1
  cases e1
  have hl : (Builtin.zeroCells z66.cells n).toList.length = n * 20 := by rw [Array.length_toList, size_zeroCells, q5]
  refine ⟨(Builtin.zeroCells z66.cells n).toList, hl, ?_⟩
  cases n with
  | zero =>
    have : (Builtin.zeroCells z66.cells 0).toList = [] := by simp [Builtin.zeroCells]
    rw [this]
    have hs : w.setRow g (cur.toList.take o ++ [] ++ cur.toList.drop (o + ([] : List Value).length)).toArray = w := by
      have e : (cur.toList.take o ++ [] ++ cur.toList.drop (o + ([] : List Value).length)).toArray = cur := by simp
      rw [e]
      exact setRow_self w g cur 55 (0, 0) hg
    rw [hs]
    simp [Builtin.clear_, run_underlying Try.underlying50]
  | succ m =>
    have hst := run_storeCells_at Try.prog g o 55 (Builtin.zeroCells z66.cells (m + 1)).toList 0 cur w hg (by rw [hl]; simpa using hfit) (zeros_one e2 (by omega) _)
    simp only [Nat.add_zero] at hst
    have hv : (zeroValue 55).run Try.prog w = .ok z66 w := by simp [zeroValue, typeInfo, q1, q2]
    simp [Builtin.clear_, run_underlying Try.underlying50, hv, hst]
/-- What Delete leaves of a row. -/
structure Deleted (g c n i j : Nat) (cur : Array Value) (w w' : World) : Prop where
  row : ∃ cur', w'.heap[g]? = some (.cells cur' 55 (0, 0)) ∧ cur'.size = c * 20 ∧ cur'.toList.take ((n - (j - i)) * 20) = cur.toList.take (i * 20) ++ (cur.toList.take (n * 20)).drop (j * 20)
  grown : w.grownBy w' (some g)
theorem setCells_row' {g : Nat} {e : TypeId} (vs : List Value) (o : Nat) (w : World) (cur : Array Value) (h : w.heap[g]? = some (.cells cur e (0, 0))) (hl : o + vs.length ≤ cur.size) :
    ∃ cur', (w.setCells g o vs).heap[g]? = some (.cells cur' e (0, 0)) ∧ cur'.size = cur.size ∧ cur'.toList = cur.toList.take o ++ vs ++ cur.toList.drop (o + vs.length) := YtaojjpdlfnphiaaW.PrintWords.setCells_row vs o w cur h hl
theorem run_clear66' {w : World} {g o n c : Nat} {cur : Array Value} (hg : w.heap[g]? = some (.cells cur 55 (0, 0))) (hfit : o + n * 20 ≤ cur.size) :
    ∃ zs : List Value, zs.length = n * 20 ∧ ∀ ty, (Builtin.clear_ #[50] ty #[.slice (some ⟨g, o, none⟩) n c]).run Try.prog w = .ok (.tuple #[]) (w.setRow g (cur.toList.take o ++ zs ++ cur.toList.drop (o + zs.length)).toArray) := by
  obtain ⟨zs, h1, h2⟩ := run_clear66 (c := c) 0 hg hfit
  exact ⟨zs, h1, fun ty => h2⟩
set_option maxHeartbeats 4000000 in
set_option maxRecDepth 100000 in
theorem del (g c n i j : Nat) (cur : Array Value) (w : World) (hg : w.heap[g]? = some (.cells cur 55 (0, 0))) (hsz : cur.size = c * 20) (hij : i < j) (hj : j ≤ n) (hn : n ≤ c) (hm : c ≤ 9223372036854775807) (h1 : ∀ u ∈ cur.toList.take (n * 20), u.oneCell' = true) :
    Calls Try.prog 26 #[.slice (some ⟨g, 0, none⟩) n c, .int .i64 (i : Int), .int .i64 (j : Int)] w fun e w' => e = .returned (.slice (some ⟨g, 0, none⟩) (n - (j - i)) c) ∧ Deleted g c n i j cur w w' := by
  have mixed := mixed
  obtain ⟨i66, z66, q1, q2, q3, q4, q5⟩ := Copy.info66
  obtain ⟨news, hnews⟩ : ∃ news, news = (cur.toList.take (n * 20)).drop (j * 20) := ⟨_, rfl⟩
  have hlen : news.length = (n - j) * 20 := by
    rw [hnews, List.length_drop, List.length_take, Array.length_toList, hsz, Nat.sub_mul]
    omega
  obtain ⟨A, hA, hsrc⟩ : ∃ A : Addr, (if c = j then some (⟨g, 0, none⟩ : Addr) else some ⟨g, j * 20, none⟩) = some A ∧ Hid (∀ t u, news[t]? = some u → w.drew.cell? (A.add t) = some u) := by
    by_cases h : c = j
    · refine ⟨⟨g, 0, none⟩, by simp [h], fun t u hu => ?_⟩
      have h0 : news.length = 0 := by rw [hlen]; omega
      rw [List.length_eq_zero_iff.1 h0] at hu
      simp at hu
    · refine ⟨⟨g, j * 20, none⟩, by simp [h], fun t u hu => ?_⟩
      rw [add_none]
      have hg' : w.drew.heap[g]? = some (.cells cur 55 (0, 0)) := hg
      rw [cell_of hg']
      rw [hnews, List.getElem?_drop, List.getElem?_take] at hu
      split at hu
      · rw [← hu, Array.getElem?_toList]
      · cases hu
  have s1 : Hid (news.length = (n - j) * 20) := hlen
  have s2 : Hid (∀ u ∈ news, u.oneCell' = true) := by
    intro u hu
    rw [hnews] at hu
    exact h1 u (List.mem_of_mem_drop hu)
  have s3 : Hid (∀ t, t < news.length → (w.drew.cell? ⟨g, 0 + i * 20 + t, none⟩).isSome = true ∧ w.drew.frozen? ⟨g, 0 + i * 20 + t, none⟩ = false) := by
    intro t ht
    have hg' : w.drew.heap[g]? = some (.cells cur 55 (0, 0)) := hg
    have hb : j * 20 ≤ n * 20 := Nat.mul_le_mul_right 20 hj
    have hb3 : i * 20 ≤ j * 20 := Nat.mul_le_mul_right 20 (Nat.le_of_lt hij)
    have hb2 : n * 20 ≤ c * 20 := Nat.mul_le_mul_right 20 hn
    rw [hlen, Nat.sub_mul] at ht
    refine ⟨?_, frozen_of_row w.drew g _ cur 55 hg'⟩
    rw [cell_of hg', Array.getElem?_eq_getElem (by omega)]
    rfl
  obtain ⟨W1, hW1⟩ : ∃ W1, W1 = w.drew.setCells g (0 + i * 20) news := ⟨_, rfl⟩
  have hW : Hid (W1 = w.drew.setCells g (0 + i * 20) news) := hW1
  have hic : i ≤ c := by omega
  have hjc : j ≤ c := by omega
  have hb1 : i * 20 ≤ n * 20 := Nat.mul_le_mul_right 20 (by omega)
  have hb2 : n * 20 ≤ c * 20 := Nat.mul_le_mul_right 20 hn
  have hb3 : i * 20 + news.length ≤ n * 20 := by rw [hlen, ← Nat.add_mul]; exact Nat.mul_le_mul_right 20 (by omega)
  obtain ⟨cur1, r1, r2, r3⟩ := setCells_row' (g := g) (e := 55) news (0 + i * 20) w.drew cur hg (by omega)
  rw [← hW1] at r1
  obtain ⟨zs, z1, hcl0⟩ := run_clear66' (g := g) (o := (i + (n - j)) * 20) (n := n - (i + (n - j))) (c := c - (i + (n - j))) r1 (by rw [r2, hsz, ← Nat.add_mul]; exact Nat.le_trans (Nat.mul_le_mul_right 20 (by omega : i + (n - j) + (n - (i + (n - j))) ≤ n)) hb2)
  obtain ⟨W2, hW2⟩ : ∃ W2, W2 = W1.setRow g (cur1.toList.take ((i + (n - j)) * 20) ++ zs ++ cur1.toList.drop ((i + (n - j)) * 20 + zs.length)).toArray := ⟨_, rfl⟩
  rw [← hW2] at hcl0
  have hcl := hcl0
  have X : Aside (Deleted g c n i j cur w W2) := by
    have l1 : (cur.toList.take (0 + i * 20)).length = i * 20 := by rw [List.length_take, Array.length_toList]; omega
    have o2 : (i + (n - j)) * 20 = i * 20 + news.length := by rw [hlen, Nat.add_mul]
    have lc1 : cur1.toList.length = c * 20 := by rw [Array.length_toList, r2, hsz]
    have lz : (i + (n - j)) * 20 + zs.length ≤ c * 20 := by rw [z1, ← Nat.add_mul]; exact Nat.le_trans (Nat.mul_le_mul_right 20 (by omega : i + (n - j) + (n - (i + (n - j))) ≤ n)) hb2
    refine ⟨⟨_, by rw [hW2]; exact setRow_heap _ _ _ _ _ _ r1, ?_, ?_⟩, ?_⟩
    · rw [List.size_toArray, List.length_append, List.length_append, List.length_take, List.length_drop, lc1]
      omega
    · rw [show n - (j - i) = i + (n - j) by omega, ← hnews]
      show (cur1.toList.take ((i + (n - j)) * 20) ++ zs ++ cur1.toList.drop ((i + (n - j)) * 20 + zs.length)).take ((i + (n - j)) * 20) = _
      rw [List.append_assoc, List.take_append_of_le_length (by rw [List.length_take]; omega), List.take_take, Nat.min_self, r3, o2, List.take_append_of_le_length (by rw [List.length_append, l1]; exact Nat.le_refl _), List.take_of_length_le (by rw [List.length_append, l1]; exact Nat.le_refl _), Nat.zero_add]
    · obtain ⟨p1, p2, p3, p4⟩ := YtaojjpdlfnphiaaW.PrintWords.setCells_same g news (0 + i * 20) w.drew
      rw [← hW1] at p1 p2 p3 p4
      rw [hW2]
      refine ⟨p1, p2, p3, ?_, fun k hk hne => ?_⟩
      · show w.heap.size ≤ (W1.setRow g _).heap.size
        have : (W1.setRow g (cur1.toList.take ((i + (n - j)) * 20) ++ zs ++ cur1.toList.drop ((i + (n - j)) * 20 + zs.length)).toArray).heap.size = W1.heap.size := by simp [World.setRow]
        rw [this, p4]
        exact Nat.le_refl _
      · have hne' : k ≠ g := fun e => hne (by rw [e])
        rw [setRow_other _ _ _ _ hne', hW1, YtaojjpdlfnphiaaW.PrintWords.setCells_far news _ k hne']
        rfl
  clear hcl0 hW2 r1 r2 r3 z1 hb1 hb2 hb3
  clear hW1 hg hnews hlen h1 hsz
  go_enter Try.func26, Try.ntmps26
  go_wp2_with fail
  go_region_law_o (refine step_append_room rfl (.tmp 22) (.tmp 25) 50 rfl 55 i66 20 Try.underlying50 q1 q3 g 0 i c (by simp [Act.eval, Act.put]) A (n - j) (c - j) news (by simp [Act.eval, Act.put]) s1.out hsrc.out s2.out (by omega) s3.out ?_; rw [← hW.out])
  go_wp2
  go_ret
  exact ⟨by rw [show n - (j - i) = i + (n - j) by omega]; rfl, X.out⟩
theorem flat_split (f : Nat → List Value) {a n : Nat} (h : a ≤ n) : (List.range n).flatMap f = (List.range a).flatMap f ++ (List.range (n - a)).flatMap fun j => f (a + j) := by
  obtain ⟨b, rfl⟩ : ∃ b, n = a + b := ⟨n - a, by omega⟩
  rw [List.range_add, List.flatMap_append, List.flatMap_map, show a + b - a = b by omega]
/-- Delete of one property out of an own row. -/
theorem Delete.calls {w : World} {B g c n i : Nat} {f : Nat → List Value} (h : w.ownsRow B 55 20 (.slice (some ⟨g, 0, none⟩) n c) n ((List.range n).flatMap f)) (hz : ∀ t, (f t).length = 20) (h1 : ∀ t, ∀ u ∈ f t, u.oneCell' = true) (hi : i < n) :
    Calls Try.prog 26 #[.slice (some ⟨g, 0, none⟩) n c, .int .i64 (i : Int), .int .i64 ((i + 1 : Nat) : Int)] w fun e w' => e = .returned (.slice (some ⟨g, 0, none⟩) (n - 1) c) ∧
      w'.ownsRow B 55 20 (.slice (some ⟨g, 0, none⟩) (n - 1) c) (n - 1) ((List.range (n - 1)).flatMap fun j => if j < i then f j else f (j + 1)) ∧ w.grownBy w' (some g) := by
  rcases h.2 with ⟨e, _⟩ | ⟨g', cap, cur, e, h2, h3, h4, h5, h6, h7⟩
  · cases e
  simp only [Value.slice.injEq, Option.some.injEq, Addr.mk.injEq, and_true, true_and] at e
  obtain ⟨rfl, rfl⟩ := e
  have hM : maxLen = 9223372036854775807 := by decide +kernel
  refine Calls.mono (del g c n i (i + 1) cur w h3 h6 (Nat.lt_succ_self i) hi h4 (by omega) (fun u hu => ?_)) fun e w' ⟨he, hd⟩ => ?_
  · rw [h7] at hu
    obtain ⟨t, _, hu⟩ := List.mem_flatMap.1 hu
    exact h1 t u hu
  · have e1 : n - (i + 1 - i) = n - 1 := by omega
    obtain ⟨⟨cur', r1, r2, r3⟩, hgr⟩ := hd
    rw [e1] at he r3
    have hz' : ∀ t, (if t < i then f t else f (t + 1)).length = 20 := fun t => by split <;> exact hz _
    refine ⟨he, ⟨flat_len hz' _, .inr ⟨g, c, cur', rfl, h2, r1, by omega, h5, r2, ?_⟩⟩, hgr⟩
    have hin : i * 20 ≤ n * 20 := Nat.mul_le_mul_right 20 (Nat.le_of_lt hi)
    have ht : cur.toList.take (i * 20) = (cur.toList.take (n * 20)).take (i * 20) := by rw [List.take_take, Nat.min_eq_left hin]
    rw [r3, ht, h7, flat_split f (Nat.le_of_lt hi), List.take_append_of_le_length (by rw [flat_len hz]; exact Nat.le_refl _), List.take_of_length_le (by rw [flat_len hz]; exact Nat.le_refl _), ← flat_split f (Nat.le_of_lt hi), flat_split f (show i + 1 ≤ n from hi),
      List.drop_append_of_le_length (by rw [flat_len hz]; exact Nat.le_refl _), List.drop_of_length_le (by rw [flat_len hz]; exact Nat.le_refl _), List.nil_append, flat_split (fun j => if j < i then f j else f (j + 1)) (show i ≤ n - 1 by omega)]
    congr 1
    · exact flat_congr i fun j hj => by rw [if_pos hj]
    · rw [show n - (i + 1) = n - 1 - i by omega]
      exact flat_congr _ fun j hj => by
        rw [if_neg (by omega)]
        congr 1
        omega
end Go.Proofs.Ytaojjpdlfnphiaa.PDescKinds
end
section
/- InvariantBroken, plain: what the program answers of two moments is what the document says. -/
set_option linter.unusedSimpArgs false
set_option linter.unusedVariables false
set_option linter.unusedSectionVars false
namespace Go.Proofs.Ytaojjpdlfnphiaa.PDescKinds
open Go.RowKit Go.Ev FloatEq
namespace R
end R
/-! Moments whose numbers are numbers -/
theorem num2_refl (a : Nat) : R.num2 a a = true := by unfold R.num2; simp
theorem eqR_refl (a : V) : R.eqR a a = true := by unfold R.eqR; simp [num2_refl]
theorem eqDR_refl (a : D) : R.eqDR a a = true := by unfold R.eqDR; simp [eqR_refl]
theorem bytes_refl (a : ByteArray) : (a == a) = true := by
  cases a with | mk d =>
  show ByteArray.beq ⟨d⟩ ⟨d⟩ = true
  unfold ByteArray.beq
  simp
theorem keq_refl (a : K) : S.keq a a = true := by
  unfold S.keq
  rw [bytes_refl]
  simp
theorem sameSh_refl (s : Sh) : R.sameSh s s = true := by
  unfold R.sameSh
  have e : seek (fun i => bif !S.keq (s.g i).k (s.g i).k || !R.eqDR (s.g i).d (s.g i).d then some false else none) s.n 0 = none := by
    refine (S.seek_none _ _).2 fun j _ _ => ?_
    rw [keq_refl, eqDR_refl]
    rfl
  rw [e, eqR_refl]
  simp
theorem sameM_refl (m : Mo) : R.sameM m m = true := by
  unfold R.sameM
  have e : seek (fun i => bif !R.sameSh (m.g i) (m.g i) then some false else none) m.n 0 = none := by
    refine (S.seek_none _ _).2 fun j _ _ => ?_
    rw [sameSh_refl]
    rfl
  rw [e]
  simp
end Go.Proofs.Ytaojjpdlfnphiaa.PDescKinds
end
section
/- InvariantGoes, plain: Broken of two moments is transitive. -/
set_option linter.unusedSimpArgs false
set_option linter.unusedVariables false
set_option linter.unusedSectionVars false
namespace Go.Proofs.Ytaojjpdlfnphiaa.PDescKinds
open Go.RowKit Go.Ev FloatEq
/-! Two loops, one within the other -/
/-! Keys -/
theorem bytes_eq {a b : ByteArray} (h : (a == b) = true) : a = b := by
  cases a with | mk x =>
  cases b with | mk y =>
  have h : ByteArray.beq ⟨x⟩ ⟨y⟩ = true := h
  unfold ByteArray.beq at h
  simp at h
  rw [h]
theorem keq_iff {a b : K} : S.keq a b = true ↔ a = b := by
  constructor
  · intro h
    unfold S.keq at h
    simp only [Bool.and_eq_true, Bool.and_true, beq_iff_eq] at h
    obtain ⟨h1, h2⟩ := h
    cases a; cases b
    simp only at h1 h2
    rw [bytes_eq h1, h2]
  · rintro rfl; exact keq_refl a
/-! Values -/
/-! Descriptors -/
/-! Shapes -/
end Go.Proofs.Ytaojjpdlfnphiaa.PDescKinds
end
section
/- Pieces that read, then a store; moments as_ lists of lists. -/
set_option linter.unusedSimpArgs false
set_option linter.unusedVariables false
set_option linter.unusedSectionVars false
namespace Go.Ev
open Go.RowKit Go.Proofs.Ytaojjpdlfnphiaa.PDescKinds
section
variable [XEnv] {P : Program} {N : Nat} {m : Nat → Nat} {Q : Exit → Act → World → Prop}
theorem ar_of {a : Act} (w : World) {ts : List (Nat × SV)} (hs : a.tmps.size = N) (hd : a.defers = []) (h : ∀ p ∈ ts, a.tmps.getD p.1 undef = p.2.den m) (hok : ∀ p ∈ ts, p.2.ok fun _ => none) : AR N m (pickT ts) (fun _ => none) a :=
  (epoch (w := w) hs hd ts m h hok).ar
theorem ar_get {a : Act} {t : Nat → SV} {mem : Mem} (h : AR N m t mem a) {i : Nat} {s : SV} (e : t i = s) (hk : s.known = true) : a.tmps.getD i undef = s.den m := by
  rw [← e] at hk ⊢
  exact h.tm i hk
theorem ar_eval {a : Act} {t : Nat → SV} {mem : Mem} (h : AR N m t mem a) {i : Nat} {v : Value} (e : t i = .val v) : a.eval (.tmp i) = v := (ar_get h e rfl).trans (den_val _ _)
theorem wpList_reads {os : Array Oper} {l rest : List Oper} {ns : List Nat} {vs : List SV} {t : Nat → SV} {a : Act} {w : World} (hX : XOk w) (hev : (reads P N l t).map (fun t => ns.map t) = some vs) (har : AR N m t (fun _ => none) a)
    (k : ∀ a' t', AR N m t' (fun _ => none) a' → ns.map t' = vs → wpList P os Q rest a' w) : wpList P os Q (l ++ rest) a w := by
  obtain ⟨t', h1, h2⟩ := Option.map_eq_some_iff.1 hev
  exact reads_sound l _ t' a w hX h1 har fun a' h => k a' t' h h2
theorem region_reads {id : Nat} {ops : Array Oper} {ns : List Nat} {vs : List SV} {t : Nat → SV} {a : Act} {w : World} (hX : XOk w) (hev : (reads P N ops.toList t).map (fun t => ns.map t) = some vs) (har : AR N m t (fun _ => none) a)
    (k : ∀ a' t', AR N m t' (fun _ => none) a' → ns.map t' = vs → Q .normal a' w) : (Code.region id ops false).wp P Q a w := by
  refine wp_region_list ?_
  rw [← List.append_nil ops.toList]
  exact wpList_reads hX hev har k
theorem store_run {a : Act} {w w' : World} {o : Oper} {t : TypeId} {x y : Operand} {p v : Value} (ho : o.op = .store t x y) (hx : a.eval x = p) (hy : a.eval y = v) (h : (Instr.storeAt t p v).run P w = .ok () w') : (execOp a.eval o).run P w = .ok .skip w' := by
  unfold execOp
  simp only [ho, hx, hy, Sem.run_bind, h, Result.andThen_ok, Sem.run_pure]
/-- A store, last of a region. -/
theorem wpList_store {os : Array Oper} {o : Oper} {a : Act} {w w' : World} {t : TypeId} {x y : Operand} {p v : Value} (ho : o.op = .store t x y) (hg : o.guard = none) (hd : o.dst = none) (hx : a.eval x = p) (hy : a.eval y = v)
    (h : (Instr.storeAt t p v).run P w = .ok () w') (k : Q .normal a w') : wpList P os Q [o] a w := by
  refine wpList_plain hg fun K hK => ?_
  unfold Oper.wp
  rw [store_run ho hx hy h, Oper.upon_skip, hd]
  exact hK _ _ k
theorem takes_cut {ops : Array Oper} {S : World → Prop} {Q : Act → World → Prop} (hS : ∀ w, S w → XOk w) (hns : Region.noSelect ops = true) {is : List Nat} {t : Nat → SV} {l l' : Array Bool} {ns : List Nat} {vs : List SV} {fuel : Nat} {a : Act} {w : World}
    (h : (takes P ops N is t l).map (fun p => (ns.map p.1, p.2)) = some (vs, l')) (har : AR N m t (fun _ => none) a) (hw : S w)
    (k : ∀ a' t', AR N m t' (fun _ => none) a' → ns.map t' = vs → wpAnyH P .any ops (onlyN Q) S fuel l' a' w) : wpAnyH P .any ops (onlyN Q) S (is.length + fuel) l a w := by
  obtain ⟨⟨t', l2⟩, h1, h2⟩ := Option.map_eq_some_iff.1 h
  simp only [Prod.mk.injEq] at h2
  obtain ⟨h2, rfl⟩ := h2
  exact takes_sound hS hns is t t' l l2 fuel a w h1 har hw fun a' har' => k a' t' har' h2
end
end Go.Ev
namespace Go.Proofs.Ytaojjpdlfnphiaa.PDescKinds
open Go.RowKit Go.Ev
/-- A shape with its properties as_ a list. -/
structure LS where
  cl : Int
  p : V
  x : Bool
  ps : List Pr
def Sh.ls (s : Sh) : LS := ⟨s.cl, s.p, s.x, (List.range s.n).map s.g⟩
def Mo.ls (m : Mo) : List LS := (List.range m.n).map fun j => (m.g j).ls
namespace L
/-- The place of a key. -/
def at_ (l : List Pr) (k : K) : Option Nat := l.findIdx? fun q => S.keq q.k k
/-- What one delta does to a shape. -/
def shape (s : LS) (δ : Dl) : Option LS :=
  if δ.what = 2 then some { s with cl := δ.n }
  else if δ.what = 3 then some { s with p := δ.v }
  else if δ.what = 4 then some { s with x := δ.yes }
  else if δ.what = 5 then (at_ s.ps δ.k).map fun i => { s with ps := s.ps.eraseIdx i }
  else if δ.what = 6 then match at_ s.ps δ.k with
    | none => some { s with ps := s.ps ++ [⟨δ.k, δ.d⟩] }
    | some i => some { s with ps := s.ps.modify i fun q => { q with d := δ.d } }
  else none
/-- What one delta does to a moment. -/
def apply (l : List LS) (δ : Dl) : Option (List LS) :=
  if δ.what = 1 then (if δ.o = (l.length : Int) + 1 then some (l ++ [⟨δ.n, δ.v, δ.yes, []⟩]) else none)
  else if δ.o < 1 ∨ (l.length : Int) < δ.o then none
  else match l[(δ.o - 1).toNat]? with
    | some s => (shape s δ).map fun s' => l.set (δ.o - 1).toNat s'
    | none => none
end L
theorem ls_len (m : Mo) : m.ls.length = m.n := by simp [Mo.ls]
theorem ps_len (s : Sh) : s.ls.ps.length = s.n := by simp [Sh.ls]
theorem ls_at (m : Mo) {j : Nat} (h : j < m.n) : m.ls[j]? = some (m.g j).ls := by simp [Mo.ls, h]
theorem map_fput {α : Type} (f : Nat → α) (n t : Nat) (x : α) : (List.range n).map (fput f t x) = ((List.range n).map f).set t x := by
  apply List.ext_getElem?
  intro j
  rw [List.getElem?_set, List.getElem?_map, List.getElem?_map]
  by_cases h : j < n
  · rw [List.getElem?_range h, Option.map_some, Option.map_some]
    by_cases e : t = j
    · subst e; simp [fput, h]
    · rw [if_neg e]; simp only [fput, if_neg (Ne.symm e)]
  · rw [List.getElem?_eq_none (l := List.range n) (by simpa using h)]
    simp [h]
    omega
theorem ls_fput (m : Mo) (k : Nat) (s : Sh) : ({ m with g := fput m.g k s } : Mo).ls = m.ls.set k s.ls := by
  have e : (fun j => (fput m.g k s j).ls) = fput (fun j => (m.g j).ls) k s.ls := by
    funext j
    unfold fput
    split <;> rfl
  show (List.range m.n).map (fun j => (fput m.g k s j).ls) = _
  rw [e, map_fput]
  rfl
namespace S
theorem seek_first (p : Nat → Bool) : ∀ (k i : Nat), (seek (fun i => bif p i then some (i : Int) else none) k i = none ∧ ∀ j, i ≤ j → j < i + k → p j = false) ∨
    ∃ j : Nat, seek (fun i => bif p i then some (i : Int) else none) k i = some (j : Int) ∧ i ≤ j ∧ j < i + k ∧ p j = true ∧ ∀ j', i ≤ j' → j' < j → p j' = false
  | 0, i => .inl ⟨rfl, fun j h1 h2 => by omega⟩
  | k + 1, i => by
    simp only [seek]
    cases hp : p i with
    | true => exact .inr ⟨i, rfl, Nat.le_refl _, by omega, hp, fun j' h1 h2 => by omega⟩
    | false =>
      simp only [cond_false]
      rcases seek_first p k (i + 1) with ⟨h1, h2⟩ | ⟨j, h1, h2, h3, h4, h5⟩
      · refine .inl ⟨h1, fun j g1 g2 => ?_⟩
        by_cases e : j = i
        · rw [e]; exact hp
        · exact h2 j (by omega) (by omega)
      · refine .inr ⟨j, h1, by omega, by omega, h4, fun j' g1 g2 => ?_⟩
        by_cases e : j' = i
        · rw [e]; exact hp
        · exact h5 j' (by omega) g2
theorem idx_cases {p : Nat → Bool} {n : Nat} : (idx p n = -1 ∧ ∀ j, j < n → p j = false) ∨ ∃ j : Nat, idx p n = (j : Int) ∧ j < n ∧ p j = true ∧ ∀ j', j' < j → p j' = false := by
  unfold idx
  rcases seek_first p n 0 with ⟨h1, h2⟩ | ⟨j, h1, h2, h3, h4, h5⟩
  · exact .inl ⟨by rw [h1]; rfl, fun j hj => h2 j (Nat.zero_le _) (by omega)⟩
  · exact .inr ⟨j, by rw [h1]; rfl, by omega, h4, fun j' hj => h5 j' (Nat.zero_le _) hj⟩
end S
theorem find_at (s : Sh) (k : K) : (S.find s k = -1 ∧ L.at_ s.ls.ps k = none) ∨ ∃ i : Nat, S.find s k = (i : Int) ∧ i < s.n ∧ L.at_ s.ls.ps k = some i := by
  rcases S.idx_cases (p := fun i => S.keq (s.g i).k k) (n := s.n) with ⟨h1, h2⟩ | ⟨i, h1, h2, h3, h4⟩
  · refine .inl ⟨h1, ?_⟩
    unfold L.at_
    rw [List.findIdx?_eq_none_iff]
    intro q hq
    obtain ⟨j, hj, rfl⟩ := List.mem_map.1 hq
    exact h2 j (List.mem_range.1 hj)
  · refine .inr ⟨i, h1, h2, ?_⟩
    unfold L.at_
    rw [List.findIdx?_eq_some_iff_getElem]
    refine ⟨by rw [ps_len]; exact h2, ?_, fun j hj => ?_⟩
    · simpa [Sh.ls] using h3
    · simpa [Sh.ls] using h4 j hj
end Go.Proofs.Ytaojjpdlfnphiaa.PDescKinds
end
