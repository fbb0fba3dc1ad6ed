/- What the functions of package desc, and those that they call, answer: plain functions over plain data; and the contracts that say so. -/
import Derived.Test.YtlliefodchfpfaaDoorG0
set_option linter.unusedSimpArgs false
set_option linter.unusedVariables false
set_option linter.unusedSectionVars false
namespace Go.Proofs.YtlliefodchfpfaaDoor.PDescKinds
open Go.RowKit Go.Ev
theorem D.eta (d : D) : D.mk d.v d.g d.t d.w d.e d.c = d := rfl
namespace S
def nan (a : Nat) : Bool := FloatKind.f64.format.order a a != some Ordering.eq
def neg (a : Nat) : Bool := decide (IntKind.i64.wrap (a : Int) < 0)
def feq (a b : Nat) : Bool := FloatKind.f64.format.order a b == some Ordering.eq
def numSame (a b : Nat) : Bool := bif nan a || nan b then nan a && nan b else feq a b && (neg a == neg b)
def emp (s : ByteArray) : Bool := s.toList == (ByteArray.mk #[]).toList
def V0 : V := ⟨0, false, 0, ⟨#[]⟩, 0⟩
def VU : V := ⟨1, false, 0, ⟨#[]⟩, 0⟩
def D0 : D := ⟨V0, V0, V0, 0, 0, 0⟩
/-- Is a value well formed? -/
def good (v : V) : Bool :=
  bif v.k == 1 then (v.b == false && (emp v.s && (v.id == 0 && (v.n : Int) == 0)))
  else bif v.k == 2 then (v.b == false && (emp v.s && (v.id == 0 && (v.n : Int) == 0)))
  else bif v.k == 3 then (emp v.s && (v.id == 0 && (v.n : Int) == 0))
  else bif v.k == 4 then (v.b == false && (emp v.s && v.id == 0))
  else bif v.k == 5 then (leafIn.strOk v.s && (v.b == false && (v.id == 0 && (v.n : Int) == 0)))
  else bif v.k == 6 then (leafIn.idOk v.id && (v.b == false && (emp v.s && (v.n : Int) == 0)))
  else bif v.k == 7 then (leafIn.idOk v.id && (v.b == false && (emp v.s && (v.n : Int) == 0)))
  else false
/-- SameValue, of well-formed values. -/
def same (a b : V) : Bool := bif a.k == 4 && b.k == 4 then numSame a.n b.n else a.k == b.k && (a.b == b.b && (a.s.toList == b.s.toList && a.id == b.id))
def there (v : V) : Bool := v.k != 0
def pos (n : Nat) : Bool := FloatKind.f64.format.order ((Ieee.double.div 4607182418800017408 n).getD 0) 0 == some Ordering.gt
def isV0 (v : V) : Bool := v.k == 0 && (v.b == false && (Op.floatEq FloatKind.f64 v.n 0 && (v.s == ByteArray.mk #[] && (v.id == 0 && true))))
def absent (v : V) : Bool := isV0 v && pos v.n
def callable (v : V) : Bool := absent v || (good v && (v.k == 1 || v.k == 7))
def tri (t : Int) : Bool := decide (t ≥ 0) && decide (t ≤ 2)
def fields (d : D) : Bool := (absent d.v || good d.v) && (callable d.g && (callable d.t && (tri d.w && (tri d.e && tri d.c))))
def hasD (d : D) : Bool := there d.v || d.w != 0
def hasA (d : D) : Bool := there d.g || there d.t
def check (d : D) : Bool := fields d && !(hasD d && hasA d)
def kindN (d : D) : Int := bif check d then (bif hasD d then 1 else bif hasA d then 2 else 0) else bif fields d then 1 else 0
def isA (d : D) : Bool := check d && (!hasD d && hasA d)
def isD (d : D) : Bool := check d && hasD d
def isG (d : D) : Bool := check d && (!hasD d && !hasA d)
def fill (v : V) : V := bif there v then v else VU
def no (t by_ : Int) : Int := bif t == 0 then by_ else t
/-- Of a well-formed descriptor. -/
def complete (d : D) : D :=
  bif hasD d || !hasA d then ⟨fill d.v, d.g, d.t, no d.w 1, no d.e 1, no d.c 1⟩ else ⟨d.v, fill d.g, fill d.t, d.w, no d.e 1, no d.c 1⟩
def compl (d : D) : D := bif check d then complete d else D0
def alike (a b : V) : Bool := bif there a && there b then (good a && good b) && same a b else there a == there b
def equal (a b : D) : Bool := a.w == b.w && (a.e == b.e && (a.c == b.c && (alike a.v b.v && (alike a.g b.g && alike a.t b.t))))
def whole (d : D) : Bool := check d && (hasD d || hasA d) && equal (complete d) d
def isD0 (d : D) : Bool := (d.v.k == 0 && (d.v.b == false && (Op.floatEq FloatKind.f64 d.v.n 0 && (d.v.s == ByteArray.mk #[] && (d.v.id == 0 && true))))) &&
  ((d.g.k == 0 && (d.g.b == false && (Op.floatEq FloatKind.f64 d.g.n 0 && (d.g.s == ByteArray.mk #[] && (d.g.id == 0 && true))))) &&
  ((d.t.k == 0 && (d.t.b == false && (Op.floatEq FloatKind.f64 d.t.n 0 && (d.t.s == ByteArray.mk #[] && (d.t.id == 0 && true))))) && (d.w == 0 && (d.e == 0 && (d.c == 0 && true)))))
def zero (d : D) : Bool := isD0 d && (absent d.v && (absent d.g && absent d.t))
def barred (now d : D) : Bool :=
  bif d.c == 2 || (d.e != 0 && d.e != now.e) then true
  else bif kindN d == 0 then false
  else bif kindN d != kindN now then true
  else bif kindN d == 2 then (there d.g && !alike d.g now.g) || (there d.t && !alike d.t now.t)
  else now.w == 1 && (d.w == 2 || (there d.v && !alike d.v now.v))
def orV (now d : V) : V := bif there d then d else now
def orT (now d : Int) : Int := bif d != 0 then d else now
def over (now d : D) : D := ⟨orV now.v d.v, orV now.g d.g, orV now.t d.t, orT now.w d.w, orT now.e d.e, orT now.c d.c⟩
def okA (now d : D) : Bool := check d && (whole now || zero now)
def turn (now d : D) : D := ⟨d.v, d.g, d.t, d.w, no d.e now.e, no d.c now.c⟩
def apply (x : Bool) (now d : D) : D × Bool :=
  bif zero now then (bif x then (complete d, true) else (now, false))
  else bif now.c == 1 && barred now d then (now, false)
  else bif kindN d != 0 && kindN d != kindN now then (compl (turn now d), true)
  else (over now d, true)
def okK (a b : D) : Bool := (whole a || zero a) && (whole b || zero b)
def keeps (a b : D) : Bool :=
  bif zero a || a.c == 2 then true
  else bif zero b || (b.c != 1 || (b.e != a.e || isA a != isA b)) then false
  else bif isA a then alike a.g b.g && alike a.t b.t
  else a.w == 2 || (b.w == 1 && alike a.v b.v)
def eqV (a b : V) : Bool := ((a.n : Int) == (b.n : Int) || (nan a.n && nan b.n)) && (a.k == b.k && (a.b == b.b && (a.s.toList == b.s.toList && a.id == b.id)))
def eqD (a b : D) : Bool := eqV a.v b.v && (eqV a.g b.g && (eqV a.t b.t && (a.w == b.w && (a.e == b.e && a.c == b.c))))
end S
namespace T
def B (b : Bool) : DT Value := .leaf (.bool b)
def err (b : Bool) : DT Value := .node b (.leaf (.int .i64 0)) (.leaf (.int .i64 5))
def good (v : V) : DT Value := err (S.good v)
def numSame (a b : Nat) : DT Value := B (S.numSame a b)
def absent (v : V) : DT Value := B (S.absent v)
def callable (v : V) : DT Value := B (S.callable v)
def tri (t : Int) : DT Value := B (S.tri t)
def same (a b : V) : DT Value := .node (S.good a && S.good b) (.leaf (.tuple #[.bool (S.same a b), .int .i64 0])) (.leaf (.tuple #[.bool false, .int .i64 5]))
def kind (d : D) : DT Value := .node (S.check d) (.node (S.hasD d) (.leaf (.tuple #[.int .i64 1, .bool true])) (.node (S.hasA d) (.leaf (.tuple #[.int .i64 2, .bool true])) (.leaf (.tuple #[.int .i64 0, .bool true]))))
  (.node (S.fields d) (.leaf (.tuple #[.int .i64 1, .bool false])) (.leaf (.tuple #[.int .i64 0, .bool false])))
def check (d : D) : DT Value := err (S.check d)
def isA (d : D) : DT Value := B (S.isA d)
def isD (d : D) : DT Value := B (S.isD d)
def isG (d : D) : DT Value := B (S.isG d)
def complete (d : D) : DT Value := .node (S.check d) (.leaf (.tuple #[(S.complete d).agg, .int .i64 0])) (.leaf (.tuple #[S.D0.agg, .int .i64 5]))
def alike (a b : V) : DT Value := B (S.alike a b)
def equal (a b : D) : DT Value := B (S.equal a b)
def whole (d : D) : DT Value := B (S.whole d)
def zero (d : D) : DT Value := B (S.zero d)
def barred (a b : D) : DT Value := B (S.barred a b)
def over (a b : D) : DT Value := .leaf (S.over a b).agg
def apply (x : Bool) (now d : D) : DT Value := .node (S.okA now d) (.leaf (.tuple #[(S.apply x now d).1.agg, .bool (S.apply x now d).2, .int .i64 0])) (.leaf (.tuple #[S.D0.agg, .bool false, .int .i64 5]))
def keeps (a b : D) : DT Value := .node (S.okK a b) (.leaf (.tuple #[.bool (S.keeps a b), .int .i64 0])) (.leaf (.tuple #[.bool false, .int .i64 5]))
def sameD (a b : D) : DT Value := .node (S.check a && S.check b) (.leaf (.tuple #[.bool (S.equal a b), .int .i64 0])) (.leaf (.tuple #[.bool false, .int .i64 5]))
def freeze (d : D) : DT Value := .node (S.whole d) (.node (S.isD d) (.leaf (.tuple #[(D.mk S.V0 S.V0 S.V0 1 0 1).agg, .int .i64 0])) (.leaf (.tuple #[(D.mk S.V0 S.V0 S.V0 0 0 1).agg, .int .i64 0]))) (.leaf (.tuple #[S.D0.agg, .int .i64 5]))
def eqV (a b : V) : DT Value := B (S.eqV a b)
def eqD (a b : D) : DT Value := B (S.eqD a b)
end T
end Go.Proofs.YtlliefodchfpfaaDoor.PDescKinds
