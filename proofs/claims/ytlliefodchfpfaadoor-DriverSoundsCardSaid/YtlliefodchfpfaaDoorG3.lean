/- What the reference's functions on descriptors answer. -/
import Derived.Test.YtlliefodchfpfaaDoorP1
set_option linter.unusedSimpArgs false
set_option linter.unusedVariables false
namespace Go.Proofs.YtlliefodchfpfaaDoor.PDescKinds
open Go.RowKit Go.Ev
theorem szle (n : Nat) : ((n : Int) ≤ 1048576) = (n ≤ 1048576) := propext ⟨fun h => by omega, fun h => by omega⟩
namespace R
def neg0 (n : Nat) : Bool := Op.floatEq FloatKind.f64 n 0 && FloatKind.f64.format.order ((Ieee.double.div 4607182418800017408 n).getD 0) 0 == some Ordering.lt
/-- Is a value well formed? By the document. -/
def good (v : V) : Bool :=
  bif decide (v.k < 1) || decide (v.k > 7) then false
  else bif (v.k != 3 && v.b) || (v.k != 4 && (!(Op.floatEq FloatKind.f64 v.n 0) || neg0 v.n)) || (v.k != 5 && !S.emp v.s) || (v.k != 6 && v.k != 7 && v.id != 0) then false
  else bif v.k == 5 then leafIn.strOk v.s
  else bif v.k == 6 then leafIn.idOk v.id
  else bif v.k == 7 then leafIn.idOk v.id
  else true
def slot (v : V) : Bool := good v && (v.k == 1 || v.k == 7)
def check (d : D) : Bool := ((S.absent d.v || good d.v) && ((S.absent d.g || slot d.g) && ((S.absent d.t || slot d.t) && (S.tri d.w && (S.tri d.e && S.tri d.c))))) && !(S.hasD d && S.hasA d)
def isA (d : D) : Bool := check d && S.hasA d
def isD (d : D) : Bool := check d && S.hasD d
def isG (d : D) : Bool := check d && (!isA d && !isD d)
def whole (d : D) : Bool := check d && ((d.e != 0 && d.c != 0) && (S.there d.g && S.there d.t || S.there d.v && d.w != 0))
def filled (d : D) : D := bif isA d then ⟨d.v, S.fill d.g, S.fill d.t, d.w, S.no d.e 1, S.no d.c 1⟩ else ⟨S.fill d.v, d.g, d.t, S.no d.w 1, S.no d.e 1, S.no d.c 1⟩
def numIs (a b : Nat) : Bool := bif S.nan a || S.nan b then S.nan a && S.nan b else S.feq a b && (neg0 a == neg0 b)
def is (a b : V) : Bool := bif a.k != b.k then false else bif a.k == 4 then numIs a.n b.n else a.b == b.b && (a.s.toList == b.s.toList && a.id == b.id)
def same (a b : V) : Bool := bif S.there a && S.there b then is a b else S.there a == S.there b
def isDD (a b : D) : Bool := same a.v b.v && (same a.g b.g && (same a.t b.t && (a.w == b.w && (a.e == b.e && a.c == b.c))))
def zero (d : D) : Bool := S.absent d.v && (S.absent d.g && (S.absent d.t && (d.w == 0 && (d.e == 0 && d.c == 0))))
def refused (now d : D) : Bool :=
  bif d.c == 2 || (d.e != 0 && d.e != now.e) then true
  else bif (isA d && isD now) || (isD d && isA now) then true
  else bif isA now then (S.there d.g && !same d.g now.g) || (S.there d.t && !same d.t now.t)
  else now.w == 1 && (d.w == 2 || (S.there d.v && !same d.v now.v))
def become (now d : D) : D := bif (isD now && isA d) || (isA now && isD d) then filled (S.turn now d) else S.over now d
def okA (now d : D) : Bool := check d && (zero now || whole now)
def apply (x : Bool) (now d : D) : D × Bool :=
  bif zero now then (bif x then (filled d, true) else (now, false))
  else bif now.c == 1 && refused now d then (now, false)
  else (become now d, true)
def okK (a b : D) : Bool := (zero a || whole a) && (zero b || whole b)
def keeps (a b : D) : Bool :=
  bif zero a || a.c == 2 then true
  else bif zero b || (b.c != 1 || (b.e != a.e || isA a != isA b)) then false
  else bif isA a then same a.g b.g && same a.t b.t
  else a.w == 2 || (same a.v b.v && b.w == 1)
end R
namespace T
def valid (s : ByteArray) : DT Value := .node (decide ((s.size : Int) ≤ 1048576)) (.leaf (.bool (units_Valid.val (s.size + 1) s 0 0))) .bad
def fillV (v : V) : DT Value := .leaf (S.fill v).agg
def noT (t : Int) : DT Value := .leaf (.int .i64 (S.no t 1))
def there (v : V) : DT Value := B (S.there v)
def rgood (v : V) : DT Value := B (R.good v)
def rslot (v : V) : DT Value := B (R.slot v)
def rcheck (d : D) : DT Value := B (R.check d)
def risA (d : D) : DT Value := B (R.isA d)
def risD (d : D) : DT Value := B (R.isD d)
def risG (d : D) : DT Value := B (R.isG d)
def rwhole (d : D) : DT Value := B (R.whole d)
def filled (d : D) : DT Value := .leaf (R.filled d).agg
def rfreeze (d : D) : DT Value := .node (R.whole d) (.node (R.isD d) (.leaf (.tuple #[(D.mk S.V0 S.V0 S.V0 1 0 1).agg, .int .i64 0])) (.leaf (.tuple #[(D.mk S.V0 S.V0 S.V0 0 0 1).agg, .int .i64 0]))) (.leaf (.tuple #[S.D0.agg, .int .i64 5]))
def rminus (n : Nat) : DT Value := .node (Op.floatEq FloatKind.f64 n 0) (.leaf (.bool (FloatKind.f64.format.order ((Ieee.double.div 4607182418800017408 n).getD 0) 0 == some Ordering.lt))) (.leaf (.bool false))
def ris (a b : V) : DT Value := B (R.is a b)
def rsame (a b : V) : DT Value := B (R.same a b)
def risDD (a b : D) : DT Value := B (R.isDD a b)
def rzero (d : D) : DT Value := B (R.zero d)
def rrefused (a b : D) : DT Value := B (R.refused a b)
def rbecome (a b : D) : DT Value := .leaf (R.become a b).agg
def rapply (x : Bool) (now d : D) : DT Value := .node (R.okA now d) (.leaf (.tuple #[(R.apply x now d).1.agg, .bool (R.apply x now d).2, .int .i64 0])) (.leaf (.tuple #[S.D0.agg, .bool false, .int .i64 5]))
def rkeeps (a b : D) : DT Value := .node (R.okK a b) (.leaf (.tuple #[.bool (R.keeps a b), .int .i64 0])) (.leaf (.tuple #[.bool false, .int .i64 5]))
end T
end Go.Proofs.YtlliefodchfpfaaDoor.PDescKinds
