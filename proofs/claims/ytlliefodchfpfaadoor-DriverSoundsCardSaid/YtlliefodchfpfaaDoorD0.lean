/- Steps as plain data; what must be so of one. -/
import Derived.Test.YtlliefodchfpfaaDoorKk0
set_option linter.unusedSimpArgs false
set_option linter.unusedVariables false
set_option linter.unusedSectionVars false
namespace Go.Proofs.YtlliefodchfpfaaDoor.PDescKinds
open Go.RowKit Go.Ev
structure Stp where
  code : Int
  tg : Int
  a : Int
  b : Int
  c : Int
  n : Int
  m : Int
  p : Int
  key : K
  val : V
  desc : D
  s : ByteArray
  nA : Option Addr
  nn : Nat
  nc : Nat
  flag : Bool
def V.sv (v : V) : List SV := [.val (.int .i64 v.k), .val (.bool v.b), .val (.float .f64 v.n), .val (.string v.s), .val (.int .i64 v.id)]
def D.sv (d : D) : List SV := [.val (.int .i64 d.v.k), .val (.bool d.v.b), .val (.float .f64 d.v.n), .val (.string d.v.s), .val (.int .i64 d.v.id),
  .val (.int .i64 d.g.k), .val (.bool d.g.b), .val (.float .f64 d.g.n), .val (.string d.g.s), .val (.int .i64 d.g.id),
  .val (.int .i64 d.t.k), .val (.bool d.t.b), .val (.float .f64 d.t.n), .val (.string d.t.s), .val (.int .i64 d.t.id), .val (.int .i64 d.w), .val (.int .i64 d.e), .val (.int .i64 d.c)]
/-- A step's cells; its list is the row r. -/
def Stp.cells (x : Stp) (r : List Nat) : List SV :=
  [.val (.int .i64 x.code), .val (.int .i64 x.tg), .val (.int .i64 x.a), .val (.int .i64 x.b), .val (.int .i64 x.c), .val (.int .i64 x.n), .val (.int .i64 x.m), .val (.int .i64 x.p),
   .val (.string x.key.s), .val (.int .i64 x.key.n),
   .val (.int .i64 x.val.k), .val (.bool x.val.b), .val (.float .f64 x.val.n), .val (.string x.val.s), .val (.int .i64 x.val.id),
   .val (.int .i64 x.desc.v.k), .val (.bool x.desc.v.b), .val (.float .f64 x.desc.v.n), .val (.string x.desc.v.s), .val (.int .i64 x.desc.v.id),
   .val (.int .i64 x.desc.g.k), .val (.bool x.desc.g.b), .val (.float .f64 x.desc.g.n), .val (.string x.desc.g.s), .val (.int .i64 x.desc.g.id),
   .val (.int .i64 x.desc.t.k), .val (.bool x.desc.t.b), .val (.float .f64 x.desc.t.n), .val (.string x.desc.t.s), .val (.int .i64 x.desc.t.id), .val (.int .i64 x.desc.w), .val (.int .i64 x.desc.e), .val (.int .i64 x.desc.c),
   .xs r, .val (.string x.s), .val (.slice x.nA x.nn x.nc), .val (.bool x.flag)]
def cutI : List SV → Option (Int × List SV)
  | .val (.int .i64 k) :: r => some (k, r)
  | _ => none
def cutB : List SV → Option (ByteArray × List SV)
  | .val (.string k) :: r => some (k, r)
  | _ => none
def cutVs : List SV → Option (V × List SV)
  | .val (.int .i64 k) :: .val (.bool b) :: .val (.float .f64 n) :: .val (.string s) :: .val (.int .i64 id) :: r => some (⟨k, b, n, s, id⟩, r)
  | _ => none
def cutEnd : List SV → Option (List Nat × ByteArray × Option Addr × Nat × Nat × Bool)
  | [.xs r, .val (.string s), .val (.slice A n c), .val (.bool f)] => some (r, s, A, n, c, f)
  | _ => none
theorem cutI_eq {l r : List SV} {k : Int} (h : cutI l = some (k, r)) : l = .val (.int .i64 k) :: r := by
  unfold cutI at h
  split at h
  · cases h; rfl
  · cases h
theorem cutB_eq {l r : List SV} {k : ByteArray} (h : cutB l = some (k, r)) : l = .val (.string k) :: r := by
  unfold cutB at h
  split at h
  · cases h; rfl
  · cases h
theorem cutVs_eq {l r : List SV} {v : V} (h : cutVs l = some (v, r)) : l = v.sv ++ r := by
  unfold cutVs at h
  split at h
  · cases h; rfl
  · cases h
theorem cutEnd_eq {l : List SV} {r : List Nat} {s : ByteArray} {A : Option Addr} {n c : Nat} {f : Bool} (h : cutEnd l = some (r, s, A, n, c, f)) : l = [.xs r, .val (.string s), .val (.slice A n c), .val (.bool f)] := by
  unfold cutEnd at h
  split at h
  · cases h; rfl
  · cases h
def getStp (l : List SV) : Option (Stp × List Nat) :=
  (cutI l).bind fun q1 => (cutI q1.2).bind fun q2 => (cutI q2.2).bind fun q3 => (cutI q3.2).bind fun q4 => (cutI q4.2).bind fun q5 => (cutI q5.2).bind fun q6 => (cutI q6.2).bind fun q7 => (cutI q7.2).bind fun q8 =>
  (cutB q8.2).bind fun k1 => (cutI k1.2).bind fun k2 => (cutVs k2.2).bind fun v => (cutVs v.2).bind fun d1 => (cutVs d1.2).bind fun d2 => (cutVs d2.2).bind fun d3 => (cutI d3.2).bind fun d4 => (cutI d4.2).bind fun d5 => (cutI d5.2).bind fun d6 =>
  (cutEnd d6.2).bind fun z => some (⟨q1.1, q2.1, q3.1, q4.1, q5.1, q6.1, q7.1, q8.1, ⟨k1.1, k2.1⟩, v.1, ⟨d1.1, d2.1, d3.1, d4.1, d5.1, d6.1⟩, z.2.1, z.2.2.1, z.2.2.2.1, z.2.2.2.2.1, z.2.2.2.2.2⟩, z.1)
theorem getStp_eq {l : List SV} {x : Stp} {r : List Nat} (h : getStp l = some (x, r)) : l = x.cells r := by
  unfold getStp at h
  obtain ⟨⟨q1, r1⟩, e1, h⟩ := Option.bind_eq_some_iff.1 h
  obtain ⟨⟨q2, r2⟩, e2, h⟩ := Option.bind_eq_some_iff.1 h
  obtain ⟨⟨q3, r3⟩, e3, h⟩ := Option.bind_eq_some_iff.1 h
  obtain ⟨⟨q4, r4⟩, e4, h⟩ := Option.bind_eq_some_iff.1 h
  obtain ⟨⟨q5, r5⟩, e5, h⟩ := Option.bind_eq_some_iff.1 h
  obtain ⟨⟨q6, r6⟩, e6, h⟩ := Option.bind_eq_some_iff.1 h
  obtain ⟨⟨q7, r7⟩, e7, h⟩ := Option.bind_eq_some_iff.1 h
  obtain ⟨⟨q8, r8⟩, e8, h⟩ := Option.bind_eq_some_iff.1 h
  obtain ⟨⟨k1, r9⟩, e9, h⟩ := Option.bind_eq_some_iff.1 h
  obtain ⟨⟨k2, r10⟩, e10, h⟩ := Option.bind_eq_some_iff.1 h
  obtain ⟨⟨v, r11⟩, e11, h⟩ := Option.bind_eq_some_iff.1 h
  obtain ⟨⟨d1, r12⟩, e12, h⟩ := Option.bind_eq_some_iff.1 h
  obtain ⟨⟨d2, r13⟩, e13, h⟩ := Option.bind_eq_some_iff.1 h
  obtain ⟨⟨d3, r14⟩, e14, h⟩ := Option.bind_eq_some_iff.1 h
  obtain ⟨⟨d4, r15⟩, e15, h⟩ := Option.bind_eq_some_iff.1 h
  obtain ⟨⟨d5, r16⟩, e16, h⟩ := Option.bind_eq_some_iff.1 h
  obtain ⟨⟨d6, r17⟩, e17, h⟩ := Option.bind_eq_some_iff.1 h
  obtain ⟨⟨z1, z2, z3, z4, z5, z6⟩, e18, h⟩ := Option.bind_eq_some_iff.1 h
  simp only [Option.some.injEq, Prod.mk.injEq] at h
  obtain ⟨rfl, rfl⟩ := h
  have f1 := cutI_eq e1
  have f2 := cutI_eq e2
  have f3 := cutI_eq e3
  have f4 := cutI_eq e4
  have f5 := cutI_eq e5
  have f6 := cutI_eq e6
  have f7 := cutI_eq e7
  have f8 := cutI_eq e8
  have f9 := cutB_eq e9
  have f10 := cutI_eq e10
  have f11 := cutVs_eq e11
  have f12 := cutVs_eq e12
  have f13 := cutVs_eq e13
  have f14 := cutVs_eq e14
  have f15 := cutI_eq e15
  have f16 := cutI_eq e16
  have f17 := cutI_eq e17
  have f18 := cutEnd_eq e18
  clear e1 e2 e3 e4 e5 e6 e7 e8 e9 e10 e11 e12 e13 e14 e15 e16 e17 e18
  simp only at f1 f2 f3 f4 f5 f6 f7 f8 f9 f10 f11 f12 f13 f14 f15 f16 f17 f18
  rw [f1, f2, f3, f4, f5, f6, f7, f8, f9, f10, f11, f12, f13, f14, f15, f16, f17, f18]
  rfl
noncomputable def bodyOf (fn : Func) : List Code := flat (fn.body.getD .skip)
/-- The row of a step's list. -/
@[instance_reducible] def rowL (A : Option Addr) (n c : Nat) (g : Nat → Int) : XEnv := ⟨fun _ => ⟨A, 1, n, c, fun j => [.val (.int .i64 (g j))]⟩⟩
namespace S
def reg (n : Int) : Bool := decide (n ≥ 0) && decide (n < 32)
/-- Is a member of a list no register? -/
def bad (g : Nat → Int) (n : Nat) : Int := (seek (fun i => bif reg (g i) then none else some (i : Int)) n 0).getD (-1)
def head (x : Stp) : Bool := !(decide (x.code < 1)) && (!(decide (x.code > 65)) && (reg x.tg && (reg x.a && (reg x.b && reg x.c))))
def tail (x : Stp) (bodies : Int) : Bool :=
  bif x.code == 1 then good x.val else bif x.code == 4 then decide (x.n ≥ 0) && decide (x.n < bodies) else bif x.code == 46 || x.code == 47 then decide (x.n ≥ 0)
  else bif x.code == 10 then !x.flag || (!there x.desc.g && !there x.desc.t) else bif x.code == 11 then isG x.desc else true
/-- driver.Sound -/
def sound (x : Stp) (n : Nat) (g : Nat → Int) (bodies : Int) : Bool :=
  head x && (!(decide ((n : Int) > 1024)) && (!(decide (bad g n ≥ 0)) && (keyOk x.key && (check x.desc && tail x bodies))))
end S
end Go.Proofs.YtlliefodchfpfaaDoor.PDescKinds
