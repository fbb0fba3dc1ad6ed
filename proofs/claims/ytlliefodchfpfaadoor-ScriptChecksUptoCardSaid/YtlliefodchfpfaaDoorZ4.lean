/- Parts of the proof, joined (4). -/
import Derived.Laws.BitsAllLaws
import Derived.Lib.DecodeN
import Derived.Lib.Bytes
import Derived.WalkKit
import Derived.ProofKit
import Derived.OpenShut
import Derived.Deep.DeepHandedRow
import Derived.Lib.LaidTab
import Derived.Lib.LaidIn
import Derived.Lib.LaidU8T
import Derived.Laws.AppendOwnNone
import Derived.Maps.OwnOps
import Derived.Maps.Views
import Derived.DeepKeys4
import Derived.Carry
import Derived.OrdersHeld
import Derived.Shelf.RegionOpenPlain
import Derived.Deep.RegionLaw
import Derived.Lib.SliceRun
import Derived.Deep.RegionHeld3
import Derived.Laws.BitsLemmas
import Derived.RowKit
import Derived.Test.YtlliefodchfpfaaDoorZ3
section
/- Contracts by evaluation: what each function of a list answers. Written by a program of this session. -/
namespace Go.Proofs.YtlliefodchfpfaaDoor.PDescKinds
open Go.RowKit Go.Ev
set_option linter.unusedSimpArgs false
set_option linter.unusedVariables false
set_option maxRecDepth 100000
abbrev KkL0 : Tab := [(32, onS T.valid), (36, onS T.valid)]
theorem Kkents0 : ∀ p ∈ KkL0, E p := entries_cons (ent_pvalid) (entries_cons (ent_valid) (entries_nil))
set_option maxHeartbeats 4000000 in
theorem ev_keyC (k : K) : evFn Tryd.prog ext (tab KkL0) 40 15 [k.agg] = (T.key k).val :=
  Eq.trans (b := 
    (bif k.n == 0 then 
     (bif decide ((↑k.s.size : Int) ≤ 1048576) then 
      (bif decide ((↑k.s.size : Int) ≤ 1048576) then 
       (bif units_Valid.val (k.s.size + 1) k.s 0 0 then some (Value.int IntKind.i64 0) else 
        (bif decide (k.n ≥ 1) then 
         (bif decide (k.n ≤ 65536) then 
          (bif k.s.toList == (ByteArray.mk #[]).toList then some (Value.int IntKind.i64 0) else some (Value.int IntKind.i64 5)) else some (Value.int IntKind.i64 5)) else some (Value.int IntKind.i64 5))) else none) else 
      (bif decide (k.n ≥ 1) then 
       (bif decide (k.n ≤ 65536) then 
        (bif k.s.toList == (ByteArray.mk #[]).toList then some (Value.int IntKind.i64 0) else some (Value.int IntKind.i64 5)) else some (Value.int IntKind.i64 5)) else some (Value.int IntKind.i64 5))) else 
     (bif decide (k.n ≥ 1) then 
      (bif decide (k.n ≤ 65536) then 
       (bif k.s.toList == (ByteArray.mk #[]).toList then some (Value.int IntKind.i64 0) else some (Value.int IntKind.i64 5)) else some (Value.int IntKind.i64 5)) else some (Value.int IntKind.i64 5)))) (by kernel_rfl) (by
    simp only [T.key, T.err, T.B, DT.val_node, DT.val_leaf, DT.bind, DT.val_bad]
    repeat' (first | (with_reducible refine bif_neq (fun h => ?_) (fun h => ?_)) | (with_reducible refine bif_and (fun h => ?_) (fun h => ?_)) | (with_reducible refine bif_eq (fun h => ?_) (fun h => ?_)))
    all_goals first | (simp_all [S.keyOk, S.emp, leafIn.strOk, leafIn.idOk, szle]; done) | (exfalso; simp_all [S.keyOk, S.emp, leafIn.strOk, leafIn.idOk, szle]; done) | (exfalso; simp_all [S.keyOk, S.emp, leafIn.strOk, leafIn.idOk, szle]; omega) | (simp_all [S.keyOk, S.emp, leafIn.strOk, leafIn.idOk, szle]; omega) | grind [S.keyOk, S.emp, leafIn.strOk, leafIn.idOk])
theorem ent_keyC : E (15, onK T.key) := byEv Kkents0 40 fun args t h => by
  obtain ⟨k, rfl, rfl⟩ := onK_eq h
  exact ev_keyC k
abbrev KkL1 : Tab := (15, onK T.key) :: KkL0
theorem Kkents1 : ∀ p ∈ KkL1, E p := entries_cons ent_keyC Kkents0
set_option maxHeartbeats 4000000 in
theorem ev_rkey (k : K) : evFn Tryd.prog ext (tab KkL1) 40 21 [k.agg] = (T.rkey k).val :=
  Eq.trans (b := 
    (bif k.n != 0 then 
     (bif decide (k.n ≥ 1) then 
      (bif decide (k.n ≤ 65536) then some (Value.bool (k.s.toList == (ByteArray.mk #[]).toList)) else some (Value.bool false)) else some (Value.bool false)) else 
     (bif decide ((↑k.s.size : Int) ≤ 1048576) then 
      (bif decide ((↑k.s.size : Int) ≤ 1048576) then some (Value.bool (units_Valid.val (k.s.size + 1) k.s 0 0)) else none) else some (Value.bool false)))) (by kernel_rfl) (by
    simp only [T.rkey, T.err, T.B, DT.val_node, DT.val_leaf, DT.bind, DT.val_bad]
    repeat' (first | (with_reducible refine bif_neq (fun h => ?_) (fun h => ?_)) | (with_reducible refine bif_and (fun h => ?_) (fun h => ?_)) | (with_reducible refine bif_eq (fun h => ?_) (fun h => ?_)))
    all_goals first | (simp_all [S.keyOk, S.emp, leafIn.strOk, leafIn.idOk, szle]; done) | (exfalso; simp_all [S.keyOk, S.emp, leafIn.strOk, leafIn.idOk, szle]; done) | (exfalso; simp_all [S.keyOk, S.emp, leafIn.strOk, leafIn.idOk, szle]; omega) | (simp_all [S.keyOk, S.emp, leafIn.strOk, leafIn.idOk, szle]; omega) | grind [S.keyOk, S.emp, leafIn.strOk, leafIn.idOk])
theorem ent_rkey : E (21, onK T.rkey) := byEv Kkents1 40 fun args t h => by
  obtain ⟨k, rfl, rfl⟩ := onK_eq h
  exact ev_rkey k
abbrev KkL2 : Tab := (21, onK T.rkey) :: KkL1
theorem Kkents2 : ∀ p ∈ KkL2, E p := entries_cons ent_rkey Kkents1
end Go.Proofs.YtlliefodchfpfaaDoor.PDescKinds
end
section
/- Steps as_ plain data; what must be so of one. -/
set_option linter.unusedSimpArgs false
set_option linter.unusedVariables false
set_option linter.unusedSectionVars false
namespace Go.Proofs.YtlliefodchfpfaaDoor.PDescKinds
open Go.RowKit Go.Ev
structure Stp where
  code : Int
  tg : Int
  a : Int
  b : Int
  c : Int
  n : Int
  m : Int
  p : Int
  key : K
  val : V
  desc : D
  s : ByteArray
  nA : Option Addr
  nn : Nat
  nc : Nat
  flag : Bool
/-- A step's cells; its list is the row r. -/
def Stp.cells (x : Stp) (r : List Nat) : List SV :=
  [.val (.int .i64 x.code), .val (.int .i64 x.tg), .val (.int .i64 x.a), .val (.int .i64 x.b), .val (.int .i64 x.c), .val (.int .i64 x.n), .val (.int .i64 x.m), .val (.int .i64 x.p),
   .val (.string x.key.s), .val (.int .i64 x.key.n),
   .val (.int .i64 x.val.k), .val (.bool x.val.b), .val (.float .f64 x.val.n), .val (.string x.val.s), .val (.int .i64 x.val.id),
   .val (.int .i64 x.desc.v.k), .val (.bool x.desc.v.b), .val (.float .f64 x.desc.v.n), .val (.string x.desc.v.s), .val (.int .i64 x.desc.v.id),
   .val (.int .i64 x.desc.g.k), .val (.bool x.desc.g.b), .val (.float .f64 x.desc.g.n), .val (.string x.desc.g.s), .val (.int .i64 x.desc.g.id),
   .val (.int .i64 x.desc.t.k), .val (.bool x.desc.t.b), .val (.float .f64 x.desc.t.n), .val (.string x.desc.t.s), .val (.int .i64 x.desc.t.id), .val (.int .i64 x.desc.w), .val (.int .i64 x.desc.e), .val (.int .i64 x.desc.c),
   .xs r, .val (.string x.s), .val (.slice x.nA x.nn x.nc), .val (.bool x.flag)]
noncomputable def bodyOf (fn : Func) : List Code := flat (fn.body.getD .skip)
/-- The row of a step's list. -/
@[instance_reducible] def rowL (A : Option Addr) (n c : Nat) (g : Nat → Int) : XEnv := ⟨fun _ => ⟨A, 1, n, c, fun j => [.val (.int .i64 (g j))]⟩⟩
namespace S
end S
end Go.Proofs.YtlliefodchfpfaaDoor.PDescKinds
end
section
/- slices.IndexFunc over a step's list. -/
set_option linter.unusedSimpArgs false
set_option linter.unusedVariables false
set_option linter.unusedSectionVars false
namespace Go.Proofs.YtlliefodchfpfaaDoor.PDescKinds
open Go.RowKit Go.Ev
set_option maxRecDepth 100000
def fnv (n : Nat) : SV := .val (.func (.func n) #[] #[])
/-- A function with nothing captured. -/
def isFn : SV → Nat → Bool
  | .val (.func (.func f) x y) => fun n => Nat.beq f n && (x.isEmpty && y.isEmpty)
  | _ => fun _ => false
theorem isFn_eq {s : SV} {n : Nat} (h : isFn s n = true) : s = fnv n := by
  unfold isFn at h
  split at h
  · simp only [Bool.and_eq_true] at h
    obtain ⟨h1, h2, h3⟩ := h
    have := Nat.eq_of_beq_eq_true h1
    subst this
    simp only [Array.isEmpty_iff] at h2 h3
    subst h2 h3
    rfl
  · cases h
theorem wr {i n : Nat} (h : i < n) (hn : n ≤ 1024) : IntKind.i64.wrap ((i : Int) + 1) = ((i + 1 : Nat) : Int) := by rw [IntKind.wrap_i64]; omega
end Go.Proofs.YtlliefodchfpfaaDoor.PDescKinds
end
section
/- driver.Sound, cameoref27.Sound: what they answer. -/
set_option linter.unusedSimpArgs false
set_option linter.unusedVariables false
set_option linter.unusedSectionVars false
namespace Go.Proofs.YtlliefodchfpfaaDoor.PDescKinds
open Go.RowKit Go.Ev
set_option maxRecDepth 100000
abbrev AL : Tab := KkL2 ++ HL9 ++ JL7
theorem entsAL : ∀ p ∈ AL, E p := fun p hp => by
  rcases List.mem_append.1 hp with hp | hp
  · rcases List.mem_append.1 hp with hp | hp
    · exact Kkents2 p hp
    · exact Hents9 p hp
  · exact Jents7 p hp
namespace R
end R
end Go.Proofs.YtlliefodchfpfaaDoor.PDescKinds
end
section
/- cameolaw27.DriverSounds answers true. -/
set_option linter.unusedSimpArgs false
set_option linter.unusedVariables false
set_option linter.unusedSectionVars false
namespace Go.Proofs.YtlliefodchfpfaaDoor.PDescKinds
open Go.RowKit Go.Ev
set_option maxRecDepth 100000
theorem cells_ok [XEnv] (x : Stp) (mem : Mem) : ∀ s ∈ x.cells [0], s.ok mem := by
  intro s hs
  unfold Stp.cells at hs
  simp only [List.mem_cons, List.not_mem_nil, or_false] at hs
  rcases hs with h | h | h | h | h | h | h | h | h | h | h | h | h | h | h | h | h | h | h | h | h | h | h | h | h | h | h | h | h | h | h | h | h | h | h | h | h <;> subst h <;> first | exact ok_val _ _ | exact ok_xs
theorem args_ok [XEnv] (x : Stp) (b : Int) (mem : Mem) : ∀ s ∈ [SV.arr (x.cells [0]), .val (.int .i64 b)], s.ok mem := by
  intro s hs
  simp only [List.mem_cons, List.not_mem_nil, or_false] at hs
  rcases hs with rfl | rfl
  · exact ok_arr.2 (cells_ok x mem)
  · exact ok_val _ _
/-! The two are one -/
theorem seek_map {α β : Type} (f : α → β) (p : Nat → Option α) : ∀ (k i : Nat), seek (fun j => (p j).map f) k i = (seek p k i).map f
  | 0, _ => rfl
  | k + 1, i => by
    unfold seek
    cases h : p i with
    | none => exact seek_map f p k (i + 1)
    | some a => rfl
theorem seek_nn (p : Nat → Bool) : ∀ (k i : Nat) (a : Int), seek (fun j => bif p j then none else some (j : Int)) k i = some a → 0 ≤ a
  | 0, _, _, h => by cases h
  | k + 1, i, a, h => by
    unfold seek at h
    cases hp : p i with
    | true => simp only [hp, cond_true] at h; exact seek_nn p k (i + 1) a h
    | false => simp only [hp, cond_false, Option.some.injEq] at h; omega
end Go.Proofs.YtlliefodchfpfaaDoor.PDescKinds
end
section
/- Operations as_ plain data; the table of shapes. -/
set_option linter.unusedSimpArgs false
set_option linter.unusedVariables false
set_option linter.unusedSectionVars false
namespace Go.Proofs.YtlliefodchfpfaaDoor.PDescKinds
open Go.RowKit Go.Ev
set_option maxRecDepth 100000
structure Opr where
  code : Int
  tg : Int
  a : Int
  b : Int
  c : Int
  key : K
  val : V
  desc : D
  flag : Bool
  ctch : Bool
def Opr.list (x : Opr) : List Value :=
  [.int .i64 x.code, .int .i64 x.tg, .int .i64 x.a, .int .i64 x.b, .int .i64 x.c, .string x.key.s, .int .i64 x.key.n,
   .int .i64 x.val.k, .bool x.val.b, .float .f64 x.val.n, .string x.val.s, .int .i64 x.val.id,
   .int .i64 x.desc.v.k, .bool x.desc.v.b, .float .f64 x.desc.v.n, .string x.desc.v.s, .int .i64 x.desc.v.id,
   .int .i64 x.desc.g.k, .bool x.desc.g.b, .float .f64 x.desc.g.n, .string x.desc.g.s, .int .i64 x.desc.g.id,
   .int .i64 x.desc.t.k, .bool x.desc.t.b, .float .f64 x.desc.t.n, .string x.desc.t.s, .int .i64 x.desc.t.id, .int .i64 x.desc.w, .int .i64 x.desc.e, .int .i64 x.desc.c, .bool x.flag, .bool x.ctch]
def Opr.agg (x : Opr) : Value := .agg x.list.toArray
def cutVl : List Value → Option (V × List Value)
  | .int .i64 k :: .bool b :: .float .f64 n :: .string s :: .int .i64 id :: r => some (⟨k, b, n, s, id⟩, r)
  | _ => none
def cut7 : List Value → Option (Int × Int × Int × Int × Int × K × List Value)
  | .int .i64 q1 :: .int .i64 q2 :: .int .i64 q3 :: .int .i64 q4 :: .int .i64 q5 :: .string s :: .int .i64 n :: r => some (q1, q2, q3, q4, q5, ⟨s, n⟩, r)
  | _ => none
def cut5 : List Value → Option (Int × Int × Int × Bool × Bool)
  | [.int .i64 w, .int .i64 e, .int .i64 c, .bool f, .bool g] => some (w, e, c, f, g)
  | _ => none
theorem cutVl_eq {l r : List Value} {v : V} (h : cutVl l = some (v, r)) : l = .int .i64 v.k :: .bool v.b :: .float .f64 v.n :: .string v.s :: .int .i64 v.id :: r := by
  unfold cutVl at h
  split at h
  · cases h; rfl
  · cases h
theorem cut7_eq {l r : List Value} {q1 q2 q3 q4 q5 : Int} {k : K} (h : cut7 l = some (q1, q2, q3, q4, q5, k, r)) : l = .int .i64 q1 :: .int .i64 q2 :: .int .i64 q3 :: .int .i64 q4 :: .int .i64 q5 :: .string k.s :: .int .i64 k.n :: r := by
  unfold cut7 at h
  split at h
  · cases h; rfl
  · cases h
theorem cut5_eq {l : List Value} {w e c : Int} {f g : Bool} (h : cut5 l = some (w, e, c, f, g)) : l = [.int .i64 w, .int .i64 e, .int .i64 c, .bool f, .bool g] := by
  unfold cut5 at h
  split at h
  · cases h; rfl
  · cases h
def getOl (l : List Value) : Option Opr :=
  (cut7 l).bind fun q => (cutVl q.2.2.2.2.2.2).bind fun v => (cutVl v.2).bind fun d1 => (cutVl d1.2).bind fun d2 => (cutVl d2.2).bind fun d3 => (cut5 d3.2).bind fun z =>
    some ⟨q.1, q.2.1, q.2.2.1, q.2.2.2.1, q.2.2.2.2.1, q.2.2.2.2.2.1, v.1, ⟨d1.1, d2.1, d3.1, z.1, z.2.1, z.2.2.1⟩, z.2.2.2.1, z.2.2.2.2⟩
def getO : Value → Option Opr
  | .agg a => getOl a.toList
  | _ => none
theorem getOl_eq {l : List Value} {x : Opr} (h : getOl l = some x) : l = x.list := by
  unfold getOl at h
  obtain ⟨⟨q1, q2, q3, q4, q5, k, r1⟩, e1, h⟩ := Option.bind_eq_some_iff.1 h
  obtain ⟨⟨v, r2⟩, e2, h⟩ := Option.bind_eq_some_iff.1 h
  obtain ⟨⟨d1, r3⟩, e3, h⟩ := Option.bind_eq_some_iff.1 h
  obtain ⟨⟨d2, r4⟩, e4, h⟩ := Option.bind_eq_some_iff.1 h
  obtain ⟨⟨d3, r5⟩, e5, h⟩ := Option.bind_eq_some_iff.1 h
  obtain ⟨⟨z1, z2, z3, z4, z5⟩, e6, h⟩ := Option.bind_eq_some_iff.1 h
  simp only [Option.some.injEq] at h
  subst h
  have f1 := cut7_eq e1
  have f2 := cutVl_eq e2
  have f3 := cutVl_eq e3
  have f4 := cutVl_eq e4
  have f5 := cutVl_eq e5
  have f6 := cut5_eq e6
  clear e1 e2 e3 e4 e5 e6
  simp only at f1 f2 f3 f4 f5 f6
  rw [f1, f2, f3, f4, f5, f6]
  rfl
theorem getO_agg {v : Value} {x : Opr} (h : getO v = some x) : v = x.agg := by
  unfold getO at h
  split at h
  · rename_i a
    unfold Opr.agg
    rw [← getOl_eq h]
  · cases h
def onO (g : Opr → DT Value) : List Value → Option (DT Value)
  | [x] => match getO x with
    | some k => some (g k)
    | none => none
  | _ => none
theorem onO_eq {g : Opr → DT Value} {l : List Value} {t : DT Value} (h : onO g l = some t) : ∃ v, l = [v.agg] ∧ t = g v := by
  unfold onO at h
  split at h
  · split at h
    · rename_i v hv
      simp only [Option.some.injEq] at h
      exact ⟨v, by rw [getO_agg hv], h.symm⟩
    · cases h
  · cases h
namespace S
def sa (c : Int) : Bool := c == 2 || decide (7 ≤ c)
def sb (c : Int) : Bool := c == 11 || (c == 12 || (c == 17 || (c == 20 || (c == 21 || (c == 23 || c == 24)))))
def sc (c : Int) : Bool := c == 20 || c == 24
def sk (c : Int) : Bool := decide (10 ≤ c) && decide (c ≤ 15)
def shape (c : Int) : Value := .agg #[.bool (sa c), .bool (sb c), .bool (sc c), .bool (sk c)]
def noShape : Value := .agg #[.bool false, .bool false, .bool false, .bool false]
end S
namespace T
def shapes (c : Int) : DT Value := .node (decide (c < 1)) (.leaf (.tuple #[S.noShape, .bool false])) (.node (decide (c > 24)) (.leaf (.tuple #[S.noShape, .bool false])) (.leaf (.tuple #[S.shape c, .bool true])))
end T
theorem sh_out (c : Int) : evK Tryd.prog ext (tab []) 80 35 (seqL ((bodyOf Tryd.f61).take 4)) (⟨argS [.val (.int .i64 c)], fun _ => none, 0⟩) (grab Tryd.prog Tryd.f61 [] [] 0) =
    bif decide (c < 1) then some (.ret (.val (.tuple #[S.noShape, .bool false]))) else bif decide (c > 24) then some (.ret (.val (.tuple #[S.noShape, .bool false]))) else some (.cut .normal ⟨[], []⟩) := by kernel_rfl
theorem sh_in (c : Int) (h1 : 1 ≤ c) (h2 : c ≤ 24) : evFn Tryd.prog ext (tab []) 80 61 [.int .i64 c] = some (.tuple #[S.shape c, .bool true]) := by
  obtain rfl | rfl | rfl | rfl | rfl | rfl | rfl | rfl | rfl | rfl | rfl | rfl | rfl | rfl | rfl | rfl | rfl | rfl | rfl | rfl | rfl | rfl | rfl | rfl : c = 1 ∨ c = 2 ∨ c = 3 ∨ c = 4 ∨ c = 5 ∨ c = 6 ∨ c = 7 ∨ c = 8 ∨ c = 9 ∨ c = 10 ∨ c = 11 ∨ c = 12 ∨ c = 13 ∨ c = 14 ∨ c = 15 ∨ c = 16 ∨ c = 17 ∨ c = 18 ∨ c = 19 ∨ c = 20 ∨ c = 21 ∨ c = 22 ∨ c = 23 ∨ c = 24 := by omega
  all_goals kernel_rfl
theorem ctxN {l : Tab} (hl : ∀ p ∈ l, E p) : Ctx Tryd.prog ext (tab l) Tabs := ⟨mixed, ext_sound, tabs_stable, noX, tab_sound hl⟩
theorem ent_shapes : E (61, onI T.shapes) := fun args t v h hv w hI => by
  obtain ⟨c, rfl, rfl⟩ := onI_eq h
  unfold T.shapes at hv
  rw [DT.val_node, DT.val_node, DT.val_leaf, DT.val_leaf] at hv
  by_cases hc : 1 ≤ c ∧ c ≤ 24
  · rw [decide_eq_false (by omega : ¬c < 1), decide_eq_false (by omega : ¬c > 24)] at hv
    exact evFn_sound mixed ext_sound tabs_stable noX (tab_sound entries_nil) ((sh_in c hc.1 hc.2).trans hv) w hI
  · have hv2 : v = .tuple #[S.noShape, .bool false] := by
      by_cases h1 : c < 1
      · rw [decide_eq_true h1] at hv; exact (Option.some.inj hv).symm
      · rw [decide_eq_false h1, decide_eq_true (by omega : c > 24)] at hv; exact (Option.some.inj hv).symm
    have ev := (sh_out c).trans (show _ = some (Res.ret (.val (.tuple #[S.noShape, .bool false]))) by
      by_cases h1 : c < 1
      · rw [decide_eq_true h1]; rfl
      · rw [decide_eq_false h1, decide_eq_true (by omega : c > 24)]; rfl)
    subst hv2
    have run : Runs Tryd.prog Tabs 35 Tryd.f61 (.val (.tuple #[S.noShape, .bool false])) [] (bodyOf Tryd.f61) (⟨argS [.val (.int .i64 c)], fun _ => none, 0⟩) := by
      rw [show bodyOf Tryd.f61 = (bodyOf Tryd.f61).take 4 ++ (bodyOf Tryd.f61).drop 4 by rw [List.take_append_drop]]
      exact Runs.app (Runs.ret (ctxN entries_nil) ev)
    refine Calls.mono (Runs.calls (args := [.val (.int .i64 c)]) (body := Tryd.f61.body.getD .skip) Tryd.func61 (by kernel_rfl) (by kernel_rfl) (fun x hx => by
      obtain rfl := List.mem_singleton.1 hx
      exact ok_val _ _) run w hI (fun _ => 0)) fun e w' ⟨⟨m, he⟩, hb⟩ => ⟨?_, hb⟩
    rw [he, den_val]
namespace S
def reg16 (n : Int) : Bool := decide (n ≥ 0) && decide (n < 16)
/-- call.sound -/
def opOk (x : Opr) : Bool :=
  (!(decide (x.code < 1)) && (!(decide (x.code > 24)) && (reg16 x.tg && ((!(sa x.code) || reg16 x.a) && ((!(sb x.code) || reg16 x.b) && ((!(sc x.code) || reg16 x.c) && (!(sk x.code) || keyOk x.key))))))) &&
  (bif x.code == 1 then good x.val else bif x.code == 4 then decide (x.a ≥ 0) else bif x.code == 9 then decide (x.b ≥ 0) else bif x.code == 12 then check x.desc && (!x.flag || !isA x.desc) else true)
end S
namespace R
/-- cameoref07.sound -/
def opOk (x : Opr) : Bool :=
  bif (decide (x.code ≥ 10) && decide (x.code ≤ 15)) && !S.keyOk x.key then false else bif !S.reg16 x.tg then false
  else bif x.code == 1 then good x.val
  else bif x.code == 3 || (x.code == 5 || x.code == 6) then true
  else bif x.code == 4 then decide (x.a ≥ 0)
  else bif x.code == 9 then S.reg16 x.a && decide (x.b ≥ 0)
  else bif x.code == 2 || (x.code == 7 || (x.code == 8 || (x.code == 10 || (x.code == 13 || (x.code == 14 || (x.code == 15 || (x.code == 16 || (x.code == 18 || (x.code == 19 || x.code == 22))))))))) then S.reg16 x.a
  else bif x.code == 11 || (x.code == 17 || (x.code == 21 || x.code == 23)) then S.reg16 x.a && S.reg16 x.b
  else bif x.code == 12 then S.reg16 x.a && (S.reg16 x.b && (check x.desc && !(x.flag && (S.there x.desc.g || S.there x.desc.t))))
  else bif x.code == 20 || x.code == 24 then S.reg16 x.a && (S.reg16 x.b && S.reg16 x.c)
  else false
end R
namespace T
def opOk (x : Opr) : DT Value := B (S.opOk x)
def ropOk (x : Opr) : DT Value := B (R.opOk x)
end T
abbrev AO : Tab := (61, onI T.shapes) :: AL
theorem entsAO : ∀ p ∈ AO, E p := entries_cons ent_shapes entsAL
end Go.Proofs.YtlliefodchfpfaaDoor.PDescKinds
end
section
/- Contracts by evaluation: what each function of a list answers. Written by a program of this session. -/
namespace Go.Proofs.YtlliefodchfpfaaDoor.PDescKinds
open Go.RowKit Go.Ev
set_option linter.unusedSimpArgs false
set_option linter.unusedVariables false
set_option maxRecDepth 100000
abbrev A1L0 : Tab := AO
theorem A1ents0 : ∀ p ∈ A1L0, E p := entsAO
set_option maxHeartbeats 4000000 in
theorem ev_opOk (x : Opr) : evFn Tryd.prog ext (tab A1L0) 80 44 [x.agg] = (T.opOk x).val :=
  Eq.trans (b := 
    (bif decide (x.code < 1) then some (Value.bool false) else 
     (bif decide (x.code > 24) then some (Value.bool false) else 
      (bif decide (x.tg ≥ 0) then 
       (bif !decide (x.tg < 16) then some (Value.bool false) else 
        (bif S.sa x.code then 
         (bif decide (x.a ≥ 0) then 
          (bif !decide (x.a < 16) then some (Value.bool false) else 
           (bif S.sb x.code then 
            (bif decide (x.b ≥ 0) then 
             (bif !decide (x.b < 16) then some (Value.bool false) else 
              (bif S.sc x.code then 
               (bif decide (x.c ≥ 0) then 
                (bif !decide (x.c < 16) then some (Value.bool false) else 
                 (bif S.sk x.code then 
                  (bif S.keyOk (K.mk x.key.s x.key.n) then 
                   (bif x.code == 1 then 
                    (bif S.good x.val then some (Value.bool (0 == 0)) else some (Value.bool (5 == 0))) else 
                    (bif x.code == 4 then some (Value.bool (decide (x.a ≥ 0))) else 
                     (bif x.code == 9 then some (Value.bool (decide (x.b ≥ 0))) else 
                      (bif x.code == 12 then 
                       (bif S.check x.desc then 
                        (bif !x.flag then some (Value.bool true) else some (Value.bool !S.isA x.desc)) else some (Value.bool false)) else some (Value.bool true))))) else some (Value.bool false)) else 
                  (bif x.code == 1 then 
                   (bif S.good x.val then some (Value.bool (0 == 0)) else some (Value.bool (5 == 0))) else 
                   (bif x.code == 4 then some (Value.bool (decide (x.a ≥ 0))) else 
                    (bif x.code == 9 then some (Value.bool (decide (x.b ≥ 0))) else 
                     (bif x.code == 12 then 
                      (bif S.check x.desc then 
                       (bif !x.flag then some (Value.bool true) else some (Value.bool !S.isA x.desc)) else some (Value.bool false)) else some (Value.bool true))))))) else some (Value.bool false)) else 
               (bif S.sk x.code then 
                (bif S.keyOk (K.mk x.key.s x.key.n) then 
                 (bif x.code == 1 then 
                  (bif S.good x.val then some (Value.bool (0 == 0)) else some (Value.bool (5 == 0))) else 
                  (bif x.code == 4 then some (Value.bool (decide (x.a ≥ 0))) else 
                   (bif x.code == 9 then some (Value.bool (decide (x.b ≥ 0))) else 
                    (bif x.code == 12 then 
                     (bif S.check x.desc then 
                      (bif !x.flag then some (Value.bool true) else some (Value.bool !S.isA x.desc)) else some (Value.bool false)) else some (Value.bool true))))) else some (Value.bool false)) else 
                (bif x.code == 1 then 
                 (bif S.good x.val then some (Value.bool (0 == 0)) else some (Value.bool (5 == 0))) else 
                 (bif x.code == 4 then some (Value.bool (decide (x.a ≥ 0))) else 
                  (bif x.code == 9 then some (Value.bool (decide (x.b ≥ 0))) else 
                   (bif x.code == 12 then 
                    (bif S.check x.desc then 
                     (bif !x.flag then some (Value.bool true) else some (Value.bool !S.isA x.desc)) else some (Value.bool false)) else some (Value.bool true)))))))) else some (Value.bool false)) else 
            (bif S.sc x.code then 
             (bif decide (x.c ≥ 0) then 
              (bif !decide (x.c < 16) then some (Value.bool false) else 
               (bif S.sk x.code then 
                (bif S.keyOk (K.mk x.key.s x.key.n) then 
                 (bif x.code == 1 then 
                  (bif S.good x.val then some (Value.bool (0 == 0)) else some (Value.bool (5 == 0))) else 
                  (bif x.code == 4 then some (Value.bool (decide (x.a ≥ 0))) else 
                   (bif x.code == 9 then some (Value.bool (decide (x.b ≥ 0))) else 
                    (bif x.code == 12 then 
                     (bif S.check x.desc then 
                      (bif !x.flag then some (Value.bool true) else some (Value.bool !S.isA x.desc)) else some (Value.bool false)) else some (Value.bool true))))) else some (Value.bool false)) else 
                (bif x.code == 1 then 
                 (bif S.good x.val then some (Value.bool (0 == 0)) else some (Value.bool (5 == 0))) else 
                 (bif x.code == 4 then some (Value.bool (decide (x.a ≥ 0))) else 
                  (bif x.code == 9 then some (Value.bool (decide (x.b ≥ 0))) else 
                   (bif x.code == 12 then 
                    (bif S.check x.desc then 
                     (bif !x.flag then some (Value.bool true) else some (Value.bool !S.isA x.desc)) else some (Value.bool false)) else some (Value.bool true))))))) else some (Value.bool false)) else 
             (bif S.sk x.code then 
              (bif S.keyOk (K.mk x.key.s x.key.n) then 
               (bif x.code == 1 then 
                (bif S.good x.val then some (Value.bool (0 == 0)) else some (Value.bool (5 == 0))) else 
                (bif x.code == 4 then some (Value.bool (decide (x.a ≥ 0))) else 
                 (bif x.code == 9 then some (Value.bool (decide (x.b ≥ 0))) else 
                  (bif x.code == 12 then 
                   (bif S.check x.desc then 
                    (bif !x.flag then some (Value.bool true) else some (Value.bool !S.isA x.desc)) else some (Value.bool false)) else some (Value.bool true))))) else some (Value.bool false)) else 
              (bif x.code == 1 then 
               (bif S.good x.val then some (Value.bool (0 == 0)) else some (Value.bool (5 == 0))) else 
               (bif x.code == 4 then some (Value.bool (decide (x.a ≥ 0))) else 
                (bif x.code == 9 then some (Value.bool (decide (x.b ≥ 0))) else 
                 (bif x.code == 12 then 
                  (bif S.check x.desc then 
                   (bif !x.flag then some (Value.bool true) else some (Value.bool !S.isA x.desc)) else some (Value.bool false)) else some (Value.bool true))))))))) else some (Value.bool false)) else 
         (bif S.sb x.code then 
          (bif decide (x.b ≥ 0) then 
           (bif !decide (x.b < 16) then some (Value.bool false) else 
            (bif S.sc x.code then 
             (bif decide (x.c ≥ 0) then 
              (bif !decide (x.c < 16) then some (Value.bool false) else 
               (bif S.sk x.code then 
                (bif S.keyOk (K.mk x.key.s x.key.n) then 
                 (bif x.code == 1 then 
                  (bif S.good x.val then some (Value.bool (0 == 0)) else some (Value.bool (5 == 0))) else 
                  (bif x.code == 4 then some (Value.bool (decide (x.a ≥ 0))) else 
                   (bif x.code == 9 then some (Value.bool (decide (x.b ≥ 0))) else 
                    (bif x.code == 12 then 
                     (bif S.check x.desc then 
                      (bif !x.flag then some (Value.bool true) else some (Value.bool !S.isA x.desc)) else some (Value.bool false)) else some (Value.bool true))))) else some (Value.bool false)) else 
                (bif x.code == 1 then 
                 (bif S.good x.val then some (Value.bool (0 == 0)) else some (Value.bool (5 == 0))) else 
                 (bif x.code == 4 then some (Value.bool (decide (x.a ≥ 0))) else 
                  (bif x.code == 9 then some (Value.bool (decide (x.b ≥ 0))) else 
                   (bif x.code == 12 then 
                    (bif S.check x.desc then 
                     (bif !x.flag then some (Value.bool true) else some (Value.bool !S.isA x.desc)) else some (Value.bool false)) else some (Value.bool true))))))) else some (Value.bool false)) else 
             (bif S.sk x.code then 
              (bif S.keyOk (K.mk x.key.s x.key.n) then 
               (bif x.code == 1 then 
                (bif S.good x.val then some (Value.bool (0 == 0)) else some (Value.bool (5 == 0))) else 
                (bif x.code == 4 then some (Value.bool (decide (x.a ≥ 0))) else 
                 (bif x.code == 9 then some (Value.bool (decide (x.b ≥ 0))) else 
                  (bif x.code == 12 then 
                   (bif S.check x.desc then 
                    (bif !x.flag then some (Value.bool true) else some (Value.bool !S.isA x.desc)) else some (Value.bool false)) else some (Value.bool true))))) else some (Value.bool false)) else 
              (bif x.code == 1 then 
               (bif S.good x.val then some (Value.bool (0 == 0)) else some (Value.bool (5 == 0))) else 
               (bif x.code == 4 then some (Value.bool (decide (x.a ≥ 0))) else 
                (bif x.code == 9 then some (Value.bool (decide (x.b ≥ 0))) else 
                 (bif x.code == 12 then 
                  (bif S.check x.desc then 
                   (bif !x.flag then some (Value.bool true) else some (Value.bool !S.isA x.desc)) else some (Value.bool false)) else some (Value.bool true)))))))) else some (Value.bool false)) else 
          (bif S.sc x.code then 
           (bif decide (x.c ≥ 0) then 
            (bif !decide (x.c < 16) then some (Value.bool false) else 
             (bif S.sk x.code then 
              (bif S.keyOk (K.mk x.key.s x.key.n) then 
               (bif x.code == 1 then 
                (bif S.good x.val then some (Value.bool (0 == 0)) else some (Value.bool (5 == 0))) else 
                (bif x.code == 4 then some (Value.bool (decide (x.a ≥ 0))) else 
                 (bif x.code == 9 then some (Value.bool (decide (x.b ≥ 0))) else 
                  (bif x.code == 12 then 
                   (bif S.check x.desc then 
                    (bif !x.flag then some (Value.bool true) else some (Value.bool !S.isA x.desc)) else some (Value.bool false)) else some (Value.bool true))))) else some (Value.bool false)) else 
              (bif x.code == 1 then 
               (bif S.good x.val then some (Value.bool (0 == 0)) else some (Value.bool (5 == 0))) else 
               (bif x.code == 4 then some (Value.bool (decide (x.a ≥ 0))) else 
                (bif x.code == 9 then some (Value.bool (decide (x.b ≥ 0))) else 
                 (bif x.code == 12 then 
                  (bif S.check x.desc then 
                   (bif !x.flag then some (Value.bool true) else some (Value.bool !S.isA x.desc)) else some (Value.bool false)) else some (Value.bool true))))))) else some (Value.bool false)) else 
           (bif S.sk x.code then 
            (bif S.keyOk (K.mk x.key.s x.key.n) then 
             (bif x.code == 1 then 
              (bif S.good x.val then some (Value.bool (0 == 0)) else some (Value.bool (5 == 0))) else 
              (bif x.code == 4 then some (Value.bool (decide (x.a ≥ 0))) else 
               (bif x.code == 9 then some (Value.bool (decide (x.b ≥ 0))) else 
                (bif x.code == 12 then 
                 (bif S.check x.desc then 
                  (bif !x.flag then some (Value.bool true) else some (Value.bool !S.isA x.desc)) else some (Value.bool false)) else some (Value.bool true))))) else some (Value.bool false)) else 
            (bif x.code == 1 then 
             (bif S.good x.val then some (Value.bool (0 == 0)) else some (Value.bool (5 == 0))) else 
             (bif x.code == 4 then some (Value.bool (decide (x.a ≥ 0))) else 
              (bif x.code == 9 then some (Value.bool (decide (x.b ≥ 0))) else 
               (bif x.code == 12 then 
                (bif S.check x.desc then 
                 (bif !x.flag then some (Value.bool true) else some (Value.bool !S.isA x.desc)) else some (Value.bool false)) else some (Value.bool true)))))))))) else some (Value.bool false))))) (by kernel_rfl) (by
    simp only [T.opOk, T.B, DT.val_node, DT.val_leaf, DT.bind, DT.val_bad]
    repeat' (first | (with_reducible refine bif_neq (fun h => ?_) (fun h => ?_)) | (with_reducible refine bif_and (fun h => ?_) (fun h => ?_)) | (with_reducible refine bif_eq (fun h => ?_) (fun h => ?_)))
    all_goals first | (simp only [*, S.opOk, S.reg16, cond_true, cond_false, Bool.and_true, Bool.true_and, Bool.and_false, Bool.false_and, Bool.or_true, Bool.true_or, Bool.or_false, Bool.false_or, Bool.not_true, Bool.not_false, beq_self_eq_true, bne_self_eq_false, Bool.not_not]; done) | rfl | (simp_all [S.opOk, S.reg16]; done) | grind [S.opOk, S.reg16])
theorem ent_opOk : E (44, onO T.opOk) := byEv A1ents0 80 fun args t h => by
  obtain ⟨x, rfl, rfl⟩ := onO_eq h
  exact ev_opOk x
abbrev A1L1 : Tab := (44, onO T.opOk) :: A1L0
theorem A1ents1 : ∀ p ∈ A1L1, E p := entries_cons ent_opOk A1ents0
set_option maxHeartbeats 4000000 in
theorem ev_ropOk (x : Opr) : evFn Tryd.prog ext (tab A1L1) 80 45 [x.agg] = (T.ropOk x).val :=
  Eq.trans (b := 
    (bif decide (x.code ≥ 10) then 
     (bif decide (x.code ≤ 15) then 
      (bif !S.keyOk (K.mk x.key.s x.key.n) then some (Value.bool false) else 
       (bif decide (x.tg ≥ 0) then 
        (bif !decide (x.tg < 16) then some (Value.bool false) else 
         (bif x.code == 1 then some (Value.bool (R.good x.val)) else 
          (bif x.code == 3 then some (Value.bool true) else 
           (bif x.code == 5 then some (Value.bool true) else 
            (bif x.code == 6 then some (Value.bool true) else 
             (bif x.code == 4 then some (Value.bool (decide (x.a ≥ 0))) else 
              (bif x.code == 9 then 
               (bif decide (x.a ≥ 0) then 
                (bif decide (x.a < 16) then some (Value.bool (decide (x.b ≥ 0))) else some (Value.bool false)) else some (Value.bool false)) else 
               (bif x.code == 2 then 
                (bif decide (x.a ≥ 0) then some (Value.bool (decide (x.a < 16))) else some (Value.bool false)) else 
                (bif x.code == 7 then 
                 (bif decide (x.a ≥ 0) then some (Value.bool (decide (x.a < 16))) else some (Value.bool false)) else 
                 (bif x.code == 8 then 
                  (bif decide (x.a ≥ 0) then some (Value.bool (decide (x.a < 16))) else some (Value.bool false)) else 
                  (bif x.code == 10 then 
                   (bif decide (x.a ≥ 0) then some (Value.bool (decide (x.a < 16))) else some (Value.bool false)) else 
                   (bif x.code == 13 then 
                    (bif decide (x.a ≥ 0) then some (Value.bool (decide (x.a < 16))) else some (Value.bool false)) else 
                    (bif x.code == 14 then 
                     (bif decide (x.a ≥ 0) then some (Value.bool (decide (x.a < 16))) else some (Value.bool false)) else 
                     (bif x.code == 15 then 
                      (bif decide (x.a ≥ 0) then some (Value.bool (decide (x.a < 16))) else some (Value.bool false)) else 
                      (bif x.code == 16 then 
                       (bif decide (x.a ≥ 0) then some (Value.bool (decide (x.a < 16))) else some (Value.bool false)) else 
                       (bif x.code == 18 then 
                        (bif decide (x.a ≥ 0) then some (Value.bool (decide (x.a < 16))) else some (Value.bool false)) else 
                        (bif x.code == 19 then 
                         (bif decide (x.a ≥ 0) then some (Value.bool (decide (x.a < 16))) else some (Value.bool false)) else 
                         (bif x.code == 22 then 
                          (bif decide (x.a ≥ 0) then some (Value.bool (decide (x.a < 16))) else some (Value.bool false)) else 
                          (bif x.code == 11 then 
                           (bif decide (x.a ≥ 0) then 
                            (bif decide (x.a < 16) then 
                             (bif decide (x.b ≥ 0) then some (Value.bool (decide (x.b < 16))) else some (Value.bool false)) else some (Value.bool false)) else some (Value.bool false)) else 
                           (bif x.code == 17 then 
                            (bif decide (x.a ≥ 0) then 
                             (bif decide (x.a < 16) then 
                              (bif decide (x.b ≥ 0) then some (Value.bool (decide (x.b < 16))) else some (Value.bool false)) else some (Value.bool false)) else some (Value.bool false)) else 
                            (bif x.code == 21 then 
                             (bif decide (x.a ≥ 0) then 
                              (bif decide (x.a < 16) then 
                               (bif decide (x.b ≥ 0) then some (Value.bool (decide (x.b < 16))) else some (Value.bool false)) else some (Value.bool false)) else some (Value.bool false)) else 
                             (bif x.code == 23 then 
                              (bif decide (x.a ≥ 0) then 
                               (bif decide (x.a < 16) then 
                                (bif decide (x.b ≥ 0) then some (Value.bool (decide (x.b < 16))) else some (Value.bool false)) else some (Value.bool false)) else some (Value.bool false)) else 
                              (bif x.code == 12 then 
                               (bif decide (x.a ≥ 0) then 
                                (bif decide (x.a < 16) then 
                                 (bif decide (x.b ≥ 0) then 
                                  (bif decide (x.b < 16) then 
                                   (bif R.check x.desc then 
                                    (bif x.flag then 
                                     (bif S.there x.desc.g then some (Value.bool !true) else some (Value.bool !S.there x.desc.t)) else some (Value.bool !false)) else some (Value.bool false)) else some (Value.bool false)) else some (Value.bool false)) else some (Value.bool false)) else some (Value.bool false)) else 
                               (bif x.code == 20 then 
                                (bif decide (x.a ≥ 0) then 
                                 (bif decide (x.a < 16) then 
                                  (bif decide (x.b ≥ 0) then 
                                   (bif decide (x.b < 16) then 
                                    (bif decide (x.c ≥ 0) then some (Value.bool (decide (x.c < 16))) else some (Value.bool false)) else some (Value.bool false)) else some (Value.bool false)) else some (Value.bool false)) else some (Value.bool false)) else 
                                (bif x.code == 24 then 
                                 (bif decide (x.a ≥ 0) then 
                                  (bif decide (x.a < 16) then 
                                   (bif decide (x.b ≥ 0) then 
                                    (bif decide (x.b < 16) then 
                                     (bif decide (x.c ≥ 0) then some (Value.bool (decide (x.c < 16))) else some (Value.bool false)) else some (Value.bool false)) else some (Value.bool false)) else some (Value.bool false)) else some (Value.bool false)) else some (Value.bool false)))))))))))))))))))))))))) else some (Value.bool false))) else 
      (bif decide (x.tg ≥ 0) then 
       (bif !decide (x.tg < 16) then some (Value.bool false) else 
        (bif x.code == 1 then some (Value.bool (R.good x.val)) else 
         (bif x.code == 3 then some (Value.bool true) else 
          (bif x.code == 5 then some (Value.bool true) else 
           (bif x.code == 6 then some (Value.bool true) else 
            (bif x.code == 4 then some (Value.bool (decide (x.a ≥ 0))) else 
             (bif x.code == 9 then 
              (bif decide (x.a ≥ 0) then 
               (bif decide (x.a < 16) then some (Value.bool (decide (x.b ≥ 0))) else some (Value.bool false)) else some (Value.bool false)) else 
              (bif x.code == 2 then 
               (bif decide (x.a ≥ 0) then some (Value.bool (decide (x.a < 16))) else some (Value.bool false)) else 
               (bif x.code == 7 then 
                (bif decide (x.a ≥ 0) then some (Value.bool (decide (x.a < 16))) else some (Value.bool false)) else 
                (bif x.code == 8 then 
                 (bif decide (x.a ≥ 0) then some (Value.bool (decide (x.a < 16))) else some (Value.bool false)) else 
                 (bif x.code == 10 then 
                  (bif decide (x.a ≥ 0) then some (Value.bool (decide (x.a < 16))) else some (Value.bool false)) else 
                  (bif x.code == 13 then 
                   (bif decide (x.a ≥ 0) then some (Value.bool (decide (x.a < 16))) else some (Value.bool false)) else 
                   (bif x.code == 14 then 
                    (bif decide (x.a ≥ 0) then some (Value.bool (decide (x.a < 16))) else some (Value.bool false)) else 
                    (bif x.code == 15 then 
                     (bif decide (x.a ≥ 0) then some (Value.bool (decide (x.a < 16))) else some (Value.bool false)) else 
                     (bif x.code == 16 then 
                      (bif decide (x.a ≥ 0) then some (Value.bool (decide (x.a < 16))) else some (Value.bool false)) else 
                      (bif x.code == 18 then 
                       (bif decide (x.a ≥ 0) then some (Value.bool (decide (x.a < 16))) else some (Value.bool false)) else 
                       (bif x.code == 19 then 
                        (bif decide (x.a ≥ 0) then some (Value.bool (decide (x.a < 16))) else some (Value.bool false)) else 
                        (bif x.code == 22 then 
                         (bif decide (x.a ≥ 0) then some (Value.bool (decide (x.a < 16))) else some (Value.bool false)) else 
                         (bif x.code == 11 then 
                          (bif decide (x.a ≥ 0) then 
                           (bif decide (x.a < 16) then 
                            (bif decide (x.b ≥ 0) then some (Value.bool (decide (x.b < 16))) else some (Value.bool false)) else some (Value.bool false)) else some (Value.bool false)) else 
                          (bif x.code == 17 then 
                           (bif decide (x.a ≥ 0) then 
                            (bif decide (x.a < 16) then 
                             (bif decide (x.b ≥ 0) then some (Value.bool (decide (x.b < 16))) else some (Value.bool false)) else some (Value.bool false)) else some (Value.bool false)) else 
                           (bif x.code == 21 then 
                            (bif decide (x.a ≥ 0) then 
                             (bif decide (x.a < 16) then 
                              (bif decide (x.b ≥ 0) then some (Value.bool (decide (x.b < 16))) else some (Value.bool false)) else some (Value.bool false)) else some (Value.bool false)) else 
                            (bif x.code == 23 then 
                             (bif decide (x.a ≥ 0) then 
                              (bif decide (x.a < 16) then 
                               (bif decide (x.b ≥ 0) then some (Value.bool (decide (x.b < 16))) else some (Value.bool false)) else some (Value.bool false)) else some (Value.bool false)) else 
                             (bif x.code == 12 then 
                              (bif decide (x.a ≥ 0) then 
                               (bif decide (x.a < 16) then 
                                (bif decide (x.b ≥ 0) then 
                                 (bif decide (x.b < 16) then 
                                  (bif R.check x.desc then 
                                   (bif x.flag then 
                                    (bif S.there x.desc.g then some (Value.bool !true) else some (Value.bool !S.there x.desc.t)) else some (Value.bool !false)) else some (Value.bool false)) else some (Value.bool false)) else some (Value.bool false)) else some (Value.bool false)) else some (Value.bool false)) else 
                              (bif x.code == 20 then 
                               (bif decide (x.a ≥ 0) then 
                                (bif decide (x.a < 16) then 
                                 (bif decide (x.b ≥ 0) then 
                                  (bif decide (x.b < 16) then 
                                   (bif decide (x.c ≥ 0) then some (Value.bool (decide (x.c < 16))) else some (Value.bool false)) else some (Value.bool false)) else some (Value.bool false)) else some (Value.bool false)) else some (Value.bool false)) else 
                               (bif x.code == 24 then 
                                (bif decide (x.a ≥ 0) then 
                                 (bif decide (x.a < 16) then 
                                  (bif decide (x.b ≥ 0) then 
                                   (bif decide (x.b < 16) then 
                                    (bif decide (x.c ≥ 0) then some (Value.bool (decide (x.c < 16))) else some (Value.bool false)) else some (Value.bool false)) else some (Value.bool false)) else some (Value.bool false)) else some (Value.bool false)) else some (Value.bool false)))))))))))))))))))))))))) else some (Value.bool false))) else 
     (bif decide (x.tg ≥ 0) then 
      (bif !decide (x.tg < 16) then some (Value.bool false) else 
       (bif x.code == 1 then some (Value.bool (R.good x.val)) else 
        (bif x.code == 3 then some (Value.bool true) else 
         (bif x.code == 5 then some (Value.bool true) else 
          (bif x.code == 6 then some (Value.bool true) else 
           (bif x.code == 4 then some (Value.bool (decide (x.a ≥ 0))) else 
            (bif x.code == 9 then 
             (bif decide (x.a ≥ 0) then 
              (bif decide (x.a < 16) then some (Value.bool (decide (x.b ≥ 0))) else some (Value.bool false)) else some (Value.bool false)) else 
             (bif x.code == 2 then 
              (bif decide (x.a ≥ 0) then some (Value.bool (decide (x.a < 16))) else some (Value.bool false)) else 
              (bif x.code == 7 then 
               (bif decide (x.a ≥ 0) then some (Value.bool (decide (x.a < 16))) else some (Value.bool false)) else 
               (bif x.code == 8 then 
                (bif decide (x.a ≥ 0) then some (Value.bool (decide (x.a < 16))) else some (Value.bool false)) else 
                (bif x.code == 10 then 
                 (bif decide (x.a ≥ 0) then some (Value.bool (decide (x.a < 16))) else some (Value.bool false)) else 
                 (bif x.code == 13 then 
                  (bif decide (x.a ≥ 0) then some (Value.bool (decide (x.a < 16))) else some (Value.bool false)) else 
                  (bif x.code == 14 then 
                   (bif decide (x.a ≥ 0) then some (Value.bool (decide (x.a < 16))) else some (Value.bool false)) else 
                   (bif x.code == 15 then 
                    (bif decide (x.a ≥ 0) then some (Value.bool (decide (x.a < 16))) else some (Value.bool false)) else 
                    (bif x.code == 16 then 
                     (bif decide (x.a ≥ 0) then some (Value.bool (decide (x.a < 16))) else some (Value.bool false)) else 
                     (bif x.code == 18 then 
                      (bif decide (x.a ≥ 0) then some (Value.bool (decide (x.a < 16))) else some (Value.bool false)) else 
                      (bif x.code == 19 then 
                       (bif decide (x.a ≥ 0) then some (Value.bool (decide (x.a < 16))) else some (Value.bool false)) else 
                       (bif x.code == 22 then 
                        (bif decide (x.a ≥ 0) then some (Value.bool (decide (x.a < 16))) else some (Value.bool false)) else 
                        (bif x.code == 11 then 
                         (bif decide (x.a ≥ 0) then 
                          (bif decide (x.a < 16) then 
                           (bif decide (x.b ≥ 0) then some (Value.bool (decide (x.b < 16))) else some (Value.bool false)) else some (Value.bool false)) else some (Value.bool false)) else 
                         (bif x.code == 17 then 
                          (bif decide (x.a ≥ 0) then 
                           (bif decide (x.a < 16) then 
                            (bif decide (x.b ≥ 0) then some (Value.bool (decide (x.b < 16))) else some (Value.bool false)) else some (Value.bool false)) else some (Value.bool false)) else 
                          (bif x.code == 21 then 
                           (bif decide (x.a ≥ 0) then 
                            (bif decide (x.a < 16) then 
                             (bif decide (x.b ≥ 0) then some (Value.bool (decide (x.b < 16))) else some (Value.bool false)) else some (Value.bool false)) else some (Value.bool false)) else 
                           (bif x.code == 23 then 
                            (bif decide (x.a ≥ 0) then 
                             (bif decide (x.a < 16) then 
                              (bif decide (x.b ≥ 0) then some (Value.bool (decide (x.b < 16))) else some (Value.bool false)) else some (Value.bool false)) else some (Value.bool false)) else 
                            (bif x.code == 12 then 
                             (bif decide (x.a ≥ 0) then 
                              (bif decide (x.a < 16) then 
                               (bif decide (x.b ≥ 0) then 
                                (bif decide (x.b < 16) then 
                                 (bif R.check x.desc then 
                                  (bif x.flag then 
                                   (bif S.there x.desc.g then some (Value.bool !true) else some (Value.bool !S.there x.desc.t)) else some (Value.bool !false)) else some (Value.bool false)) else some (Value.bool false)) else some (Value.bool false)) else some (Value.bool false)) else some (Value.bool false)) else 
                             (bif x.code == 20 then 
                              (bif decide (x.a ≥ 0) then 
                               (bif decide (x.a < 16) then 
                                (bif decide (x.b ≥ 0) then 
                                 (bif decide (x.b < 16) then 
                                  (bif decide (x.c ≥ 0) then some (Value.bool (decide (x.c < 16))) else some (Value.bool false)) else some (Value.bool false)) else some (Value.bool false)) else some (Value.bool false)) else some (Value.bool false)) else 
                              (bif x.code == 24 then 
                               (bif decide (x.a ≥ 0) then 
                                (bif decide (x.a < 16) then 
                                 (bif decide (x.b ≥ 0) then 
                                  (bif decide (x.b < 16) then 
                                   (bif decide (x.c ≥ 0) then some (Value.bool (decide (x.c < 16))) else some (Value.bool false)) else some (Value.bool false)) else some (Value.bool false)) else some (Value.bool false)) else some (Value.bool false)) else some (Value.bool false)))))))))))))))))))))))))) else some (Value.bool false)))) (by kernel_rfl) (by
    simp only [T.ropOk, T.B, DT.val_node, DT.val_leaf, DT.bind, DT.val_bad]
    repeat' (first | (with_reducible refine bif_neq (fun h => ?_) (fun h => ?_)) | (with_reducible refine bif_and (fun h => ?_) (fun h => ?_)) | (with_reducible refine bif_eq (fun h => ?_) (fun h => ?_)))
    all_goals first | (simp only [*, R.opOk, S.reg16, cond_true, cond_false, Bool.and_true, Bool.true_and, Bool.and_false, Bool.false_and, Bool.or_true, Bool.true_or, Bool.or_false, Bool.false_or, Bool.not_true, Bool.not_false, beq_self_eq_true, bne_self_eq_false, Bool.not_not]; done) | rfl | (simp_all [R.opOk, S.reg16]; done) | grind [R.opOk, S.reg16])
theorem ent_ropOk : E (45, onO T.ropOk) := byEv A1ents1 80 fun args t h => by
  obtain ⟨x, rfl, rfl⟩ := onO_eq h
  exact ev_ropOk x
abbrev A1L2 : Tab := (45, onO T.ropOk) :: A1L1
theorem A1ents2 : ∀ p ∈ A1L2, E p := entries_cons ent_ropOk A1ents1
end Go.Proofs.YtlliefodchfpfaaDoor.PDescKinds
end
section
/- A script as_ plain data; its rows; contracts over them. -/
set_option linter.unusedSimpArgs false
set_option linter.unusedVariables false
set_option linter.unusedSectionVars false
namespace Go.Proofs.YtlliefodchfpfaaDoor.PDescKinds
open Go.RowKit Go.Ev
set_option maxRecDepth 100000
structure Sc where
  cap : Int
  fuel : Int
  dep : Int
  bn : Nat
  bl : Nat → Nat
  op : Nat → Nat → Opr
  sn : Nat
  st : Nat → Stp
  ln : Nat → Nat
  lg : Nat → Nat → Int
  mn : Nat → Nat
  mg : Nat → Nat → ByteArray
/-- Where it stands. -/
structure Ad where
  bA : Option Addr
  bc : Nat
  oA : Nat → Option Addr
  oc : Nat → Nat
  sA : Option Addr
  sc : Nat
  lA : Nat → Option Addr
  lc : Nat → Nat
  mA : Nat → Option Addr
  mc : Nat → Nat
  bx : XR := ⟨none, 0, 0, 0, fun _ => []⟩
/-- A step's cells; its lists are rows. -/
def Stp.sv (x : Stp) (r q : List Nat) : List SV :=
  [.val (.int .i64 x.code), .val (.int .i64 x.tg), .val (.int .i64 x.a), .val (.int .i64 x.b), .val (.int .i64 x.c), .val (.int .i64 x.n), .val (.int .i64 x.m), .val (.int .i64 x.p),
   .val (.string x.key.s), .val (.int .i64 x.key.n),
   .val (.int .i64 x.val.k), .val (.bool x.val.b), .val (.float .f64 x.val.n), .val (.string x.val.s), .val (.int .i64 x.val.id),
   .val (.int .i64 x.desc.v.k), .val (.bool x.desc.v.b), .val (.float .f64 x.desc.v.n), .val (.string x.desc.v.s), .val (.int .i64 x.desc.v.id),
   .val (.int .i64 x.desc.g.k), .val (.bool x.desc.g.b), .val (.float .f64 x.desc.g.n), .val (.string x.desc.g.s), .val (.int .i64 x.desc.g.id),
   .val (.int .i64 x.desc.t.k), .val (.bool x.desc.t.b), .val (.float .f64 x.desc.t.n), .val (.string x.desc.t.s), .val (.int .i64 x.desc.t.id), .val (.int .i64 x.desc.w), .val (.int .i64 x.desc.e), .val (.int .i64 x.desc.c),
   .xs r, .val (.string x.s), .xs q, .val (.bool x.flag)]
/-- The rows of a script, wherever it stands. -/
@[instance_reducible] def rowsS (x : Sc) (ad : Nat → Ad) : XEnv := ⟨fun r => match r with
  | [k] => (ad k).bx
  | [k, 0] => ⟨(ad k).bA, 1, x.bn, (ad k).bc, fun i => [.xs [k, 0, i]]⟩
  | [k, 1] => ⟨(ad k).sA, 37, x.sn, (ad k).sc, fun i => (x.st i).sv [k, 1, i, 0] [k, 1, i, 1]⟩
  | [k, 0, i] => ⟨(ad k).oA i, 32, x.bl i, (ad k).oc i, fun j => (x.op i j).list.map SV.val⟩
  | [k, 1, i, 0] => ⟨(ad k).lA i, 1, x.ln i, (ad k).lc i, fun j => [.val (.int .i64 (x.lg i j))]⟩
  | [k, 1, i, 1] => ⟨(ad k).mA i, 1, x.mn i, (ad k).mc i, fun j => [.val (.string (x.mg i j))]⟩
  | _ => ⟨none, 0, 0, 0, fun _ => []⟩⟩
structure Fits (x : Sc) : Prop where
  b : x.bn ≤ 9223372036854775807
  o : ∀ i, x.bl i ≤ 9223372036854775807
  s : x.sn ≤ 9223372036854775807
  l : ∀ i, x.ln i ≤ 9223372036854775807
  m : ∀ i, x.mn i ≤ 9223372036854775807
theorem wrb {i n : Nat} (h : i < n) (hn : n ≤ 9223372036854775807) : IntKind.i64.wrap ((i : Int) + 1) = ((i + 1 : Nat) : Int) := by rw [IntKind.wrap_i64]; omega
def InvS (x : Sc) (ad : Nat → Ad) (w : World) : Prop := Tabs w ∧ @XOk (rowsS x ad) w
theorem invS_stable (x : Sc) (ad : Nat → Ad) : Stable (InvS x ad) := fun w w' h hb => ⟨tabs_stable _ _ h.1 hb, @XOk.below (rowsS x ad) _ _ h.2 hb⟩
abbrev EntS (x : Sc) (ad : Nat → Ad) (p : Nat × (List SV → Mem → Option (DT SV))) : Prop := @EntryS (rowsS x ad) Tryd.prog (InvS x ad) p
theorem ctxS (x : Sc) (ad : Nat → Ad) {l : Tab} (hl : ∀ p ∈ l, E p) {s : TabS} (hs : ∀ p ∈ s, EntS x ad p) : @Ctx (rowsS x ad) Tryd.prog ext (tab2 l s) (InvS x ad) := by
  letI := rowsS x ad
  exact ⟨mixed, ext_sound, invS_stable x ad, fun w h => h.2, tab2_sound (fun p hp => (fun args t v h1 h2 w hw => hl p hp args t v h1 h2 w hw.1)) hs⟩
end Go.Proofs.YtlliefodchfpfaaDoor.PDescKinds
end
section
/- Contracts over a script's rows: IndexFunc over operations, the reference's Sound, SameOps, sameInts, sameTexts. -/
set_option linter.unusedSimpArgs false
set_option linter.unusedVariables false
set_option linter.unusedSectionVars false
namespace Go.Proofs.YtlliefodchfpfaaDoor.PDescKinds
open Go.RowKit Go.Ev
set_option maxRecDepth 100000
theorem ba_beq (b : ByteArray) : (b == b) = true := by
  obtain ⟨d⟩ := b
  show ByteArray.beq ⟨d⟩ ⟨d⟩ = true
  unfold ByteArray.beq
  simp
theorem seek_none {α : Type} : ∀ k i : Nat, seek (fun _ => (none : Option α)) k i = none
  | 0, _ => rfl
  | k + 1, i => by unfold seek; exact seek_none k (i + 1)
theorem sSil {x : Sc} {ad : Nat → Ad} : ∀ p ∈ ([] : TabS), EntS x ad p := fun p hp => by cases hp
theorem xs_ok [XEnv] {l : List SV} (h : ∀ s ∈ l, ∃ r, s = SV.xs r) (m : Mem) : ∀ s ∈ l, s.ok m := fun s hs => by
  obtain ⟨r, rfl⟩ := h s hs
  exact ok_xs
namespace S
/-- The first operation that is not sound. -/
def badOp (x : Sc) (i : Nat) : Int := (seek (fun j => bif opOk (x.op i j) then none else some (j : Int)) (x.bl i) 0).getD (-1)
end S
namespace R
def soundOps (x : Sc) (i : Nat) : Bool := bif decide ((x.bl i : Int) > 256) then false else (seek (fun j => bif opOk (x.op i j) then none else some false) (x.bl i) 0).getD true
end R
abbrev H60 (x : Sc) (k i j : Nat) : Cut := ⟨[(0, .xs [k, 0, i]), (1, fnv 43), (7, .val (.int .i64 (x.bl i : Int))), (8, .val (.int .i64 (j : Int)))], []⟩
theorem q60_pre (x : Sc) (ad : Nat → Ad) (k i : Nat) : letI := rowsS x ad
    evK Tryd.prog ext (tab2 A1L2 []) 80 19 (seqL (preOf (bodyOf Tryd.f60))) (⟨argS [.xs [k, 0, i], fnv 43], fun _ => none, 0⟩) (grab Tryd.prog Tryd.f60 [0, 1, 7, 8] [] 0) =
    (some (.cut .normal (H60 x k i 0))) := by kernel_rfl
theorem q60_round (x : Sc) (ad : Nat → Ad) (k i j : Nat) : letI := rowsS x ad
    evK Tryd.prog ext (tab2 A1L2 []) 80 19 (seqL (flat (roundOf (bodyOf Tryd.f60)))) ((H60 x k i j).st 0) (grab Tryd.prog Tryd.f60 [0, 1, 7, 8] [] 0) =
    ((bif decide ((↑j : Int) < (x.bl i : Int)) then 
     (bif decide (0 ≤ (↑j : Int)) && decide ((↑j : Int) < (x.bl i : Int)) then 
      (bif !S.opOk (x.op i (↑j : Int).toNat) then some (Res.ret (SV.val (Value.int IntKind.i64 (↑j : Int)))) else some (Res.cut Ex.normal (Cut.mk [(0, SV.xs [k, 0, i]), (1, SV.val (Value.func (Fn.func 43) #[] #[])), (7, SV.val (Value.int IntKind.i64 (x.bl i : Int))), (8, SV.val (Value.int IntKind.i64 (IntKind.i64.wrap ((↑j : Int) + 1))))] []))) else none) else some (Res.cut (Ex.exit 0) (Cut.mk [(0, SV.xs [k, 0, i]), (1, SV.val (Value.func (Fn.func 43) #[] #[])), (7, SV.val (Value.int IntKind.i64 (x.bl i : Int))), (8, SV.val (Value.int IntKind.i64 (↑j : Int)))] [])))) := by kernel_rfl
theorem q60_post (x : Sc) (ad : Nat → Ad) (k i j : Nat) : letI := rowsS x ad
    evK Tryd.prog ext (tab2 A1L2 []) 80 19 (seqL (postOf (bodyOf Tryd.f60))) ((H60 x k i j).st 0) (grab Tryd.prog Tryd.f60 [0, 1, 7, 8] [] 0) =
    (some (.ret (.val (.int .i64 (-1))))) := by kernel_rfl
theorem q60_runs (x : Sc) (ad : Nat → Ad) (k i : Nat) (hx : Fits x) : letI := rowsS x ad
    Runs Tryd.prog (InvS x ad) 19 Tryd.f60 ((fun z : Int => SV.val (.int .i64 z)) (S.badOp x i)) [] (bodyOf Tryd.f60) (⟨argS [.xs [k, 0, i], fnv 43], fun _ => none, 0⟩) := by
  letI := rowsS x ad
  have C := ctxS x ad (l := A1L2) A1ents2 sSil
  refine Runs.seekFn C (n := x.bl i) (p := fun j => bif S.opOk (x.op i j) then none else some (j : Int)) (f := fun z : Int => SV.val (.int .i64 z)) (z := (-1)) (hd := (fun j => H60 x k i j)) (c' := H60 x k i (x.bl i)) (by kernel_rfl) (q60_pre x ad k i) (fun j hj => ?_) ?_ (fun _ => ?_)
  · refine (q60_round x ad k i j).trans ?_
    rw [decide_eq_true (by omega : (j : Int) < (x.bl i : Int)), decide_eq_true (by omega : (0 : Int) ≤ (j : Int)), Int.toNat_natCast, wrb hj (hx.o i)]
    cases h1 : S.opOk (x.op i j) <;> rfl
  · refine (q60_round x ad k i (x.bl i)).trans ?_
    rw [decide_eq_false (by omega : ¬(x.bl i : Int) < (x.bl i : Int))]
    rfl
  · exact Runs.ret C (q60_post x ad k i (x.bl i))
def C60 (x : Sc) : List SV → Option (DT SV)
  | [.xs [_, 0, i], .val v] => bif isFn (.val v) 43 then some (.leaf (.val (.int .i64 (S.badOp x i)))) else none
  | _ => none
theorem e60 (x : Sc) (ad : Nat → Ad) (hx : Fits x) : EntS x ad (60, fun args _ => C60 x args) := by
  letI := rowsS x ad
  refine EntryS.of (fun args t v h1 h2 => ?_) (invS_stable x ad)
  unfold C60 at h1
  split at h1
  · rename_i k i f
    cases hf : isFn (.val f) 43 with
    | false => rw [hf] at h1; cases h1
    | true =>
      rw [hf] at h1
      cases h1
      have hfn : SV.val f = fnv 43 := isFn_eq hf
      cases h2
      have ok : ∀ (m : Mem), ∀ s ∈ [SV.xs [k, 0, i], SV.val f], s.ok m := fun m s hs => by
        simp only [List.mem_cons, List.not_mem_nil, or_false] at hs
        rcases hs with rfl | rfl <;> first | exact ok_val _ _ | exact ok_xs
      refine ⟨ok_val _ _, ok _, fun w m hI => ?_⟩
      rw [hfn] at ok ⊢
      exact Runs.calls (body := Tryd.f60.body.getD .skip) Tryd.func60 (by kernel_rfl) (by kernel_rfl) (ok _) (q60_runs x ad k i hx) w hI m
  · cases h1
abbrev H28 (x : Sc) (k i j : Nat) : Cut := ⟨[(0, .xs [k, 0, i]), (3, .val (.int .i64 (j : Int)))], []⟩
theorem q28_pre (x : Sc) (ad : Nat → Ad) (k i : Nat) : letI := rowsS x ad
    evK Tryd.prog ext (tab2 A1L2 []) 80 19 (seqL (preOf (bodyOf Tryd.f28))) (⟨argS [.xs [k, 0, i]], fun _ => none, 0⟩) (grab Tryd.prog Tryd.f28 [0, 3] [] 0) =
    ((bif decide ((x.bl i : Int) > 256) then some (.ret (.val (.bool false))) else some (.cut .normal (H28 x k i 0)))) := by kernel_rfl
theorem q28_round (x : Sc) (ad : Nat → Ad) (k i j : Nat) : letI := rowsS x ad
    evK Tryd.prog ext (tab2 A1L2 []) 80 19 (seqL (flat (roundOf (bodyOf Tryd.f28)))) ((H28 x k i j).st 0) (grab Tryd.prog Tryd.f28 [0, 3] [] 0) =
    ((bif decide ((↑j : Int) < (x.bl i : Int)) then 
     (bif decide (0 ≤ (↑j : Int)) && decide ((↑j : Int) < (x.bl i : Int)) then 
      (bif !R.opOk (x.op i (↑j : Int).toNat) then some (Res.ret (SV.val (Value.bool false))) else some (Res.cut Ex.normal (Cut.mk [(0, SV.xs [k, 0, i]), (3, SV.val (Value.int IntKind.i64 (IntKind.i64.wrap ((↑j : Int) + 1))))] []))) else none) else some (Res.cut (Ex.exit 0) (Cut.mk [(0, SV.xs [k, 0, i]), (3, SV.val (Value.int IntKind.i64 (↑j : Int)))] [])))) := by kernel_rfl
theorem q28_post (x : Sc) (ad : Nat → Ad) (k i j : Nat) : letI := rowsS x ad
    evK Tryd.prog ext (tab2 A1L2 []) 80 19 (seqL (postOf (bodyOf Tryd.f28))) ((H28 x k i j).st 0) (grab Tryd.prog Tryd.f28 [0, 3] [] 0) =
    (some (.ret (.val (.bool true)))) := by kernel_rfl
theorem q28_runs (x : Sc) (ad : Nat → Ad) (k i : Nat) (hx : Fits x) : letI := rowsS x ad
    Runs Tryd.prog (InvS x ad) 19 Tryd.f28 ((fun z : Bool => SV.val (.bool z)) (R.soundOps x i)) [] (bodyOf Tryd.f28) (⟨argS [.xs [k, 0, i]], fun _ => none, 0⟩) := by
  letI := rowsS x ad
  have C := ctxS x ad (l := A1L2) A1ents2 sSil
  unfold R.soundOps
  cases hp : decide ((x.bl i : Int) > 256) with
  | true =>
    have ev := q28_pre x ad k i
    rw [hp] at ev
    rw [split_loop (bodyOf Tryd.f28) (by kernel_rfl)]
    exact Runs.app (Runs.ret C ev)
  | false =>
  have ev := q28_pre x ad k i
  rw [hp] at ev
  refine Runs.seekFn C (n := x.bl i) (p := fun j => bif R.opOk (x.op i j) then none else some false) (f := fun z : Bool => SV.val (.bool z)) (z := true) (hd := (fun j => H28 x k i j)) (c' := H28 x k i (x.bl i)) (by kernel_rfl) ev (fun j hj => ?_) ?_ (fun _ => ?_)
  · refine (q28_round x ad k i j).trans ?_
    rw [decide_eq_true (by omega : (j : Int) < (x.bl i : Int)), decide_eq_true (by omega : (0 : Int) ≤ (j : Int)), Int.toNat_natCast, wrb hj (hx.o i)]
    cases h1 : R.opOk (x.op i j) <;> rfl
  · refine (q28_round x ad k i (x.bl i)).trans ?_
    rw [decide_eq_false (by omega : ¬(x.bl i : Int) < (x.bl i : Int))]
    rfl
  · exact Runs.ret C (q28_post x ad k i (x.bl i))
def C28 (x : Sc) : List SV → Option (DT SV)
  | [.xs [_, 0, i]] => some (.leaf (.val (.bool (R.soundOps x i))))
  | _ => none
theorem e28 (x : Sc) (ad : Nat → Ad) (hx : Fits x) : EntS x ad (28, fun args _ => C28 x args) := by
  letI := rowsS x ad
  refine EntryS.of (fun args t v h1 h2 => ?_) (invS_stable x ad)
  unfold C28 at h1
  split at h1
  · rename_i k i
    cases h1
    cases h2
    have ok : ∀ (m : Mem), ∀ s ∈ [SV.xs [k, 0, i]], s.ok m := xs_ok (by simp)
    refine ⟨ok_val _ _, ok _, fun w m hI => ?_⟩
    exact Runs.calls (body := Tryd.f28.body.getD .skip) Tryd.func28 (by kernel_rfl) (by kernel_rfl) (ok _) (q28_runs x ad k i hx) w hI m
  · cases h1
abbrev H29 (x : Sc) (k i k' j : Nat) : Cut := ⟨[(0, .xs [k, 0, i]), (1, .xs [k', 0, i]), (5, .val (.int .i64 (j : Int)))], []⟩
theorem q29_pre (x : Sc) (ad : Nat → Ad) (k i k' : Nat) : letI := rowsS x ad
    evK Tryd.prog ext (tab2 A1L2 []) 80 97 (seqL (preOf (bodyOf Tryd.f29))) (⟨argS [.xs [k, 0, i], .xs [k', 0, i]], fun _ => none, 0⟩) (grab Tryd.prog Tryd.f29 [0, 1, 5] [] 0) =
    ((bif (x.bl i : Int) != (x.bl i : Int) then some (.ret (.val (.bool false))) else some (.cut .normal (H29 x k i k' 0)))) := by kernel_rfl
theorem q29_round (x : Sc) (ad : Nat → Ad) (k i k' j : Nat) : letI := rowsS x ad
    evK Tryd.prog ext (tab2 A1L2 []) 80 97 (seqL (flat (roundOf (bodyOf Tryd.f29)))) ((H29 x k i k' j).st 0) (grab Tryd.prog Tryd.f29 [0, 1, 5] [] 0) =
    ((bif decide ((↑j : Int) < (x.bl i : Int)) then 
     (bif decide (0 ≤ (↑j : Int)) && decide ((↑j : Int) < (x.bl i : Int)) then 
      (bif decide (0 ≤ (↑j : Int)) && decide ((↑j : Int) < (x.bl i : Int)) then 
       (bif (x.op i (↑j : Int).toNat).code != (x.op i (↑j : Int).toNat).code then some (Res.ret (SV.val (Value.bool false))) else 
        (bif (x.op i (↑j : Int).toNat).tg != (x.op i (↑j : Int).toNat).tg then some (Res.ret (SV.val (Value.bool false))) else 
         (bif (x.op i (↑j : Int).toNat).a != (x.op i (↑j : Int).toNat).a then some (Res.ret (SV.val (Value.bool false))) else 
          (bif (x.op i (↑j : Int).toNat).b != (x.op i (↑j : Int).toNat).b then some (Res.ret (SV.val (Value.bool false))) else 
           (bif (x.op i (↑j : Int).toNat).c != (x.op i (↑j : Int).toNat).c then some (Res.ret (SV.val (Value.bool false))) else 
            (bif !((x.op i (↑j : Int).toNat).key.s == (x.op i (↑j : Int).toNat).key.s && ((x.op i (↑j : Int).toNat).key.n == (x.op i (↑j : Int).toNat).key.n && true)) then some (Res.ret (SV.val (Value.bool false))) else 
             (bif !S.eqV (x.op i (↑j : Int).toNat).val (x.op i (↑j : Int).toNat).val then some (Res.ret (SV.val (Value.bool false))) else 
              (bif !S.eqD (x.op i (↑j : Int).toNat).desc (x.op i (↑j : Int).toNat).desc then some (Res.ret (SV.val (Value.bool false))) else 
               (bif !(x.op i (↑j : Int).toNat).flag == (x.op i (↑j : Int).toNat).flag then some (Res.ret (SV.val (Value.bool false))) else 
                (bif !(x.op i (↑j : Int).toNat).ctch == (x.op i (↑j : Int).toNat).ctch then some (Res.ret (SV.val (Value.bool false))) else some (Res.cut Ex.normal (Cut.mk [(0, SV.xs [k, 0, i]), (1, SV.xs [k', 0, i]), (5, SV.val (Value.int IntKind.i64 (IntKind.i64.wrap ((↑j : Int) + 1))))] [])))))))))))) else none) else none) else some (Res.cut (Ex.exit 0) (Cut.mk [(0, SV.xs [k, 0, i]), (1, SV.xs [k', 0, i]), (5, SV.val (Value.int IntKind.i64 (↑j : Int)))] [])))) := by kernel_rfl
theorem q29_post (x : Sc) (ad : Nat → Ad) (k i k' j : Nat) : letI := rowsS x ad
    evK Tryd.prog ext (tab2 A1L2 []) 80 97 (seqL (postOf (bodyOf Tryd.f29))) ((H29 x k i k' j).st 0) (grab Tryd.prog Tryd.f29 [0, 1, 5] [] 0) =
    (some (.ret (.val (.bool true)))) := by kernel_rfl
theorem q29_runs (x : Sc) (ad : Nat → Ad) (k i k' : Nat) (hx : Fits x) : letI := rowsS x ad
    Runs Tryd.prog (InvS x ad) 97 Tryd.f29 ((fun z : Bool => SV.val (.bool z)) true) [] (bodyOf Tryd.f29) (⟨argS [.xs [k, 0, i], .xs [k', 0, i]], fun _ => none, 0⟩) := by
  letI := rowsS x ad
  have C := ctxS x ad (l := A1L2) A1ents2 sSil
  have ev := q29_pre x ad k i k'
  rw [bne_self_eq_false] at ev
  rw [show (true : Bool) = (seek (fun _ => (none : Option Bool)) (x.bl i) 0).getD true by rw [seek_none]; rfl]
  refine Runs.seekFn C (n := x.bl i) (p := fun _ => (none : Option Bool)) (f := fun z : Bool => SV.val (.bool z)) (z := true) (hd := (fun j => H29 x k i k' j)) (c' := H29 x k i k' (x.bl i)) (by kernel_rfl) ev (fun j hj => ?_) ?_ (fun _ => ?_)
  · refine (q29_round x ad k i k' j).trans ?_
    rw [decide_eq_true (by omega : (j : Int) < (x.bl i : Int)), decide_eq_true (by omega : (0 : Int) ≤ (j : Int)), Int.toNat_natCast, wrb hj (hx.o i)]
    simp only [bne_self_eq_false, beq_self_eq_true, ba_beq, S.eqV_refl, S.eqD_refl, Bool.and_self, Bool.and_true, Bool.not_true, cond_true, cond_false]
    rfl
  · refine (q29_round x ad k i k' (x.bl i)).trans ?_
    rw [decide_eq_false (by omega : ¬(x.bl i : Int) < (x.bl i : Int))]
    rfl
  · exact Runs.ret C (q29_post x ad k i k' (x.bl i))
def C29 : List SV → Option (DT SV)
  | [.xs [_, 0, i], .xs [_, 0, j]] => some (.node (Nat.beq i j) (.leaf (.val (.bool true))) .bad)
  | _ => none
theorem e29 (x : Sc) (ad : Nat → Ad) (hx : Fits x) : EntS x ad (29, fun args _ => C29 args) := by
  letI := rowsS x ad
  refine EntryS.of (fun args t v h1 h2 => ?_) (invS_stable x ad)
  unfold C29 at h1
  split at h1
  · rename_i k i k' j
    cases h1
    cases hf : Nat.beq i j with
    | false => rw [hf] at h2; cases h2
    | true =>
      rw [hf] at h2
      cases h2
      have := Nat.eq_of_beq_eq_true hf
      subst this
      have ok : ∀ (m : Mem), ∀ s ∈ [SV.xs [k, 0, i], SV.xs [k', 0, i]], s.ok m := xs_ok (by simp)
      refine ⟨ok_val _ _, ok _, fun w m hI => ?_⟩
      exact Runs.calls (body := Tryd.f29.body.getD .skip) Tryd.func29 (by kernel_rfl) (by kernel_rfl) (ok _) (q29_runs x ad k i k' hx) w hI m
  · cases h1
abbrev H48 (x : Sc) (k i k' j : Nat) : Cut := ⟨[(0, .xs [k, 1, i, 0]), (1, .xs [k', 1, i, 0]), (5, .val (.int .i64 (j : Int)))], []⟩
theorem q48_pre (x : Sc) (ad : Nat → Ad) (k i k' : Nat) : letI := rowsS x ad
    evK Tryd.prog ext (tab2 A1L2 []) 80 26 (seqL (preOf (bodyOf Tryd.f48))) (⟨argS [.xs [k, 1, i, 0], .xs [k', 1, i, 0]], fun _ => none, 0⟩) (grab Tryd.prog Tryd.f48 [0, 1, 5] [] 0) =
    ((bif (x.ln i : Int) != (x.ln i : Int) then some (.ret (.val (.bool false))) else some (.cut .normal (H48 x k i k' 0)))) := by kernel_rfl
theorem q48_round (x : Sc) (ad : Nat → Ad) (k i k' j : Nat) : letI := rowsS x ad
    evK Tryd.prog ext (tab2 A1L2 []) 80 26 (seqL (flat (roundOf (bodyOf Tryd.f48)))) ((H48 x k i k' j).st 0) (grab Tryd.prog Tryd.f48 [0, 1, 5] [] 0) =
    ((bif decide ((↑j : Int) < (x.ln i : Int)) then 
     (bif decide (0 ≤ (↑j : Int)) && decide ((↑j : Int) < (x.ln i : Int)) then 
      (bif decide (0 ≤ (↑j : Int)) && decide ((↑j : Int) < (x.ln i : Int)) then 
       (bif x.lg i (↑j : Int).toNat != x.lg i (↑j : Int).toNat then some (Res.ret (SV.val (Value.bool false))) else some (Res.cut Ex.normal (Cut.mk [(0, SV.xs [k, 1, i, 0]), (1, SV.xs [k', 1, i, 0]), (5, SV.val (Value.int IntKind.i64 (IntKind.i64.wrap ((↑j : Int) + 1))))] []))) else none) else none) else some (Res.cut (Ex.exit 0) (Cut.mk [(0, SV.xs [k, 1, i, 0]), (1, SV.xs [k', 1, i, 0]), (5, SV.val (Value.int IntKind.i64 (↑j : Int)))] [])))) := by kernel_rfl
theorem q48_post (x : Sc) (ad : Nat → Ad) (k i k' j : Nat) : letI := rowsS x ad
    evK Tryd.prog ext (tab2 A1L2 []) 80 26 (seqL (postOf (bodyOf Tryd.f48))) ((H48 x k i k' j).st 0) (grab Tryd.prog Tryd.f48 [0, 1, 5] [] 0) =
    (some (.ret (.val (.bool true)))) := by kernel_rfl
theorem q48_runs (x : Sc) (ad : Nat → Ad) (k i k' : Nat) (hx : Fits x) : letI := rowsS x ad
    Runs Tryd.prog (InvS x ad) 26 Tryd.f48 ((fun z : Bool => SV.val (.bool z)) true) [] (bodyOf Tryd.f48) (⟨argS [.xs [k, 1, i, 0], .xs [k', 1, i, 0]], fun _ => none, 0⟩) := by
  letI := rowsS x ad
  have C := ctxS x ad (l := A1L2) A1ents2 sSil
  have ev := q48_pre x ad k i k'
  rw [bne_self_eq_false] at ev
  rw [show (true : Bool) = (seek (fun _ => (none : Option Bool)) (x.ln i) 0).getD true by rw [seek_none]; rfl]
  refine Runs.seekFn C (n := x.ln i) (p := fun _ => (none : Option Bool)) (f := fun z : Bool => SV.val (.bool z)) (z := true) (hd := (fun j => H48 x k i k' j)) (c' := H48 x k i k' (x.ln i)) (by kernel_rfl) ev (fun j hj => ?_) ?_ (fun _ => ?_)
  · refine (q48_round x ad k i k' j).trans ?_
    rw [decide_eq_true (by omega : (j : Int) < (x.ln i : Int)), decide_eq_true (by omega : (0 : Int) ≤ (j : Int)), Int.toNat_natCast, wrb hj (hx.l i)]
    simp only [bne_self_eq_false, beq_self_eq_true, Bool.and_self, Bool.and_true, Bool.not_true, cond_true, cond_false]
    rfl
  · refine (q48_round x ad k i k' (x.ln i)).trans ?_
    rw [decide_eq_false (by omega : ¬(x.ln i : Int) < (x.ln i : Int))]
    rfl
  · exact Runs.ret C (q48_post x ad k i k' (x.ln i))
def C48 : List SV → Option (DT SV)
  | [.xs [_, 1, i, 0], .xs [_, 1, j, 0]] => some (.node (Nat.beq i j) (.leaf (.val (.bool true))) .bad)
  | _ => none
theorem e48 (x : Sc) (ad : Nat → Ad) (hx : Fits x) : EntS x ad (48, fun args _ => C48 args) := by
  letI := rowsS x ad
  refine EntryS.of (fun args t v h1 h2 => ?_) (invS_stable x ad)
  unfold C48 at h1
  split at h1
  · rename_i k i k' j
    cases h1
    cases hf : Nat.beq i j with
    | false => rw [hf] at h2; cases h2
    | true =>
      rw [hf] at h2
      cases h2
      have := Nat.eq_of_beq_eq_true hf
      subst this
      have ok : ∀ (m : Mem), ∀ s ∈ [SV.xs [k, 1, i, 0], SV.xs [k', 1, i, 0]], s.ok m := xs_ok (by simp)
      refine ⟨ok_val _ _, ok _, fun w m hI => ?_⟩
      exact Runs.calls (body := Tryd.f48.body.getD .skip) Tryd.func48 (by kernel_rfl) (by kernel_rfl) (ok _) (q48_runs x ad k i k' hx) w hI m
  · cases h1
abbrev H49 (x : Sc) (k i k' j : Nat) : Cut := ⟨[(0, .xs [k, 1, i, 1]), (1, .xs [k', 1, i, 1]), (5, .val (.int .i64 (j : Int)))], []⟩
theorem q49_pre (x : Sc) (ad : Nat → Ad) (k i k' : Nat) : letI := rowsS x ad
    evK Tryd.prog ext (tab2 A1L2 []) 80 26 (seqL (preOf (bodyOf Tryd.f49))) (⟨argS [.xs [k, 1, i, 1], .xs [k', 1, i, 1]], fun _ => none, 0⟩) (grab Tryd.prog Tryd.f49 [0, 1, 5] [] 0) =
    ((bif (x.mn i : Int) != (x.mn i : Int) then some (.ret (.val (.bool false))) else some (.cut .normal (H49 x k i k' 0)))) := by kernel_rfl
theorem q49_round (x : Sc) (ad : Nat → Ad) (k i k' j : Nat) : letI := rowsS x ad
    evK Tryd.prog ext (tab2 A1L2 []) 80 26 (seqL (flat (roundOf (bodyOf Tryd.f49)))) ((H49 x k i k' j).st 0) (grab Tryd.prog Tryd.f49 [0, 1, 5] [] 0) =
    ((bif decide ((↑j : Int) < (x.mn i : Int)) then 
     (bif decide (0 ≤ (↑j : Int)) && decide ((↑j : Int) < (x.mn i : Int)) then 
      (bif decide (0 ≤ (↑j : Int)) && decide ((↑j : Int) < (x.mn i : Int)) then 
       (bif !(x.mg i (↑j : Int).toNat).toList == (x.mg i (↑j : Int).toNat).toList then some (Res.ret (SV.val (Value.bool false))) else some (Res.cut Ex.normal (Cut.mk [(0, SV.xs [k, 1, i, 1]), (1, SV.xs [k', 1, i, 1]), (5, SV.val (Value.int IntKind.i64 (IntKind.i64.wrap ((↑j : Int) + 1))))] []))) else none) else none) else some (Res.cut (Ex.exit 0) (Cut.mk [(0, SV.xs [k, 1, i, 1]), (1, SV.xs [k', 1, i, 1]), (5, SV.val (Value.int IntKind.i64 (↑j : Int)))] [])))) := by kernel_rfl
theorem q49_post (x : Sc) (ad : Nat → Ad) (k i k' j : Nat) : letI := rowsS x ad
    evK Tryd.prog ext (tab2 A1L2 []) 80 26 (seqL (postOf (bodyOf Tryd.f49))) ((H49 x k i k' j).st 0) (grab Tryd.prog Tryd.f49 [0, 1, 5] [] 0) =
    (some (.ret (.val (.bool true)))) := by kernel_rfl
theorem q49_runs (x : Sc) (ad : Nat → Ad) (k i k' : Nat) (hx : Fits x) : letI := rowsS x ad
    Runs Tryd.prog (InvS x ad) 26 Tryd.f49 ((fun z : Bool => SV.val (.bool z)) true) [] (bodyOf Tryd.f49) (⟨argS [.xs [k, 1, i, 1], .xs [k', 1, i, 1]], fun _ => none, 0⟩) := by
  letI := rowsS x ad
  have C := ctxS x ad (l := A1L2) A1ents2 sSil
  have ev := q49_pre x ad k i k'
  rw [bne_self_eq_false] at ev
  rw [show (true : Bool) = (seek (fun _ => (none : Option Bool)) (x.mn i) 0).getD true by rw [seek_none]; rfl]
  refine Runs.seekFn C (n := x.mn i) (p := fun _ => (none : Option Bool)) (f := fun z : Bool => SV.val (.bool z)) (z := true) (hd := (fun j => H49 x k i k' j)) (c' := H49 x k i k' (x.mn i)) (by kernel_rfl) ev (fun j hj => ?_) ?_ (fun _ => ?_)
  · refine (q49_round x ad k i k' j).trans ?_
    rw [decide_eq_true (by omega : (j : Int) < (x.mn i : Int)), decide_eq_true (by omega : (0 : Int) ≤ (j : Int)), Int.toNat_natCast, wrb hj (hx.m i)]
    simp only [bne_self_eq_false, beq_self_eq_true, Bool.and_self, Bool.and_true, Bool.not_true, cond_true, cond_false]
    rfl
  · refine (q49_round x ad k i k' (x.mn i)).trans ?_
    rw [decide_eq_false (by omega : ¬(x.mn i : Int) < (x.mn i : Int))]
    rfl
  · exact Runs.ret C (q49_post x ad k i k' (x.mn i))
def C49 : List SV → Option (DT SV)
  | [.xs [_, 1, i, 1], .xs [_, 1, j, 1]] => some (.node (Nat.beq i j) (.leaf (.val (.bool true))) .bad)
  | _ => none
theorem e49 (x : Sc) (ad : Nat → Ad) (hx : Fits x) : EntS x ad (49, fun args _ => C49 args) := by
  letI := rowsS x ad
  refine EntryS.of (fun args t v h1 h2 => ?_) (invS_stable x ad)
  unfold C49 at h1
  split at h1
  · rename_i k i k' j
    cases h1
    cases hf : Nat.beq i j with
    | false => rw [hf] at h2; cases h2
    | true =>
      rw [hf] at h2
      cases h2
      have := Nat.eq_of_beq_eq_true hf
      subst this
      have ok : ∀ (m : Mem), ∀ s ∈ [SV.xs [k, 1, i, 1], SV.xs [k', 1, i, 1]], s.ok m := xs_ok (by simp)
      refine ⟨ok_val _ _, ok _, fun w m hI => ?_⟩
      exact Runs.calls (body := Tryd.f49.body.getD .skip) Tryd.func49 (by kernel_rfl) (by kernel_rfl) (ok _) (q49_runs x ad k i k' hx) w hI m
  · cases h1
abbrev SLs (x : Sc) : TabS := [(60, fun args _ => C60 x args), (28, fun args _ => C28 x args), (29, fun args _ => C29 args), (48, fun args _ => C48 args), (49, fun args _ => C49 args)]
theorem sSLs (x : Sc) (ad : Nat → Ad) (hx : Fits x) : ∀ p ∈ SLs x, EntS x ad p := fun p hp => by
  simp only [List.mem_cons, List.not_mem_nil, or_false] at hp
  rcases hp with rfl | rfl | rfl | rfl | rfl
  · exact e60 x ad hx
  · exact e28 x ad hx
  · exact e29 x ad hx
  · exact e48 x ad hx
  · exact e49 x ad hx
end Go.Proofs.YtlliefodchfpfaaDoor.PDescKinds
end
section
/- Tools, as_ they were made for HeapGrows. -/
section
/- cameoref10.Copy: shapes in memory of their own. -/
set_option linter.unusedSimpArgs false
set_option linter.unusedVariables false
set_option linter.unusedSectionVars false
namespace Go.Ev
open Go.RowKit
section
variable [XEnv]
variable {P : Program} {X : ExtFn} {call : CallFn} {I : World → Prop} {N : Nat} {ops : Array Oper} {w0 : World} {Q : Exit → Act → World → Prop}
theorem pickT_mem (t : Nat) : ∀ ts : List (Nat × SV), pickT ts t = SV.unk ∨ (t, pickT ts t) ∈ ts
  | [] => .inl rfl
  | p :: r => by
    simp only [pickT]
    cases h : Nat.beq t p.1 with
    | true =>
      have := Nat.eq_of_beq_eq_true h
      subst this
      exact .inr List.mem_cons_self
    | false =>
      rcases pickT_mem t r with h | h
      · exact .inl h
      · exact .inr (List.mem_cons_of_mem _ h)
/-- All that is, is as_ if it had come in. -/
theorem epoch {a : Act} {w : World} (hs : a.tmps.size = N) (hd : a.defers = []) (ts : List (Nat × SV)) (m : Nat → Nat) (h : ∀ p ∈ ts, a.tmps.getD p.1 undef = p.2.den m) (hok : ∀ p ∈ ts, p.2.ok fun _ => none) :
    SR w N m ((Cut.mk ts []).st 0) a w := by
  refine ⟨MR.start w m, ⟨hs, hd, fun t ht => ?_, fun t => ?_⟩, fun _ _ => rfl⟩
  · have ht : (pickT ts t).known = true := ht
    show a.tmps.getD t undef = (pickT ts t).den m
    rcases pickT_mem t ts with h1 | h1
    · rw [h1] at ht; cases ht
    · exact h _ h1
  · show (pickT ts t).ok _
    rcases pickT_mem t ts with h1 | h1
    · rw [h1]; exact ok_unk
    · exact hok _ h1
/-- The same, with own blocks. -/
theorem epochB {a : Act} {w w' : World} {next : Nat} (hb : Below w.heap.size w w') (hs : a.tmps.size = N) (hd : a.defers = []) (ts : List (Nat × SV)) (bs : List (Nat × Blk)) (m : Nat → Nat) (h : ∀ p ∈ ts, a.tmps.getD p.1 undef = p.2.den m)
    (hok : ∀ p ∈ ts, p.2.ok (pickM bs)) (hblk : ∀ b k, pickM bs b = some k → w.heap.size ≤ m b ∧ w'.heap[m b]? = some (.cells (k.cells.map (SV.den m)).toArray k.ty (0, 0)) ∧ ∀ c ∈ k.cells, c.ok (pickM bs))
    (hinj : ∀ b b' k k', pickM bs b = some k → pickM bs b' = some k' → m b = m b' → b = b') (hfr : ∀ b, next ≤ b → pickM bs b = none) :
    SR w N m ((Cut.mk ts bs).st next) a w' := by
  refine ⟨⟨hb, hblk, hinj⟩, ⟨hs, hd, fun t ht => ?_, fun t => ?_⟩, hfr⟩
  · have ht : (pickT ts t).known = true := ht
    show a.tmps.getD t undef = (pickT ts t).den m
    rcases pickT_mem t ts with h1 | h1
    · rw [h1] at ht; cases ht
    · exact h _ h1
  · show (pickT ts t).ok _
    rcases pickT_mem t ts with h1 | h1
    · rw [h1]; exact ok_unk
    · exact hok _ h1
end
end Go.Ev
namespace Go.Proofs.YtlliefodchfpfaaDoor.PDescKinds
open Go.RowKit Go.Ev
/-! ### Moments as_ the world has them -/
def inB : Code → Code
  | .block _ c => c
  | c => c
def opsOf : Code → Array Oper
  | .region _ ops _ => ops
  | _ => #[]
namespace Copy
end Copy
namespace Copy
end Copy
end Go.Proofs.YtlliefodchfpfaaDoor.PDescKinds
end
section
/- cameoref10.Copy: a round; the whole. -/
set_option linter.unusedSimpArgs false
set_option linter.unusedVariables false
set_option linter.unusedSectionVars false
namespace Go.Proofs.YtlliefodchfpfaaDoor.PDescKinds
open Go.RowKit Go.Ev
/-! Rows laid one behind the other -/
theorem flat_len {f : Nat → List Value} {z : Nat} (hz : ∀ t, (f t).length = z) (n : Nat) : ((List.range n).flatMap f).length = n * z := by
  induction n with
  | zero => simp
  | succ n ih => rw [List.range_succ, List.flatMap_append, List.length_append, ih, Nat.succ_mul]; simp [hz]
theorem flat_in {f : Nat → List Value} {z : Nat} (hz : ∀ t, (f t).length = z) : ∀ (n t k : Nat) (u : Value), t < n → (f t)[k]? = some u → ((List.range n).flatMap f)[t * z + k]? = some u
  | 0, t, k, u, h, _ => absurd h (Nat.not_lt_zero _)
  | n + 1, t, k, u, h, hk => by
    have hkz : k < z := by rw [← hz t]; exact (List.getElem?_eq_some_iff.1 hk).1
    rw [List.range_succ, List.flatMap_append]
    by_cases e : t = n
    · subst e
      rw [List.getElem?_append_right (by rw [flat_len hz]; omega), flat_len hz]
      simpa using hk
    · have hlt : t < n := by omega
      have h1 : t * z + k < n * z := by
        have : (t + 1) * z ≤ n * z := Nat.mul_le_mul_right z hlt
        rw [Nat.add_mul] at this
        omega
      rw [List.getElem?_append_left (by rw [flat_len hz]; exact h1)]
      exact flat_in hz n t k u hlt hk
theorem flat_out {f : Nat → List Value} {z : Nat} (hz : ∀ t, (f t).length = z) : ∀ (n j : Nat) (u : Value), ((List.range n).flatMap f)[j]? = some u → ∃ t k, t < n ∧ j = t * z + k ∧ (f t)[k]? = some u
  | 0, j, u, h => by simp at h
  | n + 1, j, u, h => by
    rw [List.range_succ, List.flatMap_append] at h
    by_cases hj : j < n * z
    · rw [List.getElem?_append_left (by rw [flat_len hz]; exact hj)] at h
      obtain ⟨t, k, h1, h2, h3⟩ := flat_out hz n j u h
      exact ⟨t, k, by omega, h2, h3⟩
    · rw [List.getElem?_append_right (by rw [flat_len hz]; omega), flat_len hz] at h
      refine ⟨n, j - n * z, by omega, by omega, by simpa using h⟩
theorem flat_congr {f g : Nat → List Value} (n : Nat) (h : ∀ j, j < n → f j = g j) : (List.range n).flatMap f = (List.range n).flatMap g := by
  induction n with
  | zero => rfl
  | succ n ih => rw [List.range_succ, List.flatMap_append, List.flatMap_append, ih fun j hj => h j (by omega)]; simp [h n (by omega)]
namespace Copy
theorem put_self (a : Act) (d : Nat) (v : Value) (h : d < a.tmps.size) : (a.put (some d) v).tmps.getD d undef = v := by
  show (a.tmps.setIfInBounds d v).getD d undef = v
  simp [h]
theorem put_ne (a : Act) (d t : Nat) (v : Value) (h : d ≠ t) : (a.put (some d) v).tmps.getD t undef = a.tmps.getD t undef := by
  show (a.tmps.setIfInBounds d v).getD t undef = _
  simp [Array.getElem?_setIfInBounds_ne h]
section
end
end Copy
end Go.Proofs.YtlliefodchfpfaaDoor.PDescKinds
end
section
/- InvariantBroken: the law runs; what is left is plain. -/
set_option linter.unusedSimpArgs false
set_option linter.unusedVariables false
set_option linter.unusedSectionVars false
namespace Go.Proofs.YtlliefodchfpfaaDoor.PDescKinds
open Go.RowKit Go.Ev
def slA : Value → Option Addr
  | .slice A _ _ => A
  | _ => none
def slC : Value → Nat
  | .slice _ _ c => c
  | _ => 0
theorem own_slice {w : World} {b e z n : Nat} {v : Value} {xs : List Value} (h : w.ownsRow b e z v n xs) : v = .slice (slA v) n (slC v) ∧ (slA v = none → n = 0 ∧ slC v = 0) := by
  rcases h.2 with ⟨rfl, rfl⟩ | ⟨g, cap, cur, rfl, _⟩
  · exact ⟨rfl, fun _ => ⟨rfl, rfl⟩⟩
  · exact ⟨rfl, fun h => by cases h⟩
/-! A call of one argument, and its answer in a variable -/
/-! The law -/
namespace Brk
end Brk
end Go.Proofs.YtlliefodchfpfaaDoor.PDescKinds
end
section
/- Own rows that grow beside what is computed: lists of deltas. -/
set_option linter.unusedSimpArgs false
set_option linter.unusedVariables false
set_option linter.unusedSectionVars false
namespace Go.Ev
section
variable [XEnv]
variable {P : Program} {X : ExtFn} {G : GFn} {I : World → Prop} {N : Nat} {fn : Func} {fs : List Fr} {l : List Code} {k : Nat} {ts bs : List Nat} {next : Nat}
end
end Go.Ev
namespace Go.Proofs.YtlliefodchfpfaaDoor.PDescKinds
open Go.RowKit Go.Ev
section
end
end Go.Proofs.YtlliefodchfpfaaDoor.PDescKinds
end
section
/- invariant.between, from its beginning to its end. -/
set_option linter.unusedSimpArgs false
set_option linter.unusedVariables false
set_option linter.unusedSectionVars false
namespace Go.Proofs.YtlliefodchfpfaaDoor.PDescKinds
open Go.RowKit Go.Ev
theorem own_base {w : World} {b b' e z n : Nat} {v : Value} {xs : List Value} (h : w.ownsRow b e z v n xs) (hb : b' ≤ b) : w.ownsRow b' e z v n xs := by
  refine ⟨h.1, ?_⟩
  rcases h.2 with h | ⟨g, cap, cur, h1, h2, h3⟩
  · exact .inl h
  · exact .inr ⟨g, cap, cur, h1, Nat.le_trans hb h2, h3⟩
namespace Btw
end Btw
end Go.Proofs.YtlliefodchfpfaaDoor.PDescKinds
end
section
/- invariant.Diff runs, of two moments of one length. -/
set_option linter.unusedSimpArgs false
set_option linter.unusedVariables false
set_option linter.unusedSectionVars false
namespace Go.Proofs.YtlliefodchfpfaaDoor.PDescKinds
open Go.RowKit Go.Ev
theorem put_all (a : Act) (N d : Nat) (v : Value) (hs : a.tmps.size = N) (hd : d < N) : (a.put (some d) v).tmps.size = N ∧ (a.put (some d) v).defers = a.defers ∧ (a.put (some d) v).tmps.getD d undef = v ∧ ∀ t, d ≠ t → (a.put (some d) v).tmps.getD t undef = a.tmps.getD t undef :=
  ⟨by simp [Act.put, hs], rfl, Copy.put_self a d v (by omega), fun t h => Copy.put_ne a d t v h⟩
theorem wpOp_of {P : Program} {ops : Array Oper} {Q : Exit → Act → World → Prop} {i : Nat} {o : Oper} {K : Act → World → Prop} {a : Act} {w : World} (hi : ops[i]? = some o) (hg : o.guard = none) (h : o.wp P a w K Q) : wpOp P ops Q i K a w := by
  unfold Go.wpOp
  simp only [hi, Region.wanted, hg, if_true]
  exact .inl h
namespace Df
end Df
end Go.Proofs.YtlliefodchfpfaaDoor.PDescKinds
end
section
/- Operations that only read, taken first where a region draws its order. -/
set_option linter.unusedSimpArgs false
set_option linter.unusedVariables false
set_option linter.unusedSectionVars false
namespace Go.Ev
open Go.RowKit Go.Proofs.YtlliefodchfpfaaDoor.PDescKinds
variable [XEnv]
/-- The length of a slice that is a plain value. -/
def lenV (P : Program) (b : Builtin) (ts : Array TypeId) (args : List SV) : Option SV :=
  match b with
  | .len => match args with
    | [.val (.slice _ n _)] => match ts[0]? with
      | some t => match pureRun P (underlying t) with
        | some (.slice _) => some (.val (.int .i64 n))
        | _ => none
      | none => none
    | _ => none
  | _ => none
/-- What an operation that only reads yields. -/
def evP (P : Program) (ρ : Operand → SV) (o : Oper) : Option SV :=
  match o.op with
  | .move x => bif (ρ x).known then some (ρ x) else none
  | .assign x => bif (ρ x).known then some (ρ x) else none
  | .load t x => match ρ x with
    | .xp r i off => evLoad P t ⟨t, (XEnv.env r).g i⟩ off
    | _ => none
  | .fieldAddr s x i => match ρ x with
    | .xp r j off => match fieldOff P s i with
      | some d => some (.xp r j (off + d))
      | none => none
    | .val (.pointer (some A)) => match fieldOff P s i with
      | some d => some (.val (.pointer (some (A.add d))))
      | none => none
    | _ => none
  | .nilCheck x => match ρ x with
    | .xp r j off => some (.xp r j off)
    | .val (.pointer (some A)) => some (.val (.pointer (some A)))
    | _ => none
  | .call c => match c.callee with
    | .builtin b => match lenV P b c.argTypes (c.args.toList.map ρ) with
      | some v => some v
      | none => lenOf P b c.argTypes (c.args.toList.map ρ)
    | _ => none
  | .binOp op t x y _ => match ρ x with
    | .val a => match ρ y with
      | .val b => match binV P op t x y a b with
        | some v => some (.val v)
        | none => none
      | _ => none
    | _ => none
  | .indexAddr t x i => match ρ x with
    | .val (.slice (some A) n _) => match ρ i with
      | .val (.int _ j) => match pureRun P (underlying t) with
        | some (.slice elem) => match pureRun P (sizeOf elem) with
          | some size => bif decide (0 ≤ j) && decide (j < n) then some (.val (.pointer (some (A.add (j.toNat * size))))) else none
          | none => none
        | _ => none
      | _ => none
    | _ => idxAddr P t (ρ x) (ρ i)
  | .build _ _ => bif o.op.operands.toList.all (fun x => (ρ x).isVal) && noSelect o.op then
      match pureRun P (execOp (fun x => (ρ x).un) o) with
      | some (.value v) => some (.val v)
      | _ => none
    else none
  | .extract _ _ => bif o.op.operands.toList.all (fun x => (ρ x).isVal) && noSelect o.op then
      match pureRun P (execOp (fun x => (ρ x).un) o) with
      | some (.value v) => some (.val v)
      | _ => none
    else none
  | .unOp _ _ _ => bif o.op.operands.toList.all (fun x => (ρ x).isVal) && noSelect o.op then
      match pureRun P (execOp (fun x => (ρ x).un) o) with
      | some (.value v) => some (.val v)
      | _ => none
    else none
  | _ => none
section
variable {P : Program} {ρ : Operand → SV} {o : Oper} {m : Nat → Nat} {a : Act} {w : World} {v : SV}
theorem evP_run (hX0 : XOk w) (hok : ∀ x, (ρ x).ok fun _ => none) (he : ∀ x, (ρ x).known = true → a.eval x = (ρ x).den m) (h : evP P ρ o = some v) :
    (execOp a.eval o).run P w = .ok (.value (v.den m)) w ∧ v.ok fun _ => none := by
  unfold evP at h
  split at h
  · rename_i x ho
    cases hkn : (ρ x).known with
    | false => rw [hkn] at h; cases h
    | true =>
      rw [hkn] at h
      simp only [cond_true, Option.some.injEq] at h
      subst h
      exact ⟨by unfold execOp; simp only [ho, he x hkn, Sem.run_pure], hok x⟩
  · rename_i x ho
    cases hkn : (ρ x).known with
    | false => rw [hkn] at h; cases h
    | true =>
      rw [hkn] at h
      simp only [cond_true, Option.some.injEq] at h
      subst h
      exact ⟨by unfold execOp; simp only [ho, he x hkn, Sem.run_pure], hok x⟩
  · rename_i t x ho
    split at h
    · rename_i r i off hx
      have hxo : (SV.xp r i off).ok fun _ => none := hx ▸ hok x
      obtain ⟨hl, huok⟩ := xload_sound (P := P) (m := m) (mem := fun _ => none) hX0 (ok_xp.1 hxo) h
      exact ⟨by unfold execOp; simp only [ho, he x (known_of hx rfl), hx, Sem.run_bind, hl, Result.andThen_ok, Sem.run_pure], huok⟩
    · cases h
  · rename_i s x i ho
    split at h
    · rename_i r j off hx
      split at h
      · rename_i d hd
        simp only [Option.some.injEq] at h
        subst h
        have hb : (SV.xp r j off).ok fun _ => none := hx ▸ hok x
        obtain ⟨_, _, ad, hA, _, _⟩ := hX0 r j (ok_xp.1 hb)
        exact ⟨by
          unfold execOp
          simp only [ho, he x (known_of hx rfl), hx, den_xp, hA, Option.map_some, Sem.run_bind, xfield_sound hd, Result.andThen_ok, Sem.run_pure]
          rw [add_add, Nat.add_assoc], ok_xp.2 (ok_xp.1 hb)⟩
      · cases h
    · rename_i A hx
      split at h
      · rename_i d hd
        simp only [Option.some.injEq] at h
        subst h
        exact ⟨by
          unfold execOp
          simp only [ho, he x (known_of hx rfl), hx, den_val, Sem.run_bind, xfield_sound hd, Result.andThen_ok, Sem.run_pure], ok_val _ _⟩
      · cases h
    · cases h
  · rename_i x ho
    split at h
    · rename_i r j off hx
      simp only [Option.some.injEq] at h
      subst h
      have hb : (SV.xp r j off).ok fun _ => none := hx ▸ hok x
      obtain ⟨_, _, ad, hA, _, _⟩ := hX0 r j (ok_xp.1 hb)
      exact ⟨by unfold execOp; simp only [ho, he x (known_of hx rfl), hx, den_xp, hA, Option.map_some, Sem.run_pure], hb⟩
    · rename_i A hx
      simp only [Option.some.injEq] at h
      subst h
      exact ⟨by unfold execOp; simp only [ho, he x (known_of hx rfl), hx, den_val, Sem.run_pure], ok_val _ _⟩
    · cases h
  · rename_i c ho
    split at h
    · rename_i bi hbi
      obtain ⟨cal, ags, ts⟩ := c
      simp only at hbi h
      subst hbi
      split at h
      · rename_i v' hlv
        simp only [Option.some.injEq] at h
        subst h
        unfold lenV at hlv
        split at hlv
        · split at hlv
          · rename_i A n cap hargs
            split at hlv
            case h_2 => cases hlv
            rename_i ty hty
            split at hlv
            case h_2 => cases hlv
            rename_i elem hel
            simp only [Option.some.injEq] at hlv
            subst hlv
            have hmap : ags.map a.eval = #[.slice A n cap] := by
              rw [map_eval (m := m) he (by rw [hargs]; intro x hx; rcases List.mem_singleton.1 hx with rfl; rfl), hargs]
              simp [den_val]
            have : (execOp a.eval o).run P w = .ok (.value (.int .i64 n)) w := by
              unfold execOp
              have h0 : (#[Value.slice A n cap] : Array Value)[0]? = some (.slice A n cap) := rfl
              simp only [ho, resolve, hmap, Sem.run_bind, Sem.run_pure, Result.andThen_ok, invoke, builtin, Builtin.len_, hty, h0, pureRun_run _ hel w]
              rfl
            exact ⟨by rw [den_val]; exact this, ok_val _ _⟩
          · cases hlv
        · cases hlv
      unfold lenOf at h
      split at h
      · split at h
        · rename_i b off n cap hargs
          split at h
          case h_2 => cases h
          split at h
          case h_2 => cases h
          have := args_ok hok (.slc b off n cap) (show SV.slc b off n cap ∈ ags.toList.map ρ by rw [hargs]; simp)
          exact absurd (ok_slc.1 this) (by simp)
        · rename_i r hargs
          split at h
          case h_2 => cases h
          rename_i ty hty
          split at h
          case h_2 => cases h
          rename_i elem hel
          simp only [Option.some.injEq] at h
          subst h
          have hmap : ags.map a.eval = #[.slice (XEnv.env r).A (XEnv.env r).n (XEnv.env r).c] := by
            rw [map_eval (m := m) he (by rw [hargs]; intro x hx; rcases List.mem_singleton.1 hx with rfl; rfl), hargs]
            simp [den_xs]
          have : (execOp a.eval o).run P w = .ok (.value (.int .i64 (XEnv.env r).n)) w := by
            unfold execOp
            have h0 : (#[Value.slice (XEnv.env r).A (XEnv.env r).n (XEnv.env r).c] : Array Value)[0]? = some (.slice (XEnv.env r).A (XEnv.env r).n (XEnv.env r).c) := rfl
            simp only [ho, resolve, hmap, Sem.run_bind, Sem.run_pure, Result.andThen_ok, invoke, builtin, Builtin.len_, hty, h0, pureRun_run _ hel w]
            rfl
          exact ⟨by rw [den_val]; exact this, ok_val _ _⟩
        · cases h
      · cases h
    · cases h
  · rename_i op t x y yt ho
    split at h
    · rename_i p hx
      split at h
      · rename_i q hy
        split at h
        · rename_i u hu
          simp only [Option.some.injEq] at h
          subst h
          have h1 : a.eval x = p := by rw [he x (known_of hx rfl), hx]; exact den_val _ _
          have h2 : a.eval y = q := by rw [he y (known_of hy rfl), hy]; exact den_val _ _
          exact ⟨by unfold execOp; simp only [ho, h1, h2]; rw [Sem.run_bind, binV_run hu w, den_val]; rfl, ok_val _ _⟩
        · cases h
      · cases h
    · cases h
  · rename_i t x i ho
    split at h
    · rename_i A n c hx
      split at h
      · rename_i kk q hi
        split at h
        · rename_i elem hu
          split at h
          · rename_i size hsz
            cases hb : (decide (0 ≤ q) && decide (q < (n : Int))) with
            | false => rw [hb] at h; cases h
            | true =>
              rw [hb] at h
              simp only [cond_true, Option.some.injEq] at h
              subst h
              rw [Bool.and_eq_true, decide_eq_true_eq, decide_eq_true_eq] at hb
              have h1 : a.eval x = .slice (some A) n c := by rw [he x (known_of hx rfl), hx, den_val]
              have h2 : a.eval i = .int kk q := by rw [he i (known_of hi rfl), hi, den_val]
              exact ⟨by
                unfold execOp
                simp only [ho, h1, h2, Instr.indexAt, asIntOf, Sem.run_bind, Sem.run_pure, Result.andThen_ok, pureRun_run _ hu w, if_pos hb, pureRun_run _ hsz w, den_val], ok_val _ _⟩
          · cases h
        · cases h
      · cases h
    · obtain ⟨k1, k2⟩ := idx_known h
      obtain ⟨hl, huok⟩ := idx_sound (P := P) (w := w) (m := m) hX0 h (hok x)
      exact ⟨by unfold execOp; simp only [ho, he x k1, he i k2, Sem.run_bind, hl, Result.andThen_ok, Sem.run_pure], huok⟩
  · rename_i t ps ho
    cases hc : (o.op.operands.toList.all (fun x => (ρ x).isVal) && noSelect o.op) with
    | false => rw [hc] at h; cases h
    | true =>
      rw [hc] at h
      simp only [cond_true] at h
      rw [Bool.and_eq_true] at hc
      have hns : ∀ cs b, o.op ≠ .select cs b := fun cs b hh => by rw [hh] at hc; cases hc.2
      have hev : ∀ x ∈ o.op.operands, a.eval x = (ρ x).un := fun x hx => by
        have := List.all_eq_true.1 hc.1 x (by simpa using hx)
        cases hq : ρ x with
        | val u => rw [he x (known_of hq rfl), hq, den_val]; rfl
        | _ => rw [hq] at this; cases this
      have h2 : execOp (fun x => (ρ x).un) o = execOp a.eval o := execOp_congr o hns fun x hx => (hev x hx).symm
      split at h
      · rename_i u hu
        simp only [Option.some.injEq] at h
        subst h
        rw [h2] at hu
        exact ⟨by rw [den_val]; exact pureRun_run _ hu w, ok_val _ _⟩
      · cases h
  · rename_i _ _ ho
    cases hc : (o.op.operands.toList.all (fun x => (ρ x).isVal) && noSelect o.op) with
    | false => rw [hc] at h; cases h
    | true =>
      rw [hc] at h
      simp only [cond_true] at h
      rw [Bool.and_eq_true] at hc
      have hns : ∀ cs b, o.op ≠ .select cs b := fun cs b hh => by rw [hh] at hc; cases hc.2
      have hev : ∀ x ∈ o.op.operands, a.eval x = (ρ x).un := fun x hx => by
        have := List.all_eq_true.1 hc.1 x (by simpa using hx)
        cases hq : ρ x with
        | val u => rw [he x (known_of hq rfl), hq, den_val]; rfl
        | _ => rw [hq] at this; cases this
      have h2 : execOp (fun x => (ρ x).un) o = execOp a.eval o := execOp_congr o hns fun x hx => (hev x hx).symm
      split at h
      · rename_i u hu
        simp only [Option.some.injEq] at h
        subst h
        rw [h2] at hu
        exact ⟨by rw [den_val]; exact pureRun_run _ hu w, ok_val _ _⟩
      · cases h
  · rename_i _ _ _ ho
    cases hc : (o.op.operands.toList.all (fun x => (ρ x).isVal) && noSelect o.op) with
    | false => rw [hc] at h; cases h
    | true =>
      rw [hc] at h
      simp only [cond_true] at h
      rw [Bool.and_eq_true] at hc
      have hns : ∀ cs b, o.op ≠ .select cs b := fun cs b hh => by rw [hh] at hc; cases hc.2
      have hev : ∀ x ∈ o.op.operands, a.eval x = (ρ x).un := fun x hx => by
        have := List.all_eq_true.1 hc.1 x (by simpa using hx)
        cases hq : ρ x with
        | val u => rw [he x (known_of hq rfl), hq, den_val]; rfl
        | _ => rw [hq] at this; cases this
      have h2 : execOp (fun x => (ρ x).un) o = execOp a.eval o := execOp_congr o hns fun x hx => (hev x hx).symm
      split at h
      · rename_i u hu
        simp only [Option.some.injEq] at h
        subst h
        rw [h2] at hu
        exact ⟨by rw [den_val]; exact pureRun_run _ hu w, ok_val _ _⟩
      · cases h
  · cases h
end
/-- Operations taken first, one behind the other. -/
def takes (P : Program) (ops : Array Oper) (N : Nat) : List Nat → (Nat → SV) → Array Bool → Option ((Nat → SV) × Array Bool)
  | [], t, l => some (t, l)
  | i :: r, t, l => match ops[i]? with
    | some o => bif o.guard.isNone && (Region.free .any ops l i && ((Region.ready .any ops l).contains i && dstOk N o.dst)) then
        match evP P (look t) o with
        | some v => takes P ops N r (putS t o.dst v) (l.setIfInBounds i true)
        | none => none
      else none
    | none => none
section
variable {P : Program} {ops : Array Oper} {N : Nat} {m : Nat → Nat} {S : World → Prop} {Q : Act → World → Prop}
/-- What must come behind a region, with nothing said of how it might die. -/
abbrev onlyN (Q : Act → World → Prop) : Exit → Act → World → Prop := fun e a w => match e with | .normal => Q a w | _ => False
end
/-- Operations that only read, one behind the other. -/
def reads (P : Program) (N : Nat) : List Oper → (Nat → SV) → Option (Nat → SV)
  | [], t => some t
  | o :: r, t => if o.guard.isNone && dstOk N o.dst then
      match evP P (look t) o with
      | some v => reads P N r (putS t o.dst v)
      | none => none
    else none
section
variable {P : Program} {N : Nat} {m : Nat → Nat} {Q : Exit → Act → World → Prop}
end
end Go.Ev
end
section
/- Own rows: a store into a member; own moments. -/
set_option linter.unusedSimpArgs false
set_option linter.unusedVariables false
set_option linter.unusedSectionVars false
namespace Go.Proofs.YtlliefodchfpfaaDoor.PDescKinds
open Go.RowKit Go.Ev
/-- A list with some members of it put anew. -/
def splice {α : Type} (l : List α) (o : Nat) (cs : List α) : List α := l.take o ++ cs ++ l.drop (o + cs.length)
theorem splice_len {α : Type} (l : List α) (o : Nat) (cs : List α) (h : o + cs.length ≤ l.length) : (splice l o cs).length = l.length := by
  simp [splice]
  omega
theorem splice_at {α : Type} (l : List α) (o : Nat) (cs : List α) (h : o + cs.length ≤ l.length) (j : Nat) : (splice l o cs)[j]? = if j < o then l[j]? else if j < o + cs.length then cs[j - o]? else l[j]? := by
  unfold splice
  by_cases h1 : j < o
  · rw [if_pos h1, List.append_assoc, List.getElem?_append_left (by rw [List.length_take]; omega), List.getElem?_take, if_pos h1]
  · rw [if_neg h1]
    by_cases h2 : j < o + cs.length
    · rw [if_pos h2, List.getElem?_append_left (by rw [List.length_append, List.length_take]; omega), List.getElem?_append_right (by rw [List.length_take]; omega), List.length_take]
      congr 1
      omega
    · rw [if_neg h2, List.getElem?_append_right (by rw [List.length_append, List.length_take]; omega), List.length_append, List.length_take, List.getElem?_drop]
      congr 1
      omega
theorem splice_take {α : Type} (l : List α) (o : Nat) (cs : List α) (m : Nat) (h : o + cs.length ≤ m) (hm : m ≤ l.length) : (splice l o cs).take m = splice (l.take m) o cs := by
  have hl : (l.take m).length = m := by rw [List.length_take]; omega
  apply List.ext_getElem?
  intro j
  rw [List.getElem?_take, splice_at _ _ _ (by omega), splice_at _ _ _ (by omega), List.getElem?_take]
  by_cases h1 : j < m
  · simp only [if_pos h1]
  · simp only [if_neg h1]
    rw [if_neg (by omega), if_neg (by omega)]
def fput {α : Type} (f : Nat → α) (t : Nat) (x : α) : Nat → α := fun j => if j = t then x else f j
theorem splice_flat {f : Nat → List Value} {z n t o : Nat} {cs : List Value} (hz : ∀ t, (f t).length = z) (ht : t < n) (ho : o + cs.length ≤ z) :
    splice ((List.range n).flatMap f) (t * z + o) cs = (List.range n).flatMap (fput f t (splice (f t) o cs)) := by
  have hz' : ∀ j, (fput f t (splice (f t) o cs) j).length = z := fun j => by
    unfold fput
    split
    · rw [splice_len _ _ _ (by rw [hz]; exact ho), hz]
    · exact hz j
  have hb : (t + 1) * z ≤ n * z := Nat.mul_le_mul_right z ht
  rw [Nat.add_mul, Nat.one_mul] at hb
  have hl : t * z + o + cs.length ≤ ((List.range n).flatMap f).length := by rw [flat_len hz]; omega
  apply List.ext_getElem?
  intro j
  cases hq : ((List.range n).flatMap (fput f t (splice (f t) o cs)))[j]? with
  | none =>
    rw [List.getElem?_eq_none_iff, flat_len hz'] at hq
    rw [List.getElem?_eq_none_iff, splice_len _ _ _ hl, flat_len hz]
    exact hq
  | some u =>
    obtain ⟨q, r, q1, rfl, q3⟩ := flat_out hz' n j u hq
    have hr : r < z := by rw [← hz' q]; exact (List.getElem?_eq_some_iff.1 q3).1
    rw [splice_at _ _ _ hl]
    by_cases e : q = t
    · subst e
      simp only [fput, if_pos] at q3
      rw [splice_at _ _ _ (by rw [hz]; exact ho)] at q3
      by_cases h1 : r < o
      · rw [if_pos h1] at q3
        rw [if_pos (by omega)]
        exact flat_in hz n q r u q1 q3
      · rw [if_neg h1] at q3
        rw [if_neg (by omega)]
        by_cases h2 : r < o + cs.length
        · rw [if_pos h2] at q3
          rw [if_pos (by omega), ← q3]
          congr 1
          omega
        · rw [if_neg h2] at q3
          rw [if_neg (by omega)]
          exact flat_in hz n q r u q1 q3
    · simp only [fput, if_neg e] at q3
      have hin := flat_in hz n q r u q1 q3
      rcases Nat.lt_or_gt_of_ne e with hlt | hgt
      · have : (q + 1) * z ≤ t * z := Nat.mul_le_mul_right z hlt
        rw [Nat.add_mul, Nat.one_mul] at this
        rw [if_pos (by omega)]
        exact hin
      · have : (t + 1) * z ≤ q * z := Nat.mul_le_mul_right z hgt
        rw [Nat.add_mul, Nat.one_mul] at this
        rw [if_neg (by omega), if_neg (by omega)]
        exact hin
theorem own_splice {w : World} {B e z n c g : Nat} {f : Nat → List Value} (h : w.ownsRow B e z (.slice (some ⟨g, 0, none⟩) n c) n ((List.range n).flatMap f)) (hz : ∀ t, (f t).length = z) {P : Program} {ty : TypeId} {t o : Nat} {x : Value} (ht : t < n)
    (hs : pureRun P (sizeOf ty) = some x.cells.size) (ho : o + x.cells.size ≤ z) (h1 : ∀ u ∈ x.cells.toList, u.oneCell' = true) :
    ∃ w', (Instr.storeAt ty (.pointer (some ⟨g, t * z + o, none⟩)) x).run P w = .ok () w' ∧ w'.ownsRow B e z (.slice (some ⟨g, 0, none⟩) n c) n ((List.range n).flatMap (fput f t (splice (f t) o x.cells.toList))) ∧ w.grownBy w' (some g) := by
  letI : XEnv := ⟨fun _ => ⟨none, 0, 0, 0, fun _ => []⟩⟩
  have hlen : x.cells.toList.length = x.cells.size := Array.length_toList
  have hb : (t + 1) * z ≤ n * z := Nat.mul_le_mul_right z ht
  rw [Nat.add_mul, Nat.one_mul] at hb
  rcases h.2 with ⟨e, _⟩ | ⟨g', cap, cur, e, h2, h3, h4, h5, h6, h7⟩
  · cases e
  simp only [Value.slice.injEq, Option.some.injEq, Addr.mk.injEq, and_true, true_and] at e
  obtain ⟨rfl, rfl⟩ := e
  have hcap : n * z ≤ c * z := Nat.mul_le_mul_right z h4
  have hcl : cur.toList.length = c * z := by rw [Array.length_toList]; exact h6
  have hev : evStore P ty ⟨e, cur.toList.map SV.val⟩ (t * z + o) (.val x) = some ⟨e, (splice cur.toList (t * z + o) x.cells.toList).map SV.val⟩ := by
    unfold evStore
    rw [hs]
    have c1 : Nat.beq (SV.val x).cells.length x.cells.size = true := by
      simp only [SV.cells, List.length_map, Array.length_toList]
      exact Nat.beq_refl _
    have c2 : Nat.ble (t * z + o + x.cells.size) (cur.toList.map SV.val).length = true := by
      rw [List.length_map, hcl]
      exact Nat.ble_eq_true_of_le (by omega)
    have c3 : (SV.val x).cells.all SV.one = true := by
      simp only [SV.cells, List.all_map, List.all_eq_true]
      exact fun u hu => h1 u hu
    simp only [c1, c2, c3, Bool.and_self, cond_true]
    simp only [SV.cells]
    unfold splice
    rw [List.map_append, List.map_append, List.map_take, List.map_drop, hlen]
  have hden : ∀ l : List Value, ((l.map SV.val).map (SV.den fun _ => 0)) = l := fun l => by
    rw [List.map_map, show (SV.den (fun _ => 0) ∘ SV.val) = _root_.id from funext fun v => den_val _ v, List.map_id]
  obtain ⟨hr, _, _⟩ := store_sound (P := P) (w := w) (m := fun _ => 0) (mem := fun _ => none) (g := g) (k := ⟨e, cur.toList.map SV.val⟩) hev (by rw [hden]; exact h3) (fun s hs => by
    obtain ⟨u, _, rfl⟩ := List.mem_map.1 hs
    exact ok_val _ _) (ok_val _ _)
  rw [den_val, hden] at hr
  refine ⟨_, hr, ⟨?_, .inr ⟨g, c, _, rfl, h2, setRow_heap _ _ _ _ _ _ h3, h4, h5, ?_, ?_⟩⟩, ⟨rfl, rfl, rfl, by simp [World.setRow], fun k _ hk => setRow_other _ _ _ _ (fun e => hk (by rw [e]))⟩⟩
  · refine flat_len (fun j => ?_) n
    unfold fput
    split
    · rw [splice_len _ _ _ (by rw [hz, hlen]; exact ho), hz]
    · exact hz j
  · show (splice cur.toList (t * z + o) x.cells.toList).toArray.size = _
    rw [List.size_toArray, splice_len _ _ _ (by rw [hlen, hcl]; omega), hcl]
  · rw [← splice_flat hz ht (by rw [hlen]; exact ho), ← h7]
    show (splice cur.toList (t * z + o) x.cells.toList).take (n * z) = _
    exact splice_take _ _ _ _ (by rw [hlen]; omega) (by rw [hcl]; exact hcap)
end Go.Proofs.YtlliefodchfpfaaDoor.PDescKinds
end
section
/- Own moments: what may be done with them. -/
set_option linter.unusedSimpArgs false
set_option linter.unusedVariables false
set_option linter.unusedSectionVars false
namespace Go.Proofs.YtlliefodchfpfaaDoor.PDescKinds
open Go.RowKit Go.Ev
/-- An append to an own row: where the row stands behind it. -/
theorem append_fresh {P : Program} (w : World) (base : Nat) (t ty e : TypeId) (i : TypeInfo) (z : Value) (size bytes : Nat) (ht : P.underlying t = some (.slice e)) (hi : P.info? e = some i) (hz : i.zero = some z)
    (hsize : i.size = size) (hby : i.bytes = bytes) (hzs : z.cells.size = size) (hsz : 0 < size) (v : Value) (n : Nat) (xs : List Value) (hown : w.ownsRow base e size v n xs)
    (a : Addr) (m c : Nat) (news : List Value) (hl : news.length = m * size) (hnews : ∀ j u, news[j]? = some u → w.cell? (a.add j) = some u) (h1 : ∀ u ∈ news, u.oneCell' = true)
    (h63 : n + m ≤ maxLen) (hbytes : (n + m) * bytes ≤ 140737488355328) (hbase : base ≤ w.heap.size) :
    ∃ v' w', (Builtin.append_ #[t, t] ty #[v, .slice (some a) m c]).run P w = .ok v' w' ∧ w'.ownsRow base e size v' (n + m) (xs ++ news) ∧ w.grownBy w' v.ownBlock ∧
      (v'.ownBlock = v.ownBlock ∨ ∃ g, v'.ownBlock = some g ∧ w.heap.size ≤ g) := by
  obtain ⟨v', w', hr, h2, h3, h4⟩ := run_append_own w base t ty e i z size bytes ht hi hz hsize hby hzs hsz v n xs hown a m c news hl hnews h1 h63 hbytes hbase
  refine ⟨v', w', hr, h2, h3, ?_⟩
  have hsmall : n + m ≤ 9223372036854775807 := by simp only [maxLen] at h63; omega
  subst hsize hby
  rcases hown.2 with ⟨rfl, rfl⟩ | ⟨g, cap, cur, rfl, hbg, hg, hnc, hcm, hcs, htake⟩
  · by_cases hm : m = 0
    · left; rw [h4.2 ⟨rfl, hm⟩]
    · right
      have := run_append_nil (P := P) w t ty e i z ht hi hz a m c news hl hnews (by omega) (by omega) (by have hb := hbytes; simp only [Nat.zero_add] at hb; omega)
      rw [this] at hr
      cases hr
      exact ⟨_, rfl, Nat.le_refl _⟩
  · by_cases hroom : n + m ≤ cap
    · left
      have hfit : n * i.size + news.length ≤ cur.size := by rw [hl, hcs, ← Nat.add_mul]; exact Nat.mul_le_mul_right _ hroom
      have := run_append_room (P := P) w t ty e i ht hi g n cap cur hg a m c news hl hnews h1 hroom hfit
      rw [this] at hr
      cases hr
      rfl
    · right
      have := run_append_grow (P := P) w t ty e i z ht hi hz ⟨g, 0, none⟩ n cap xs hown.1 (hown.cells (g := g) rfl) a m c news hl hnews (by omega) (by omega) (growslice_fits (by omega) hbytes)
      rw [this] at hr
      cases hr
      exact ⟨_, rfl, Nat.le_refl _⟩
theorem wp_append_fresh {P : Program} {w : World} {o : Oper} {a : Act} {K : Act → World → Prop} {Q : Exit → Act → World → Prop} (s x : Operand) (t : TypeId)
    (ho : o.op = .call { callee := .builtin .append, args := #[s, x], argTypes := #[t, t] })
    (base : Nat) (e : TypeId) (i : TypeInfo) (z : Value) (size bytes : Nat) (ht : P.underlying t = some (.slice e)) (hi : P.info? e = some i) (hz : i.zero = some z)
    (hsize : i.size = size) (hby : i.bytes = bytes) (hzs : z.cells.size = size) (hsz : 0 < size)
    (v : Value) (n : Nat) (xs : List Value) (hs : a.eval s = v) (hown : w.ownsRow base e size v n xs)
    (ad : Addr) (m c : Nat) (news : List Value) (hx : a.eval x = .slice (some ad) m c) (hl : news.length = m * size) (hnews : ∀ j u, news[j]? = some u → w.cell? (ad.add j) = some u) (h1 : ∀ u ∈ news, u.oneCell' = true)
    (h63 : n + m ≤ maxLen) (hbytes : (n + m) * bytes ≤ 140737488355328) (hbase : base ≤ w.heap.size)
    (h : ∀ v' w', w'.ownsRow base e size v' (n + m) (xs ++ news) → w.grownBy w' v.ownBlock → (v'.ownBlock = v.ownBlock ∨ ∃ g, v'.ownBlock = some g ∧ w.heap.size ≤ g) → K (a.put o.dst v') w') : o.wp P a w K Q := by
  obtain ⟨v', w', hr, h2, h3, h4⟩ := append_fresh (P := P) w base t o.type e i z size bytes ht hi hz hsize hby hzs hsz v n xs hown ad m c news hl hnews h1 h63 hbytes hbase
  have hex : (execOp a.eval o).run P w = .ok (.value v') w' := by
    unfold execOp
    simp only [ho, resolve, invoke, builtin, Sem.run_bind, Sem.run_pure, Result.andThen_ok, List.map_toArray, List.map_cons, List.map_nil, hs, hx, hr]
  unfold Oper.wp
  rw [hex, Oper.upon_value]
  exact h v' w' h2 h3 h4
/-! Own moments -/
theorem row_slice {w : World} {b e z n : Nat} {A : Option Addr} {c : Nat} {xs : List Value} (h : w.ownsRow b e z (.slice A n c) n xs) : A = none ∧ n = 0 ∧ c = 0 ∨ ∃ g, A = some ⟨g, 0, none⟩ ∧ b ≤ g ∧ g < w.heap.size := by
  rcases h.2 with ⟨e, h0⟩ | ⟨g, cap, cur, e, h1, h2, _⟩
  · cases e
    exact .inl ⟨rfl, rfl, rfl⟩
  · cases e
    exact .inr ⟨g, rfl, h1, (Array.getElem?_eq_some_iff.1 h2).1⟩
theorem own_at {w : World} {b e z n g c : Nat} {f : Nat → List Value} (hz : ∀ t, (f t).length = z) (h : w.ownsRow b e z (.slice (some ⟨g, 0, none⟩) n c) n ((List.range n).flatMap f)) {t : Nat} (ht : t < n) (k : Nat) (u : Value) (hk : (f t)[k]? = some u) : w.cell? ((⟨g, 0, none⟩ : Addr).add (t * z + k)) = some u :=
  h.cells (g := g) rfl _ _ (flat_in hz n t k u ht hk)
section
end
end Go.Proofs.YtlliefodchfpfaaDoor.PDescKinds
end
section
/- slices.Delete of one property. -/
set_option linter.unusedSimpArgs false
set_option linter.unusedVariables false
set_option linter.unusedSectionVars false
namespace Go.Proofs.YtlliefodchfpfaaDoor.PDescKinds
open Go.RowKit Go.Lib
open Go.Ev (add_none)
end Go.Proofs.YtlliefodchfpfaaDoor.PDescKinds
end
section
/- InvariantBroken, plain: what the program answers of two moments is what the document says. -/
set_option linter.unusedSimpArgs false
set_option linter.unusedVariables false
set_option linter.unusedSectionVars false
namespace Go.Proofs.YtlliefodchfpfaaDoor.PDescKinds
open Go.RowKit Go.Ev FloatEq
namespace R
end R
/-! Moments whose numbers are numbers -/
end Go.Proofs.YtlliefodchfpfaaDoor.PDescKinds
end
section
/- InvariantGoes, plain: Broken of two moments is transitive. -/
set_option linter.unusedSimpArgs false
set_option linter.unusedVariables false
set_option linter.unusedSectionVars false
namespace Go.Proofs.YtlliefodchfpfaaDoor.PDescKinds
open Go.RowKit Go.Ev FloatEq
/-! Two loops, one within the other -/
/-! Keys -/
/-! Values -/
/-! Descriptors -/
/-! Shapes -/
end Go.Proofs.YtlliefodchfpfaaDoor.PDescKinds
end
section
/- Pieces that read, then a store; moments as_ lists of lists. -/
set_option linter.unusedSimpArgs false
set_option linter.unusedVariables false
set_option linter.unusedSectionVars false
namespace Go.Ev
open Go.RowKit Go.Proofs.YtlliefodchfpfaaDoor.PDescKinds
section
variable [XEnv] {P : Program} {N : Nat} {m : Nat → Nat} {Q : Exit → Act → World → Prop}
theorem ar_of {a : Act} (w : World) {ts : List (Nat × SV)} (hs : a.tmps.size = N) (hd : a.defers = []) (h : ∀ p ∈ ts, a.tmps.getD p.1 undef = p.2.den m) (hok : ∀ p ∈ ts, p.2.ok fun _ => none) : AR N m (pickT ts) (fun _ => none) a :=
  (epoch (w := w) hs hd ts m h hok).ar
theorem ar_get {a : Act} {t : Nat → SV} {mem : Mem} (h : AR N m t mem a) {i : Nat} {s : SV} (e : t i = s) (hk : s.known = true) : a.tmps.getD i undef = s.den m := by
  rw [← e] at hk ⊢
  exact h.tm i hk
theorem ar_eval {a : Act} {t : Nat → SV} {mem : Mem} (h : AR N m t mem a) {i : Nat} {v : Value} (e : t i = .val v) : a.eval (.tmp i) = v := (ar_get h e rfl).trans (den_val _ _)
theorem store_run {a : Act} {w w' : World} {o : Oper} {t : TypeId} {x y : Operand} {p v : Value} (ho : o.op = .store t x y) (hx : a.eval x = p) (hy : a.eval y = v) (h : (Instr.storeAt t p v).run P w = .ok () w') : (execOp a.eval o).run P w = .ok .skip w' := by
  unfold execOp
  simp only [ho, hx, hy, Sem.run_bind, h, Result.andThen_ok, Sem.run_pure]
/-- A store, last of a region. -/
theorem wpList_store {os : Array Oper} {o : Oper} {a : Act} {w w' : World} {t : TypeId} {x y : Operand} {p v : Value} (ho : o.op = .store t x y) (hg : o.guard = none) (hd : o.dst = none) (hx : a.eval x = p) (hy : a.eval y = v)
    (h : (Instr.storeAt t p v).run P w = .ok () w') (k : Q .normal a w') : wpList P os Q [o] a w := by
  refine wpList_plain hg fun K hK => ?_
  unfold Oper.wp
  rw [store_run ho hx hy h, Oper.upon_skip, hd]
  exact hK _ _ k
end
end Go.Ev
namespace Go.Proofs.YtlliefodchfpfaaDoor.PDescKinds
open Go.RowKit Go.Ev
namespace L
end L
namespace S
end S
end Go.Proofs.YtlliefodchfpfaaDoor.PDescKinds
end
section
/- Parts of the proof, joined (3). -/
section
/- invariant.apply: its pieces, by computing. -/
set_option linter.unusedSimpArgs false
set_option linter.unusedVariables false
set_option linter.unusedSectionVars false
namespace Go.Proofs.YtlliefodchfpfaaDoor.PDescKinds
open Go.RowKit Go.Ev
/-- A box, and a shape, as_ rows. -/
@[instance_reducible] def rowsX (bA : Option Addr) (b : List SV) (sA : Option Addr) (s : List SV) : XEnv := ⟨fun r => match r with
  | [] => ⟨bA, b.length, 1, 1, fun _ => b⟩
  | _ :: _ => ⟨sA, s.length, 1, 1, fun _ => s⟩⟩
/-- No rows. -/
@[instance_reducible] def row0 : XEnv := ⟨fun _ => ⟨none, 0, 0, 0, fun _ => []⟩⟩
theorem xok_0 (w : World) : @XOk row0 w := fun r j hj => absurd hj (Nat.not_lt_zero _)
namespace Ap
set_option maxRecDepth 100000
end Ap
end Go.Proofs.YtlliefodchfpfaaDoor.PDescKinds
end
section
/- invariant.apply: tools for its regions. -/
set_option linter.unusedSimpArgs false
set_option linter.unusedVariables false
set_option linter.unusedSectionVars false
namespace Go.Proofs.YtlliefodchfpfaaDoor.PDescKinds
open Go.RowKit Go.Ev
theorem then_nil {P : Program} {Q : Exit → Act → World → Prop} : Exit.then (wpL P [] Q) Q = Q := by
  funext e a w
  cases e <;> rfl
theorem below_grown {B g : Nat} {w w' : World} (hB : B ≤ w.heap.size) (hg : w.grownBy w' (some g)) (h : B ≤ g) : Below B w w' :=
  ⟨hg.os, hg.tape, hg.output, hg.size, fun k hk => hg.block k (Nat.lt_of_lt_of_le hk hB) (fun e => by
    simp only [Option.some.injEq] at e
    omega)⟩
theorem xrow_val {w : World} {A : Addr} {l : List Value} (hA : A.block < w.heap.size) (h : ∀ k u, l[k]? = some u → w.cell? (A.add k) = some u) (e : XEnv) : @XRow e w ⟨some A, (l.map SV.val).length, 1, 1, fun _ => l.map SV.val⟩ := by
  intro j hj
  have hj : j < 1 := hj
  obtain rfl : j = 0 := by omega
  refine ⟨rfl, fun s hs mem => ?_, A, rfl, hA, fun k s hk m => ?_⟩
  · obtain ⟨u, _, rfl⟩ := List.mem_map.1 hs
    exact ok_val _ _
  · have hk : (l.map SV.val)[k]? = some s := hk
    rw [List.getElem?_map] at hk
    obtain ⟨u, hu, rfl⟩ := Option.map_eq_some_iff.1 hk
    rw [show 0 * (l.map SV.val).length + k = k by omega, den_val]
    exact h k u hu
/-- An own slice of one, out of a value. -/
theorem build1 {o : Oper} {a : Act} {w : World} {N : Nat} {K : Act → World → Prop} {Q : Exit → Act → World → Prop} {t : Nat → SV} {ty : TypeId} {l : List Value} (har : @AR row0 N (fun _ => 0) t (fun _ => none) a)
    (hev : @evOp row0 Tryd.prog ext (fun _ _ _ _ => none) (Ev.look t) (fun _ => none) 0 o = some (.slc 0 0 1 1, .new ⟨ty, l.map SV.val⟩))
    (k : ∀ g w', Below w.heap.size w w' → w.heap.size ≤ g → w'.heap[g]? = some (.cells l.toArray ty (0, 0)) → K (a.put o.dst (.slice (some ⟨g, 0, none⟩) 1 1)) w') : o.wp Tryd.prog a w K Q := by
  letI := row0
  refine op_sound (I := fun _ => True) (w0 := w) ext_sound trivial (fun _ _ _ _ => trivial) (fun w _ => xok_0 w) (fun f args mem id v m' n hc => by cases hc) hev (fun _ => rfl) (fun ⟨m, n, he⟩ => by cases he) (fun x => har.look_ok x) (fun x hk => har.eval x hk) (MR.start w fun _ => 0) fun m' w' h1 h2 h3 h4 h5 => ?_
  obtain ⟨b1, b2, b3⟩ := h2.blk 0 ⟨ty, l.map SV.val⟩ (by simp [Eff.mem, upd])
  rw [den_slc]
  refine k (m' 0) w' h2.below b1 ?_
  rw [b2, List.map_map, show (SV.den m' ∘ SV.val) = _root_.id from funext fun v => den_val _ v, List.map_id]
namespace Ap
section
variable {v0 A3 A6 : Value} {i what : Int} {a : Act} {w : World} {Q : Exit → Act → World → Prop}
end
end Ap
end Go.Proofs.YtlliefodchfpfaaDoor.PDescKinds
end
section
/- invariant.apply: its stores, and the property that goes. -/
set_option linter.unusedSimpArgs false
set_option linter.unusedVariables false
set_option linter.unusedSectionVars false
namespace Go.Proofs.YtlliefodchfpfaaDoor.PDescKinds
open Go.RowKit Go.Ev
namespace Ap
section
end
end Ap
end Go.Proofs.YtlliefodchfpfaaDoor.PDescKinds
end
section
/- invariant.apply: its regions that draw. -/
set_option linter.unusedSimpArgs false
set_option linter.unusedVariables false
set_option linter.unusedSectionVars false
namespace Go.Ev
open Go.RowKit Go.Proofs.YtlliefodchfpfaaDoor.PDescKinds
section
variable [XEnv] {P : Program} {N : Nat} {m : Nat → Nat}
theorem pickT_zip (t : Nat → SV) (i : Nat) : ∀ ns : List Nat, pickT (ns.zip (ns.map t)) i = .unk ∨ pickT (ns.zip (ns.map t)) i = t i
  | [] => .inl rfl
  | n :: r => by
    simp only [List.map_cons, List.zip_cons_cons, pickT]
    cases hb : Nat.beq i n with
    | true => right; rw [Nat.eq_of_beq_eq_true hb]; rfl
    | false => exact pickT_zip t i r
theorem ar_pick {a : Act} {t : Nat → SV} {ns : List Nat} {vs : List SV} (h : AR N m t (fun _ => none) a) (e : ns.map t = vs) : AR N m (pickT (ns.zip vs)) (fun _ => none) a := by
  subst e
  refine ⟨h.size, h.defers, fun i hi => ?_, fun i => ?_⟩
  · rcases pickT_zip t i ns with e | e
    · rw [e] at hi; cases hi
    · rw [e] at hi ⊢; exact h.tm i hi
  · rcases pickT_zip t i ns with e | e
    · rw [e]; exact ok_unk
    · rw [e]; exact h.ok i
end
end Go.Ev
namespace Go.Proofs.YtlliefodchfpfaaDoor.PDescKinds
open Go.RowKit Go.Ev
namespace Ap
section
end
end Ap
end Go.Proofs.YtlliefodchfpfaaDoor.PDescKinds
end
section
/- invariant.apply: a property more, an object more. -/
set_option linter.unusedSimpArgs false
set_option linter.unusedVariables false
set_option linter.unusedSectionVars false
namespace Go.Proofs.YtlliefodchfpfaaDoor.PDescKinds
open Go.RowKit Go.Ev
namespace Ap
theorem ctx0 : @Ctx row0 Tryd.prog ext (tab []) (fun _ => True) := by
  letI := row0
  exact ⟨mixed, ext_sound, fun _ _ _ _ => trivial, fun w _ => xok_0 w, tab_sound entries_nil⟩
section
end
end Ap
end Go.Proofs.YtlliefodchfpfaaDoor.PDescKinds
end
section
/- invariant.apply: its contract over own moments. -/
set_option linter.unusedSimpArgs false
set_option linter.unusedVariables false
set_option linter.unusedSectionVars false
namespace Go.Proofs.YtlliefodchfpfaaDoor.PDescKinds
open Go.RowKit Go.Ev
namespace Ap
section
end
end Ap
end Go.Proofs.YtlliefodchfpfaaDoor.PDescKinds
end
section
/- invariant.apply runs. -/
set_option linter.unusedSimpArgs false
set_option linter.unusedVariables false
set_option linter.unusedSectionVars false
namespace Go.Proofs.YtlliefodchfpfaaDoor.PDescKinds
open Go.RowKit Go.Ev
namespace Ap
section
end
end Ap
end Go.Proofs.YtlliefodchfpfaaDoor.PDescKinds
end
section
/- slices.Clone of properties; an own shape more. -/
set_option linter.unusedSimpArgs false
set_option linter.unusedVariables false
set_option linter.unusedSectionVars false
namespace Go.Proofs.YtlliefodchfpfaaDoor.PDescKinds
open Go.RowKit Go.Ev
/-- An empty own slice. -/
theorem build0 {o : Oper} {a : Act} {w : World} {N : Nat} {K : Act → World → Prop} {Q : Exit → Act → World → Prop} {t : Nat → SV} {ty : TypeId} (har : @AR row0 N (fun _ => 0) t (fun _ => none) a)
    (hev : @evOp row0 Tryd.prog ext (fun _ _ _ _ => none) (Ev.look t) (fun _ => none) 0 o = some (.slc 0 0 0 0, .new ⟨ty, []⟩))
    (k : ∀ g w', Below w.heap.size w w' → w.heap.size ≤ g → w'.heap[g]? = some (.cells #[] ty (0, 0)) → K (a.put o.dst (.slice (some ⟨g, 0, none⟩) 0 0)) w') : o.wp Tryd.prog a w K Q := by
  letI := row0
  refine op_sound (I := fun _ => True) (w0 := w) ext_sound trivial (fun _ _ _ _ => trivial) (fun w _ => xok_0 w) (fun f args mem id v m' n hc => by cases hc) hev (fun _ => rfl) (fun ⟨m, n, he⟩ => by cases he) (fun x => har.look_ok x) (fun x hk => har.eval x hk) (MR.start w fun _ => 0) fun m' w' h1 h2 h3 h4 h5 => ?_
  obtain ⟨b1, b2, b3⟩ := h2.blk 0 ⟨ty, []⟩ (by simp [Eff.mem, upd])
  rw [den_slc]
  exact k (m' 0) w' h2.below b1 b2
namespace Clone
end Clone
end Go.Proofs.YtlliefodchfpfaaDoor.PDescKinds
end
section
/- invariant.Patch: its pieces, by computing. -/
set_option linter.unusedSimpArgs false
set_option linter.unusedVariables false
set_option linter.unusedSectionVars false
namespace Go.Proofs.YtlliefodchfpfaaDoor.PDescKinds
open Go.RowKit Go.Ev
namespace Pa
set_option maxRecDepth 100000
end Pa
end Go.Proofs.YtlliefodchfpfaaDoor.PDescKinds
end
section
/- invariant.Patch: the copy. -/
set_option linter.unusedSimpArgs false
set_option linter.unusedVariables false
set_option linter.unusedSectionVars false
namespace Go.Ev
open Go.RowKit Go.Proofs.YtlliefodchfpfaaDoor.PDescKinds
/-- Is a temporary left alone? -/
def offD (l : List Oper) (t : Nat) : Bool := l.all fun o => match o.dst with
  | some d => !(Nat.beq d t)
  | none => true
def offDs (l : List Oper) (ts : List Nat) : Bool := ts.all (offD l)
section
variable [XEnv] {P : Program} {N : Nat} {m : Nat → Nat} {Q : Exit → Act → World → Prop}
theorem put_off {a : Act} {d : Option Nat} {v : Value} {t : Nat} (h : (match d with | some d => !(Nat.beq d t) | none => true) = true) : (a.put d v).tmps.getD t undef = a.tmps.getD t undef := by
  cases d with
  | none => rfl
  | some d =>
    refine Copy.put_ne a d t v fun e => ?_
    subst e
    simp only [Nat.beq_refl, Bool.not_true] at h
    cases h
theorem reads_off {os : Array Oper} {rest : List Oper} : ∀ (ops : List Oper) (t t' : Nat → SV) (a : Act) (w : World), XOk w → reads P N ops t = some t' → AR N m t (fun _ => none) a →
    (∀ a', AR N m t' (fun _ => none) a' → (∀ i, offD ops i = true → a'.tmps.getD i undef = a.tmps.getD i undef) → wpList P os Q rest a' w) → wpList P os Q (ops ++ rest) a w
  | [], t, t', a, w, _, h, har, k => by
    simp only [reads, Option.some.injEq] at h
    subst h
    exact k a har fun _ _ => rfl
  | o :: r, t, t', a, w, hX, h, har, k => by
    unfold reads at h
    cases hc : (o.guard.isNone && dstOk N o.dst) with
    | false => rw [hc] at h; cases h
    | true =>
      rw [hc] at h
      simp only [if_true] at h
      rw [Bool.and_eq_true] at hc
      obtain ⟨hg, hd⟩ := hc
      split at h
      · rename_i v hv
        obtain ⟨hr, hvok⟩ := evP_run (m := m) (w := w) hX (fun x => har.look_ok x) (fun x hk => har.eval x hk) hv
        show wpList P os Q (o :: (r ++ rest)) a w
        refine wpList_plain (by simpa using hg) fun K hK => ?_
        unfold Oper.wp
        rw [hr, Oper.upon_value]
        refine hK _ _ (reads_off r _ t' _ w hX h (har.put (Agree.refl _ _) (Grows.refl _) hd hvok) fun a' h1 h2 => k a' h1 fun i hi => ?_)
        simp only [offD, List.all_cons, Bool.and_eq_true] at hi
        exact (h2 i hi.2).trans (put_off hi.1)
      · cases h
theorem wpList_readsF {os : Array Oper} {l rest : List Oper} {ns : List Nat} {vs : List SV} {t : Nat → SV} {a : Act} {w : World} (keep : List Nat) (hX : XOk w) (hev : (reads P N l t).map (fun t => ns.map t) = some vs) (hk : offDs l keep = true) (har : AR N m t (fun _ => none) a)
    (k : ∀ a' t', AR N m t' (fun _ => none) a' → ns.map t' = vs → (∀ i ∈ keep, a'.tmps.getD i undef = a.tmps.getD i undef) → wpList P os Q rest a' w) : wpList P os Q (l ++ rest) a w := by
  obtain ⟨t', h1, h2⟩ := Option.map_eq_some_iff.1 hev
  exact reads_off l _ t' a w hX h1 har fun a' h h' => k a' t' h h2 fun i hi => h' i (List.all_eq_true.1 hk i hi)
end
end Go.Ev
namespace Go.Proofs.YtlliefodchfpfaaDoor.PDescKinds
open Go.RowKit Go.Ev
namespace Pa
section
end
end Pa
end Go.Proofs.YtlliefodchfpfaaDoor.PDescKinds
end
section
/- invariant.Patch: the copy's loop. -/
set_option linter.unusedSimpArgs false
set_option linter.unusedVariables false
set_option linter.unusedSectionVars false
namespace Go.Proofs.YtlliefodchfpfaaDoor.PDescKinds
open Go.RowKit Go.Ev
namespace Pa
section
end
end Pa
end Go.Proofs.YtlliefodchfpfaaDoor.PDescKinds
end
section
/- invariant.Patch runs. -/
set_option linter.unusedSimpArgs false
set_option linter.unusedVariables false
set_option linter.unusedSectionVars false
namespace Go.Proofs.YtlliefodchfpfaaDoor.PDescKinds
open Go.RowKit Go.Ev
namespace L
end L
namespace Pa
section
end
end Pa
end Go.Proofs.YtlliefodchfpfaaDoor.PDescKinds
end
section
/- invariant.Patch: its contract. -/
set_option linter.unusedSimpArgs false
set_option linter.unusedVariables false
set_option linter.unusedSectionVars false
namespace Go.Proofs.YtlliefodchfpfaaDoor.PDescKinds
open Go.RowKit Go.Ev
namespace Pa
section
end
end Pa
end Go.Proofs.YtlliefodchfpfaaDoor.PDescKinds
end
section
/- There and back, in plain lists: what Diff tells makes the one moment of the other. -/
set_option linter.unusedSimpArgs false
set_option linter.unusedVariables false
set_option linter.unusedSectionVars false
namespace Go.Proofs.YtlliefodchfpfaaDoor.PDescKinds
open Go.RowKit Go.Ev
/-! Sublists -/
/-! Keys -/
namespace L
end L
/-! What was kept -/
section
end
end Go.Proofs.YtlliefodchfpfaaDoor.PDescKinds
end
section
/- There and back: moments. -/
set_option linter.unusedSimpArgs false
set_option linter.unusedVariables false
set_option linter.unusedSectionVars false
namespace Go.Proofs.YtlliefodchfpfaaDoor.PDescKinds
open Go.RowKit Go.Ev
/-! Keys that stand once -/
namespace L
end L
section
end
/-! How much there is -/
end Go.Proofs.YtlliefodchfpfaaDoor.PDescKinds
end
section
/- InvariantBack: the law runs. -/
set_option linter.unusedSimpArgs false
set_option linter.unusedVariables false
set_option linter.unusedSectionVars false
namespace Go.Proofs.YtlliefodchfpfaaDoor.PDescKinds
open Go.RowKit Go.Ev
namespace Bk
set_option maxRecDepth 100000
section
end
end Bk
end Go.Proofs.YtlliefodchfpfaaDoor.PDescKinds
end
end
section
/- The seat of InvariantPatches: what the ported texts lack. -/
set_option linter.unusedSimpArgs false
set_option linter.unusedVariables false
set_option linter.unusedSectionVars false
namespace Go.Proofs.YtlliefodchfpfaaDoor.PDescKinds
open Go.RowKit Go.Ev
end Go.Proofs.YtlliefodchfpfaaDoor.PDescKinds
end
section
/- cameoref10.Patch: a shape goes back where it was taken from. -/
set_option linter.unusedSimpArgs false
set_option linter.unusedVariables false
set_option linter.unusedSectionVars false
namespace Go.Proofs.YtlliefodchfpfaaDoor.PDescKinds
open Go.RowKit Go.Ev
namespace RP
section
end
end RP
end Go.Proofs.YtlliefodchfpfaaDoor.PDescKinds
end
section
-- PRINTED BY print.sh 35421559b90ae4d0a3588c463048766b98c2df88dd9212a6774a882060cdf62d: not written by this session
/-
  PRINTED WORDS, second file: A REGION THAT DRAWS ITS ORDER, WALKED BY HAND, where its last store writes what its own loads read ('x.f = append(x.f, f(i))'). Plain theorems; no macro, no elab. A claim may hold it (turn the namespace's name).
  A load may be taken first in every world that meets S; behind the operations of ds nothing is shown; sound because each of ds waits for what is taken (Region.lastB). The kernel checks it.
  By an AI agent of Go's test side, Mon Nov 16 2026. No person has read it.
-/
namespace Go.Proofs.YtlliefodchfpfaaDoorV.PrintLast
section
variable {P : Program} {ops : Array Oper} {Q : Exit → Act → World → Prop} {md : Region.Mode} {S : World → Prop} {ds : List Nat}
/-- Operation d waits for operation i, by a chain of at most 'fuel' edges. -/
def Region.reachB (md : Region.Mode) (ops : Array Oper) (i : Nat) : Nat → Nat → Bool
  | 0, _ => false
  | fuel + 1, d => match ops[d]? with
    | some o => o.after.any fun e => Region.binds md e && (e.on == i || Region.reachB md ops i fuel e.on)
    | none => false
/-- What is listed is closed under the edges. -/
def Region.closedB (md : Region.Mode) (ops : Array Oper) (listed : Array Bool) : Bool :=
  (List.range ops.size).all fun j => !listed.getD j false || match ops[j]? with
    | some o => o.after.all fun e => !Region.binds md e || listed.getD e.on false
    | none => true
/-- Each of ds that has not come up yet waits for number i. -/
def Region.lastB (md : Region.Mode) (ops : Array Oper) (listed : Array Bool) (ds : List Nat) (i : Nat) : Bool :=
  ds.all fun d => listed.getD d true || Region.reachB md ops i ops.size d
def ListedClosed (md : Region.Mode) (ops : Array Oper) (listed : Array Bool) : Prop :=
  ∀ j oj, ops[j]? = some oj → listed.getD j false = true → ∀ e ∈ oj.after, Region.binds md e = true → listed.getD e.on false = true
theorem Region.closedB_spec {listed : Array Bool} (h : Region.closedB md ops listed = true) : ListedClosed md ops listed := by
  intro j oj hj hl e he hb
  have hlt : j < ops.size := (Array.getElem?_eq_some_iff.1 hj).1
  have h1 := List.all_eq_true.1 h j (List.mem_range.2 hlt)
  simp only [hl, hj, Bool.not_true, Bool.false_or] at h1
  have h2 := Array.all_eq_true_iff_forall_mem.1 h1 e he
  simpa [hb] using h2
theorem ListedClosed.set {listed : Array Bool} {i : Nat} (h : ListedClosed md ops listed) (hi : i ∈ Region.ready md ops listed) : ListedClosed md ops (listed.setIfInBounds i true) := by
  obtain ⟨_, oi, hoi, hall⟩ := mem_ready.1 hi
  intro j oj hj hl e he hb
  by_cases hij : i = j
  · subst hij
    have : oj = oi := Option.some.inj (hj.symm.trans hoi)
    subst this
    exact getD_set_true (hall e he hb)
  · rw [getD_set_ne false hij] at hl
    exact getD_set_true (h j oj hj hl e he hb)
theorem Region.reach_listed {listed : Array Bool} {i : Nat} (hc : ListedClosed md ops listed) : ∀ (fuel d : Nat), Region.reachB md ops i fuel d = true → listed.getD d false = true → listed.getD i false = true
  | 0, _, h, _ => by simp [Region.reachB] at h
  | fuel + 1, d, h, hl => by
    unfold Region.reachB at h
    cases ho : ops[d]? with
    | none => rw [ho] at h; simp at h
    | some o =>
      rw [ho] at h
      obtain ⟨e, he, h1⟩ := Array.any_eq_true'.1 h
      simp only [Bool.and_eq_true, Bool.or_eq_true, beq_iff_eq] at h1
      have hle := hc d o ho hl e he h1.1
      rcases h1.2 with h2 | h2
      · rw [← h2]; exact hle
      · exact Region.reach_listed hc fuel e.on h2 hle
/-- What waits for i cannot come up before i is listed. -/
theorem Region.reach_not_ready {listed : Array Bool} {i d fuel : Nat} (hc : ListedClosed md ops listed) (hr : Region.reachB md ops i fuel d = true) (hun : listed.getD i true = false) : d ∉ Region.ready md ops listed := by
  intro hd
  obtain ⟨_, o, ho, hall⟩ := mem_ready.1 hd
  have hi : listed.getD i false = true := by
    cases fuel with
    | zero => simp [Region.reachB] at hr
    | succ n =>
      unfold Region.reachB at hr
      rw [ho] at hr
      obtain ⟨e, he, h1⟩ := Array.any_eq_true'.1 hr
      simp only [Bool.and_eq_true, Bool.or_eq_true, beq_iff_eq] at h1
      have hle := hall e he h1.1
      rcases h1.2 with h2 | h2
      · rw [← h2]; exact hle
      · exact Region.reach_listed hc n e.on h2 hle
  rcases Nat.lt_or_ge i listed.size with h' | h'
  · simp [h'] at hun hi
    rw [hun] at hi
    cases hi
  · simp [Array.getElem?_eq_none h'] at hun
/-- Whatever order is picked from here on, AND 'S' HOLDS BEHIND EVERY OPERATION THAT IS CARRIED OUT, those of ds apart. -/
def wpAnyLast (P : Program) (md : Region.Mode) (ops : Array Oper) (Q : Exit → Act → World → Prop) (S : World → Prop) (ds : List Nat) : Nat → Array Bool → Act → World → Prop
  | 0, listed, a, w => Region.ready md ops listed = [] ∧ Q .normal a w
  | fuel + 1, listed, a, w =>
    (Region.ready md ops listed = [] → Q .normal a w) ∧
    ∀ i ∈ Region.ready md ops listed, wpOp P ops Q i (fun a' w' => (i ∉ ds → S w → S w') ∧ wpAnyLast P md ops Q S ds fuel (listed.setIfInBounds i true) a' w') a w
theorem wpAny_of_last : ∀ (fuel : Nat) (listed : Array Bool) (a : Act) (w : World), wpAnyLast P md ops Q S ds fuel listed a w → wpAny P md ops Q fuel listed a w
  | 0, _, _, _, h => h
  | fuel + 1, _, _, _, h => ⟨h.1, fun i hi => wpOp_mono (fun a' w' h' => wpAny_of_last fuel _ a' w' h'.2) (h.2 i hi)⟩
theorem wpAnyLast_first {i : Nat} {oi : Oper} {v : Value} (hi : ops[i]? = some oi) (hsel : ∀ (j : Nat) (o : Oper) cs b, ops[j]? = some o → o.op ≠ .select cs b)
    (hQ : ∀ c a w, Q (.panic c) (a.put oi.dst v) w → Q (.panic c) a w) (n : Nat) :
    ∀ (fuel : Nat) (listed : Array Bool) (a : Act) (w : World),
      (∀ j oj, ops[j]? = some oj → j ≠ i → listed.getD j true = false → (∀ e ∈ oj.after, Region.binds md e = true → e.on ≠ i) → oi.apart ops oj = true) →
      ListedClosed md ops listed → (∀ d ∈ ds, listed.getD d true = false → Region.reachB md ops i n d = true) →
      i ∈ Region.ready md ops listed → YieldsIf P ops S oi v a → S w →
      wpAnyLast P md ops Q S ds fuel (listed.setIfInBounds i true) (a.put oi.dst v) w → wpAnyLast P md ops Q S ds (fuel + 1) listed a w := by
  intro fuel
  induction fuel with
  | zero =>
    intro listed a w _ _ _ hr hy hS H
    refine ⟨fun h => (by rw [h] at hr; cases hr), fun j hj => ?_⟩
    by_cases hji : j = i
    · subst hji; exact hy.wpOp hi hS ⟨fun _ h => h, H⟩
    · have := ready_mono hj hji
      rw [H.1] at this
      cases this
  | succ fuel ih =>
    intro listed a w hfree hc hd hr hy hS H
    refine ⟨fun h => (by rw [h] at hr; cases hr), fun j hj => ?_⟩
    by_cases hji : j = i
    · subst hji; exact hy.wpOp hi hS ⟨fun _ h => h, H⟩
    · have h1 := H.2 j (ready_mono hj hji)
      obtain ⟨hjun, oj, hoj, hall⟩ := mem_ready.1 hj
      have hiun := (mem_ready.1 hr).1
      have hnot : ∀ e ∈ oj.after, Region.binds md e = true → e.on ≠ i := fun e he hb heq => by
        have h1 := hall e he hb
        rw [heq] at h1
        rcases Nat.lt_or_ge i listed.size with h' | h'
        · simp [h'] at hiun h1; rw [hiun] at h1; cases h1
        · simp [Array.getElem?_eq_none h'] at h1
      have hjd : j ∉ ds := fun hm => Region.reach_not_ready hc (hd j hm hjun) hiun hj
      have h2 := wpOp_putIf hoj (hfree j oj hoj hji hjun hnot) (fun cs b => hsel i oi cs b hi) (fun cs b => hsel j oj cs b hoj) hQ hy h1
      have hfree' : ∀ k ok, ops[k]? = some ok → k ≠ i → (listed.setIfInBounds j true).getD k true = false →
          (∀ e ∈ ok.after, Region.binds md e = true → e.on ≠ i) → oi.apart ops ok = true := fun k ok hk hki hun hno => by
        refine hfree k ok hk hki ?_ hno
        by_cases hjk : j = k
        · subst hjk; exact hjun
        · rw [getD_set_ne true hjk] at hun; exact hun
      have hd' : ∀ d ∈ ds, (listed.setIfInBounds j true).getD d true = false → Region.reachB md ops i n d = true := fun d hm hun => by
        refine hd d hm ?_
        by_cases hjk : j = d
        · subst hjk; exact hjun
        · rw [getD_set_ne true hjk] at hun; exact hun
      refine wpOp_mono (fun a' w' h3 => ⟨h3.2.1, ih (listed.setIfInBounds j true) a' w' hfree' (hc.set hj) hd' (ready_mono hr (Ne.symm hji)) h3.1 (h3.2.1 hjd hS) ?_⟩) h2
      rw [Array.setIfInBounds_comm _ _ hji]
      exact h3.2.2
/-- Take number 'i' first. -/
theorem wpAnyLast_take {i : Nat} {oi : Oper} {v : Value} {fuel : Nat} {listed : Array Bool} {a : Act} {w : World} (hi : ops[i]? = some oi)
    (hs : Region.noSelect ops = true) (hf : Region.free md ops listed i = true) (hr : (Region.ready md ops listed).contains i = true)
    (hc : Region.closedB md ops listed = true) (hl : Region.lastB md ops listed ds i = true)
    (hQ : ∀ c a w, Q (.panic c) (a.put oi.dst v) w → Q (.panic c) a w) (hy : YieldsIf P ops S oi v a) (hS : S w)
    (h : wpAnyLast P md ops Q S ds fuel (listed.setIfInBounds i true) (a.put oi.dst v) w) : wpAnyLast P md ops Q S ds (fuel + 1) listed a w :=
  wpAnyLast_first hi (Region.noSelect_spec hs) hQ ops.size fuel listed a w (Region.free_spec hi hf) (Region.closedB_spec hc)
    (fun d hm hun => by have := List.all_eq_true.1 hl d hm; rw [hun] at this; simpa using this) (by simpa using hr) hy hS h
theorem wp_region_last {id : Nat} {a : Act} {w : World} (hm : P.follows .mixedOrders = true)
    (h : wpAnyLast P .any ops Q S ds ops.size (Array.replicate ops.size false) a { w with drawn := w.drawn + 1 }) : (Code.region id ops true).wp P Q a w :=
  wp_region_any hm (wpAny_of_last _ _ _ _ h)
end
section
variable {P : Program} {ops : Array Oper} {Q : Exit → Act → World → Prop} {md : Region.Mode} {S : World → Prop} {ds : List Nat}
/-! ### Several operations that write or call may come up: each order is walked, what follows is shown once (join_) -/
end
end Go.Proofs.YtlliefodchfpfaaDoorV.PrintLast
end
section
/- Tools for regions that draw and whose last store writes what their loads read; slices of own rows. -/
set_option linter.unusedSimpArgs false
set_option linter.unusedVariables false
set_option linter.unusedSectionVars false
namespace Go.Ev
open Go.RowKit Go.Proofs.YtlliefodchfpfaaDoorV.PrintLast Go.Proofs.YtlliefodchfpfaaDoor.PDescKinds
section
variable [XEnv] {P : Program} {ops : Array Oper} {N : Nat} {m : Nat → Nat} {S : World → Prop} {Q : Act → World → Prop} {ds : List Nat}
/-- Operations taken first, one behind the other. -/
def takesL (P : Program) (ops : Array Oper) (ds : List Nat) (N : Nat) : List Nat → (Nat → SV) → Array Bool → Option ((Nat → SV) × Array Bool)
  | [], t, l => some (t, l)
  | i :: r, t, l => match ops[i]? with
    | some o => bif o.guard.isNone && ((Region.free .any ops l i && (Region.ready .any ops l).contains i) && ((Go.Proofs.YtlliefodchfpfaaDoorV.PrintLast.Region.closedB .any ops l && Go.Proofs.YtlliefodchfpfaaDoorV.PrintLast.Region.lastB .any ops l ds i) && dstOk N o.dst)) then
        match evP P (look t) o with
        | some v => takesL P ops ds N r (putS t o.dst v) (l.setIfInBounds i true)
        | none => none
      else none
    | none => none
theorem takesL_sound (hS : ∀ w, S w → XOk w) (hns : Region.noSelect ops = true) : ∀ (is : List Nat) (t t' : Nat → SV) (l l' : Array Bool) (fuel : Nat) (a : Act) (w : World), takesL P ops ds N is t l = some (t', l') → AR N m t (fun _ => none) a → S w →
    (∀ a', AR N m t' (fun _ => none) a' → wpAnyLast P .any ops (onlyN Q) S ds fuel l' a' w) → wpAnyLast P .any ops (onlyN Q) S ds (is.length + fuel) l a w
  | [], t, t', l, l', fuel, a, w, h, har, hSw, k => by
    simp only [takesL, Option.some.injEq, Prod.mk.injEq] at h
    obtain ⟨rfl, rfl⟩ := h
    simpa using k a har
  | i :: r, t, t', l, l', fuel, a, w, h, har, hSw, k => by
    unfold takesL at h
    split at h
    · rename_i o ho
      cases hc : (o.guard.isNone && ((Region.free .any ops l i && (Region.ready .any ops l).contains i) && ((Go.Proofs.YtlliefodchfpfaaDoorV.PrintLast.Region.closedB .any ops l && Go.Proofs.YtlliefodchfpfaaDoorV.PrintLast.Region.lastB .any ops l ds i) && dstOk N o.dst))) with
      | false => rw [hc] at h; cases h
      | true =>
        rw [hc] at h
        simp only [cond_true] at h
        simp only [Bool.and_eq_true] at hc
        obtain ⟨hg, ⟨hf, hr⟩, ⟨hcl, hla⟩, hd⟩ := hc
        split at h
        · rename_i v hv
          have hgn : o.guard = none := by simpa using hg
          have hy : YieldsIf P ops S o (v.den m) a := .inl ⟨by simp [Region.wanted, hgn], fun w' hw' => (evP_run (m := m) (hS w' hw') (fun x => har.look_ok x) (fun x hk => har.eval x hk) hv).1⟩
          have hvok := (evP_run (m := m) (hS w hSw) (fun x => har.look_ok x) (fun x hk => har.eval x hk) hv).2
          rw [show (i :: r).length + fuel = (r.length + fuel) + 1 by simp only [List.length_cons]; omega]
          refine wpAnyLast_take ho hns hf hr hcl hla (fun c a w h => h.elim) hy hSw ?_
          exact takesL_sound hS hns r _ t' _ l' fuel _ w h (har.put (Agree.refl _ _) (Grows.refl _) hd hvok) hSw k
        · cases h
    · cases h
theorem takesL_cut (hS : ∀ w, S w → XOk w) (hns : Region.noSelect ops = true) {is : List Nat} {t : Nat → SV} {l l' : Array Bool} {ns : List Nat} {vs : List SV} {fuel : Nat} {a : Act} {w : World}
    (h : (takesL P ops ds N is t l).map (fun p => (ns.map p.1, p.2)) = some (vs, l')) (har : AR N m t (fun _ => none) a) (hw : S w)
    (k : ∀ a' t', AR N m t' (fun _ => none) a' → ns.map t' = vs → wpAnyLast P .any ops (onlyN Q) S ds fuel l' a' w) : wpAnyLast P .any ops (onlyN Q) S ds (is.length + fuel) l a w := by
  obtain ⟨⟨t', l2⟩, h1, h2⟩ := Option.map_eq_some_iff.1 h
  simp only [Prod.mk.injEq] at h2
  obtain ⟨h2, rfl⟩ := h2
  exact takesL_sound hS hns is t t' l l2 fuel a w h1 har hw fun a' har' => k a' t' har' h2
end
end Go.Ev
namespace Go.Proofs.YtlliefodchfpfaaDoor.PDescKinds
open Go.RowKit Go.Ev Go.Proofs.YtlliefodchfpfaaDoorV.PrintLast
/-- A region that draws, over its last stores. -/
theorem region_last {id : Nat} {ops : Array Oper} {Q : Exit → Act → World → Prop} (S : World → Prop) (ds : List Nat) {a : Act} {w : World}
    (h : wpAnyLast Tryd.prog .any ops (onlyN fun a w => Q .normal a w) S ds ops.size (Array.replicate ops.size false) a { w with drawn := w.drawn + 1 }) : (Code.region id ops true).wp Tryd.prog Q a w :=
  wp_mono (wp_region_last mixed h) fun e a w h => by cases e <;> first | exact h | exact h.elim
/-- What an act holds. -/
structure Kp (N : Nat) (ts : List (Nat × Value)) (a : Act) : Prop where
  size : a.tmps.size = N
  defers : a.defers = []
  vals : ∀ p ∈ ts, a.tmps.getD p.1 undef = p.2
section
variable {N : Nat} {ts us : List (Nat × Value)} {a : Act} {w w1 : World} {Q : Exit → Act → World → Prop}
theorem Kp.put (h : Kp N ts a) {d : Nat} {v : Value} (hd : (decide (d < N) && ts.all fun p => d != p.1) = true) : Kp N ((d, v) :: ts) (a.put (some d) v) := by
  simp only [Bool.and_eq_true, decide_eq_true_eq, List.all_eq_true, bne_iff_ne] at hd
  obtain ⟨h1, h2, h3, h4⟩ := put_all a N d v h.size hd.1
  refine ⟨h1, h2.trans h.defers, fun p hp => ?_⟩
  rcases List.mem_cons.1 hp with rfl | hp
  · exact h3
  · exact (h4 p.1 (hd.2 p hp)).trans (h.vals p hp)
theorem Kp.get (h : Kp N ts a) {d : Nat} {v : Value} (hm : (d, v) ∈ ts) : a.eval (.tmp d) = v := h.vals _ hm
theorem Kp.sub (h : Kp N ts a) (hs : ∀ p ∈ us, p ∈ ts) : Kp N us a := ⟨h.size, h.defers, fun p hp => h.vals p (hs p hp)⟩
theorem Kp.ar [XEnv] {m : Nat → Nat} {ss : List (Nat × SV)} (h : Kp N ts a) (w : World) (hs : ∀ p ∈ ss, (p.1, p.2.den m) ∈ ts ∧ p.2.ok fun _ => none) : AR N m (pickT ss) (fun _ => none) a :=
  ar_of w h.size h.defers (fun p hp => h.vals (p.1, p.2.den m) (hs p hp).1) fun p hp => (hs p hp).2
end
end Go.Proofs.YtlliefodchfpfaaDoor.PDescKinds
end
section
/- cameoref10.Patch: the regions that write, those that draw apart. -/
set_option linter.unusedSimpArgs false
set_option linter.unusedVariables false
set_option linter.unusedSectionVars false
namespace Go.Proofs.YtlliefodchfpfaaDoor.PDescKinds
open Go.RowKit Go.Ev
namespace RP
set_option maxRecDepth 100000
section
theorem ar_none {a : Act} {N : Nat} {ts us : List (Nat × Value)} (h : Kp N ts a) (hu : ∀ p ∈ us, p ∈ ts) (w : World) : @AR row0 N (fun _ => 0) (pickT (us.map fun p => (p.1, .val p.2))) (fun _ => none) a := by
  letI := row0
  refine h.ar w fun p hp => ?_
  obtain ⟨q, hq, rfl⟩ := List.mem_map.1 hp
  refine ⟨?_, ok_val _ _⟩
  rw [den_val]
  exact hu q hq
end
end RP
end Go.Proofs.YtlliefodchfpfaaDoor.PDescKinds
end
section
/- cameoref10.Patch: its contract. -/
set_option linter.unusedSimpArgs false
set_option linter.unusedVariables false
set_option linter.unusedSectionVars false
namespace Go.Proofs.YtlliefodchfpfaaDoor.PDescKinds
open Go.RowKit Go.Ev
theorem wpL_one {P : Program} {c : Code} {Q : Exit → Act → World → Prop} {a : Act} {w : World} : wpL P [c] Q a w = c.wp P Q a w := by
  show c.wp P (Exit.then (wpL P [] Q) Q) a w = _
  rw [then_nil]
/-- A piece that looks at no row. -/
theorem pieceZ {N k : Nat} {l : List Code} {fn : Func} {st : St} {ts bs : List Nat} {next : Nat} {r : Res} {m : Nat → Nat} {a : Act} {w : World} {Q : Exit → Act → World → Prop} (h : @evK row0 _ Tryd.prog ext (tab []) k N (seqL l) st (grab Tryd.prog fn ts bs next) = some r) (hr : @SR row0 w N m st a w)
    (hret : ∀ v, r = .ret v → ∀ m' a' w', a'.defers = [] → (results fn a'.tmps).run Tryd.prog w' = .ok (@SV.den row0 m' v) w' → Below w.heap.size w w' → Q .ret a' w')
    (hcut : ∀ ex d, r = .cut ex d → ∀ m' a' w', @SR row0 w N m' (d.st next) a' w' → Q ex.out a' w') : wpL Tryd.prog l Q a w := by
  letI := row0
  exact piece Ap.ctx0.mix Ap.ctx0.hX Ap.ctx0.hs Ap.ctx0.hXO Ap.ctx0.hG h (w0 := w) trivial hr hret hcut
namespace RP
set_option maxRecDepth 100000
section
end
end RP
end Go.Proofs.YtlliefodchfpfaaDoor.PDescKinds
end
section
/- cameolaw10.spoil: its pieces, by computing. -/
set_option linter.unusedSimpArgs false
set_option linter.unusedVariables false
set_option linter.unusedSectionVars false
namespace Go.Proofs.YtlliefodchfpfaaDoor.PDescKinds
open Go.RowKit Go.Ev
namespace Sp
set_option maxRecDepth 100000
end Sp
end Go.Proofs.YtlliefodchfpfaaDoor.PDescKinds
end
section
/- cameolaw10.spoil: it writes into its own moment alone. -/
set_option linter.unusedSimpArgs false
set_option linter.unusedVariables false
set_option linter.unusedSectionVars false
namespace Go.Proofs.YtlliefodchfpfaaDoor.PDescKinds
open Go.RowKit Go.Ev
section
variable {B hi : Nat} {w0 w w' : World}
end
namespace Sp
section
end
end Sp
end Go.Proofs.YtlliefodchfpfaaDoor.PDescKinds
end
section
/- cameolaw10.InvariantPatches: pieces of its regions, by computing. -/
set_option linter.unusedSimpArgs false
set_option linter.unusedVariables false
set_option linter.unusedSectionVars false
namespace Go.Ev
open Go.RowKit
section
variable [XEnv] {P : Program} {X : ExtFn} {G : GFn} {I : World → Prop} {w0 : World} {N : Nat} {call : CallFn} {os : Array Oper} {rest : List Oper} {Q : Exit → Act → World → Prop}
theorem opsR_sound (hX : ExtSound P X) (hI : I w0) (hs : Stable I) (hXO : ∀ w, I w → XOk w) (hcall : CallSound P I call) : ∀ (l : List Oper) (st st' : St) (m : Nat → Nat) (a : Act) (w : World), evOps P X call os N l st = some st' → SR w0 N m st a w →
    (∀ m' a' w', SR w0 N m' st' a' w' → wpList P os Q rest a' w') → wpList P os Q (l ++ rest) a w
  | [], st, st', m, a, w, h, hr, k => by
    simp only [evOps, Option.some.injEq] at h
    subst h
    exact k m a w hr
  | o :: r, st, st', m, a, w, h, hr, k => by
    unfold evOps at h
    cases hdg : dstOk N o.dst && knownG os st.tmps o with
    | false => rw [hdg] at h; cases h
    | true =>
      rw [hdg] at h
      rw [Bool.and_eq_true] at hdg
      obtain ⟨hd, hgk⟩ := hdg
      simp only [cond_true] at h
      show wpList P os Q (o :: (r ++ rest)) a w
      unfold wpList
      rw [want_eq hr.ar.tm o hgk]
      cases hw : wantS os st.tmps o with
      | true =>
        rw [hw] at h
        simp only [cond_true] at h
        simp only [if_true]
        split at h
        · rename_i v e he
          refine .inl (op_sound hX hI hs hXO hcall he (fun _ => hr.fresh _ (Nat.le_refl _)) (fun _ => hr.fresh) hr.ar.look_ok hr.ar.eval hr.mr ?_)
          intro m' w' hag hmr hv hg hall
          have hf := hall hr.fresh
          exact opsR_sound hX hI hs hXO hcall r _ st' m' _ w' h ⟨hmr, hr.ar.put hag hg hd hv, hf.1⟩ k
        · cases h
      | false =>
        rw [hw] at h
        simp only [cond_false] at h
        simp only [Bool.false_eq_true, if_false]
        exact opsR_sound hX hI hs hXO hcall r _ st' m _ w h ⟨hr.mr, (den_val m undef) ▸ hr.ar.put (v := .val undef) (Agree.refl _ _) (Grows.refl _) hd (ok_val _ _), hr.fresh⟩ k
/-- Operations of a region, by computing. -/
theorem opsPiece {m : Nat → Nat} {st : St} {a : Act} {w : World} (hmix : P.follows .mixedOrders = true) (hX : ExtSound P X) (hs : Stable I) (hXO : ∀ w, I w → XOk w) (hG : GivenSound P I G) {k : Nat} {l : List Oper} {ts bs : List Nat} {next : Nat} {c : Cut}
    (h : evOpsK P X (callWithK P G (evK P X G k)) os N l st (fun st => cutS ts bs next st) = some c) (hI : I w0) (hr : SR w0 N m st a w)
    (hk : ∀ m' a' w', SR w0 N m' (c.st next) a' w' → wpList P os Q rest a' w') : wpList P os Q (l ++ rest) a w := by
  rw [evOpsK_eq (callWithK_eq (fun N c st κ => evK_eq k N c st κ))] at h
  obtain ⟨st', h1, h2⟩ := Option.bind_eq_some_iff.1 h
  exact opsR_sound hX hI hs hXO (call_sound hs hG (ev_sound hmix hX hs hXO hG k).1) l st st' m a w h1 hr fun m' a' w' hr' => hk m' a' w' (cut_sound h2 hr')
end
end Go.Ev
end
section
/- cameolaw10.InvariantPatches: its regions. -/
set_option linter.unusedSimpArgs false
set_option linter.unusedVariables false
set_option linter.unusedSectionVars false
namespace Go.Proofs.YtlliefodchfpfaaDoor.PDescKinds
open Go.RowKit Go.Ev
theorem ownsRow_same {w w' : World} {B n z : Nat} {e : TypeId} {v : Value} {xs : List Value} (h : w.ownsRow B e z v n xs) (hs : ∀ g, v.ownBlock = some g → w'.heap[g]? = w.heap[g]?) : w'.ownsRow B e z v n xs := by
  refine ⟨h.1, ?_⟩
  rcases h.2 with h | ⟨g, cap, cur, rfl, h2, h3, h4⟩
  · exact .inl h
  · exact .inr ⟨g, cap, cur, rfl, h2, (hs g rfl).trans h3, h4⟩
namespace Lw
set_option maxRecDepth 100000
section
end
end Lw
end Go.Proofs.YtlliefodchfpfaaDoor.PDescKinds
end
section
/- cameolaw10.InvariantPatches: the questions, and what spoil leaves. -/
set_option linter.unusedSimpArgs false
set_option linter.unusedVariables false
set_option linter.unusedSectionVars false
namespace Go.Proofs.YtlliefodchfpfaaDoor.PDescKinds
open Go.RowKit Go.Ev
/-! Moments that read alike -/
namespace Lw
set_option maxRecDepth 100000
section
end
end Lw
end Go.Proofs.YtlliefodchfpfaaDoor.PDescKinds
end
end
section
/- More tools, as_ they were made for HeapGrows. -/
set_option linter.unusedSimpArgs false
set_option linter.unusedVariables false
set_option linter.unusedSectionVars false
namespace Go.Ev
open Go.RowKit
end Go.Ev
namespace Go.Proofs.YtlliefodchfpfaaDoorV.PrintLast
open Go.RowKit
section
variable {P : Program} {ops : Array Oper} {Q : Exit → Act → World → Prop} {md : Region.Mode} {S : World → Prop} {ds : List Nat}
theorem wpAnyLast_all {rs : List Nat} {fuel : Nat} {listed : Array Bool} {a : Act} {w : World} (hr : Region.ready md ops listed = rs) (hne : rs ≠ [])
    (h : ∀ i ∈ rs, wpOp P ops Q i (fun a' w' => (i ∉ ds → S w → S w') ∧ wpAnyLast P md ops Q S ds fuel (listed.setIfInBounds i true) a' w') a w) : wpAnyLast P md ops Q S ds (fuel + 1) listed a w :=
  ⟨fun h0 => absurd (hr ▸ h0) hne, hr ▸ h⟩
theorem wpAnyLast_done {listed : Array Bool} {a : Act} {w : World} (hr : Region.ready md ops listed = []) (h : Q .normal a w) :
    ∀ fuel, wpAnyLast P md ops Q S ds fuel listed a w
  | 0 => ⟨hr, h⟩
  | _ + 1 => ⟨fun _ => h, by rw [hr]; simp⟩
/-- One operation alone may come up now. -/
theorem wpAnyLast_one {i : Nat} {o : Oper} {l' : Array Bool} {fuel : Nat} {listed : Array Bool} {a : Act} {w : World} (hr : (Region.ready md ops listed == [i]) = true) (hi : ops[i]? = some o) (hg : o.guard = none) (hl : listed.setIfInBounds i true = l')
    (h : o.wp P a w (fun a' w' => (i ∉ ds → S w → S w') ∧ wpAnyLast P md ops Q S ds fuel l' a' w') Q) : wpAnyLast P md ops Q S ds (fuel + 1) listed a w := by
  subst hl
  refine wpAnyLast_all (rs := [i]) (by simpa using hr) (by simp) fun q hq => ?_
  obtain rfl : q = i := by simpa using hq
  exact Go.Proofs.YtlliefodchfpfaaDoor.PDescKinds.wpOp_of hi hg h
end
end Go.Proofs.YtlliefodchfpfaaDoorV.PrintLast
namespace Go.Proofs.YtlliefodchfpfaaDoor.PDescKinds
open Go.RowKit Go.Ev Go.Proofs.YtlliefodchfpfaaDoorV.PrintLast
set_option maxRecDepth 100000
/-- What is below B, and what is of no type of T, stays. -/
structure FrT (B : Nat) (T : List Nat) (w w' : World) : Prop where
  os : w'.os = w.os
  tape : w'.tape = w.tape
  output : w'.output = w.output
  size : w.heap.size ≤ w'.heap.size
  block : ∀ k, k < w.heap.size → (k < B ∨ ∀ cs ty c, w.heap[k]? = some (.cells cs ty c) → ty ∉ T) → w'.heap[k]? = w.heap[k]?
theorem FrT.of {B : Nat} {T : List Nat} {w w' : World} (h : Below w.heap.size w w') : FrT B T w w' := ⟨h.os, h.tape, h.output, h.size, fun k hk _ => h.block k hk⟩
theorem FrT.trans {B : Nat} {T : List Nat} {w w1 w2 : World} (h : FrT B T w w1) (g : FrT B T w1 w2) : FrT B T w w2 :=
  ⟨g.os.trans h.os, g.tape.trans h.tape, g.output.trans h.output, Nat.le_trans h.size g.size, fun k hk hc => by
    have e := h.block k hk hc
    refine (g.block k (Nat.lt_of_lt_of_le hk h.size) ?_).trans e
    rw [e]
    exact hc⟩
theorem FrT.mono {B B' : Nat} {T T' : List Nat} {w w' : World} (h : FrT B T w w') (hB : B' ≤ B) (hT : ∀ t ∈ T, t ∈ T') : FrT B' T' w w' :=
  ⟨h.os, h.tape, h.output, h.size, fun k hk hc => h.block k hk (hc.imp (fun h => by omega) fun h cs ty c e ht => h cs ty c e (hT _ ht))⟩
theorem FrT.below {B : Nat} {T : List Nat} {w w' : World} (h : FrT B T w w') (hB : B ≤ w.heap.size) : Below B w w' := ⟨h.os, h.tape, h.output, h.size, fun k hk => h.block k (by omega) (.inl hk)⟩
theorem FrT.own {B b e z n : Nat} {v : Value} {xs : List Value} {w w' : World} (h : w.ownsRow b e z v n xs) (hB : B ≤ b) (hg : w.grownBy w' v.ownBlock) : FrT B [e] w w' :=
  ⟨hg.os, hg.tape, hg.output, hg.size, fun k hk hc => hg.block k hk (fun he => by
    rcases h.2 with ⟨rfl, _⟩ | ⟨g, cap, cur, rfl, h1, h2, _⟩
    · cases he
    · cases he
      rcases hc with hc | hc
      · have hc : g < B := hc
        omega
      · exact hc _ _ _ h2 (by simp))⟩
theorem FrT.row {B b e z n : Nat} {T : List Nat} {v : Value} {xs : List Value} {w w' : World} (hf : FrT B T w w') (h : w.ownsRow b e z v n xs) (he : e ∉ T) : w'.ownsRow b e z v n xs :=
  ownsRow_same h fun g hg => by
    rcases h.2 with ⟨rfl, _⟩ | ⟨g', cap, cur, rfl, h1, h2, _⟩
    · cases hg
    · cases hg
      refine hf.block _ (Array.getElem?_eq_some_iff.1 h2).1 (.inr fun cs ty c hc => ?_)
      have h2 : w.heap[g']? = some (.cells cur e (0, 0)) := h2
      rw [h2] at hc
      cases hc
      exact he
section
variable {B : Nat} {T : List Nat} {w w' w0 : World} {a : Act} {Q : Exit → Act → World → Prop}
theorem Kp.sr {e : XEnv} {N : Nat} {ts : List (Nat × Value)} (h : Kp N ts a) (w : World) : @SR e w N (fun _ => 0) ((⟨ts.map fun p => (p.1, .val p.2), []⟩ : Cut).st 0) a w := by
  letI := e
  refine epoch h.size h.defers _ _ (fun p hp => ?_) (fun p hp => ?_)
  · obtain ⟨q, hq, rfl⟩ := List.mem_map.1 hp
    rw [den_val]
    exact h.vals q hq
  · obtain ⟨q, hq, rfl⟩ := List.mem_map.1 hp
    exact ok_val _ _
theorem SR.kp {e : XEnv} {N : Nat} {c : Cut} {ts : List (Nat × Value)} {m : Nat → Nat} {a' : Act} {w w' : World} {next : Nat} (hr : @SR e w N m (c.st next) a' w') (hk : ∀ p ∈ ts, (pickT c.ts p.1).known = true ∧ @SV.den e m (pickT c.ts p.1) = p.2) : Kp N ts a' := by
  letI := e
  refine ⟨hr.ar.size, hr.ar.defers, fun p hp => ?_⟩
  obtain ⟨h1, h2⟩ := hk p hp
  exact (hr.ar.tm p.1 h1).trans h2
theorem op_val {N : Nat} {o : Oper} {ts us : List (Nat × Value)} {v : Value} {d : Nat} {K : Act → World → Prop} (hk : Kp N ts a) (hu : ∀ p ∈ us, p ∈ ts) (hev : @evP row0 Tryd.prog (Ev.look (pickT (us.map fun p => (p.1, .val p.2)))) o = some (.val v)) (hd : o.dst = some d)
    (k : K (a.put (some d) v) w) : o.wp Tryd.prog a w K Q := by
  letI := row0
  have har := RP.ar_none hk hu w
  have := (evP_run (m := fun _ => 0) (xok_0 w) (fun x => har.look_ok x) (fun x hk => har.eval x hk) hev).1
  rw [den_val] at this
  unfold Oper.wp
  rw [this, Oper.upon_value, hd]
  exact k
theorem call_op {o : Oper} {f : FuncId} {xs : Array Operand} {ats : Array TypeId} {vs : Array Value} {a : Act} {w : World} {R : Ending → World → Prop} {K : Act → World → Prop} {Q : Exit → Act → World → Prop}
    (ho : o.op = .call { callee := .value (.func f), args := xs, argTypes := ats }) (he : enters Tryd.prog f = true) (hv : xs.map a.eval = vs) (hc : Calls Tryd.prog f vs w R) (hR : ∀ e w', R e w' → ∃ v, e = .returned v)
    (k : ∀ v w', R (.returned v) w' → K (a.put o.dst v) w') : o.wp Tryd.prog a w K Q := by
  have x2 : (execOp a.eval o).run Tryd.prog w = .ok (.enter f vs) w := by
    rw [← run_enters he vs w]
    unfold execOp
    simp only [ho, resolve, hv, Act.eval, Deferred.ofValue, Sem.run_bind, Sem.run_pure, Result.andThen_ok, invoke]
    simp
  unfold Oper.wp
  rw [x2, Oper.upon_enter]
  refine Calls.mono hc fun e w' hr => ?_
  obtain ⟨v, rfl⟩ := hR e w' hr
  exact k v w' hr
theorem SR.own {e : XEnv} {N : Nat} {c : Cut} {m : Nat → Nat} {a : Act} {w w' : World} {next b : Nat} {l : List Value} {ty : TypeId} (hr : @SR e w N m (c.st next) a w') (h : pickM c.bs b = some ⟨ty, l.map SV.val⟩) : w.heap.size ≤ m b ∧ w'.heap[m b]? = some (.cells l.toArray ty (0, 0)) := by
  letI := e
  obtain ⟨b1, b2, _⟩ := hr.mr.blk b ⟨ty, l.map SV.val⟩ h
  refine ⟨b1, ?_⟩
  rw [b2, List.map_map, show (SV.den m ∘ SV.val) = _root_.id from funext fun v => den_val _ v, List.map_id]
theorem SR.bel {e : XEnv} {N : Nat} {st : St} {m : Nat → Nat} {a : Act} {w w' : World} (hr : @SR e w N m st a w') : Below w.heap.size w w' := by
  letI := e
  exact hr.mr.below
theorem pair_tail {os : Array Oper} {o : Oper} {l : List Oper} {N d3 x y : Nat} {f : FuncId} {xs : Array Operand} {ats : Array TypeId} {vs : Array Value} {ts : List (Nat × Value)} {R : Ending → World → Prop} (hk : Kp N ts a)
    (ho : o.op = .call { callee := .value (.func f), args := xs, argTypes := ats }) (hg : o.guard = none) (hd : o.dst = some d3) (he : enters Tryd.prog f = true) (hv : xs.map a.eval = vs) (hc : Calls Tryd.prog f vs w R) (hR : ∀ e w', R e w' → ∃ p q, e = .returned (.tuple #[p, q]))
    (e2 : ∀ p q, letI := row0; (reads Tryd.prog N l (pickT [(d3, .val (.tuple #[p, q]))])).map (fun t => [x, y].map t) = some [.val p, .val q]) (hkeep : (decide (d3 < N) && ts.all fun p => d3 != p.1) = true) (hoff : offDs l (ts.map (·.1)) = true)
    (k : ∀ p q a' w', R (.returned (.tuple #[p, q])) w' → Kp N ((x, p) :: (y, q) :: ts) a' → Q .normal a' w') : wpList Tryd.prog os Q (o :: (l ++ [])) a w := by
  refine wpList_plain hg fun K hK => ?_
  refine call_op ho he hv hc (fun e w' hr => ?_) fun u w1 hr => ?_
  · obtain ⟨p, q, rfl⟩ := hR e w' hr
    exact ⟨_, rfl⟩
  obtain ⟨p, q, hu⟩ := hR _ _ hr
  cases hu
  rw [hd]
  refine hK _ _ ?_
  have K1 := hk.put (d := d3) (v := .tuple #[p, q]) hkeep
  generalize a.put (some d3) (.tuple #[p, q]) = a1 at K1 ⊢
  refine @wpList_readsF row0 _ _ (fun _ => 0) _ _ _ _ _ _ _ a1 w1 (ts.map (·.1)) (xok_0 w1) (e2 p q) hoff (RP.ar_none (us := [(d3, .tuple #[p, q])]) K1 (by simp) w1) fun a2 t2 har2 e hk2 => ?_
  simp only [List.map_cons, List.map_nil, List.cons.injEq, and_true] at e
  obtain ⟨ex, ey⟩ := e
  refine k p q a2 w1 hr ⟨@AR.size row0 _ _ _ _ _ har2, @AR.defers row0 _ _ _ _ _ har2, fun r hr => ?_⟩
  rcases List.mem_cons.1 hr with rfl | hr
  · exact @ar_eval row0 _ _ _ _ _ har2 _ _ ex
  rcases List.mem_cons.1 hr with rfl | hr
  · exact @ar_eval row0 _ _ _ _ _ har2 _ _ ey
  · exact (hk2 r.1 (List.mem_map.2 ⟨r, hr, rfl⟩)).trans (K1.vals r (List.mem_cons_of_mem _ hr))
end
end Go.Proofs.YtlliefodchfpfaaDoor.PDescKinds
end
section
/- script.Check, the reference's Check, Same, over a script's rows. -/
set_option linter.unusedSimpArgs false
set_option linter.unusedVariables false
set_option linter.unusedSectionVars false
namespace Go.Proofs.YtlliefodchfpfaaDoor.PDescKinds
open Go.RowKit Go.Ev
set_option maxRecDepth 100000
abbrev scC (x : Sc) (k : Nat) : List SV := [.val (.int .i64 x.cap), .val (.int .i64 x.fuel), .val (.int .i64 x.dep), .xs [k, 0], .xs [k, 1]]
abbrev scA (x : Sc) (k : Nat) : SV := .arr (scC x k)
def newOk (c f d : Int) : Bool := !(decide (c < 0)) && (!(decide (c > 65536)) && (!(decide (f < 0)) && (!(decide (d < 1)) && !(decide (d > 256)))))
namespace S
def soundOps (x : Sc) (i : Nat) : Bool := decide ((x.bl i : Int) ≤ 256) && !(decide (badOp x i ≥ 0))
def chk (x : Sc) : Int × Int := bif newOk x.cap x.fuel x.dep then (bif decide ((x.sn : Int) > 4096) then (0, 6) else bif decide ((x.bn : Int) > 1024) then (0, 6) else (seek (fun i => bif soundOps x i then none else some ((i : Int), 280)) x.bn 0).getD (0, 0)) else (0, 7)
end S
namespace R
def chk (x : Sc) : Int × Int := bif newOk x.cap x.fuel x.dep then (bif decide ((x.sn : Int) > 4096) then (0, 6) else bif decide ((x.bn : Int) > 1024) then (0, 6) else (seek (fun i => bif soundOps x i then none else some ((i : Int), 280)) x.bn 0).getD (0, 0)) else (0, 7)
end R
abbrev pairV (z : Int × Int) : SV := .val (.tuple #[.int .i64 z.1, .int .i64 z.2])
/-! A memory of numbers, made -/
def NewOut (w : World) : Ending → World → Prop := fun e w' => ∃ p, e = .returned (.tuple #[p, .int .i64 0]) ∧ Below w.heap.size w w'
theorem scC_ok [XEnv] (x : Sc) (k : Nat) (m : Mem) : ∀ s ∈ scC x k, s.ok m := fun s hs => by
  simp only [List.mem_cons, List.not_mem_nil, or_false] at hs
  rcases hs with rfl | rfl | rfl | rfl | rfl <;> first | exact ok_val _ _ | exact ok_xs
theorem scA_ok [XEnv] (x : Sc) (k : Nat) (m : Mem) : ∀ s ∈ [scA x k], s.ok m := fun s hs => by
  obtain rfl := List.mem_singleton.1 hs
  exact ok_arr.2 (scC_ok x k m)
section
variable {w : World} {a : Act}
theorem n25 (cap fuel depth : Int) : letI := row0
    evK Tryd.prog ext (tab []) 80 31 (seqL ((bodyOf Tryd.f25).take 4)) (⟨argS [.val (.int .i64 cap), .val (.int .i64 fuel), .val (.int .i64 depth)], fun _ => none, 0⟩) (grab Tryd.prog Tryd.f25 [6, 7] [0] 1) =
(bif decide (cap < 0) then some (Res.ret (SV.val (Value.tuple #[Value.pointer none, Value.int IntKind.i64 7]))) else 
     (bif decide (cap > 65536) then some (Res.ret (SV.val (Value.tuple #[Value.pointer none, Value.int IntKind.i64 7]))) else 
      (bif decide (fuel < 0) then some (Res.ret (SV.val (Value.tuple #[Value.pointer none, Value.int IntKind.i64 7]))) else 
       (bif decide (depth < 1) then some (Res.ret (SV.val (Value.tuple #[Value.pointer none, Value.int IntKind.i64 7]))) else 
        (bif decide (depth > 256) then some (Res.ret (SV.val (Value.tuple #[Value.pointer none, Value.int IntKind.i64 7]))) else some (Res.cut Ex.normal (Cut.mk [(6, SV.ptr 0 0), (7, SV.val (Value.int IntKind.i64 0))] [(0, Blk.mk 79 [SV.val (Value.int IntKind.i64 cap), SV.val (Value.int IntKind.i64 fuel), SV.val (Value.int IntKind.i64 depth), SV.val (Value.int IntKind.i64 0), SV.val (Value.slice none 0 0)])]))))))) := by kernel_rfl
theorem n25r (v u : Value) : letI := row0
    evK Tryd.prog ext (tab []) 80 31 (seqL ((bodyOf Tryd.f25).drop 4)) ((⟨[(6, .val v), (7, .val u)], []⟩ : Cut).st 0) (grab Tryd.prog Tryd.f25 [] [] 0) = some (.ret (.val (.tuple #[v, u]))) := by kernel_rfl
theorem New25.calls {cap fuel depth : Int} (h : newOk cap fuel depth = true) : Calls Tryd.prog 25 #[.int .i64 cap, .int .i64 fuel, .int .i64 depth] w (NewOut w) := by
  simp only [newOk, Bool.and_eq_true, Bool.not_eq_true', decide_eq_false_iff_not] at h
  refine calls_of_wp Tryd.func25 (c := Tryd.f25.body.getD .skip) (by kernel_rfl) ?_
  refine wpL_flat _ ?_
  show wpL Tryd.prog (bodyOf Tryd.f25) _ _ _
  rw [← List.take_append_drop 4 (bodyOf Tryd.f25), wpL_app]
  have hst := @start_sound row0 Tryd.f25 [.val (.int .i64 cap), .val (.int .i64 fuel), .val (.int .i64 depth)] (fun y hy => by
    simp only [List.mem_cons, List.not_mem_nil, or_false] at hy
    rcases hy with rfl | rfl | rfl <;> exact @ok_val row0 _ _) w (fun _ => 0)
  simp only [List.map_cons, List.map_nil, @den_val row0] at hst
  have ev := n25 cap fuel depth
  rw [decide_eq_false h.1, decide_eq_false h.2.1, decide_eq_false h.2.2.1, decide_eq_false h.2.2.2.1, decide_eq_false h.2.2.2.2] at ev
  refine pieceZ ev hst (fun v hv => by cases hv) (fun ex d hd m a1 w1 hr => ?_)
  cases hd
  have hb := (@SR.mr row0 _ _ _ _ _ _ hr).below
  have K1 : Kp 31 [(6, .pointer (some ⟨m 0, 0, none⟩)), (7, .int .i64 0)] a1 := SR.kp hr fun p hp => by
    simp only [List.mem_cons, List.not_mem_nil, or_false] at hp
    rcases hp with rfl | rfl
    · exact ⟨rfl, @den_ptr row0 _ _ _⟩
    · exact ⟨rfl, @den_val row0 _ _⟩
  show wpL Tryd.prog ((bodyOf Tryd.f25).drop 4) _ a1 w1
  refine pieceZ (n25r _ _) (K1.sr w1) (fun v hv m' a' w' hd hres hb' => ?_) (fun ex d hd => by cases hd)
  cases hv
  rw [@den_val row0] at hres
  exact ⟨hd, _, hres, _, rfl, hb.trans (hb'.mono hb.size)⟩
theorem n27 (cap fuel depth : Int) : letI := row0
    evK Tryd.prog ext (tab []) 80 31 (seqL ((bodyOf Tryd.f27).take 4)) (⟨argS [.val (.int .i64 cap), .val (.int .i64 fuel), .val (.int .i64 depth)], fun _ => none, 0⟩) (grab Tryd.prog Tryd.f27 [6, 7] [0] 1) =
(bif decide (cap < 0) then some (Res.ret (SV.val (Value.tuple #[Value.pointer none, Value.int IntKind.i64 7]))) else 
     (bif decide (cap > 65536) then some (Res.ret (SV.val (Value.tuple #[Value.pointer none, Value.int IntKind.i64 7]))) else 
      (bif decide (fuel < 0) then some (Res.ret (SV.val (Value.tuple #[Value.pointer none, Value.int IntKind.i64 7]))) else 
       (bif decide (depth < 1) then some (Res.ret (SV.val (Value.tuple #[Value.pointer none, Value.int IntKind.i64 7]))) else 
        (bif decide (depth > 256) then some (Res.ret (SV.val (Value.tuple #[Value.pointer none, Value.int IntKind.i64 7]))) else some (Res.cut Ex.normal (Cut.mk [(6, SV.ptr 0 0), (7, SV.val (Value.int IntKind.i64 0))] [(0, Blk.mk 86 [SV.val (Value.int IntKind.i64 cap), SV.val (Value.int IntKind.i64 fuel), SV.val (Value.int IntKind.i64 depth), SV.val (Value.int IntKind.i64 0), SV.val (Value.slice none 0 0)])]))))))) := by kernel_rfl
theorem n27r (v u : Value) : letI := row0
    evK Tryd.prog ext (tab []) 80 31 (seqL ((bodyOf Tryd.f27).drop 4)) ((⟨[(6, .val v), (7, .val u)], []⟩ : Cut).st 0) (grab Tryd.prog Tryd.f27 [] [] 0) = some (.ret (.val (.tuple #[v, u]))) := by kernel_rfl
theorem New27.calls {cap fuel depth : Int} (h : newOk cap fuel depth = true) : Calls Tryd.prog 27 #[.int .i64 cap, .int .i64 fuel, .int .i64 depth] w (NewOut w) := by
  simp only [newOk, Bool.and_eq_true, Bool.not_eq_true', decide_eq_false_iff_not] at h
  refine calls_of_wp Tryd.func27 (c := Tryd.f27.body.getD .skip) (by kernel_rfl) ?_
  refine wpL_flat _ ?_
  show wpL Tryd.prog (bodyOf Tryd.f27) _ _ _
  rw [← List.take_append_drop 4 (bodyOf Tryd.f27), wpL_app]
  have hst := @start_sound row0 Tryd.f27 [.val (.int .i64 cap), .val (.int .i64 fuel), .val (.int .i64 depth)] (fun y hy => by
    simp only [List.mem_cons, List.not_mem_nil, or_false] at hy
    rcases hy with rfl | rfl | rfl <;> exact @ok_val row0 _ _) w (fun _ => 0)
  simp only [List.map_cons, List.map_nil, @den_val row0] at hst
  have ev := n27 cap fuel depth
  rw [decide_eq_false h.1, decide_eq_false h.2.1, decide_eq_false h.2.2.1, decide_eq_false h.2.2.2.1, decide_eq_false h.2.2.2.2] at ev
  refine pieceZ ev hst (fun v hv => by cases hv) (fun ex d hd m a1 w1 hr => ?_)
  cases hd
  have hb := (@SR.mr row0 _ _ _ _ _ _ hr).below
  have K1 : Kp 31 [(6, .pointer (some ⟨m 0, 0, none⟩)), (7, .int .i64 0)] a1 := SR.kp hr fun p hp => by
    simp only [List.mem_cons, List.not_mem_nil, or_false] at hp
    rcases hp with rfl | rfl
    · exact ⟨rfl, @den_ptr row0 _ _ _⟩
    · exact ⟨rfl, @den_val row0 _ _⟩
  show wpL Tryd.prog ((bodyOf Tryd.f27).drop 4) _ a1 w1
  refine pieceZ (n27r _ _) (K1.sr w1) (fun v hv m' a' w' hd hres hb' => ?_) (fun ex d hd => by cases hd)
  cases hv
  rw [@den_val row0] at hres
  exact ⟨hd, _, hres, _, rfl, hb.trans (hb'.mono hb.size)⟩
end
abbrev H8 (x : Sc) (k i : Nat) : Cut := ⟨[(32, .xs [k, 0]), (33, .val (.int .i64 (x.bn : Int))), (34, .val (.int .i64 (i : Int)))], []⟩
abbrev N8 (x : Sc) (k : Nat) (p : Value) : Cut := ⟨[(1, .ptr 0 0), (4, .val p), (5, .val (.int .i64 0))], [(0, ⟨38, scC x k⟩)]⟩
noncomputable abbrev os8 : Array Oper := opsOf ((bodyOf Tryd.f8).getD 1 .skip)
theorem q8_eq : bodyOf Tryd.f8 = (bodyOf Tryd.f8).take 1 ++ (.region 1 os8 false :: (bodyOf Tryd.f8).drop 2) := by kernel_rfl
theorem os8_eq : os8.toList = os8.toList.take 6 ++ (os8.toList.getD 6 default :: (os8.toList.drop 7 ++ [])) := by kernel_rfl
theorem q8_no (x : Sc) (ad : Nat → Ad) (k : Nat) : letI := rowsS x ad
    evK Tryd.prog ext (tab2 A1L2 (SLs x)) 80 44 (seqL (preOf (bodyOf Tryd.f8))) (⟨argS [scA x k], fun _ => none, 0⟩) (grab Tryd.prog Tryd.f8 [32, 33, 34] [] 0) =
(bif decide (x.cap < 0) then some (Res.ret (SV.val (Value.tuple #[Value.int IntKind.i64 0, Value.int IntKind.i64 7]))) else 
     (bif decide (x.cap > 65536) then some (Res.ret (SV.val (Value.tuple #[Value.int IntKind.i64 0, Value.int IntKind.i64 7]))) else 
      (bif decide (x.fuel < 0) then some (Res.ret (SV.val (Value.tuple #[Value.int IntKind.i64 0, Value.int IntKind.i64 7]))) else 
       (bif decide (x.dep < 1) then some (Res.ret (SV.val (Value.tuple #[Value.int IntKind.i64 0, Value.int IntKind.i64 7]))) else 
        (bif decide (x.dep > 256) then some (Res.ret (SV.val (Value.tuple #[Value.int IntKind.i64 0, Value.int IntKind.i64 7]))) else none))))) := by kernel_rfl
theorem q8_a (x : Sc) (ad : Nat → Ad) (k : Nat) : letI := rowsS x ad
    evK Tryd.prog ext (tab2 A1L2 (SLs x)) 80 44 (seqL ((bodyOf Tryd.f8).take 1)) (⟨argS [scA x k], fun _ => none, 0⟩) (grab Tryd.prog Tryd.f8 [1] [0] 1) = some (.cut .normal ⟨[(1, .ptr 0 0)], [(0, ⟨38, scC x k⟩)]⟩) := by kernel_rfl
theorem q8_b (x : Sc) (ad : Nat → Ad) (k : Nat) : letI := rowsS x ad
    evOpsK Tryd.prog ext (callWithK Tryd.prog (tab2 A1L2 (SLs x)) (evK Tryd.prog ext (tab2 A1L2 (SLs x)) 80)) os8 44 (os8.toList.take 6) ((⟨[(1, .ptr 0 0)], [(0, ⟨38, scC x k⟩)]⟩ : Cut).st 1) (fun st => cutS [1, 10, 12, 14] [0] 1 st) =
    some ⟨[(1, .ptr 0 0), (10, .val (.int .i64 x.cap)), (12, .val (.int .i64 x.fuel)), (14, .val (.int .i64 x.dep))], [(0, ⟨38, scC x k⟩)]⟩ := by kernel_rfl
theorem q8_t (p q : Value) : letI := row0
    (reads Tryd.prog 44 (os8.toList.drop 7) (pickT [(15, .val (.tuple #[p, q]))])).map (fun t => [4, 5].map t) = some [.val p, .val q] := by kernel_rfl
theorem q8_c (x : Sc) (ad : Nat → Ad) (k : Nat) (p : Value) : letI := rowsS x ad
    evK Tryd.prog ext (tab2 A1L2 (SLs x)) 80 44 (seqL (preOf ((bodyOf Tryd.f8).drop 2))) ((N8 x k p).st 1) (grab Tryd.prog Tryd.f8 [32, 33, 34] [] 0) =
(bif decide ((x.sn : Int) > 4096) then some (Res.ret (SV.val (Value.tuple #[Value.int IntKind.i64 0, Value.int IntKind.i64 6]))) else 
     (bif decide ((x.bn : Int) > 1024) then some (Res.ret (SV.val (Value.tuple #[Value.int IntKind.i64 0, Value.int IntKind.i64 6]))) else some (Res.cut Ex.normal (Cut.mk [(32, SV.xs [k, 0]), (33, SV.val (Value.int IntKind.i64 (x.bn : Int))), (34, SV.val (Value.int IntKind.i64 0))] [])))) := by kernel_rfl
theorem q8_r (x : Sc) (ad : Nat → Ad) (k i : Nat) : letI := rowsS x ad
    evK Tryd.prog ext (tab2 A1L2 (SLs x)) 80 44 (seqL (flat (roundOf ((bodyOf Tryd.f8).drop 2)))) ((H8 x k i).st 0) (grab Tryd.prog Tryd.f8 [32, 33, 34] [] 0) =
(bif decide ((i : Int) < (x.bn : Int)) then 
     (bif decide (0 ≤ (i : Int)) && decide ((i : Int) < (x.bn : Int)) then 
      (bif decide ((x.bl (i : Int).toNat : Int) ≤ 256) then 
       (bif !!decide (S.badOp x (i : Int).toNat ≥ 0) then some (Res.ret (SV.val (Value.tuple #[Value.int IntKind.i64 (i : Int), Value.int IntKind.i64 280]))) else some (Res.cut Ex.normal (Cut.mk [(32, SV.xs [k, 0]), (33, SV.val (Value.int IntKind.i64 (x.bn : Int))), (34, SV.val (Value.int IntKind.i64 (IntKind.i64.wrap ((i : Int) + 1))))] []))) else some (Res.ret (SV.val (Value.tuple #[Value.int IntKind.i64 (i : Int), Value.int IntKind.i64 280])))) else none) else some (Res.cut (Ex.exit 0) (Cut.mk [(32, SV.xs [k, 0]), (33, SV.val (Value.int IntKind.i64 (x.bn : Int))), (34, SV.val (Value.int IntKind.i64 (i : Int)))] []))) := by kernel_rfl
theorem q8_e (x : Sc) (ad : Nat → Ad) (k i : Nat) : letI := rowsS x ad
    evK Tryd.prog ext (tab2 A1L2 (SLs x)) 80 44 (seqL (postOf ((bodyOf Tryd.f8).drop 2))) ((H8 x k i).st 0) (grab Tryd.prog Tryd.f8 [32, 33, 34] [] 0) = some (.ret (.val (.tuple #[.int .i64 0, .int .i64 0]))) := by kernel_rfl
theorem q8_head (x : Sc) (ad : Nat → Ad) (k : Nat) (hx : Fits x) (hn : newOk x.cap x.fuel x.dep = true) {v : SV}
    (hrest : letI := rowsS x ad; ∀ p : Value, Runs Tryd.prog (InvS x ad) 44 Tryd.f8 v [] ((bodyOf Tryd.f8).drop 2) ((N8 x k p).st 1)) : letI := rowsS x ad
    Runs Tryd.prog (InvS x ad) 44 Tryd.f8 v [] (bodyOf Tryd.f8) (⟨argS [scA x k], fun _ => none, 0⟩) := by
  letI := rowsS x ad
  have C := ctxS x ad (l := A1L2) A1ents2 (sSLs x ad hx)
  intro w0 hI m a w hr
  rw [q8_eq, wpL_app]
  refine piece C.mix C.hX C.hs C.hXO C.hG (q8_a x ad k) hI hr (fun v hv => by cases hv) (fun ex d hd m1 a1 w1 hr1 => ?_)
  cases hd
  show (Code.region 1 os8 false).wp Tryd.prog _ a1 w1
  refine wp_region_list ?_
  rw [os8_eq]
  refine opsPiece C.mix C.hX C.hs C.hXO C.hG (q8_b x ad k) hI hr1 fun m2 a2 w2 hr2 => ?_
  have K2 : Kp 44 [(1, .pointer (some ⟨m2 0, 0, none⟩)), (10, .int .i64 x.cap), (12, .int .i64 x.fuel), (14, .int .i64 x.dep)] a2 := SR.kp hr2 fun p hp => by
    simp only [List.mem_cons, List.not_mem_nil, or_false] at hp
    rcases hp with rfl | rfl | rfl | rfl
    · exact ⟨rfl, den_ptr _ _ _⟩
    · exact ⟨rfl, den_val _ _⟩
    · exact ⟨rfl, den_val _ _⟩
    · exact ⟨rfl, den_val _ _⟩
  refine pair_tail (xs := #[.tmp 10, .tmp 12, .tmp 14]) (ats := #[3, 3, 3]) (x := 4) (y := 5) (f := 25) (d3 := 15) K2 (by kernel_rfl) (by kernel_rfl) (by kernel_rfl) (by kernel_rfl) (vs := #[.int .i64 x.cap, .int .i64 x.fuel, .int .i64 x.dep]) ?_ (New25.calls hn) (fun e w' ⟨p, he, _⟩ => ⟨p, _, he⟩) (q8_t) (by kernel_rfl) (by kernel_rfl) fun p q a3 w3 hR K3 => ?_
  · rw [List.map_toArray, List.map_cons, List.map_cons, List.map_cons, List.map_nil, K2.get (d := 10) (v := .int .i64 x.cap) (by simp), K2.get (d := 12) (v := .int .i64 x.fuel) (by simp), K2.get (d := 14) (v := .int .i64 x.dep) (by simp)]
  obtain ⟨p', he, hb⟩ := hR
  cases he
  refine hrest p w0 hI m2 a3 w3 (epochB (hr2.mr.below.trans (hb.mono hr2.mr.below.size)) K3.size K3.defers _ _ m2 (fun r hp => ?_) (fun r hp => ?_) (fun b k' hk => ?_) (fun b b' k1 k2 h1 h2 h3 => hr2.mr.inj b b' k1 k2 h1 h2 h3) (fun b hb' => hr2.fresh b hb'))
  · simp only [List.mem_cons, List.not_mem_nil, or_false] at hp
    rcases hp with rfl | rfl | rfl
    · rw [den_ptr]
      exact K3.vals (1, _) (by simp)
    · rw [den_val]
      exact K3.vals (4, _) (by simp)
    · rw [den_val]
      exact K3.vals (5, _) (by simp)
  · simp only [List.mem_cons, List.not_mem_nil, or_false] at hp
    rcases hp with rfl | rfl | rfl
    · exact hr2.ar.ok 1
    · exact ok_val _ _
    · exact ok_val _ _
  · obtain ⟨g1, g2, g3⟩ := hr2.mr.blk b k' hk
    exact ⟨g1, (hb.block _ (Array.getElem?_eq_some_iff.1 g2).1).trans g2, g3⟩
theorem q8_runs (x : Sc) (ad : Nat → Ad) (k : Nat) (hx : Fits x) : letI := rowsS x ad
    Runs Tryd.prog (InvS x ad) 44 Tryd.f8 (pairV (S.chk x)) [] (bodyOf Tryd.f8) (⟨argS [scA x k], fun _ => none, 0⟩) := by
  letI := rowsS x ad
  have C := ctxS x ad (l := A1L2) A1ents2 (sSLs x ad hx)
  cases hn : newOk x.cap x.fuel x.dep with
  | false =>
    have e : S.chk x = (0, 7) := by unfold S.chk; rw [hn]; rfl
    have ev : _ = some (Res.ret (pairV (0, 7))) := (q8_no x ad k).trans (by
      unfold newOk at hn
      revert hn
      cases decide (x.cap < 0) <;> cases decide (x.cap > 65536) <;> cases decide (x.fuel < 0) <;> cases decide (x.dep < 1) <;> cases decide (x.dep > 256) <;> simp)
    rw [e, split_loop (bodyOf Tryd.f8) (by kernel_rfl)]
    exact Runs.app (Runs.ret C ev)
  | true =>
    refine q8_head x ad k hx hn fun p => ?_
    have ev := q8_c x ad k p
    cases h1 : decide ((x.sn : Int) > 4096) with
    | true =>
      have e : S.chk x = (0, 6) := by unfold S.chk; rw [hn, h1]; rfl
      rw [h1] at ev
      rw [e, split_loop ((bodyOf Tryd.f8).drop 2) (by kernel_rfl)]
      exact Runs.app (Runs.ret C ev)
    | false =>
    cases h2 : decide ((x.bn : Int) > 1024) with
    | true =>
      have e : S.chk x = (0, 6) := by unfold S.chk; rw [hn, h1, h2]; rfl
      rw [h1, h2] at ev
      rw [e, split_loop ((bodyOf Tryd.f8).drop 2) (by kernel_rfl)]
      exact Runs.app (Runs.ret C ev)
    | false =>
    have e : S.chk x = (seek (fun i => bif S.soundOps x i then none else some ((i : Int), 280)) x.bn 0).getD (0, 0) := by unfold S.chk; rw [hn, h1, h2]; rfl
    rw [h1, h2] at ev
    rw [e]
    refine Runs.seekFn C (n := x.bn) (p := fun i => bif S.soundOps x i then none else some ((i : Int), 280)) (f := pairV) (z := (0, 0)) (hd := fun i => H8 x k i) (c' := H8 x k x.bn) (by kernel_rfl) ev (fun i hi => ?_) ?_ (fun _ => ?_)
    · refine (q8_r x ad k i).trans ?_
      rw [decide_eq_true (by omega : (i : Int) < (x.bn : Int)), decide_eq_true (by omega : (0 : Int) ≤ (i : Int)), Int.toNat_natCast, wrb hi hx.b]
      unfold S.soundOps
      cases h3 : decide ((x.bl i : Int) ≤ 256) <;> cases h4 : decide (S.badOp x i ≥ 0) <;> rfl
    · refine (q8_r x ad k x.bn).trans ?_
      rw [decide_eq_false (by omega : ¬(x.bn : Int) < (x.bn : Int))]
      rfl
    · exact Runs.ret C (q8_e x ad k x.bn)
def chkC (g : Int × Int) (x : Sc) : List SV → Option (DT SV)
  | [.arr [.val (.int .i64 c), .val (.int .i64 u), .val (.int .i64 d), .xs [k, 0], .xs [k', 1]]] => some (.node (decide (c = x.cap) && (decide (u = x.fuel) && (decide (d = x.dep) && Nat.beq k k'))) (.leaf (pairV g)) .bad)
  | _ => none
theorem e8 (x : Sc) (ad : Nat → Ad) (hx : Fits x) : EntS x ad (8, fun args _ => chkC (S.chk x) x args) := by
  letI := rowsS x ad
  refine EntryS.of (fun args t v h1 h2 => ?_) (invS_stable x ad)
  unfold chkC at h1
  split at h1
  · rename_i c u d k k'
    cases h1
    cases hf : (decide (c = x.cap) && (decide (u = x.fuel) && (decide (d = x.dep) && Nat.beq k k'))) with
    | false => rw [hf] at h2; cases h2
    | true =>
      rw [hf] at h2
      cases h2
      simp only [Bool.and_eq_true, decide_eq_true_eq] at hf
      obtain ⟨rfl, rfl, rfl, hk⟩ := hf
      have := Nat.eq_of_beq_eq_true hk
      subst this
      refine ⟨ok_val _ _, scA_ok x k _, fun w m hI => ?_⟩
      exact Runs.calls (body := Tryd.f8.body.getD .skip) Tryd.func8 (by kernel_rfl) (by kernel_rfl) (scA_ok x k _) (q8_runs x ad k hx) w hI m
  · cases h1
abbrev H9 (x : Sc) (k i : Nat) : Cut := ⟨[(1, .ptr 0 0), (6, .val (.int .i64 (i : Int)))], [(0, ⟨38, scC x k⟩)]⟩
abbrev N9 (x : Sc) (k : Nat) (p : Value) : Cut := ⟨[(1, .ptr 0 0), (4, .val p), (5, .val (.int .i64 0))], [(0, ⟨38, scC x k⟩)]⟩
noncomputable abbrev os9 : Array Oper := opsOf ((bodyOf Tryd.f9).getD 1 .skip)
theorem q9_eq : bodyOf Tryd.f9 = (bodyOf Tryd.f9).take 1 ++ (.region 1 os9 false :: (bodyOf Tryd.f9).drop 2) := by kernel_rfl
theorem os9_eq : os9.toList = os9.toList.take 6 ++ (os9.toList.getD 6 default :: (os9.toList.drop 7 ++ [])) := by kernel_rfl
theorem q9_no (x : Sc) (ad : Nat → Ad) (k : Nat) : letI := rowsS x ad
    evK Tryd.prog ext (tab2 A1L2 (SLs x)) 80 44 (seqL (preOf (bodyOf Tryd.f9))) (⟨argS [scA x k], fun _ => none, 0⟩) (grab Tryd.prog Tryd.f9 [1, 6] [0] 1) =
(bif decide (x.cap < 0) then some (Res.ret (SV.val (Value.tuple #[Value.int IntKind.i64 0, Value.int IntKind.i64 7]))) else 
     (bif decide (x.cap > 65536) then some (Res.ret (SV.val (Value.tuple #[Value.int IntKind.i64 0, Value.int IntKind.i64 7]))) else 
      (bif decide (x.fuel < 0) then some (Res.ret (SV.val (Value.tuple #[Value.int IntKind.i64 0, Value.int IntKind.i64 7]))) else 
       (bif decide (x.dep < 1) then some (Res.ret (SV.val (Value.tuple #[Value.int IntKind.i64 0, Value.int IntKind.i64 7]))) else 
        (bif decide (x.dep > 256) then some (Res.ret (SV.val (Value.tuple #[Value.int IntKind.i64 0, Value.int IntKind.i64 7]))) else none))))) := by kernel_rfl
theorem q9_a (x : Sc) (ad : Nat → Ad) (k : Nat) : letI := rowsS x ad
    evK Tryd.prog ext (tab2 A1L2 (SLs x)) 80 44 (seqL ((bodyOf Tryd.f9).take 1)) (⟨argS [scA x k], fun _ => none, 0⟩) (grab Tryd.prog Tryd.f9 [1] [0] 1) = some (.cut .normal ⟨[(1, .ptr 0 0)], [(0, ⟨38, scC x k⟩)]⟩) := by kernel_rfl
theorem q9_b (x : Sc) (ad : Nat → Ad) (k : Nat) : letI := rowsS x ad
    evOpsK Tryd.prog ext (callWithK Tryd.prog (tab2 A1L2 (SLs x)) (evK Tryd.prog ext (tab2 A1L2 (SLs x)) 80)) os9 44 (os9.toList.take 6) ((⟨[(1, .ptr 0 0)], [(0, ⟨38, scC x k⟩)]⟩ : Cut).st 1) (fun st => cutS [1, 9, 11, 13] [0] 1 st) =
    some ⟨[(1, .ptr 0 0), (9, .val (.int .i64 x.cap)), (11, .val (.int .i64 x.fuel)), (13, .val (.int .i64 x.dep))], [(0, ⟨38, scC x k⟩)]⟩ := by kernel_rfl
theorem q9_t (p q : Value) : letI := row0
    (reads Tryd.prog 44 (os9.toList.drop 7) (pickT [(14, .val (.tuple #[p, q]))])).map (fun t => [4, 5].map t) = some [.val p, .val q] := by kernel_rfl
theorem q9_c (x : Sc) (ad : Nat → Ad) (k : Nat) (p : Value) : letI := rowsS x ad
    evK Tryd.prog ext (tab2 A1L2 (SLs x)) 80 44 (seqL (preOf ((bodyOf Tryd.f9).drop 2))) ((N9 x k p).st 1) (grab Tryd.prog Tryd.f9 [1, 6] [0] 1) =
(bif decide ((x.sn : Int) > 4096) then some (Res.ret (SV.val (Value.tuple #[Value.int IntKind.i64 0, Value.int IntKind.i64 6]))) else 
     (bif decide ((x.bn : Int) > 1024) then some (Res.ret (SV.val (Value.tuple #[Value.int IntKind.i64 0, Value.int IntKind.i64 6]))) else some (Res.cut Ex.normal (Cut.mk [(1, SV.ptr 0 0), (6, SV.val (Value.int IntKind.i64 0))] [(0, Blk.mk 38 (scC x k))])))) := by kernel_rfl
theorem q9_r (x : Sc) (ad : Nat → Ad) (k i : Nat) : letI := rowsS x ad
    evK Tryd.prog ext (tab2 A1L2 (SLs x)) 80 44 (seqL (flat (roundOf ((bodyOf Tryd.f9).drop 2)))) ((H9 x k i).st 1) (grab Tryd.prog Tryd.f9 [1, 6] [0] 1) =
(bif decide ((i : Int) < (x.bn : Int)) then 
     (bif decide (0 ≤ (i : Int)) && decide ((i : Int) < (x.bn : Int)) then 
      (bif !R.soundOps x (i : Int).toNat then some (Res.ret (SV.val (Value.tuple #[Value.int IntKind.i64 (i : Int), Value.int IntKind.i64 280]))) else some (Res.cut Ex.normal (Cut.mk [(1, SV.ptr 0 0), (6, SV.val (Value.int IntKind.i64 (IntKind.i64.wrap ((i : Int) + 1))))] [(0, Blk.mk 38 (scC x k))]))) else none) else some (Res.cut (Ex.exit 0) (Cut.mk [(1, SV.ptr 0 0), (6, SV.val (Value.int IntKind.i64 (i : Int)))] [(0, Blk.mk 38 (scC x k))]))) := by kernel_rfl
theorem q9_e (x : Sc) (ad : Nat → Ad) (k i : Nat) : letI := rowsS x ad
    evK Tryd.prog ext (tab2 A1L2 (SLs x)) 80 44 (seqL (postOf ((bodyOf Tryd.f9).drop 2))) ((H9 x k i).st 1) (grab Tryd.prog Tryd.f9 [1, 6] [0] 1) = some (.ret (.val (.tuple #[.int .i64 0, .int .i64 0]))) := by kernel_rfl
theorem q9_head (x : Sc) (ad : Nat → Ad) (k : Nat) (hx : Fits x) (hn : newOk x.cap x.fuel x.dep = true) {v : SV}
    (hrest : letI := rowsS x ad; ∀ p : Value, Runs Tryd.prog (InvS x ad) 44 Tryd.f9 v [] ((bodyOf Tryd.f9).drop 2) ((N9 x k p).st 1)) : letI := rowsS x ad
    Runs Tryd.prog (InvS x ad) 44 Tryd.f9 v [] (bodyOf Tryd.f9) (⟨argS [scA x k], fun _ => none, 0⟩) := by
  letI := rowsS x ad
  have C := ctxS x ad (l := A1L2) A1ents2 (sSLs x ad hx)
  intro w0 hI m a w hr
  rw [q9_eq, wpL_app]
  refine piece C.mix C.hX C.hs C.hXO C.hG (q9_a x ad k) hI hr (fun v hv => by cases hv) (fun ex d hd m1 a1 w1 hr1 => ?_)
  cases hd
  show (Code.region 1 os9 false).wp Tryd.prog _ a1 w1
  refine wp_region_list ?_
  rw [os9_eq]
  refine opsPiece C.mix C.hX C.hs C.hXO C.hG (q9_b x ad k) hI hr1 fun m2 a2 w2 hr2 => ?_
  have K2 : Kp 44 [(1, .pointer (some ⟨m2 0, 0, none⟩)), (9, .int .i64 x.cap), (11, .int .i64 x.fuel), (13, .int .i64 x.dep)] a2 := SR.kp hr2 fun p hp => by
    simp only [List.mem_cons, List.not_mem_nil, or_false] at hp
    rcases hp with rfl | rfl | rfl | rfl
    · exact ⟨rfl, den_ptr _ _ _⟩
    · exact ⟨rfl, den_val _ _⟩
    · exact ⟨rfl, den_val _ _⟩
    · exact ⟨rfl, den_val _ _⟩
  refine pair_tail (xs := #[.tmp 9, .tmp 11, .tmp 13]) (ats := #[3, 3, 3]) (x := 4) (y := 5) (f := 27) (d3 := 14) K2 (by kernel_rfl) (by kernel_rfl) (by kernel_rfl) (by kernel_rfl) (vs := #[.int .i64 x.cap, .int .i64 x.fuel, .int .i64 x.dep]) ?_ (New27.calls hn) (fun e w' ⟨p, he, _⟩ => ⟨p, _, he⟩) (q9_t) (by kernel_rfl) (by kernel_rfl) fun p q a3 w3 hR K3 => ?_
  · rw [List.map_toArray, List.map_cons, List.map_cons, List.map_cons, List.map_nil, K2.get (d := 9) (v := .int .i64 x.cap) (by simp), K2.get (d := 11) (v := .int .i64 x.fuel) (by simp), K2.get (d := 13) (v := .int .i64 x.dep) (by simp)]
  obtain ⟨p', he, hb⟩ := hR
  cases he
  refine hrest p w0 hI m2 a3 w3 (epochB (hr2.mr.below.trans (hb.mono hr2.mr.below.size)) K3.size K3.defers _ _ m2 (fun r hp => ?_) (fun r hp => ?_) (fun b k' hk => ?_) (fun b b' k1 k2 h1 h2 h3 => hr2.mr.inj b b' k1 k2 h1 h2 h3) (fun b hb' => hr2.fresh b hb'))
  · simp only [List.mem_cons, List.not_mem_nil, or_false] at hp
    rcases hp with rfl | rfl | rfl
    · rw [den_ptr]
      exact K3.vals (1, _) (by simp)
    · rw [den_val]
      exact K3.vals (4, _) (by simp)
    · rw [den_val]
      exact K3.vals (5, _) (by simp)
  · simp only [List.mem_cons, List.not_mem_nil, or_false] at hp
    rcases hp with rfl | rfl | rfl
    · exact hr2.ar.ok 1
    · exact ok_val _ _
    · exact ok_val _ _
  · obtain ⟨g1, g2, g3⟩ := hr2.mr.blk b k' hk
    exact ⟨g1, (hb.block _ (Array.getElem?_eq_some_iff.1 g2).1).trans g2, g3⟩
theorem q9_runs (x : Sc) (ad : Nat → Ad) (k : Nat) (hx : Fits x) : letI := rowsS x ad
    Runs Tryd.prog (InvS x ad) 44 Tryd.f9 (pairV (R.chk x)) [] (bodyOf Tryd.f9) (⟨argS [scA x k], fun _ => none, 0⟩) := by
  letI := rowsS x ad
  have C := ctxS x ad (l := A1L2) A1ents2 (sSLs x ad hx)
  cases hn : newOk x.cap x.fuel x.dep with
  | false =>
    have e : R.chk x = (0, 7) := by unfold R.chk; rw [hn]; rfl
    have ev : _ = some (Res.ret (pairV (0, 7))) := (q9_no x ad k).trans (by
      unfold newOk at hn
      revert hn
      cases decide (x.cap < 0) <;> cases decide (x.cap > 65536) <;> cases decide (x.fuel < 0) <;> cases decide (x.dep < 1) <;> cases decide (x.dep > 256) <;> simp)
    rw [e, split_loop (bodyOf Tryd.f9) (by kernel_rfl)]
    exact Runs.app (Runs.ret C ev)
  | true =>
    refine q9_head x ad k hx hn fun p => ?_
    have ev := q9_c x ad k p
    cases h1 : decide ((x.sn : Int) > 4096) with
    | true =>
      have e : R.chk x = (0, 6) := by unfold R.chk; rw [hn, h1]; rfl
      rw [h1] at ev
      rw [e, split_loop ((bodyOf Tryd.f9).drop 2) (by kernel_rfl)]
      exact Runs.app (Runs.ret C ev)
    | false =>
    cases h2 : decide ((x.bn : Int) > 1024) with
    | true =>
      have e : R.chk x = (0, 6) := by unfold R.chk; rw [hn, h1, h2]; rfl
      rw [h1, h2] at ev
      rw [e, split_loop ((bodyOf Tryd.f9).drop 2) (by kernel_rfl)]
      exact Runs.app (Runs.ret C ev)
    | false =>
    have e : R.chk x = (seek (fun i => bif R.soundOps x i then none else some ((i : Int), 280)) x.bn 0).getD (0, 0) := by unfold R.chk; rw [hn, h1, h2]; rfl
    rw [h1, h2] at ev
    rw [e]
    refine Runs.seekFn C (n := x.bn) (p := fun i => bif R.soundOps x i then none else some ((i : Int), 280)) (f := pairV) (z := (0, 0)) (hd := fun i => H9 x k i) (c' := H9 x k x.bn) (by kernel_rfl) ev (fun i hi => ?_) ?_ (fun _ => ?_)
    · refine (q9_r x ad k i).trans ?_
      rw [decide_eq_true (by omega : (i : Int) < (x.bn : Int)), decide_eq_true (by omega : (0 : Int) ≤ (i : Int)), Int.toNat_natCast, wrb hi hx.b]
      cases h3 : R.soundOps x i <;> rfl
    · refine (q9_r x ad k x.bn).trans ?_
      rw [decide_eq_false (by omega : ¬(x.bn : Int) < (x.bn : Int))]
      rfl
    · exact Runs.ret C (q9_e x ad k x.bn)
theorem e9 (x : Sc) (ad : Nat → Ad) (hx : Fits x) : EntS x ad (9, fun args _ => chkC (R.chk x) x args) := by
  letI := rowsS x ad
  refine EntryS.of (fun args t v h1 h2 => ?_) (invS_stable x ad)
  unfold chkC at h1
  split at h1
  · rename_i c u d k k'
    cases h1
    cases hf : (decide (c = x.cap) && (decide (u = x.fuel) && (decide (d = x.dep) && Nat.beq k k'))) with
    | false => rw [hf] at h2; cases h2
    | true =>
      rw [hf] at h2
      cases h2
      simp only [Bool.and_eq_true, decide_eq_true_eq] at hf
      obtain ⟨rfl, rfl, rfl, hk⟩ := hf
      have := Nat.eq_of_beq_eq_true hk
      subst this
      refine ⟨ok_val _ _, scA_ok x k _, fun w m hI => ?_⟩
      exact Runs.calls (body := Tryd.f9.body.getD .skip) Tryd.func9 (by kernel_rfl) (by kernel_rfl) (scA_ok x k _) (q9_runs x ad k hx) w hI m
  · cases h1
abbrev H11 (x : Sc) (k k' i : Nat) : Cut := ⟨[(2, .ptr 0 0), (3, .ptr 1 0), (5, .val (.int .i64 (i : Int)))], [(0, ⟨38, scC x k⟩), (1, ⟨38, scC x k'⟩)]⟩
abbrev G11 (x : Sc) (k k' i : Nat) : Cut := ⟨[(2, .ptr 0 0), (3, .ptr 1 0), (6, .val (.int .i64 (i : Int)))], [(0, ⟨38, scC x k⟩), (1, ⟨38, scC x k'⟩)]⟩
theorem q11_p (x : Sc) (ad : Nat → Ad) (k k' : Nat) : letI := rowsS x ad
    evK Tryd.prog ext (tab2 A1L2 (SLs x)) 80 82 (seqL (preOf (bodyOf Tryd.f11))) (⟨argS [scA x k, scA x k'], fun _ => none, 0⟩) (grab Tryd.prog Tryd.f11 [2, 3, 5] [0, 1] 2) =
(bif x.cap != x.cap then some (Res.ret (SV.val (Value.bool false))) else 
     (bif x.fuel != x.fuel then some (Res.ret (SV.val (Value.bool false))) else 
      (bif x.dep != x.dep then some (Res.ret (SV.val (Value.bool false))) else 
       (bif (x.bn : Int) != (x.bn : Int) then some (Res.ret (SV.val (Value.bool false))) else 
        (bif (x.sn : Int) != (x.sn : Int) then some (Res.ret (SV.val (Value.bool false))) else some (Res.cut Ex.normal (Cut.mk [(2, SV.ptr 0 0), (3, SV.ptr 1 0), (5, SV.val (Value.int IntKind.i64 0))] [(0, Blk.mk 38 (scC x k)), (1, Blk.mk 38 (scC x k'))]))))))) := by kernel_rfl
theorem q11_r (x : Sc) (ad : Nat → Ad) (k k' i : Nat) : letI := rowsS x ad
    evK Tryd.prog ext (tab2 A1L2 (SLs x)) 80 82 (seqL (flat (roundOf (bodyOf Tryd.f11)))) ((H11 x k k' i).st 2) (grab Tryd.prog Tryd.f11 [2, 3, 5] [0, 1] 2) =
(bif decide ((i : Int) < (x.bn : Int)) then 
     (bif decide (0 ≤ (i : Int)) && decide ((i : Int) < (x.bn : Int)) then 
      (bif decide (0 ≤ (i : Int)) && decide ((i : Int) < (x.bn : Int)) then 
       (bif Nat.beq (i : Int).toNat (i : Int).toNat then some (Res.cut Ex.normal (Cut.mk [(2, SV.ptr 0 0), (3, SV.ptr 1 0), (5, SV.val (Value.int IntKind.i64 (IntKind.i64.wrap ((i : Int) + 1))))] [(0, Blk.mk 38 (scC x k)), (1, Blk.mk 38 (scC x k'))])) else none) else none) else none) else some (Res.cut (Ex.exit 0) (Cut.mk [(2, SV.ptr 0 0), (3, SV.ptr 1 0), (5, SV.val (Value.int IntKind.i64 (i : Int)))] [(0, Blk.mk 38 (scC x k)), (1, Blk.mk 38 (scC x k'))]))) := by kernel_rfl
theorem q11_m (x : Sc) (ad : Nat → Ad) (k k' i : Nat) : letI := rowsS x ad
    evK Tryd.prog ext (tab2 A1L2 (SLs x)) 80 82 (seqL (preOf (postOf (bodyOf Tryd.f11)))) ((H11 x k k' i).st 2) (grab Tryd.prog Tryd.f11 [2, 3, 6] [0, 1] 2) =
some (Res.cut Ex.normal (Cut.mk [(2, SV.ptr 0 0), (3, SV.ptr 1 0), (6, SV.val (Value.int IntKind.i64 0))] [(0, Blk.mk 38 (scC x k)), (1, Blk.mk 38 (scC x k'))])) := by kernel_rfl
theorem q11_s (x : Sc) (ad : Nat → Ad) (k k' i : Nat) : letI := rowsS x ad
    evK Tryd.prog ext (tab2 A1L2 (SLs x)) 80 82 (seqL (flat (roundOf (postOf (bodyOf Tryd.f11))))) ((G11 x k k' i).st 2) (grab Tryd.prog Tryd.f11 [2, 3, 6] [0, 1] 2) =
(bif decide ((i : Int) < (x.sn : Int)) then 
     (bif decide (0 ≤ (i : Int)) && decide ((i : Int) < (x.sn : Int)) then 
      (bif decide (0 ≤ (i : Int)) && decide ((i : Int) < (x.sn : Int)) then 
       (bif (x.st (i : Int).toNat).code == (x.st (i : Int).toNat).code then 
        (bif (x.st (i : Int).toNat).tg == (x.st (i : Int).toNat).tg then 
         (bif (x.st (i : Int).toNat).a == (x.st (i : Int).toNat).a then 
          (bif (x.st (i : Int).toNat).b == (x.st (i : Int).toNat).b then 
           (bif (x.st (i : Int).toNat).c == (x.st (i : Int).toNat).c then 
            (bif (x.st (i : Int).toNat).n == (x.st (i : Int).toNat).n then 
             (bif (x.st (i : Int).toNat).m == (x.st (i : Int).toNat).m then 
              (bif (x.st (i : Int).toNat).p == (x.st (i : Int).toNat).p then 
               (bif (x.st (i : Int).toNat).key.s == (x.st (i : Int).toNat).key.s && ((x.st (i : Int).toNat).key.n == (x.st (i : Int).toNat).key.n && true) then 
                (bif S.eqV (x.st (i : Int).toNat).val (x.st (i : Int).toNat).val then 
                 (bif S.eqD (x.st (i : Int).toNat).desc (x.st (i : Int).toNat).desc then 
                  (bif Nat.beq (i : Int).toNat (i : Int).toNat then 
                   (bif (x.st (i : Int).toNat).s.toList == (x.st (i : Int).toNat).s.toList then 
                    (bif Nat.beq (i : Int).toNat (i : Int).toNat then 
                     (bif !(x.st (i : Int).toNat).flag == (x.st (i : Int).toNat).flag then some (Res.ret (SV.val (Value.bool false))) else some (Res.cut Ex.normal (Cut.mk [(2, SV.ptr 0 0), (3, SV.ptr 1 0), (6, SV.val (Value.int IntKind.i64 (IntKind.i64.wrap ((i : Int) + 1))))] [(0, Blk.mk 38 (scC x k)), (1, Blk.mk 38 (scC x k'))]))) else none) else some (Res.ret (SV.val (Value.bool false)))) else none) else some (Res.ret (SV.val (Value.bool false)))) else some (Res.ret (SV.val (Value.bool false)))) else some (Res.ret (SV.val (Value.bool false)))) else some (Res.ret (SV.val (Value.bool false)))) else some (Res.ret (SV.val (Value.bool false)))) else some (Res.ret (SV.val (Value.bool false)))) else some (Res.ret (SV.val (Value.bool false)))) else some (Res.ret (SV.val (Value.bool false)))) else some (Res.ret (SV.val (Value.bool false)))) else some (Res.ret (SV.val (Value.bool false)))) else some (Res.ret (SV.val (Value.bool false)))) else none) else none) else some (Res.cut (Ex.exit 2) (Cut.mk [(2, SV.ptr 0 0), (3, SV.ptr 1 0), (6, SV.val (Value.int IntKind.i64 (i : Int)))] [(0, Blk.mk 38 (scC x k)), (1, Blk.mk 38 (scC x k'))]))) := by kernel_rfl
theorem q11_e (x : Sc) (ad : Nat → Ad) (k k' i : Nat) : letI := rowsS x ad
    evK Tryd.prog ext (tab2 A1L2 (SLs x)) 80 82 (seqL (postOf (postOf (bodyOf Tryd.f11)))) ((G11 x k k' i).st 2) (grab Tryd.prog Tryd.f11 [2, 3, 6] [0, 1] 2) =
some (Res.ret (SV.val (Value.bool true))) := by kernel_rfl
theorem beq_self (n : Nat) : Nat.beq n n = true := by rw [Nat.beq_eq]
theorem q11_runs (x : Sc) (ad : Nat → Ad) (k k' : Nat) (hx : Fits x) : letI := rowsS x ad
    Runs Tryd.prog (InvS x ad) 82 Tryd.f11 (.val (.bool true)) [] (bodyOf Tryd.f11) (⟨argS [scA x k, scA x k'], fun _ => none, 0⟩) := by
  letI := rowsS x ad
  have C := ctxS x ad (l := A1L2) A1ents2 (sSLs x ad hx)
  have ev := q11_p x ad k k'
  simp only [bne_self_eq_false, cond_false] at ev
  show Runs Tryd.prog (InvS x ad) 82 Tryd.f11 ((fun z : Bool => SV.val (.bool z)) true) [] (bodyOf Tryd.f11) _
  rw [show (true : Bool) = (seek (fun _ => (none : Option Bool)) x.bn 0).getD true by rw [seek_none]; rfl]
  refine Runs.seekFn C (n := x.bn) (p := fun _ => (none : Option Bool)) (f := fun z : Bool => SV.val (.bool z)) (z := true) (hd := fun i => H11 x k k' i) (c' := H11 x k k' x.bn) (by kernel_rfl) ev (fun i hi => ?_) ?_ (fun _ => ?_)
  · refine (q11_r x ad k k' i).trans ?_
    rw [decide_eq_true (by omega : (i : Int) < (x.bn : Int)), decide_eq_true (by omega : (0 : Int) ≤ (i : Int)), Int.toNat_natCast, wrb hi hx.b, beq_self]
    rfl
  · refine (q11_r x ad k k' x.bn).trans ?_
    rw [decide_eq_false (by omega : ¬(x.bn : Int) < (x.bn : Int))]
    rfl
  rw [show (true : Bool) = (seek (fun _ => (none : Option Bool)) x.sn 0).getD true by rw [seek_none]; rfl]
  refine Runs.seekFn C (n := x.sn) (p := fun _ => (none : Option Bool)) (f := fun z : Bool => SV.val (.bool z)) (z := true) (hd := fun i => G11 x k k' i) (c' := G11 x k k' x.sn) (by kernel_rfl) (q11_m x ad k k' x.bn) (fun i hi => ?_) ?_ (fun _ => ?_)
  · refine (q11_s x ad k k' i).trans ?_
    rw [decide_eq_true (by omega : (i : Int) < (x.sn : Int)), decide_eq_true (by omega : (0 : Int) ≤ (i : Int)), Int.toNat_natCast, wrb hi hx.s]
    simp only [bne_self_eq_false, beq_self_eq_true, ba_beq, beq_self, S.eqV_refl, S.eqD_refl, Bool.and_self, Bool.and_true, Bool.not_true, cond_true, cond_false]
    rfl
  · refine (q11_s x ad k k' x.sn).trans ?_
    rw [decide_eq_false (by omega : ¬(x.sn : Int) < (x.sn : Int))]
    rfl
  · exact Runs.ret C (q11_e x ad k k' x.sn)
def C11 (x : Sc) : List SV → Option (DT SV)
  | [.arr [.val (.int .i64 c), .val (.int .i64 u), .val (.int .i64 d), .xs [k, 0], .xs [l, 1]], .arr [.val (.int .i64 c'), .val (.int .i64 u'), .val (.int .i64 d'), .xs [k', 0], .xs [l', 1]]] =>
    some (.node (decide (c = x.cap) && (decide (u = x.fuel) && (decide (d = x.dep) && (Nat.beq k l && (decide (c' = x.cap) && (decide (u' = x.fuel) && (decide (d' = x.dep) && Nat.beq k' l'))))))) (.leaf (.val (.bool true))) .bad)
  | _ => none
theorem e11 (x : Sc) (ad : Nat → Ad) (hx : Fits x) : EntS x ad (11, fun args _ => C11 x args) := by
  letI := rowsS x ad
  refine EntryS.of (fun args t v h1 h2 => ?_) (invS_stable x ad)
  unfold C11 at h1
  split at h1
  · rename_i c u d k l c' u' d' k' l'
    cases h1
    cases hf : (decide (c = x.cap) && (decide (u = x.fuel) && (decide (d = x.dep) && (Nat.beq k l && (decide (c' = x.cap) && (decide (u' = x.fuel) && (decide (d' = x.dep) && Nat.beq k' l'))))))) with
    | false => rw [hf] at h2; cases h2
    | true =>
      rw [hf] at h2
      cases h2
      simp only [Bool.and_eq_true, decide_eq_true_eq] at hf
      obtain ⟨rfl, rfl, rfl, hk, rfl, rfl, rfl, hk'⟩ := hf
      have := Nat.eq_of_beq_eq_true hk
      subst this
      have := Nat.eq_of_beq_eq_true hk'
      subst this
      have ok : ∀ m : Mem, ∀ s ∈ [scA x k, scA x k'], s.ok m := fun m s hs => by
        simp only [List.mem_cons, List.not_mem_nil, or_false] at hs
        rcases hs with rfl | rfl <;> exact ok_arr.2 (scC_ok x _ m)
      refine ⟨ok_val _ _, ok _, fun w m hI => ?_⟩
      exact Runs.calls (body := Tryd.f11.body.getD .skip) Tryd.func11 (by kernel_rfl) (by kernel_rfl) (ok _) (q11_runs x ad k k' hx) w hI m
  · cases h1
abbrev SLt (x : Sc) : TabS := (8, fun args _ => chkC (S.chk x) x args) :: (9, fun args _ => chkC (R.chk x) x args) :: (11, fun args _ => C11 x args) :: SLs x
theorem sSLt (x : Sc) (ad : Nat → Ad) (hx : Fits x) : ∀ p ∈ SLt x, EntS x ad p := fun p hp => by
  rcases List.mem_cons.1 hp with rfl | hp
  · exact e8 x ad hx
  rcases List.mem_cons.1 hp with rfl | hp
  · exact e9 x ad hx
  rcases List.mem_cons.1 hp with rfl | hp
  · exact e11 x ad hx
  · exact sSLs x ad hx p hp
end Go.Proofs.YtlliefodchfpfaaDoor.PDescKinds
end
section
/- Plain: what the reference says of a script is what the program says. -/
set_option linter.unusedSimpArgs false
set_option linter.unusedVariables false
set_option linter.unusedSectionVars false
namespace Go.Proofs.YtlliefodchfpfaaDoor.PDescKinds
open Go.RowKit Go.Ev
set_option maxRecDepth 100000
theorem chk_not {d : D} (h : S.check d = true) : S.isA d = (S.there d.g || S.there d.t) := by
  have h2 := h
  rw [S.check_eq] at h2
  simp only [Bool.and_eq_true, Bool.not_eq_true'] at h2
  have h3 := h2.2
  unfold S.isA
  rw [h]
  show (true && (!S.hasD d && S.hasA d)) = S.hasA d
  cases e1 : S.hasD d <;> cases e2 : S.hasA d <;> rw [e1, e2] at h3 <;> first | rfl | cases h3
theorem opOk_in {x : Opr} {c : Int} (hc : x.code = c) (hg : R.good x.val = S.good x.val) (hd : R.check x.desc = S.check x.desc) (h : (1 ≤ c ∧ c ≤ 24)) : R.opOk x = S.opOk x := by
  have e12 : (S.check x.desc && !(x.flag && (S.there x.desc.g || S.there x.desc.t))) = (S.check x.desc && (!x.flag || !S.isA x.desc)) := by
    cases hu : S.check x.desc with
    | false => rfl
    | true => rw [chk_not hu]; cases x.flag <;> rfl
  unfold R.opOk S.opOk
  rw [hc, hg, hd, e12]
  unfold S.sa S.sb S.sc S.sk
  generalize (S.check x.desc && (!x.flag || !S.isA x.desc)) = u
  generalize S.reg16 x.tg = t
  generalize S.reg16 x.a = p
  generalize S.reg16 x.b = q
  generalize S.reg16 x.c = r
  generalize S.keyOk x.key = k
  generalize S.good x.val = g
  generalize decide (x.a ≥ 0) = z1
  generalize decide (x.b ≥ 0) = z2
  obtain rfl | rfl | rfl | rfl | rfl | rfl | rfl | rfl | rfl | rfl | rfl | rfl | rfl | rfl | rfl | rfl | rfl | rfl | rfl | rfl | rfl | rfl | rfl | rfl : c = 1 ∨ c = 2 ∨ c = 3 ∨ c = 4 ∨ c = 5 ∨ c = 6 ∨ c = 7 ∨ c = 8 ∨ c = 9 ∨ c = 10 ∨ c = 11 ∨ c = 12 ∨ c = 13 ∨ c = 14 ∨ c = 15 ∨ c = 16 ∨ c = 17 ∨ c = 18 ∨ c = 19 ∨ c = 20 ∨ c = 21 ∨ c = 22 ∨ c = 23 ∨ c = 24 := by omega
  all_goals simp
  all_goals cases t <;> cases p <;> cases k <;> simp
theorem opOk_eq {x : Opr} (hv : x.val.wf) (hd : x.desc.wf) : R.opOk x = S.opOk x := by
  by_cases h : 1 ≤ x.code ∧ x.code ≤ 24
  · exact opOk_in rfl (R.good_eq hv) (R.check_eq hd) h
  · have e : S.opOk x = false := by
      unfold S.opOk
      by_cases h1 : x.code < 1
      · rw [decide_eq_true h1]; rfl
      · rw [decide_eq_true (by omega : x.code > 24), decide_eq_false h1]; rfl
    have n : ∀ k : Int, 1 ≤ k → k ≤ 24 → (x.code == k) = false := fun k h1 h2 => by simp only [beq_eq_false_iff_ne, ne_eq]; omega
    rw [e]
    unfold R.opOk
    rw [show (decide (x.code ≥ 10) && decide (x.code ≤ 15)) = false by simp only [Bool.and_eq_false_iff, decide_eq_false_iff_not]; omega]
    simp only [n 1 (by omega) (by omega), n 2 (by omega) (by omega), n 3 (by omega) (by omega), n 4 (by omega) (by omega), n 5 (by omega) (by omega), n 6 (by omega) (by omega), n 7 (by omega) (by omega), n 8 (by omega) (by omega), n 9 (by omega) (by omega), n 10 (by omega) (by omega), n 11 (by omega) (by omega), n 12 (by omega) (by omega), n 13 (by omega) (by omega), n 14 (by omega) (by omega), n 15 (by omega) (by omega), n 16 (by omega) (by omega), n 17 (by omega) (by omega), n 18 (by omega) (by omega), n 19 (by omega) (by omega), n 20 (by omega) (by omega), n 21 (by omega) (by omega), n 22 (by omega) (by omega), n 23 (by omega) (by omega), n 24 (by omega) (by omega), Bool.or_false, Bool.false_and, cond_false]
    cases S.reg16 x.tg <;> rfl
theorem soundOps_eq {x : Sc} {i : Nat} (h : ∀ j, R.opOk (x.op i j) = S.opOk (x.op i j)) : R.soundOps x i = S.soundOps x i := by
  unfold R.soundOps S.soundOps S.badOp
  by_cases h1 : (x.bl i : Int) > 256
  · rw [decide_eq_true h1, decide_eq_false (by omega : ¬(x.bl i : Int) ≤ 256)]; rfl
  · rw [decide_eq_false h1, decide_eq_true (by omega : (x.bl i : Int) ≤ 256)]
    have e : (fun j => bif R.opOk (x.op i j) then none else some false : Nat → Option Bool) = fun j => (bif S.opOk (x.op i j) then (none : Option Int) else some (j : Int)).map fun _ => false := by
      funext j
      rw [h j]
      cases S.opOk (x.op i j) <;> rfl
    rw [e, seek_map]
    cases h2 : seek (fun j => bif S.opOk (x.op i j) then none else some (j : Int)) (x.bl i) 0 with
    | none => simp
    | some a =>
      have := seek_nn (fun j => S.opOk (x.op i j)) (x.bl i) 0 a h2
      simp [this]
theorem chk_eq {x : Sc} (h : ∀ i j, (x.op i j).val.wf ∧ (x.op i j).desc.wf) : R.chk x = S.chk x := by
  unfold R.chk S.chk
  have e : ∀ i, R.soundOps x i = S.soundOps x i := fun i => soundOps_eq fun j => opOk_eq (h i j).1 (h i j).2
  simp only [e]
end Go.Proofs.YtlliefodchfpfaaDoor.PDescKinds
end
section
/- cameolaw28.Copy: what a world holds of a copy under way. -/
set_option linter.unusedSimpArgs false
set_option linter.unusedVariables false
set_option linter.unusedSectionVars false
namespace Go.Proofs.YtlliefodchfpfaaDoor.PDescKinds
open Go.RowKit Go.Ev
set_option maxRecDepth 100000
/-- A step's cells as_ values, its lists given. -/
def Stp.cv (x : Stp) (l q : Value) : List Value :=
  [.int .i64 x.code, .int .i64 x.tg, .int .i64 x.a, .int .i64 x.b, .int .i64 x.c, .int .i64 x.n, .int .i64 x.m, .int .i64 x.p, .string x.key.s, .int .i64 x.key.n,
   .int .i64 x.val.k, .bool x.val.b, .float .f64 x.val.n, .string x.val.s, .int .i64 x.val.id,
   .int .i64 x.desc.v.k, .bool x.desc.v.b, .float .f64 x.desc.v.n, .string x.desc.v.s, .int .i64 x.desc.v.id,
   .int .i64 x.desc.g.k, .bool x.desc.g.b, .float .f64 x.desc.g.n, .string x.desc.g.s, .int .i64 x.desc.g.id,
   .int .i64 x.desc.t.k, .bool x.desc.t.b, .float .f64 x.desc.t.n, .string x.desc.t.s, .int .i64 x.desc.t.id, .int .i64 x.desc.w, .int .i64 x.desc.e, .int .i64 x.desc.c,
   l, .string x.s, q, .bool x.flag]
/-- Three boxes: the script, its copy, a step. -/
structure Bx where
  b1 : Nat
  b3 : Nat
  b6 : Nat
  n6 : Nat
  vB : Value
  vS : Value
  vL : Value
  vM : Value
  s : Stp
def scV (x : Sc) (vB vS : Value) : List Value := [.int .i64 x.cap, .int .i64 x.fuel, .int .i64 x.dep, vB, vS]
def boxE (x : Sc) (k : Bx) : Nat → XR
  | 0 => ⟨some ⟨k.b1, 0, none⟩, 5, 1, 1, fun _ => scC x 0⟩
  | 1 => ⟨some ⟨k.b3, 0, none⟩, 5, 1, 1, fun _ => (scV x k.vB k.vS).map SV.val⟩
  | _ => ⟨some ⟨k.b6, 0, none⟩, 37, k.n6, 1, fun _ => (k.s.cv k.vL k.vM).map SV.val⟩
/-- The rows of a script and the boxes. -/
@[instance_reducible] def rowsP (x : Sc) (ad : Nat → Ad) (k : Bx) : XEnv := ⟨fun r => match r with
  | [n] => boxE x k n
  | r => (rowsS x ad).env r⟩
noncomputable def cp : List Code := bodyOf Tryd.f7
noncomputable def cpr : List Code := flat (roundOf cp)
noncomputable def cpb : List Code := flat (inB (cpr.getD 2 .skip))
noncomputable def cp7 : Array Oper := opsOf (cpb.getD 0 .skip)
noncomputable def cq : List Code := postOf cp
noncomputable def cqr : List Code := flat (roundOf cq)
noncomputable def cqb : List Code := flat (inB (cqr.getD 2 .skip))
noncomputable def cq12 : Array Oper := opsOf (cqb.getD 1 .skip)
noncomputable def cq13 : Array Oper := opsOf (cqb.getD 2 .skip)
noncomputable def cq14 : Array Oper := opsOf (cqb.getD 3 .skip)
/-! Rows, seen beside other rows -/
theorem xrow_move {e e' : XEnv} {w : World} {r : XR} (h : @XRow e w r) (hd : ∀ j, j < r.n → ∀ s ∈ r.g j, (∀ m, @SV.den e' m s = @SV.den e m s) ∧ ∀ mem, @SV.ok e' mem s) : @XRow e' w r := fun j hj => by
  obtain ⟨h1, h2, a, h3, h4, h5⟩ := h j hj
  exact ⟨h1, fun s hs => (hd j hj s hs).2, a, h3, h4, fun k s hk m => by rw [(hd j hj s (List.mem_of_getElem? hk)).1 m]; exact h5 k s hk m⟩
def plainS (s : SV) : Prop := (∃ v, s = .val v) ∨ ∃ a b t, s = .xs (a :: b :: t)
theorem rowsS_plain (x : Sc) (ad : Nat → Ad) (r : List Nat) (h2 : 2 ≤ r.length) (j : Nat) : ∀ s ∈ ((rowsS x ad).env r).g j, plainS s := by
  intro s hs
  delta rowsS at hs
  dsimp only at hs
  split at hs
  · simp at h2
  · obtain rfl := List.mem_singleton.1 hs
    exact .inr ⟨_, _, _, rfl⟩
  · simp only [Stp.sv, List.mem_cons, List.not_mem_nil, or_false] at hs
    rcases hs with rfl | rfl | rfl | rfl | rfl | rfl | rfl | rfl | rfl | rfl | rfl | rfl | rfl | rfl | rfl | rfl | rfl | rfl | rfl | rfl | rfl | rfl | rfl | rfl | rfl | rfl | rfl | rfl | rfl | rfl | rfl | rfl | rfl | rfl | rfl | rfl | rfl <;> first | exact .inl ⟨_, rfl⟩ | exact .inr ⟨_, _, _, rfl⟩
  · obtain ⟨v, _, rfl⟩ := List.mem_map.1 hs
    exact .inl ⟨_, rfl⟩
  · obtain rfl := List.mem_singleton.1 hs
    exact .inl ⟨_, rfl⟩
  · obtain rfl := List.mem_singleton.1 hs
    exact .inl ⟨_, rfl⟩
  · cases hs
theorem plain_den {x : Sc} {ad : Nat → Ad} {k : Bx} {s : SV} (h : plainS s) : (∀ m, @SV.den (rowsP x ad k) m s = @SV.den (rowsS x ad) m s) ∧ ∀ mem, @SV.ok (rowsP x ad k) mem s := by
  rcases h with ⟨v, rfl⟩ | ⟨a, b, t, rfl⟩
  · exact ⟨fun m => by rw [@den_val (rowsP x ad k), @den_val (rowsS x ad)], fun mem => @ok_val (rowsP x ad k) _ _⟩
  · exact ⟨fun m => by rw [@den_xs (rowsP x ad k), @den_xs (rowsS x ad)]; rfl, fun mem => @ok_xs (rowsP x ad k) _ _⟩
theorem scC_den (x : Sc) (ad : Nat → Ad) (k : Bx) (m : Nat → Nat) : (scC x 0).map (@SV.den (rowsP x ad k) m) = scV x (.slice (ad 0).bA x.bn (ad 0).bc) (.slice (ad 0).sA x.sn (ad 0).sc) := by
  simp only [List.map_cons, List.map_nil, @den_val (rowsP x ad k), @den_xs (rowsP x ad k)]
  rfl
theorem xok_P {x : Sc} {ad : Nat → Ad} {k : Bx} {w : World} (hS : @XOk (rowsS x ad) w) (h : ∀ n, @XRow (rowsP x ad k) w (boxE x k n)) : @XOk (rowsP x ad k) w := fun r => match r with
  | [n] => h n
  | [] => fun j hj => absurd hj (Nat.not_lt_zero _)
  | a :: b :: t => xrow_move (hS (a :: b :: t)) fun j _ s hs => plain_den (rowsS_plain x ad (a :: b :: t) (by simp) j s hs)
theorem xrow_den {e : XEnv} {w : World} {A : Addr} {n c : Nat} {l : List SV} {vs : List Value} (hok : ∀ s ∈ l, ∀ mem, @SV.ok e mem s) (hd : ∀ m, l.map (@SV.den e m) = vs) (hA : A.block < w.heap.size) (hc : ∀ k u, vs[k]? = some u → w.cell? (A.add k) = some u) (hn : n ≤ 1) : @XRow e w ⟨some A, l.length, n, c, fun _ => l⟩ := fun j hj => by
  have hj : j < n := hj
  obtain rfl : j = 0 := by omega
  refine ⟨rfl, hok, A, rfl, hA, fun k s hk m => ?_⟩
  have hk : l[k]? = some s := hk
  show w.cell? (A.add (0 * l.length + k)) = _
  rw [Nat.zero_mul, Nat.zero_add]
  refine hc k _ ?_
  rw [← hd m, List.getElem?_map, hk]
  rfl
/-! What came in, as_ one list -/
theorem row_news {e : XEnv} {w : World} {r : XR} {f : Nat → List Value} (h : @XRow e w r) (hf : ∀ j, j < r.n → ∀ m, (r.g j).map (@SV.den e m) = f j) (hz : ∀ j, (f j).length = r.sz) : ∀ ad : Addr, r.A = some ad → ∀ j u, ((List.range r.n).flatMap f)[j]? = some u → w.cell? (ad.add j) = some u := by
  intro ad hA j u hu
  obtain ⟨t, k, ht, rfl, hk⟩ := flat_out hz r.n j u hu
  obtain ⟨_, _, a, h3, _, h5⟩ := h t ht
  rw [hA] at h3
  cases h3
  have e := hf t ht fun _ => 0
  rw [← e, List.getElem?_map] at hk
  obtain ⟨s, hs, rfl⟩ := Option.map_eq_some_iff.1 hk
  exact h5 k s hs _
/-! An append of a row that came in, or of a fresh one -/
theorem info_of {t s b : Nat} (h : (Tryd.prog.info? t).bind (fun i => i.zero.map fun z => (i.size, i.bytes, z.cells.size)) = some (s, b, s)) : ∃ (i : TypeInfo) (z : Value), Tryd.prog.info? t = some i ∧ i.zero = some z ∧ i.size = s ∧ i.bytes = b ∧ z.cells.size = s := by
  obtain ⟨i, hi, h⟩ := Option.bind_eq_some_iff.1 h
  obtain ⟨z, hz, h⟩ := Option.map_eq_some_iff.1 h
  simp only [Prod.mk.injEq] at h
  exact ⟨i, z, hi, hz, h.1, h.2.1, h.2.2⟩
theorem grown_refl (w : World) (r : Option Nat) : w.grownBy w r := ⟨rfl, rfl, rfl, Nat.le_refl _, fun _ _ _ => rfl⟩
theorem wp_append_row {w : World} {o : Oper} {a : Act} {K : Act → World → Prop} {Q : Exit → Act → World → Prop} (s x : Operand) (t : TypeId)
    (ho : o.op = .call { callee := .builtin .append, args := #[s, x], argTypes := #[t, t] })
    (base : Nat) (e : TypeId) (size bytes : Nat) (ht : Tryd.prog.underlying t = some (.slice e)) (hinf : (Tryd.prog.info? e).bind (fun i => i.zero.map fun z => (i.size, i.bytes, z.cells.size)) = some (size, bytes, size)) (hsz : 0 < size)
    (v : Value) (n : Nat) (xs : List Value) (hs : a.eval s = v) (hown : w.ownsRow base e size v n xs)
    (A : Option Addr) (m c : Nat) (news : List Value) (hx : a.eval x = .slice A m c) (hnil : A = none → m = 0 ∧ c = 0) (hl : news.length = m * size) (hnews : ∀ ad, A = some ad → ∀ j u, news[j]? = some u → w.cell? (ad.add j) = some u) (h1 : ∀ u ∈ news, u.oneCell' = true)
    (hm : n + m ≤ 10000000) (hby : bytes ≤ 1000) (hbase : base ≤ w.heap.size)
    (h : ∀ v' w', w'.ownsRow base e size v' (n + m) (xs ++ news) → w.grownBy w' v.ownBlock → K (a.put o.dst v') w') : o.wp Tryd.prog a w K Q := by
  obtain ⟨i, z, q1, q2, q3, q4, q5⟩ := info_of hinf
  have hM : maxLen = 9223372036854775807 := by decide +kernel
  cases A with
  | none =>
    obtain ⟨rfl, rfl⟩ := hnil rfl
    have hnew : news = [] := List.length_eq_zero_iff.1 (by simpa using hl)
    subst hnew
    have hrun := run_append_owned_none (P := Tryd.prog) (w := w) base t o.type e i size ht q1 v n xs hown
    unfold Oper.wp
    have hex : (execOp a.eval o).run Tryd.prog w = .ok (.value v) w := by
      unfold execOp
      simp only [ho, resolve, invoke, builtin, Sem.run_bind, Sem.run_pure, Result.andThen_ok, List.map_toArray, List.map_cons, List.map_nil, hs, hx, hrun]
    rw [hex, Oper.upon_value]
    exact h v w (by rw [List.append_nil]; exact hown) (grown_refl _ _)
  | some ad =>
    refine wp_append_fresh s x t ho base e i z size bytes ht q1 q2 q3 q4 q5 hsz v n xs hs hown ad m c news hx hl (hnews ad rfl) h1 (by omega) ?_ hbase fun v' w' h2 h3 _ => h v' w' h2 h3
    have : (n + m) * bytes ≤ 10000000 * 1000 := Nat.mul_le_mul hm hby
    omega
/-! A copy under way -/
abbrev sl1 (b : Nat) : Value := .slice (some ⟨b, 0, none⟩) 1 1
abbrev pt (b : Nat) : Value := .pointer (some ⟨b, 0, none⟩)
structure CS (W : World) (x : Sc) (ad : Nat → Ad) (b1 b2 b3 : Nat) (c : Ad) (i j : Nat) (w : World) : Prop where
  below : Below W.heap.size W w
  x1 : w.ownsRow W.heap.size 38 5 (sl1 b1) 1 ((List.range 1).flatMap fun _ => scV x (.slice (ad 0).bA x.bn (ad 0).bc) (.slice (ad 0).sA x.sn (ad 0).sc))
  y3 : w.ownsRow W.heap.size 38 5 (sl1 b3) 1 ((List.range 1).flatMap fun _ => scV x (.slice c.bA i c.bc) (.slice c.sA j c.sc))
  r2 : w.heap[b2]? = some (.cells #[.int .i64 0, .int .i64 0, .int .i64 0, .slice none 0 0, .slice none 0 0] 38 (0, 0)) ∧ W.heap.size ≤ b2
  n1 : b1 ≠ b3
  n2 : b2 ≠ b3
  bod : w.ownsRow W.heap.size 56 1 (.slice c.bA i c.bc) i ((List.range i).flatMap fun t => [.slice (c.oA t) (x.bl t) (c.oc t)])
  ops : ∀ t, t < i → w.ownsRow W.heap.size 82 32 (.slice (c.oA t) (x.bl t) (c.oc t)) (x.bl t) ((List.range (x.bl t)).flatMap fun u => (x.op t u).list)
  stp : w.ownsRow W.heap.size 33 37 (.slice c.sA j c.sc) j ((List.range j).flatMap fun t => (x.st t).cv (.slice (c.lA t) (x.ln t) (c.lc t)) (.slice (c.mA t) (x.mn t) (c.mc t)))
  ints : ∀ t, t < j → w.ownsRow W.heap.size 3 1 (.slice (c.lA t) (x.ln t) (c.lc t)) (x.ln t) ((List.range (x.ln t)).flatMap fun u => [.int .i64 (x.lg t u)])
  txts : ∀ t, t < j → w.ownsRow W.heap.size 9 1 (.slice (c.mA t) (x.mn t) (c.mc t)) (x.mn t) ((List.range (x.mn t)).flatMap fun u => [.string (x.mg t u)])
theorem own_bel {w w' : World} {b e z n : Nat} {v : Value} {xs : List Value} (h : w.ownsRow b e z v n xs) (hb : Below w.heap.size w w') : w'.ownsRow b e z v n xs := (FrT.of (B := 0) (T := []) hb).row h (by simp)
theorem CS.then {W : World} {x : Sc} {ad : Nat → Ad} {b1 b2 b3 : Nat} {c : Ad} {i j : Nat} {w w' : World} (h : CS W x ad b1 b2 b3 c i j w) (hb : Below w.heap.size w w') : CS W x ad b1 b2 b3 c i j w' :=
  ⟨h.below.trans (hb.mono h.below.size), own_bel h.x1 hb, own_bel h.y3 hb, ⟨(hb.block _ (Array.getElem?_eq_some_iff.1 h.r2.1).1).trans h.r2.1, h.r2.2⟩, h.n1, h.n2, own_bel h.bod hb, fun t ht => own_bel (h.ops t ht) hb, own_bel h.stp hb, fun t ht => own_bel (h.ints t ht) hb, fun t ht => own_bel (h.txts t ht) hb⟩
/-- How much there is at most; what is nil holds nothing. -/
structure Few (x : Sc) (a : Ad) : Prop where
  b : x.bn ≤ 1048576
  o : ∀ i, x.bl i ≤ 1048576
  s : x.sn ≤ 1048576
  l : ∀ i, x.ln i ≤ 1048576
  m : ∀ i, x.mn i ≤ 1048576
  no : ∀ i, a.oA i = none → x.bl i = 0 ∧ a.oc i = 0
  nl : ∀ i, a.lA i = none → x.ln i = 0 ∧ a.lc i = 0
  nm : ∀ i, a.mA i = none → x.mn i = 0 ∧ a.mc i = 0
  zo : ∀ i, x.bn ≤ i → x.bl i = 0
  zl : ∀ i, x.sn ≤ i → x.ln i = 0
  zm : ∀ i, x.sn ≤ i → x.mn i = 0
theorem Few.fits {x : Sc} {a : Ad} (h : Few x a) : Fits x := ⟨by have := h.b; omega, fun i => by have := h.o i; omega, by have := h.s; omega, fun i => by have := h.l i; omega, fun i => by have := h.m i; omega⟩
/-- The boxes, over the rows that came in. -/
abbrev bxk (x : Sc) (ad : Nat → Ad) (b1 b3 : Nat) (c : Ad) (i j : Nat) : Bx := ⟨b1, b3, 0, 0, .slice c.bA i c.bc, .slice c.sA j c.sc, default, default, x.st 0⟩
theorem own_cell {w : World} {b e z g : Nat} {l : List Value} (hz : l.length = z) (h : w.ownsRow b e z (sl1 g) 1 ((List.range 1).flatMap fun _ => l)) : g < w.heap.size ∧ ∀ k u, l[k]? = some u → w.cell? ((⟨g, 0, none⟩ : Addr).add k) = some u := by
  refine ⟨?_, fun k u hk => ?_⟩
  · rcases row_slice h with ⟨e, _⟩ | ⟨g', e, h1, h2⟩
    · cases e
    · cases e; exact h2
  · have := own_at (f := fun _ => l) (fun _ => hz) h (t := 0) (by omega) k u hk
    rw [Nat.zero_mul, Nat.zero_add] at this
    exact this
theorem CS.xok {W : World} {x : Sc} {ad : Nat → Ad} {b1 b2 b3 : Nat} {c : Ad} {i j : Nat} {w : World} (h : CS W x ad b1 b2 b3 c i j w) (hX : @XOk (rowsS x ad) W) : @XOk (rowsP x ad (bxk x ad b1 b3 c i j)) w := by
  refine xok_P (@XOk.below (rowsS x ad) _ _ hX h.below) fun n => ?_
  match n with
  | 0 =>
    obtain ⟨h1, h2⟩ := own_cell (l := scV x _ _) rfl h.x1
    exact xrow_den (fun s hs mem => @scC_ok (rowsP x ad _) x 0 mem s hs) (fun m => scC_den x ad _ m) h1 h2 (Nat.le_refl _)
  | 1 =>
    obtain ⟨h1, h2⟩ := own_cell (l := scV x _ _) rfl h.y3
    refine xrow_den (l := (scV x (.slice c.bA i c.bc) (.slice c.sA j c.sc)).map SV.val) (vs := scV x (.slice c.bA i c.bc) (.slice c.sA j c.sc)) (fun s hs mem => ?_) (fun m => ?_) h1 h2 (Nat.le_refl _)
    · obtain ⟨v, _, rfl⟩ := List.mem_map.1 hs
      exact @ok_val (rowsP x ad _) _ _
    · rw [List.map_map]
      exact (List.map_congr_left fun v _ => @den_val (rowsP x ad _) m v).trans (List.map_id _)
  | n + 2 => exact fun j hj => absurd hj (Nat.not_lt_zero _)
end Go.Proofs.YtlliefodchfpfaaDoor.PDescKinds
end
section
/- cameolaw28.Copy: the bodies. -/
set_option linter.unusedSimpArgs false
set_option linter.unusedVariables false
set_option linter.unusedSectionVars false
namespace Go.Proofs.YtlliefodchfpfaaDoor.PDescKinds
open Go.RowKit Go.Ev Go.Proofs.YtlliefodchfpfaaDoorV.PrintLast
set_option maxRecDepth 100000
abbrev TZ : GFn := tab []
abbrev LP (q : Nat) (v2 : Value) (i : Nat) : List (Nat × SV) := [(1, .xp [0] 0 0), (2, .val v2), (3, .xp [1] 0 0), (q, .val (.int .i64 (i : Int)))]
abbrev kpL (q b1 b2 b3 i : Nat) : List (Nat × Value) := [(1, pt b1), (2, pt b2), (3, pt b3), (q, .int .i64 (i : Int))]
theorem ctxP (x : Sc) (ad : Nat → Ad) (k : Bx) : @Ctx (rowsP x ad k) Tryd.prog ext (tab []) (fun w => @XOk (rowsP x ad k) w) := by
  letI := rowsP x ad k
  exact ⟨mixed, ext_sound, fun w w' h hb => @XOk.below (rowsP x ad k) _ _ h hb, fun w h => h, tab_sound entries_nil⟩
theorem den_p0 (x : Sc) (ad : Nat → Ad) (k : Bx) (m : Nat → Nat) : @SV.den (rowsP x ad k) m (.xp [0] 0 0) = pt k.b1 := by
  rw [@den_xp (rowsP x ad k)]
  show Value.pointer (some ((⟨k.b1, 0, none⟩ : Addr).add (0 * 5 + 0))) = _
  rw [Nat.zero_mul, add_none]
theorem den_p1 (x : Sc) (ad : Nat → Ad) (k : Bx) (m : Nat → Nat) : @SV.den (rowsP x ad k) m (.xp [1] 0 0) = pt k.b3 := by
  rw [@den_xp (rowsP x ad k)]
  show Value.pointer (some ((⟨k.b3, 0, none⟩ : Addr).add (0 * 5 + 0))) = _
  rw [Nat.zero_mul, add_none]
section
variable {x : Sc} {ad : Nat → Ad} {k : Bx} {a : Act} {w w' W : World} {Q : Exit → Act → World → Prop}
theorem kp_sr4 {b2 i : Nat} (hk : Kp 58 (kpL 4 k.b1 b2 k.b3 i) a) (w : World) : @SR (rowsP x ad k) w 58 (fun _ => 0) ((⟨LP 4 (pt b2) i, []⟩ : Cut).st 0) a w := by
  letI := rowsP x ad k
  refine epoch hk.size hk.defers _ _ (fun p hp => ?_) (fun p hp => ?_)
  · simp only [List.mem_cons, List.not_mem_nil, or_false] at hp
    rcases hp with rfl | rfl | rfl | rfl
    · rw [den_p0]; exact hk.vals (1, _) (by simp)
    · rw [den_val]; exact hk.vals (2, _) (by simp)
    · rw [den_p1]; exact hk.vals (3, _) (by simp)
    · rw [den_val]; exact hk.vals (4, _) (by simp)
  · simp only [List.mem_cons, List.not_mem_nil, or_false] at hp
    rcases hp with rfl | rfl | rfl | rfl
    · exact ok_xp.2 Nat.zero_lt_one
    · exact ok_val _ _
    · exact ok_xp.2 Nat.zero_lt_one
    · exact ok_val _ _
theorem sr_kp4 {b2 i : Nat} {m : Nat → Nat} {next : Nat} (hr : @SR (rowsP x ad k) w 58 m ((⟨LP 4 (pt b2) i, []⟩ : Cut).st next) a w') : Kp 58 (kpL 4 k.b1 b2 k.b3 i) a := SR.kp hr fun p hp => by
  simp only [List.mem_cons, List.not_mem_nil, or_false] at hp
  rcases hp with rfl | rfl | rfl | rfl
  · exact ⟨rfl, den_p0 x ad k m⟩
  · exact ⟨rfl, @den_val (rowsP x ad k) _ _⟩
  · exact ⟨rfl, den_p1 x ad k m⟩
  · exact ⟨rfl, @den_val (rowsP x ad k) _ _⟩
theorem kp_sr5 {b2 i : Nat} (hk : Kp 58 (kpL 5 k.b1 b2 k.b3 i) a) (w : World) : @SR (rowsP x ad k) w 58 (fun _ => 0) ((⟨LP 5 (pt b2) i, []⟩ : Cut).st 0) a w := by
  letI := rowsP x ad k
  refine epoch hk.size hk.defers _ _ (fun p hp => ?_) (fun p hp => ?_)
  · simp only [List.mem_cons, List.not_mem_nil, or_false] at hp
    rcases hp with rfl | rfl | rfl | rfl
    · rw [den_p0]; exact hk.vals (1, _) (by simp)
    · rw [den_val]; exact hk.vals (2, _) (by simp)
    · rw [den_p1]; exact hk.vals (3, _) (by simp)
    · rw [den_val]; exact hk.vals (5, _) (by simp)
  · simp only [List.mem_cons, List.not_mem_nil, or_false] at hp
    rcases hp with rfl | rfl | rfl | rfl
    · exact ok_xp.2 Nat.zero_lt_one
    · exact ok_val _ _
    · exact ok_xp.2 Nat.zero_lt_one
    · exact ok_val _ _
theorem sr_kp5 {b2 i : Nat} {m : Nat → Nat} {next : Nat} (hr : @SR (rowsP x ad k) w 58 m ((⟨LP 5 (pt b2) i, []⟩ : Cut).st next) a w') : Kp 58 (kpL 5 k.b1 b2 k.b3 i) a := SR.kp hr fun p hp => by
  simp only [List.mem_cons, List.not_mem_nil, or_false] at hp
  rcases hp with rfl | rfl | rfl | rfl
  · exact ⟨rfl, den_p0 x ad k m⟩
  · exact ⟨rfl, @den_val (rowsP x ad k) _ _⟩
  · exact ⟨rfl, den_p1 x ad k m⟩
  · exact ⟨rfl, @den_val (rowsP x ad k) _ _⟩
end
theorem t_c1 (x : Sc) (ad : Nat → Ad) (k : Bx) (v2 : Value) (i : Nat) : letI := rowsP x ad k
    evK Tryd.prog ext TZ 80 58 (seqL (cpr.take 2)) ((⟨LP 4 v2 i, []⟩ : Cut).st 0) (grab Tryd.prog Tryd.f7 [1, 2, 3, 4] [] 0) =
    bif decide ((i : Int) < (x.bn : Int)) then some (.cut .normal ⟨LP 4 v2 i, []⟩) else some (.cut (.exit 0) ⟨LP 4 v2 i, []⟩) := by kernel_rfl
theorem t_c1e (v1 v2 v3 : Value) (i : Nat) : letI := row0
    evK Tryd.prog ext TZ 80 58 (seqL (cpr.drop 3)) ((⟨[(1, .val v1), (2, .val v2), (3, .val v3), (4, .val (.int .i64 (i : Int)))], []⟩ : Cut).st 0) (grab Tryd.prog Tryd.f7 [1, 2, 3, 4] [] 0) =
    some (.cut .normal ⟨[(1, .val v1), (2, .val v2), (3, .val v3), (4, .val (.int .i64 (IntKind.i64.wrap ((i : Int) + 1))))], []⟩) := by kernel_rfl
theorem cp_eq : cp = preOf cp ++ (.block 0 (.loop (roundOf cp)) :: cq) := by kernel_rfl
theorem cpr_eq : cpr = cpr.take 2 ++ (.block 1 (inB (cpr.getD 2 .skip)) :: cpr.drop 3) := by kernel_rfl
theorem cpb_eq : cpb = [.region 7 cp7 true] := by kernel_rfl
abbrev l7a : Array Bool := #[true, true, false, true, true, true, false, false, false, false, false, false, false]
abbrev l7b : Array Bool := #[true, true, false, true, true, true, true, true, false, false, false, false, false]
theorem t_7a (x : Sc) (ad : Nat → Ad) (k : Bx) (v2 : Value) (i : Nat) : letI := rowsP x ad k
    (takesL Tryd.prog cp7 [10, 12] 58 [0, 1, 3, 4, 5] (pickT (LP 4 v2 i)) (Array.replicate 13 false)).map (fun p => ([1, 2, 3, 4, 18, 21, 22].map p.1, p.2)) =
    some ([.xp [0] 0 0, .val v2, .xp [1] 0 0, .val (.int .i64 (i : Int)), .val k.vB, .xs [0, 0], .val (.int .i64 (i : Int))], l7a) := by kernel_rfl
abbrev L7 (v2 vB : Value) (i : Nat) : List (Nat × SV) := [(1, .xp [0] 0 0), (2, .val v2), (3, .xp [1] 0 0), (4, .val (.int .i64 (i : Int))), (18, .val vB), (21, .xs [0, 0]), (22, .val (.int .i64 (i : Int)))]
theorem t_7c (x : Sc) (ad : Nat → Ad) (k : Bx) (v2 : Value) (i : Nat) : letI := rowsP x ad k
    takesL Tryd.prog cp7 [10, 12] 58 [6, 7] (pickT (L7 v2 k.vB i)) l7a =
    (match (bif decide (0 ≤ (i : Int)) && decide ((i : Int) < (x.bn : Int)) then some (SV.xp [0, 0] i 0) else none) with
     | some v => takesL Tryd.prog cp7 [10, 12] 58 [7] (putS (pickT (L7 v2 k.vB i)) (some 23) v) #[true, true, false, true, true, true, true, false, false, false, false, false, false]
     | none => none) := by kernel_rfl
theorem t_7d (x : Sc) (ad : Nat → Ad) (k : Bx) (v2 : Value) (i : Nat) : letI := rowsP x ad k
    (takesL Tryd.prog cp7 [10, 12] 58 [7] (putS (pickT (L7 v2 k.vB i)) (some 23) (SV.xp [0, 0] i 0)) #[true, true, false, true, true, true, true, false, false, false, false, false, false]).map (fun p => ([1, 2, 3, 4, 18, 24].map p.1, p.2)) =
    some ([.xp [0] 0 0, .val v2, .xp [1] 0 0, .val (.int .i64 (i : Int)), .val k.vB, .xs [0, 0, i]], l7b) := by kernel_rfl
theorem t_7b (x : Sc) (ad : Nat → Ad) (k : Bx) (v2 : Value) (i : Nat) (hi : i < x.bn) : letI := rowsP x ad k
    (takesL Tryd.prog cp7 [10, 12] 58 [6, 7] (pickT (L7 v2 k.vB i)) l7a).map (fun p => ([1, 2, 3, 4, 18, 24].map p.1, p.2)) =
    some ([.xp [0] 0 0, .val v2, .xp [1] 0 0, .val (.int .i64 (i : Int)), .val k.vB, .xs [0, 0, i]], l7b) := by
  letI := rowsP x ad k
  rw [t_7c, decide_eq_true (by omega : (0 : Int) ≤ (i : Int)), decide_eq_true (by omega : (i : Int) < (x.bn : Int))]
  exact t_7d x ad k v2 i
theorem t_7n : letI := row0
    evOp Tryd.prog ext (fun _ _ _ _ => none) (Ev.look (pickT [])) (fun _ => none) 0 (cp7.toList.getD 2 default) = some (.slc 0 0 0 0, .new ⟨82, []⟩) := by kernel_rfl
theorem t_7m (A : Option Addr) (n c : Nat) : letI := row0
    evOp Tryd.prog ext (fun _ _ _ _ => none) (Ev.look (pickT [(25, .val (.slice A n c))])) (fun _ => none) 0 (cp7.toList.getD 9 default) = some (.slc 0 0 1 1, .new ⟨56, [Value.slice A n c].map SV.val⟩) := by kernel_rfl
theorem t_7f (g : Addr) : letI := row0
    evP Tryd.prog (Ev.look (pickT [(3, .val (.pointer (some g)))])) (cp7.toList.getD 11 default) = some (.val (.pointer (some (g.add 3)))) := by kernel_rfl
theorem cp7_get (j : Nat) (hj : j < 13) : cp7[j]? = some (cp7.toList.getD j default) := by
  have hs : cp7.size = 13 := by kernel_rfl
  rw [← Array.getElem?_toList, List.getD_eq_getElem?_getD, List.getElem?_eq_getElem (by rw [Array.length_toList, hs]; exact hj)]
  rfl
theorem opr_len (y : Opr) : y.list.length = 32 := rfl
theorem opr_one (y : Opr) : ∀ u ∈ y.list, u.oneCell' = true := by
  intro u hu
  simp only [Opr.list, List.mem_cons, List.not_mem_nil, or_false] at hu
  rcases hu with rfl | rfl | rfl | rfl | rfl | rfl | rfl | rfl | rfl | rfl | rfl | rfl | rfl | rfl | rfl | rfl | rfl | rfl | rfl | rfl | rfl | rfl | rfl | rfl | rfl | rfl | rfl | rfl | rfl | rfl | rfl | rfl <;> rfl
theorem ops_news {x : Sc} {ad : Nat → Ad} {w : World} (h : @XOk (rowsS x ad) w) (i : Nat) : ∀ g : Addr, (ad 0).oA i = some g → ∀ j u, ((List.range (x.bl i)).flatMap fun t => (x.op i t).list)[j]? = some u → w.cell? (g.add j) = some u :=
  row_news (e := rowsS x ad) (r := ⟨(ad 0).oA i, 32, x.bl i, (ad 0).oc i, fun j => (x.op i j).list.map SV.val⟩) (h [0, 0, i]) (fun j _ m => by
    rw [List.map_map]
    exact (List.map_congr_left fun v _ => @den_val (rowsS x ad) m v).trans (List.map_id _)) (fun j => rfl)
/-- A body more. -/
def Ad.body (c : Ad) (i : Nat) (A : Option Addr) (n : Nat) (B : Option Addr) (m : Nat) : Ad := { c with bA := A, bc := n, oA := fput c.oA i B, oc := fput c.oc i m }
section
variable {x : Sc} {ad : Nat → Ad} {a : Act} {w w' W : World} {Q : Exit → Act → World → Prop} {b1 b2 b3 : Nat} {c : Ad} {i : Nat}
theorem keep_block {B : Nat} {T : List Nat} {w w' : World} {g : Nat} {l : Array Value} {t : Nat} (hf : FrT B T w w') (h : w.heap[g]? = some (.cells l t (0, 0))) (ht : t ∉ T) : w'.heap[g]? = some (.cells l t (0, 0)) := by
  rw [hf.block g (Array.getElem?_eq_some_iff.1 h).1 (.inr fun cs ty c hc hm => by
    rw [h] at hc
    cases hc
    exact ht hm)]
  exact h
set_option maxHeartbeats 2000000 in
theorem cp7_reg (hX : @XOk (rowsS x ad) W) (hF : Few x (ad 0)) (hi : i < x.bn) (hC : CS W x ad b1 b2 b3 c i 0 w) (hk : Kp 58 (kpL 4 b1 b2 b3 i) a)
    (hQ : ∀ c' a' w', Kp 58 (kpL 4 b1 b2 b3 i) a' → CS W x ad b1 b2 b3 c' (i + 1) 0 w' → Q .normal a' w') : (Code.region 7 cp7 true).wp Tryd.prog Q a w := by
  have hM : maxLen = 9223372036854775807 := by decide +kernel
  let k : Bx := bxk x ad b1 b3 c i 0
  refine region_last (fun w' => @XOk (rowsP x ad k) w') [10, 12] ?_
  rw [show cp7.size = 13 by kernel_rfl]
  have hC1 : CS W x ad b1 b2 b3 c i 0 { w with drawn := w.drawn + 1 } := ⟨⟨hC.below.os, hC.below.tape, hC.below.output, hC.below.size, hC.below.block⟩, hC.x1, hC.y3, hC.r2, hC.n1, hC.n2, hC.bod, hC.ops, hC.stp, hC.ints, hC.txts⟩
  generalize ({ w with drawn := w.drawn + 1 } : World) = w1 at hC1 ⊢
  have hS1 : @XOk (rowsP x ad k) w1 := hC1.xok hX
  have hXw1 : @XOk (rowsS x ad) w1 := @XOk.below (rowsS x ad) _ _ hX hC1.below
  have hB1 : W.heap.size ≤ w1.heap.size := hC1.below.size
  have hsr := kp_sr4 (x := x) (ad := ad) (k := k) hk w1
  have har0 : @AR (rowsP x ad k) 58 (fun _ => 0) (pickT (LP 4 (pt b2) i)) (fun _ => none) a := @SR.ar (rowsP x ad k) _ _ _ _ _ _ hsr
  show wpAnyLast Tryd.prog .any cp7 _ _ _ ([0, 1, 3, 4, 5].length + 8) (Array.replicate 13 false) a w1
  refine @takesL_cut (rowsP x ad k) _ _ _ _ _ _ _ (fun w h => h) (by kernel_rfl) _ _ _ _ _ _ _ _ _ (t_7a x ad k (pt b2) i) har0 hS1 fun a1 t1 har1 e1 => ?_
  have har1' := @ar_pick (rowsP x ad k) _ _ _ _ _ _ har1 e1
  show wpAnyLast Tryd.prog .any cp7 _ _ _ ([6, 7].length + 6) l7a a1 w1
  refine @takesL_cut (rowsP x ad k) _ _ _ _ _ _ _ (fun w h => h) (by kernel_rfl) _ _ _ _ _ _ _ _ _ (t_7b x ad k (pt b2) i hi) har1' hS1 fun a2 t2 har2 e2 => ?_
  simp only [List.map_cons, List.map_nil, List.cons.injEq, and_true] at e2
  obtain ⟨f1, f2, f3, f4, f18, f24⟩ := e2
  have K2 : Kp 58 [(1, pt b1), (2, pt b2), (3, pt b3), (4, .int .i64 (i : Int)), (18, .slice c.bA i c.bc), (24, .slice ((ad 0).oA i) (x.bl i) ((ad 0).oc i))] a2 := by
    refine ⟨@AR.size (rowsP x ad k) _ _ _ _ _ har2, @AR.defers (rowsP x ad k) _ _ _ _ _ har2, fun p hp => ?_⟩
    simp only [List.mem_cons, List.not_mem_nil, or_false] at hp
    rcases hp with rfl | rfl | rfl | rfl | rfl | rfl
    · exact (@ar_get (rowsP x ad k) _ _ _ _ _ har2 _ _ f1 rfl).trans (den_p0 x ad k _)
    · exact @ar_eval (rowsP x ad k) _ _ _ _ _ har2 _ _ f2
    · exact (@ar_get (rowsP x ad k) _ _ _ _ _ har2 _ _ f3 rfl).trans (den_p1 x ad k _)
    · exact @ar_eval (rowsP x ad k) _ _ _ _ _ har2 _ _ f4
    · exact @ar_eval (rowsP x ad k) _ _ _ _ _ har2 _ _ f18
    · exact (@ar_get (rowsP x ad k) _ _ _ _ _ har2 _ _ f24 rfl).trans (@den_xs (rowsP x ad k) _ _)
  -- an empty list
  refine wpAnyLast_one (i := 2) (l' := #[true, true, true, true, true, true, true, true, false, false, false, false, false]) (by kernel_rfl) (cp7_get 2 (by decide)) (by kernel_rfl) (by kernel_rfl) ?_
  refine build0 (RP.ar_none (us := []) K2 (by simp) w1) t_7n fun g w2 bw2 hg hw2 => ?_
  rw [show (cp7.toList.getD 2 default).dst = some 19 by kernel_rfl]
  refine ⟨fun _ _ => @XOk.below (rowsP x ad k) _ _ hS1 bw2, ?_⟩
  have K3 := K2.put (d := 19) (v := .slice (some ⟨g, 0, none⟩) 0 0) rfl
  generalize a2.put (some 19) (.slice (some ⟨g, 0, none⟩) 0 0) = a3 at K3 ⊢
  -- the operations
  have own0 : w2.ownsRow w1.heap.size 82 32 (.slice (some ⟨g, 0, none⟩) 0 0) 0 [] := ⟨rfl, .inr ⟨g, 0, #[], rfl, hg, hw2, Nat.le_refl _, Nat.zero_le _, rfl, rfl⟩⟩
  refine wpAnyLast_one (i := 8) (l' := #[true, true, true, true, true, true, true, true, true, false, false, false, false]) (by kernel_rfl) (cp7_get 8 (by decide)) (by kernel_rfl) (by kernel_rfl) ?_
  refine wp_append_row (.tmp 19) (.tmp 24) 56 (by kernel_rfl) w1.heap.size 82 32 288 (by kernel_rfl) (by kernel_rfl) (by decide) _ 0 [] (K3.get (by simp)) own0 ((ad 0).oA i) (x.bl i) ((ad 0).oc i) ((List.range (x.bl i)).flatMap fun t => (x.op i t).list) (K3.get (by simp)) (hF.no i) (flat_len (fun t => opr_len _) _)
    (fun ga hga j u hu => ops_news (@XOk.below (rowsS x ad) _ _ hXw1 bw2) i ga hga j u hu) (fun u hu => by
      obtain ⟨t, _, hu⟩ := List.mem_flatMap.1 hu
      exact opr_one _ u hu) (by have := hF.o i; omega) (by decide) bw2.size fun u8 w3 hown8 hgr8 => ?_
  rw [Nat.zero_add, List.nil_append] at hown8
  have bw3 : Below w1.heap.size w1 w3 := bw2.trans (below_grown bw2.size hgr8 hg)
  rw [show (cp7.toList.getD 8 default).dst = some 25 by kernel_rfl]
  refine ⟨fun _ _ => @XOk.below (rowsP x ad k) _ _ hS1 bw3, ?_⟩
  obtain ⟨e8, _⟩ := own_slice hown8
  have K4 := K3.put (d := 25) (v := u8) rfl
  generalize a3.put (some 25) u8 = a4 at K4 ⊢
  rw [e8] at K4 hown8
  generalize slA u8 = A8 at K4 hown8
  generalize slC u8 = c8 at K4 hown8
  -- a list of one
  refine wpAnyLast_one (i := 9) (l' := #[true, true, true, true, true, true, true, true, true, true, false, false, false]) (by kernel_rfl) (cp7_get 9 (by decide)) (by kernel_rfl) (by kernel_rfl) ?_
  refine build1 (l := [.slice A8 (x.bl i) c8]) (RP.ar_none (us := [(25, .slice A8 (x.bl i) c8)]) K4 (by simp) w3) (t_7m A8 (x.bl i) c8) fun g9 w4 bw4 hg9 hw4 => ?_
  rw [show (cp7.toList.getD 9 default).dst = some 26 by kernel_rfl]
  have bw14 : Below w1.heap.size w1 w4 := bw3.trans (bw4.mono bw3.size)
  refine ⟨fun _ _ => @XOk.below (rowsP x ad k) _ _ hS1 bw14, ?_⟩
  have K5 := K4.put (d := 26) (v := .slice (some ⟨g9, 0, none⟩) 1 1) rfl
  generalize a4.put (some 26) (.slice (some ⟨g9, 0, none⟩) 1 1) = a5 at K5 ⊢
  have hC4 : CS W x ad b1 b2 b3 c i 0 w4 := hC1.then bw14
  have hown8' := own_bel hown8 bw4
  -- the bodies grow
  refine wpAnyLast_one (i := 10) (l' := #[true, true, true, true, true, true, true, true, true, true, true, false, false]) (by kernel_rfl) (cp7_get 10 (by decide)) (by kernel_rfl) (by kernel_rfl) ?_
  refine wp_append_row (.tmp 18) (.tmp 26) 35 (by kernel_rfl) W.heap.size 56 1 24 (by kernel_rfl) (by kernel_rfl) (by decide) _ i _ (K5.get (by simp)) hC4.bod (some ⟨g9, 0, none⟩) 1 1 [.slice A8 (x.bl i) c8] (K5.get (by simp)) (fun h => by cases h) rfl
    (fun ga hga j u hu => by
      cases hga
      rw [add_none, cell_of_row w4 g9 _ _ 56 (0, 0) hw4]
      simpa using hu) (fun u hu => by
      obtain rfl := List.mem_singleton.1 hu
      rfl) (by have := hF.b; omega) (by decide) hC4.below.size fun u10 w5 hown10 hgr10 => ?_
  have f5 : FrT W.heap.size [56] w4 w5 := FrT.own hC4.bod (Nat.le_refl _) hgr10
  rw [show (cp7.toList.getD 10 default).dst = some 27 by kernel_rfl]
  refine ⟨fun hn => absurd (by simp) hn, ?_⟩
  obtain ⟨e10, _⟩ := own_slice hown10
  have K6 := K5.put (d := 27) (v := u10) rfl
  generalize a5.put (some 27) u10 = a6 at K6 ⊢
  rw [e10] at K6 hown10
  generalize slA u10 = A10 at K6 hown10
  generalize slC u10 = c10 at K6 hown10
  -- where it goes
  refine wpAnyLast_one (i := 11) (l' := #[true, true, true, true, true, true, true, true, true, true, true, true, false]) (by kernel_rfl) (cp7_get 11 (by decide)) (by kernel_rfl) (by kernel_rfl) ?_
  refine op_val (us := [(3, pt b3)]) (d := 28) K6 (by simp) (t_7f ⟨b3, 0, none⟩) (by kernel_rfl) ⟨fun _ h => h, ?_⟩
  rw [show (⟨b3, 0, none⟩ : Addr).add 3 = ⟨b3, 3, none⟩ by rw [add_none]]
  have K7 := K6.put (d := 28) (v := .pointer (some ⟨b3, 3, none⟩)) rfl
  generalize a6.put (some 28) (.pointer (some ⟨b3, 3, none⟩)) = a7 at K7 ⊢
  refine wpAnyLast_one (i := 12) (l' := #[true, true, true, true, true, true, true, true, true, true, true, true, true]) (by kernel_rfl) (cp7_get 12 (by decide)) (by kernel_rfl) (by kernel_rfl) ?_
  have hy5 := f5.row hC4.y3 (by simp)
  obtain ⟨w6, hst, hy6, hg6⟩ := own_splice (P := Tryd.prog) (ty := 35) (t := 0) (o := 3) (x := .slice A10 (i + 1) c10) hy5 (fun _ => rfl) (by omega) (by kernel_rfl) (show 3 + 1 ≤ 5 by decide) (fun y hy => by
    obtain rfl : y = .slice A10 (i + 1) c10 := by simpa [Value.cells] using hy
    rfl)
  unfold Oper.wp
  rw [store_run (o := cp7.toList.getD 12 default) (t := 35) (x := .tmp 28) (y := .tmp 27) (by kernel_rfl) (K7.get (by simp)) (K7.get (by simp)) hst, Oper.upon_skip, show (cp7.toList.getD 12 default).dst = none by kernel_rfl]
  refine ⟨fun hn => absurd (by simp) hn, ?_⟩
  refine wpAnyLast_done (by kernel_rfl) ?_ 0
  have f6 : FrT W.heap.size [38] w5 w6 := FrT.own hy5 (Nat.le_refl _) hg6
  have f46 : FrT W.heap.size [56, 38] w4 w6 := (f5.mono (Nat.le_refl _) (by simp)).trans (f6.mono (Nat.le_refl _) (by simp))
  have keep38 : ∀ g : Nat, g ≠ b3 → ∀ l, w4.heap[g]? = some (.cells l 38 (0, 0)) → w6.heap[g]? = some (.cells l 38 (0, 0)) := fun g hn l h => by
    have h5 := keep_block f5 h (by simp)
    rw [hg6.block g (Array.getElem?_eq_some_iff.1 h5).1 (fun e => hn (by cases e; rfl))]
    exact h5
  refine hQ (c.body i A10 c10 A8 c8) a7 w6 (K7.sub (by simp)) ⟨hC4.below.trans (f46.below hC4.below.size |>.mono (Nat.le_refl _)), ?_, ?_, ⟨keep38 b2 hC4.n2 _ hC4.r2.1, hC4.r2.2⟩, hC4.n1, hC4.n2, ?_, fun t ht => ?_, ?_, fun t ht => absurd ht (Nat.not_lt_zero _), fun t ht => absurd ht (Nat.not_lt_zero _)⟩
  · refine ownsRow_same (f5.row hC4.x1 (by simp)) fun g hg => ?_
    cases hg
    obtain ⟨h1, _⟩ := own_cell (l := scV x _ _) rfl (f5.row hC4.x1 (by simp))
    exact hg6.block _ h1 fun e => hC4.n1 (by cases e; rfl)
  · exact hy6
  · have := f6.row hown10 (by simp)
    show w6.ownsRow W.heap.size 56 1 (.slice A10 (i + 1) c10) (i + 1) ((List.range (i + 1)).flatMap fun t => [.slice (fput c.oA i A8 t) (x.bl t) (fput c.oc i c8 t)])
    rw [List.range_succ, List.flatMap_append, flat_congr i (g := fun t => [.slice (c.oA t) (x.bl t) (c.oc t)]) fun j hj => by simp only [fput]; rw [if_neg (by omega), if_neg (by omega)]]
    simp only [List.flatMap_cons, List.flatMap_nil, List.append_nil, fput, if_true]
    exact this
  · show w6.ownsRow W.heap.size 82 32 (.slice (fput c.oA i A8 t) (x.bl t) (fput c.oc i c8 t)) (x.bl t) _
    unfold fput
    by_cases hti : t = i
    · subst hti
      rw [if_pos rfl, if_pos rfl]
      exact f46.row (own_base hown8' hB1) (by simp)
    · rw [if_neg hti, if_neg hti]
      exact f46.row (hC4.ops t (by omega)) (by simp)
  · exact f46.row hC4.stp (by simp)
/-- The first loop. -/
theorem copy1 (hX : @XOk (rowsS x ad) W) (hF : Few x (ad 0)) (hQ : ∀ c a w, Kp 58 (kpL 4 b1 b2 b3 x.bn) a → CS W x ad b1 b2 b3 c x.bn 0 w → wpL Tryd.prog cq Q a w) :
    ∀ (k i : Nat) (c : Ad) (a : Act) (w : World), Kp 58 (kpL 4 b1 b2 b3 i) a → CS W x ad b1 b2 b3 c i 0 w → i ≤ x.bn → x.bn - i < k →
      Code.rounds Tryd.prog (roundOf cp) (Exit.inBlock 0 (Exit.then (wpL Tryd.prog cq Q) Q)) k a w := by
  intro k
  induction k with
  | zero => intro i c a w _ _ _ h; omega
  | succ k ih =>
    intro i c a w hk hC hi h2
    rw [rounds_succ]
    refine wpL_flat _ ?_
    show wpL Tryd.prog cpr _ a w
    have C := ctxP x ad (bxk x ad b1 b3 c i 0)
    rw [cpr_eq, wpL_app]
    have ev := t_c1 x ad (bxk x ad b1 b3 c i 0) (pt b2) i
    by_cases hin : i < x.bn
    · rw [decide_eq_true (by omega : (i : Int) < (x.bn : Int))] at ev
      letI := rowsP x ad (bxk x ad b1 b3 c i 0)
      refine piece C.mix C.hX C.hs C.hXO C.hG ev (w0 := w) (hC.xok hX) (kp_sr4 (x := x) (ad := ad) (k := bxk x ad b1 b3 c i 0) hk w) (fun v hv => by cases hv) (fun ex d hd m a1 w1 hr => ?_)
      cases hd
      have K1 : Kp 58 (kpL 4 b1 b2 b3 i) a1 := sr_kp4 (x := x) (ad := ad) (k := bxk x ad b1 b3 c i 0) hr
      have hC1 := hC.then hr.mr.below
      show (Code.block 1 (inB (cpr.getD 2 .skip))).wp Tryd.prog _ a1 w1
      refine wp_block ?_
      refine wpL_flat _ ?_
      show wpL Tryd.prog cpb _ a1 w1
      rw [cpb_eq, wpL_one]
      refine cp7_reg hX hF hin hC1 K1 fun c' a2 w2 K2 hC2 => ?_
      show wpL Tryd.prog (cpr.drop 3) _ a2 w2
      have ev2 := t_c1e (pt b1) (pt b2) (pt b3) i
      rw [wrb hin hF.fits.b] at ev2
      refine pieceZ ev2 (K2.sr w2) (fun v hv => by cases hv) (fun ex d hd m3 a3 w3 hr3 => ?_)
      cases hd
      refine ih (i + 1) c' a3 w3 (SR.kp hr3 fun p hp => ?_) (hC2.then (@MR.below row0 _ _ _ _ (@SR.mr row0 _ _ _ _ _ _ hr3))) hin (by omega)
      simp only [List.mem_cons, List.not_mem_nil, or_false] at hp
      rcases hp with rfl | rfl | rfl | rfl <;> exact ⟨rfl, @den_val row0 _ _⟩
    · obtain rfl : i = x.bn := by omega
      rw [decide_eq_false (by omega : ¬(x.bn : Int) < (x.bn : Int))] at ev
      letI := rowsP x ad (bxk x ad b1 b3 c x.bn 0)
      refine piece C.mix C.hX C.hs C.hXO C.hG ev (w0 := w) (hC.xok hX) (kp_sr4 (x := x) (ad := ad) (k := bxk x ad b1 b3 c x.bn 0) hk w) (fun v hv => by cases hv) (fun ex d hd m a1 w1 hr => ?_)
      cases hd
      exact hQ c a1 w1 (sr_kp4 (x := x) (ad := ad) (k := bxk x ad b1 b3 c x.bn 0) hr) (hC.then hr.mr.below)
end
end Go.Proofs.YtlliefodchfpfaaDoor.PDescKinds
end
