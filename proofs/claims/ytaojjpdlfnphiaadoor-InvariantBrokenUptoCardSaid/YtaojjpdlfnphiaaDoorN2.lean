/- Moments: functions with one loop, piece by piece. Written by a program of this session. -/
import Derived.Test.YtaojjpdlfnphiaaDoorN1
set_option linter.unusedSimpArgs false
set_option linter.unusedVariables false
set_option linter.unusedSectionVars false
namespace Go.Proofs.YtaojjpdlfnphiaaDoor.PDescKinds
open Go.RowKit Go.Ev
namespace R
def sealed (s : Sh) : Bool := (seek (fun i => bif (s.g i).d.c != 1 then some false else none) s.n 0).getD (!s.x)
def frozen (s : Sh) : Bool := (seek (fun i => bif !S.there (s.g i).d.g && (!S.there (s.g i).d.t && (s.g i).d.w != 1) then some false else none) s.n 0).getD (sealed s)
def sameSh (a b : Sh) : Bool := bif a.cl != b.cl || (!eqR a.p b.p || (!(a.x == b.x) || (a.n : Int) != (b.n : Int))) then false else
  (seek (fun i => bif !S.keq (a.g i).k (b.g i).k || !eqDR (a.g i).d (b.g i).d then some false else none) a.n 0).getD true
def sameM (a b : Mo) : Bool := bif (a.n : Int) != (b.n : Int) then false else (seek (fun i => bif !sameSh (a.g i) (b.g i) then some false else none) a.n 0).getD true
end R
theorem eq_of_bne {m n : Nat} (h : ((m : Int) != (n : Int)) = false) : m = n := by
  rw [bne_eq_false_iff_eq] at h
  omega
theorem sh_guard {a b c : Bool} {m n : Nat} (h : (a || (b || (c || (m : Int) != (n : Int)))) = false) : m = n := by
  simp only [Bool.or_eq_false_iff] at h
  exact eq_of_bne h.2.2.2

set_option maxRecDepth 100000 in
theorem lost107_pre (M : Nat → Mo) (bx : XR) (q r : SA) : letI := rowsB M bx
    evK Tryd.prog ext (tab2 BvL5 [(110, idxC M)]) 80 55 (seqL (preOf (bodyOf Tryd.f107))) (⟨argS [q.sv, r.sv], fun _ => none, 0⟩) (grab Tryd.prog Tryd.f107 [2, 3, 11, 12, 13] [0, 1] 2) =
    some (Res.cut Ex.normal (Cut.mk [(2, SV.ptr 0 0), (3, SV.ptr 1 0), (11, SV.xs [q.a, q.b]), (12, SV.val (Value.int IntKind.i64 (↑((M q.a).g q.b).n : Int))), (13, SV.val (Value.int IntKind.i64 0))] [(0, Blk.mk 60 [SV.val (Value.int IntKind.i64 q.cl), SV.val (Value.int IntKind.i64 q.p.k), SV.val (Value.bool q.p.b), SV.val (Value.float FloatKind.f64 q.p.n), SV.val (Value.string q.p.s), SV.val (Value.int IntKind.i64 q.p.id), SV.val (Value.bool q.x), SV.xs [q.a, q.b]]), (1, Blk.mk 60 [SV.val (Value.int IntKind.i64 r.cl), SV.val (Value.int IntKind.i64 r.p.k), SV.val (Value.bool r.p.b), SV.val (Value.float FloatKind.f64 r.p.n), SV.val (Value.string r.p.s), SV.val (Value.int IntKind.i64 r.p.id), SV.val (Value.bool r.x), SV.xs [r.a, r.b]])])) := by kernel_rfl
set_option maxRecDepth 100000 in
theorem lost107_round (M : Nat → Mo) (bx : XR) (q r : SA) (i : Nat) : letI := rowsB M bx
    evK Tryd.prog ext (tab2 BvL5 [(110, idxC M)]) 80 55 (seqL (flat (roundOf (bodyOf Tryd.f107)))) ((⟨[(2, .ptr 0 0), (3, .ptr 1 0), (11, .xs [q.a, q.b]), (12, .val (.int .i64 ((M q.a).g q.b).n)), (13, (.val (.int .i64 (i : Int))))], [(0, ⟨60, shCells q.cl q.p q.x [q.a, q.b]⟩), (1, ⟨60, shCells r.cl r.p r.x [r.a, r.b]⟩)]⟩ : Cut).st 2) (grab Tryd.prog Tryd.f107 [2, 3, 11, 12, 13] [0, 1] 2) =
    (bif decide ((↑i : Int) < (↑((M q.a).g q.b).n : Int)) then 
     (bif decide (0 ≤ (↑i : Int)) && decide ((↑i : Int) < (↑((M q.a).g q.b).n : Int)) then 
      (bif (((M q.a).g q.b).g i).d.c != 1 then some (Res.cut Ex.normal (Cut.mk [(2, SV.ptr 0 0), (3, SV.ptr 1 0), (11, SV.xs [q.a, q.b]), (12, SV.val (Value.int IntKind.i64 (↑((M q.a).g q.b).n : Int))), (13, SV.val (Value.int IntKind.i64 (IntKind.i64.wrap ((↑i : Int) + 1))))] [(0, Blk.mk 60 [SV.val (Value.int IntKind.i64 q.cl), SV.val (Value.int IntKind.i64 q.p.k), SV.val (Value.bool q.p.b), SV.val (Value.float FloatKind.f64 q.p.n), SV.val (Value.string q.p.s), SV.val (Value.int IntKind.i64 q.p.id), SV.val (Value.bool q.x), SV.xs [q.a, q.b]]), (1, Blk.mk 60 [SV.val (Value.int IntKind.i64 r.cl), SV.val (Value.int IntKind.i64 r.p.k), SV.val (Value.bool r.p.b), SV.val (Value.float FloatKind.f64 r.p.n), SV.val (Value.string r.p.s), SV.val (Value.int IntKind.i64 r.p.id), SV.val (Value.bool r.x), SV.xs [r.a, r.b]])])) else 
       (bif S.find ((M q.a).g q.b) (K.mk (((M q.a).g q.b).g i).k.s (((M q.a).g q.b).g i).k.n) != (↑i : Int) then some (Res.cut Ex.normal (Cut.mk [(2, SV.ptr 0 0), (3, SV.ptr 1 0), (11, SV.xs [q.a, q.b]), (12, SV.val (Value.int IntKind.i64 (↑((M q.a).g q.b).n : Int))), (13, SV.val (Value.int IntKind.i64 (IntKind.i64.wrap ((↑i : Int) + 1))))] [(0, Blk.mk 60 [SV.val (Value.int IntKind.i64 q.cl), SV.val (Value.int IntKind.i64 q.p.k), SV.val (Value.bool q.p.b), SV.val (Value.float FloatKind.f64 q.p.n), SV.val (Value.string q.p.s), SV.val (Value.int IntKind.i64 q.p.id), SV.val (Value.bool q.x), SV.xs [q.a, q.b]]), (1, Blk.mk 60 [SV.val (Value.int IntKind.i64 r.cl), SV.val (Value.int IntKind.i64 r.p.k), SV.val (Value.bool r.p.b), SV.val (Value.float FloatKind.f64 r.p.n), SV.val (Value.string r.p.s), SV.val (Value.int IntKind.i64 r.p.id), SV.val (Value.bool r.x), SV.xs [r.a, r.b]])])) else 
        (bif decide (S.find ((M r.a).g r.b) (K.mk (((M q.a).g q.b).g i).k.s (((M q.a).g q.b).g i).k.n) < 0) then some (Res.ret (SV.val (Value.bool true))) else 
         (bif decide (0 ≤ S.find ((M r.a).g r.b) (K.mk (((M q.a).g q.b).g i).k.s (((M q.a).g q.b).g i).k.n)) && decide (S.find ((M r.a).g r.b) (K.mk (((M q.a).g q.b).g i).k.s (((M q.a).g q.b).g i).k.n) < (↑((M r.a).g r.b).n : Int)) then 
          (bif S.okK (((M q.a).g q.b).g i).d (((M r.a).g r.b).g (S.find ((M r.a).g r.b) (K.mk (((M q.a).g q.b).g i).k.s (((M q.a).g q.b).g i).k.n)).toNat).d then 
           (bif !S.keeps (((M q.a).g q.b).g i).d (((M r.a).g r.b).g (S.find ((M r.a).g r.b) (K.mk (((M q.a).g q.b).g i).k.s (((M q.a).g q.b).g i).k.n)).toNat).d then some (Res.ret (SV.val (Value.bool true))) else some (Res.cut Ex.normal (Cut.mk [(2, SV.ptr 0 0), (3, SV.ptr 1 0), (11, SV.xs [q.a, q.b]), (12, SV.val (Value.int IntKind.i64 (↑((M q.a).g q.b).n : Int))), (13, SV.val (Value.int IntKind.i64 (IntKind.i64.wrap ((↑i : Int) + 1))))] [(0, Blk.mk 60 [SV.val (Value.int IntKind.i64 q.cl), SV.val (Value.int IntKind.i64 q.p.k), SV.val (Value.bool q.p.b), SV.val (Value.float FloatKind.f64 q.p.n), SV.val (Value.string q.p.s), SV.val (Value.int IntKind.i64 q.p.id), SV.val (Value.bool q.x), SV.xs [q.a, q.b]]), (1, Blk.mk 60 [SV.val (Value.int IntKind.i64 r.cl), SV.val (Value.int IntKind.i64 r.p.k), SV.val (Value.bool r.p.b), SV.val (Value.float FloatKind.f64 r.p.n), SV.val (Value.string r.p.s), SV.val (Value.int IntKind.i64 r.p.id), SV.val (Value.bool r.x), SV.xs [r.a, r.b]])]))) else some (Res.ret (SV.val (Value.bool true)))) else none)))) else none) else some (Res.cut (Ex.exit 0) (Cut.mk [(2, SV.ptr 0 0), (3, SV.ptr 1 0), (11, SV.xs [q.a, q.b]), (12, SV.val (Value.int IntKind.i64 (↑((M q.a).g q.b).n : Int))), (13, SV.val (Value.int IntKind.i64 (↑i : Int)))] [(0, Blk.mk 60 [SV.val (Value.int IntKind.i64 q.cl), SV.val (Value.int IntKind.i64 q.p.k), SV.val (Value.bool q.p.b), SV.val (Value.float FloatKind.f64 q.p.n), SV.val (Value.string q.p.s), SV.val (Value.int IntKind.i64 q.p.id), SV.val (Value.bool q.x), SV.xs [q.a, q.b]]), (1, Blk.mk 60 [SV.val (Value.int IntKind.i64 r.cl), SV.val (Value.int IntKind.i64 r.p.k), SV.val (Value.bool r.p.b), SV.val (Value.float FloatKind.f64 r.p.n), SV.val (Value.string r.p.s), SV.val (Value.int IntKind.i64 r.p.id), SV.val (Value.bool r.x), SV.xs [r.a, r.b]])]))) := by kernel_rfl
set_option maxRecDepth 100000 in
theorem lost107_post (M : Nat → Mo) (bx : XR) (q r : SA) (i : Nat) : letI := rowsB M bx
    evK Tryd.prog ext (tab2 BvL5 [(110, idxC M)]) 80 55 (seqL (postOf (bodyOf Tryd.f107))) ((⟨[(2, .ptr 0 0), (3, .ptr 1 0), (11, .xs [q.a, q.b]), (12, .val (.int .i64 ((M q.a).g q.b).n)), (13, (.val (.int .i64 (i : Int))))], [(0, ⟨60, shCells q.cl q.p q.x [q.a, q.b]⟩), (1, ⟨60, shCells r.cl r.p r.x [r.a, r.b]⟩)]⟩ : Cut).st 2) (grab Tryd.prog Tryd.f107 [2, 3, 11, 12, 13] [0, 1] 2) =
    some (Res.ret (SV.val (Value.bool false))) := by kernel_rfl
set_option maxRecDepth 100000 in
theorem run_lost107 (M : Nat → Mo) (bx : XR) (hM : Fit M) (q r : SA) : letI := rowsB M bx
    Runs Tryd.prog (Inv M bx) 55 Tryd.f107 ((fun x : Bool => SV.val (.bool x)) ((seek (fun i => bif (((M q.a).g q.b).g i).d.c != 1 || S.find ((M q.a).g q.b) (((M q.a).g q.b).g i).k != (i : Int) then none else bif decide ((S.find ((M r.a).g r.b) (((M q.a).g q.b).g i).k) < 0) then some true else bif S.okK (((M q.a).g q.b).g i).d (((M r.a).g r.b).g (S.find ((M r.a).g r.b) (((M q.a).g q.b).g i).k).toNat).d then (bif S.keeps (((M q.a).g q.b).g i).d (((M r.a).g r.b).g (S.find ((M r.a).g r.b) (((M q.a).g q.b).g i).k).toNat).d then none else some true) else some true) (((M q.a).g q.b).n) 0).getD false)) [] (bodyOf Tryd.f107) (⟨argS [q.sv, r.sv], fun _ => none, 0⟩) := by
  letI := rowsB M bx
  have C := ctxB M bx Bvents5 (entsS_cons (ent_idxC M bx hM) entsS_nil)
  refine Runs.seekFn C (n := ((M q.a).g q.b).n) (p := fun i => bif (((M q.a).g q.b).g i).d.c != 1 || S.find ((M q.a).g q.b) (((M q.a).g q.b).g i).k != (i : Int) then none else bif decide ((S.find ((M r.a).g r.b) (((M q.a).g q.b).g i).k) < 0) then some true else bif S.okK (((M q.a).g q.b).g i).d (((M r.a).g r.b).g (S.find ((M r.a).g r.b) (((M q.a).g q.b).g i).k).toNat).d then (bif S.keeps (((M q.a).g q.b).g i).d (((M r.a).g r.b).g (S.find ((M r.a).g r.b) (((M q.a).g q.b).g i).k).toNat).d then none else some true) else some true) (f := (fun x : Bool => SV.val (.bool x))) (z := false) (hd := fun i => (⟨[(2, .ptr 0 0), (3, .ptr 1 0), (11, .xs [q.a, q.b]), (12, .val (.int .i64 ((M q.a).g q.b).n)), (13, (.val (.int .i64 (i : Int))))], [(0, ⟨60, shCells q.cl q.p q.x [q.a, q.b]⟩), (1, ⟨60, shCells r.cl r.p r.x [r.a, r.b]⟩)]⟩ : Cut)) (c' := (fun i : Nat => (⟨[(2, .ptr 0 0), (3, .ptr 1 0), (11, .xs [q.a, q.b]), (12, .val (.int .i64 ((M q.a).g q.b).n)), (13, (.val (.int .i64 (i : Int))))], [(0, ⟨60, shCells q.cl q.p q.x [q.a, q.b]⟩), (1, ⟨60, shCells r.cl r.p r.x [r.a, r.b]⟩)]⟩ : Cut)) (((M q.a).g q.b).n)) (by kernel_rfl) (lost107_pre M bx q r) (fun i hi => ?_) ?_ (fun _ => Runs.ret C (lost107_post M bx q r (((M q.a).g q.b).n)))
  · refine (lost107_round M bx q r i).trans ?_
    simp only [S.find_cond]
    simp only [dlt hi, dge, wr hi ((hM q.a).2 q.b), cond_true, cond_false, Bool.and_self, Bool.true_and, map_cond, toR_cond, some_cond, Option.map_some, Option.map_none, toR_some, toR_none, cnd_and, cnd_or, cnd_not, S.keq, S.eqC, S.alikeC]
    first | done | rfl
  · refine (lost107_round M bx q r (((M q.a).g q.b).n)).trans ?_
    simp only [dnl, cond_false]
    rfl
theorem ent_lost107 (M : Nat → Mo) (bx : XR) (hM : Fit M) : Ent M bx (107, noMem (onShSh fun q r => LB (S.lost (q.sh M) (r.sh M)))) := by
  letI := rowsB M bx
  refine EntryS.of (fun args t v h1 h2 => ?_) (inv_stable M bx)
  obtain ⟨q, r, rfl, rfl⟩ := onShSh_eq h1
  cases h2
  refine ⟨ok_val _ _, ?_, fun w m hI => Runs.calls (body := Tryd.f107.body.getD .skip) Tryd.func107 (by kernel_rfl) (by kernel_rfl) ?_ (run_lost107 M bx hM q r) w hI m⟩ <;>
  · intro x hx
    simp only [List.mem_cons, List.not_mem_nil, or_false] at hx
    rcases hx with rfl | rfl <;> exact ok_sa _ _
set_option maxRecDepth 100000 in
theorem eqP78_pre (M : Nat → Mo) (bx : XR) (a b c d : Nat) : letI := rowsB M bx
    evK Tryd.prog ext (tab2 BvL5 []) 80 32 (seqL (preOf (bodyOf Tryd.f78))) (⟨argS [.xs [a, b], .xs [c, d], fnv 79], fun _ => none, 0⟩) (grab Tryd.prog Tryd.f78 [0, 1, 2, 15, 16, 17] [] 0) =
    (bif (↑((M a).g b).n : Int) != (↑((M c).g d).n : Int) then some (Res.ret (SV.val (Value.bool false))) else some (Res.cut Ex.normal (Cut.mk [(0, SV.xs [a, b]), (1, SV.xs [c, d]), (2, SV.val (Value.func (Fn.func 79) #[] #[])), (15, SV.xs [a, b]), (16, SV.val (Value.int IntKind.i64 (↑((M a).g b).n : Int))), (17, SV.val (Value.int IntKind.i64 0))] []))) := by kernel_rfl
set_option maxRecDepth 100000 in
theorem eqP78_round (M : Nat → Mo) (bx : XR) (a b c d : Nat) (i : Nat) : letI := rowsB M bx
    evK Tryd.prog ext (tab2 BvL5 []) 80 32 (seqL (flat (roundOf (bodyOf Tryd.f78)))) ((⟨[(0, .xs [a, b]), (1, .xs [c, d]), (2, fnv 79), (15, .xs [a, b]), (16, .val (.int .i64 ((M a).g b).n)), (17, (.val (.int .i64 (i : Int))))], []⟩ : Cut).st 0) (grab Tryd.prog Tryd.f78 [0, 1, 2, 15, 16, 17] [] 0) =
    (bif decide ((↑i : Int) < (↑((M a).g b).n : Int)) then 
     (bif decide (0 ≤ (↑i : Int)) && decide ((↑i : Int) < (↑((M a).g b).n : Int)) then 
      (bif decide (0 ≤ (↑i : Int)) && decide ((↑i : Int) < (↑((M c).g d).n : Int)) then 
       (bif (((M a).g b).g i).k.s == (((M c).g d).g i).k.s && ((((M a).g b).g i).k.n == (((M c).g d).g i).k.n && true) then 
        (bif !S.alikeC (((M a).g b).g i).d (((M c).g d).g i).d then some (Res.ret (SV.val (Value.bool false))) else some (Res.cut Ex.normal (Cut.mk [(0, SV.xs [a, b]), (1, SV.xs [c, d]), (2, SV.val (Value.func (Fn.func 79) #[] #[])), (15, SV.xs [a, b]), (16, SV.val (Value.int IntKind.i64 (↑((M a).g b).n : Int))), (17, SV.val (Value.int IntKind.i64 (IntKind.i64.wrap ((↑i : Int) + 1))))] []))) else some (Res.ret (SV.val (Value.bool false)))) else none) else none) else some (Res.cut (Ex.exit 0) (Cut.mk [(0, SV.xs [a, b]), (1, SV.xs [c, d]), (2, SV.val (Value.func (Fn.func 79) #[] #[])), (15, SV.xs [a, b]), (16, SV.val (Value.int IntKind.i64 (↑((M a).g b).n : Int))), (17, SV.val (Value.int IntKind.i64 (↑i : Int)))] []))) := by kernel_rfl
set_option maxRecDepth 100000 in
theorem eqP78_post (M : Nat → Mo) (bx : XR) (a b c d : Nat) (i : Nat) : letI := rowsB M bx
    evK Tryd.prog ext (tab2 BvL5 []) 80 32 (seqL (postOf (bodyOf Tryd.f78))) ((⟨[(0, .xs [a, b]), (1, .xs [c, d]), (2, fnv 79), (15, .xs [a, b]), (16, .val (.int .i64 ((M a).g b).n)), (17, (.val (.int .i64 (i : Int))))], []⟩ : Cut).st 0) (grab Tryd.prog Tryd.f78 [0, 1, 2, 15, 16, 17] [] 0) =
    some (Res.ret (SV.val (Value.bool true))) := by kernel_rfl
set_option maxRecDepth 100000 in
theorem run_eqP78 (M : Nat → Mo) (bx : XR) (hM : Fit M) (a b c d : Nat) : letI := rowsB M bx
    Runs Tryd.prog (Inv M bx) 32 Tryd.f78 ((fun x : Bool => SV.val (.bool x)) (bif (((M a).g b).n : Int) != (((M c).g d).n : Int) then false else (seek (fun i => bif S.keq (((M a).g b).g i).k (((M c).g d).g i).k && S.alikeC (((M a).g b).g i).d (((M c).g d).g i).d then none else some false) (((M a).g b).n) 0).getD true)) [] (bodyOf Tryd.f78) (⟨argS [.xs [a, b], .xs [c, d], fnv 79], fun _ => none, 0⟩) := by
  letI := rowsB M bx
  have C := ctxB M bx Bvents5 entsS_nil
  have hp := (eqP78_pre M bx a b c d).trans (show _ = bif (((M a).g b).n : Int) != (((M c).g d).n : Int) then some (Res.ret ((fun x : Bool => SV.val (.bool x)) false)) else some (Res.cut .normal ((fun i : Nat => (⟨[(0, .xs [a, b]), (1, .xs [c, d]), (2, fnv 79), (15, .xs [a, b]), (16, .val (.int .i64 ((M a).g b).n)), (17, (.val (.int .i64 (i : Int))))], []⟩ : Cut)) 0)) by
    simp only [cnd_and, cnd_or, cnd_not, Bool.or_assoc]
    first | done | rfl)
  cases hg : (((M a).g b).n : Int) != (((M c).g d).n : Int) with
  | true =>
    rw [hg] at hp
    exact retPre C (by kernel_rfl) hp
  | false =>
    rw [hg] at hp
    show Runs _ _ _ _ ((fun x : Bool => SV.val (.bool x)) ((seek (fun i => bif S.keq (((M a).g b).g i).k (((M c).g d).g i).k && S.alikeC (((M a).g b).g i).d (((M c).g d).g i).d then none else some false) (((M a).g b).n) 0).getD true)) _ _ _
    refine Runs.seekFn C (n := ((M a).g b).n) (p := fun i => bif S.keq (((M a).g b).g i).k (((M c).g d).g i).k && S.alikeC (((M a).g b).g i).d (((M c).g d).g i).d then none else some false) (f := (fun x : Bool => SV.val (.bool x))) (z := true) (hd := fun i => (⟨[(0, .xs [a, b]), (1, .xs [c, d]), (2, fnv 79), (15, .xs [a, b]), (16, .val (.int .i64 ((M a).g b).n)), (17, (.val (.int .i64 (i : Int))))], []⟩ : Cut)) (c' := (fun i : Nat => (⟨[(0, .xs [a, b]), (1, .xs [c, d]), (2, fnv 79), (15, .xs [a, b]), (16, .val (.int .i64 ((M a).g b).n)), (17, (.val (.int .i64 (i : Int))))], []⟩ : Cut)) (((M a).g b).n)) (by kernel_rfl) hp (fun i hi => ?_) ?_ (fun _ => Runs.ret C (eqP78_post M bx a b c d (((M a).g b).n)))
    · refine (eqP78_round M bx a b c d i).trans ?_
      have hi2 : i < ((M c).g d).n := by have := eq_of_bne hg; omega
      simp only [dlt hi, dge, wr hi ((hM a).2 b), cond_true, cond_false, Bool.and_self, Bool.true_and, map_cond, toR_cond, some_cond, Option.map_some, Option.map_none, toR_some, toR_none, cnd_and, cnd_or, cnd_not, S.keq, S.eqC, S.alikeC, dlt hi2]
      first | done | rfl
    · refine (eqP78_round M bx a b c d (((M a).g b).n)).trans ?_
      simp only [dnl, cond_false]
      rfl
theorem ent_eqP78 (M : Nat → Mo) (bx : XR) (hM : Fit M) : Ent M bx (78, noMem (onFS 79 fun a b c d => LB (S.sameP ((M a).g b) ((M c).g d)))) := by
  letI := rowsB M bx
  refine EntryS.of (fun args t v h1 h2 => ?_) (inv_stable M bx)
  obtain ⟨a, b, c, d, rfl, rfl⟩ := onFS_eq h1
  cases h2
  refine ⟨ok_val _ _, ?_, fun w m hI => Runs.calls (body := Tryd.f78.body.getD .skip) Tryd.func78 (by kernel_rfl) (by kernel_rfl) ?_ (run_eqP78 M bx hM a b c d) w hI m⟩ <;>
  · intro x hx
    simp only [List.mem_cons, List.not_mem_nil, or_false] at hx
    rcases hx with rfl | rfl | rfl <;> first | exact ok_val _ _ | exact ok_xs
set_option maxRecDepth 100000 in
theorem eqS75_pre (M : Nat → Mo) (bx : XR) (a b : Nat) : letI := rowsB M bx
    evK Tryd.prog ext (tab2 BvL5 [(78, noMem (onFS 79 fun a b c d => LB (S.sameP ((M a).g b) ((M c).g d))))]) 80 32 (seqL (preOf (bodyOf Tryd.f75))) (⟨argS [.xs [a], .xs [b], fnv 76], fun _ => none, 0⟩) (grab Tryd.prog Tryd.f75 [0, 1, 2, 15, 16, 17] [] 0) =
    (bif (↑(M a).n : Int) != (↑(M b).n : Int) then some (Res.ret (SV.val (Value.bool false))) else some (Res.cut Ex.normal (Cut.mk [(0, SV.xs [a]), (1, SV.xs [b]), (2, SV.val (Value.func (Fn.func 76) #[] #[])), (15, SV.xs [a]), (16, SV.val (Value.int IntKind.i64 (↑(M a).n : Int))), (17, SV.val (Value.int IntKind.i64 0))] []))) := by kernel_rfl
set_option maxRecDepth 100000 in
theorem eqS75_round (M : Nat → Mo) (bx : XR) (a b : Nat) (i : Nat) : letI := rowsB M bx
    evK Tryd.prog ext (tab2 BvL5 [(78, noMem (onFS 79 fun a b c d => LB (S.sameP ((M a).g b) ((M c).g d))))]) 80 32 (seqL (flat (roundOf (bodyOf Tryd.f75)))) ((⟨[(0, .xs [a]), (1, .xs [b]), (2, fnv 76), (15, .xs [a]), (16, .val (.int .i64 (M a).n)), (17, (.val (.int .i64 (i : Int))))], []⟩ : Cut).st 0) (grab Tryd.prog Tryd.f75 [0, 1, 2, 15, 16, 17] [] 0) =
    (bif decide ((↑i : Int) < (↑(M a).n : Int)) then 
     (bif decide (0 ≤ (↑i : Int)) && decide ((↑i : Int) < (↑(M a).n : Int)) then 
      (bif decide (0 ≤ (↑i : Int)) && decide ((↑i : Int) < (↑(M b).n : Int)) then 
       (bif ((M a).g i).cl == ((M b).g i).cl then 
        (bif S.eqC ((M a).g i).p ((M b).g i).p then 
         (bif ((M a).g i).x == ((M b).g i).x then 
          (bif !S.sameP ((M a).g i) ((M b).g i) then some (Res.ret (SV.val (Value.bool false))) else some (Res.cut Ex.normal (Cut.mk [(0, SV.xs [a]), (1, SV.xs [b]), (2, SV.val (Value.func (Fn.func 76) #[] #[])), (15, SV.xs [a]), (16, SV.val (Value.int IntKind.i64 (↑(M a).n : Int))), (17, SV.val (Value.int IntKind.i64 (IntKind.i64.wrap ((↑i : Int) + 1))))] []))) else some (Res.ret (SV.val (Value.bool false)))) else some (Res.ret (SV.val (Value.bool false)))) else some (Res.ret (SV.val (Value.bool false)))) else none) else none) else some (Res.cut (Ex.exit 0) (Cut.mk [(0, SV.xs [a]), (1, SV.xs [b]), (2, SV.val (Value.func (Fn.func 76) #[] #[])), (15, SV.xs [a]), (16, SV.val (Value.int IntKind.i64 (↑(M a).n : Int))), (17, SV.val (Value.int IntKind.i64 (↑i : Int)))] []))) := by kernel_rfl
set_option maxRecDepth 100000 in
theorem eqS75_post (M : Nat → Mo) (bx : XR) (a b : Nat) (i : Nat) : letI := rowsB M bx
    evK Tryd.prog ext (tab2 BvL5 [(78, noMem (onFS 79 fun a b c d => LB (S.sameP ((M a).g b) ((M c).g d))))]) 80 32 (seqL (postOf (bodyOf Tryd.f75))) ((⟨[(0, .xs [a]), (1, .xs [b]), (2, fnv 76), (15, .xs [a]), (16, .val (.int .i64 (M a).n)), (17, (.val (.int .i64 (i : Int))))], []⟩ : Cut).st 0) (grab Tryd.prog Tryd.f75 [0, 1, 2, 15, 16, 17] [] 0) =
    some (Res.ret (SV.val (Value.bool true))) := by kernel_rfl
set_option maxRecDepth 100000 in
theorem run_eqS75 (M : Nat → Mo) (bx : XR) (hM : Fit M) (a b : Nat) : letI := rowsB M bx
    Runs Tryd.prog (Inv M bx) 32 Tryd.f75 ((fun x : Bool => SV.val (.bool x)) (bif ((M a).n : Int) != ((M b).n : Int) then false else (seek (fun i => bif S.sameSh ((M a).g i) ((M b).g i) then none else some false) ((M a).n) 0).getD true)) [] (bodyOf Tryd.f75) (⟨argS [.xs [a], .xs [b], fnv 76], fun _ => none, 0⟩) := by
  letI := rowsB M bx
  have C := ctxB M bx Bvents5 (entsS_cons (ent_eqP78 M bx hM) entsS_nil)
  have hp := (eqS75_pre M bx a b).trans (show _ = bif ((M a).n : Int) != ((M b).n : Int) then some (Res.ret ((fun x : Bool => SV.val (.bool x)) false)) else some (Res.cut .normal ((fun i : Nat => (⟨[(0, .xs [a]), (1, .xs [b]), (2, fnv 76), (15, .xs [a]), (16, .val (.int .i64 (M a).n)), (17, (.val (.int .i64 (i : Int))))], []⟩ : Cut)) 0)) by
    simp only [cnd_and, cnd_or, cnd_not, Bool.or_assoc]
    first | done | rfl)
  cases hg : ((M a).n : Int) != ((M b).n : Int) with
  | true =>
    rw [hg] at hp
    exact retPre C (by kernel_rfl) hp
  | false =>
    rw [hg] at hp
    show Runs _ _ _ _ ((fun x : Bool => SV.val (.bool x)) ((seek (fun i => bif S.sameSh ((M a).g i) ((M b).g i) then none else some false) ((M a).n) 0).getD true)) _ _ _
    refine Runs.seekFn C (n := (M a).n) (p := fun i => bif S.sameSh ((M a).g i) ((M b).g i) then none else some false) (f := (fun x : Bool => SV.val (.bool x))) (z := true) (hd := fun i => (⟨[(0, .xs [a]), (1, .xs [b]), (2, fnv 76), (15, .xs [a]), (16, .val (.int .i64 (M a).n)), (17, (.val (.int .i64 (i : Int))))], []⟩ : Cut)) (c' := (fun i : Nat => (⟨[(0, .xs [a]), (1, .xs [b]), (2, fnv 76), (15, .xs [a]), (16, .val (.int .i64 (M a).n)), (17, (.val (.int .i64 (i : Int))))], []⟩ : Cut)) ((M a).n)) (by kernel_rfl) hp (fun i hi => ?_) ?_ (fun _ => Runs.ret C (eqS75_post M bx a b ((M a).n)))
    · refine (eqS75_round M bx a b i).trans ?_
      have hi2 : i < (M b).n := by have := eq_of_bne hg; omega
      simp only [dlt hi, dge, wr hi (hM a).1, cond_true, cond_false, Bool.and_self, Bool.true_and, map_cond, toR_cond, some_cond, Option.map_some, Option.map_none, toR_some, toR_none, cnd_and, cnd_or, cnd_not, S.keq, S.eqC, S.alikeC, dlt hi2, S.sameSh]
      first | done | rfl
    · refine (eqS75_round M bx a b ((M a).n)).trans ?_
      simp only [dnl, cond_false]
      rfl
theorem ent_eqS75 (M : Nat → Mo) (bx : XR) (hM : Fit M) : Ent M bx (75, noMem (onFM 76 fun a b => LB (S.sameC (M a) (M b)))) := by
  letI := rowsB M bx
  refine EntryS.of (fun args t v h1 h2 => ?_) (inv_stable M bx)
  obtain ⟨a, b, rfl, rfl⟩ := onFM_eq h1
  cases h2
  refine ⟨ok_val _ _, ?_, fun w m hI => Runs.calls (body := Tryd.f75.body.getD .skip) Tryd.func75 (by kernel_rfl) (by kernel_rfl) ?_ (run_eqS75 M bx hM a b) w hI m⟩ <;>
  · intro x hx
    simp only [List.mem_cons, List.not_mem_nil, or_false] at hx
    rcases hx with rfl | rfl | rfl <;> first | exact ok_val _ _ | exact ok_xs
set_option maxRecDepth 100000 in
theorem seal42_pre (M : Nat → Mo) (bx : XR) (q : SA) : letI := rowsB M bx
    evK Tryd.prog ext (tab2 BvL5 []) 80 22 (seqL (preOf (bodyOf Tryd.f42))) (⟨argS [q.sv], fun _ => none, 0⟩) (grab Tryd.prog Tryd.f42 [1, 3] [0] 1) =
    some (Res.cut Ex.normal (Cut.mk [(1, SV.ptr 0 0), (3, SV.val (Value.int IntKind.i64 0))] [(0, Blk.mk 60 [SV.val (Value.int IntKind.i64 q.cl), SV.val (Value.int IntKind.i64 q.p.k), SV.val (Value.bool q.p.b), SV.val (Value.float FloatKind.f64 q.p.n), SV.val (Value.string q.p.s), SV.val (Value.int IntKind.i64 q.p.id), SV.val (Value.bool q.x), SV.xs [q.a, q.b]])])) := by kernel_rfl
set_option maxRecDepth 100000 in
theorem seal42_round (M : Nat → Mo) (bx : XR) (q : SA) (i : Nat) : letI := rowsB M bx
    evK Tryd.prog ext (tab2 BvL5 []) 80 22 (seqL (flat (roundOf (bodyOf Tryd.f42)))) ((⟨[(1, .ptr 0 0), (3, (.val (.int .i64 (i : Int))))], [(0, ⟨60, shCells q.cl q.p q.x [q.a, q.b]⟩)]⟩ : Cut).st 1) (grab Tryd.prog Tryd.f42 [1, 3] [0] 1) =
    (bif decide ((↑i : Int) < (↑((M q.a).g q.b).n : Int)) then 
     (bif decide (0 ≤ (↑i : Int)) && decide ((↑i : Int) < (↑((M q.a).g q.b).n : Int)) then 
      (bif (((M q.a).g q.b).g i).d.c != 1 then some (Res.ret (SV.val (Value.bool false))) else some (Res.cut Ex.normal (Cut.mk [(1, SV.ptr 0 0), (3, SV.val (Value.int IntKind.i64 (IntKind.i64.wrap ((↑i : Int) + 1))))] [(0, Blk.mk 60 [SV.val (Value.int IntKind.i64 q.cl), SV.val (Value.int IntKind.i64 q.p.k), SV.val (Value.bool q.p.b), SV.val (Value.float FloatKind.f64 q.p.n), SV.val (Value.string q.p.s), SV.val (Value.int IntKind.i64 q.p.id), SV.val (Value.bool q.x), SV.xs [q.a, q.b]])]))) else none) else some (Res.cut (Ex.exit 0) (Cut.mk [(1, SV.ptr 0 0), (3, SV.val (Value.int IntKind.i64 (↑i : Int)))] [(0, Blk.mk 60 [SV.val (Value.int IntKind.i64 q.cl), SV.val (Value.int IntKind.i64 q.p.k), SV.val (Value.bool q.p.b), SV.val (Value.float FloatKind.f64 q.p.n), SV.val (Value.string q.p.s), SV.val (Value.int IntKind.i64 q.p.id), SV.val (Value.bool q.x), SV.xs [q.a, q.b]])]))) := by kernel_rfl
set_option maxRecDepth 100000 in
theorem seal42_post (M : Nat → Mo) (bx : XR) (q : SA) (i : Nat) : letI := rowsB M bx
    evK Tryd.prog ext (tab2 BvL5 []) 80 22 (seqL (postOf (bodyOf Tryd.f42))) ((⟨[(1, .ptr 0 0), (3, (.val (.int .i64 (i : Int))))], [(0, ⟨60, shCells q.cl q.p q.x [q.a, q.b]⟩)]⟩ : Cut).st 1) (grab Tryd.prog Tryd.f42 [1, 3] [0] 1) =
    some (Res.ret (SV.val (Value.bool !q.x))) := by kernel_rfl
set_option maxRecDepth 100000 in
theorem run_seal42 (M : Nat → Mo) (bx : XR) (hM : Fit M) (q : SA) : letI := rowsB M bx
    Runs Tryd.prog (Inv M bx) 22 Tryd.f42 ((fun x : Bool => SV.val (.bool x)) ((seek (fun i => bif (((M q.a).g q.b).g i).d.c != 1 then some false else none) (((M q.a).g q.b).n) 0).getD (!q.x))) [] (bodyOf Tryd.f42) (⟨argS [q.sv], fun _ => none, 0⟩) := by
  letI := rowsB M bx
  have C := ctxB M bx Bvents5 entsS_nil
  refine Runs.seekFn C (n := ((M q.a).g q.b).n) (p := fun i => bif (((M q.a).g q.b).g i).d.c != 1 then some false else none) (f := (fun x : Bool => SV.val (.bool x))) (z := (!q.x)) (hd := fun i => (⟨[(1, .ptr 0 0), (3, (.val (.int .i64 (i : Int))))], [(0, ⟨60, shCells q.cl q.p q.x [q.a, q.b]⟩)]⟩ : Cut)) (c' := (fun i : Nat => (⟨[(1, .ptr 0 0), (3, (.val (.int .i64 (i : Int))))], [(0, ⟨60, shCells q.cl q.p q.x [q.a, q.b]⟩)]⟩ : Cut)) (((M q.a).g q.b).n)) (by kernel_rfl) (seal42_pre M bx q) (fun i hi => ?_) ?_ (fun _ => Runs.ret C (seal42_post M bx q (((M q.a).g q.b).n)))
  · refine (seal42_round M bx q i).trans ?_
    simp only [dlt hi, dge, wr hi ((hM q.a).2 q.b), cond_true, cond_false, Bool.and_self, Bool.true_and, map_cond, toR_cond, some_cond, Option.map_some, Option.map_none, toR_some, toR_none, cnd_and, cnd_or, cnd_not, S.keq, S.eqC, S.alikeC]
    first | done | rfl
  · refine (seal42_round M bx q (((M q.a).g q.b).n)).trans ?_
    simp only [dnl, cond_false]
    rfl
theorem ent_seal42 (M : Nat → Mo) (bx : XR) (hM : Fit M) : Ent M bx (42, noMem (onSh fun q => LB (R.sealed (q.sh M)))) := by
  letI := rowsB M bx
  refine EntryS.of (fun args t v h1 h2 => ?_) (inv_stable M bx)
  obtain ⟨q, rfl, rfl⟩ := onSh_eq h1
  cases h2
  refine ⟨ok_val _ _, ?_, fun w m hI => Runs.calls (body := Tryd.f42.body.getD .skip) Tryd.func42 (by kernel_rfl) (by kernel_rfl) ?_ (run_seal42 M bx hM q) w hI m⟩ <;>
  · intro x hx
    simp only [List.mem_cons, List.not_mem_nil, or_false] at hx
    rcases hx with rfl; exact ok_sa _ _
set_option maxRecDepth 100000 in
theorem froz44_pre (M : Nat → Mo) (bx : XR) (q : SA) : letI := rowsB M bx
    evK Tryd.prog ext (tab2 BvL5 [(42, noMem (onSh fun q => LB (R.sealed (q.sh M))))]) 80 35 (seqL (preOf (bodyOf Tryd.f44))) (⟨argS [q.sv], fun _ => none, 0⟩) (grab Tryd.prog Tryd.f44 [1, 3] [0] 1) =
    some (Res.cut Ex.normal (Cut.mk [(1, SV.ptr 0 0), (3, SV.val (Value.int IntKind.i64 0))] [(0, Blk.mk 60 [SV.val (Value.int IntKind.i64 q.cl), SV.val (Value.int IntKind.i64 q.p.k), SV.val (Value.bool q.p.b), SV.val (Value.float FloatKind.f64 q.p.n), SV.val (Value.string q.p.s), SV.val (Value.int IntKind.i64 q.p.id), SV.val (Value.bool q.x), SV.xs [q.a, q.b]])])) := by kernel_rfl
set_option maxRecDepth 100000 in
theorem froz44_round (M : Nat → Mo) (bx : XR) (q : SA) (i : Nat) : letI := rowsB M bx
    evK Tryd.prog ext (tab2 BvL5 [(42, noMem (onSh fun q => LB (R.sealed (q.sh M))))]) 80 35 (seqL (flat (roundOf (bodyOf Tryd.f44)))) ((⟨[(1, .ptr 0 0), (3, (.val (.int .i64 (i : Int))))], [(0, ⟨60, shCells q.cl q.p q.x [q.a, q.b]⟩)]⟩ : Cut).st 1) (grab Tryd.prog Tryd.f44 [1, 3] [0] 1) =
    (bif decide ((↑i : Int) < (↑((M q.a).g q.b).n : Int)) then 
     (bif decide (0 ≤ (↑i : Int)) && decide ((↑i : Int) < (↑((M q.a).g q.b).n : Int)) then 
      (bif !S.there (((M q.a).g q.b).g i).d.g then 
       (bif !S.there (((M q.a).g q.b).g i).d.t then 
        (bif (((M q.a).g q.b).g i).d.w != 1 then some (Res.ret (SV.val (Value.bool false))) else some (Res.cut Ex.normal (Cut.mk [(1, SV.ptr 0 0), (3, SV.val (Value.int IntKind.i64 (IntKind.i64.wrap ((↑i : Int) + 1))))] [(0, Blk.mk 60 [SV.val (Value.int IntKind.i64 q.cl), SV.val (Value.int IntKind.i64 q.p.k), SV.val (Value.bool q.p.b), SV.val (Value.float FloatKind.f64 q.p.n), SV.val (Value.string q.p.s), SV.val (Value.int IntKind.i64 q.p.id), SV.val (Value.bool q.x), SV.xs [q.a, q.b]])]))) else some (Res.cut Ex.normal (Cut.mk [(1, SV.ptr 0 0), (3, SV.val (Value.int IntKind.i64 (IntKind.i64.wrap ((↑i : Int) + 1))))] [(0, Blk.mk 60 [SV.val (Value.int IntKind.i64 q.cl), SV.val (Value.int IntKind.i64 q.p.k), SV.val (Value.bool q.p.b), SV.val (Value.float FloatKind.f64 q.p.n), SV.val (Value.string q.p.s), SV.val (Value.int IntKind.i64 q.p.id), SV.val (Value.bool q.x), SV.xs [q.a, q.b]])]))) else some (Res.cut Ex.normal (Cut.mk [(1, SV.ptr 0 0), (3, SV.val (Value.int IntKind.i64 (IntKind.i64.wrap ((↑i : Int) + 1))))] [(0, Blk.mk 60 [SV.val (Value.int IntKind.i64 q.cl), SV.val (Value.int IntKind.i64 q.p.k), SV.val (Value.bool q.p.b), SV.val (Value.float FloatKind.f64 q.p.n), SV.val (Value.string q.p.s), SV.val (Value.int IntKind.i64 q.p.id), SV.val (Value.bool q.x), SV.xs [q.a, q.b]])]))) else none) else some (Res.cut (Ex.exit 0) (Cut.mk [(1, SV.ptr 0 0), (3, SV.val (Value.int IntKind.i64 (↑i : Int)))] [(0, Blk.mk 60 [SV.val (Value.int IntKind.i64 q.cl), SV.val (Value.int IntKind.i64 q.p.k), SV.val (Value.bool q.p.b), SV.val (Value.float FloatKind.f64 q.p.n), SV.val (Value.string q.p.s), SV.val (Value.int IntKind.i64 q.p.id), SV.val (Value.bool q.x), SV.xs [q.a, q.b]])]))) := by kernel_rfl
set_option maxRecDepth 100000 in
theorem froz44_post (M : Nat → Mo) (bx : XR) (q : SA) (i : Nat) : letI := rowsB M bx
    evK Tryd.prog ext (tab2 BvL5 [(42, noMem (onSh fun q => LB (R.sealed (q.sh M))))]) 80 35 (seqL (postOf (bodyOf Tryd.f44))) ((⟨[(1, .ptr 0 0), (3, (.val (.int .i64 (i : Int))))], [(0, ⟨60, shCells q.cl q.p q.x [q.a, q.b]⟩)]⟩ : Cut).st 1) (grab Tryd.prog Tryd.f44 [1, 3] [0] 1) =
    some (Res.ret (SV.val (Value.bool (R.sealed (SA.sh M (SA.mk q.cl q.p q.x q.a q.b)))))) := by kernel_rfl
set_option maxRecDepth 100000 in
theorem run_froz44 (M : Nat → Mo) (bx : XR) (hM : Fit M) (q : SA) : letI := rowsB M bx
    Runs Tryd.prog (Inv M bx) 35 Tryd.f44 ((fun x : Bool => SV.val (.bool x)) ((seek (fun i => bif !S.there (((M q.a).g q.b).g i).d.g && (!S.there (((M q.a).g q.b).g i).d.t && (((M q.a).g q.b).g i).d.w != 1) then some false else none) (((M q.a).g q.b).n) 0).getD (R.sealed (q.sh M)))) [] (bodyOf Tryd.f44) (⟨argS [q.sv], fun _ => none, 0⟩) := by
  letI := rowsB M bx
  have C := ctxB M bx Bvents5 (entsS_cons (ent_seal42 M bx hM) entsS_nil)
  refine Runs.seekFn C (n := ((M q.a).g q.b).n) (p := fun i => bif !S.there (((M q.a).g q.b).g i).d.g && (!S.there (((M q.a).g q.b).g i).d.t && (((M q.a).g q.b).g i).d.w != 1) then some false else none) (f := (fun x : Bool => SV.val (.bool x))) (z := (R.sealed (q.sh M))) (hd := fun i => (⟨[(1, .ptr 0 0), (3, (.val (.int .i64 (i : Int))))], [(0, ⟨60, shCells q.cl q.p q.x [q.a, q.b]⟩)]⟩ : Cut)) (c' := (fun i : Nat => (⟨[(1, .ptr 0 0), (3, (.val (.int .i64 (i : Int))))], [(0, ⟨60, shCells q.cl q.p q.x [q.a, q.b]⟩)]⟩ : Cut)) (((M q.a).g q.b).n)) (by kernel_rfl) (froz44_pre M bx q) (fun i hi => ?_) ?_ (fun _ => Runs.ret C (froz44_post M bx q (((M q.a).g q.b).n)))
  · refine (froz44_round M bx q i).trans ?_
    simp only [dlt hi, dge, wr hi ((hM q.a).2 q.b), cond_true, cond_false, Bool.and_self, Bool.true_and, map_cond, toR_cond, some_cond, Option.map_some, Option.map_none, toR_some, toR_none, cnd_and, cnd_or, cnd_not, S.keq, S.eqC, S.alikeC]
    first | done | rfl
  · refine (froz44_round M bx q (((M q.a).g q.b).n)).trans ?_
    simp only [dnl, cond_false]
    rfl
theorem ent_froz44 (M : Nat → Mo) (bx : XR) (hM : Fit M) : Ent M bx (44, noMem (onSh fun q => LB (R.frozen (q.sh M)))) := by
  letI := rowsB M bx
  refine EntryS.of (fun args t v h1 h2 => ?_) (inv_stable M bx)
  obtain ⟨q, rfl, rfl⟩ := onSh_eq h1
  cases h2
  refine ⟨ok_val _ _, ?_, fun w m hI => Runs.calls (body := Tryd.f44.body.getD .skip) Tryd.func44 (by kernel_rfl) (by kernel_rfl) ?_ (run_froz44 M bx hM q) w hI m⟩ <;>
  · intro x hx
    simp only [List.mem_cons, List.not_mem_nil, or_false] at hx
    rcases hx with rfl; exact ok_sa _ _
set_option maxRecDepth 100000 in
theorem sameSh81_pre (M : Nat → Mo) (bx : XR) (q r : SA) : letI := rowsB M bx
    evK Tryd.prog ext (tab2 BvL5 []) 80 71 (seqL (preOf (bodyOf Tryd.f81))) (⟨argS [q.sv, r.sv], fun _ => none, 0⟩) (grab Tryd.prog Tryd.f81 [2, 3, 5] [0, 1] 2) =
    (bif q.cl != r.cl then some (Res.ret (SV.val (Value.bool false))) else 
     (bif !R.eqR q.p r.p then some (Res.ret (SV.val (Value.bool false))) else 
      (bif !q.x == r.x then some (Res.ret (SV.val (Value.bool false))) else 
       (bif (↑((M q.a).g q.b).n : Int) != (↑((M r.a).g r.b).n : Int) then some (Res.ret (SV.val (Value.bool false))) else some (Res.cut Ex.normal (Cut.mk [(2, SV.ptr 0 0), (3, SV.ptr 1 0), (5, SV.val (Value.int IntKind.i64 0))] [(0, Blk.mk 60 [SV.val (Value.int IntKind.i64 q.cl), SV.val (Value.int IntKind.i64 q.p.k), SV.val (Value.bool q.p.b), SV.val (Value.float FloatKind.f64 q.p.n), SV.val (Value.string q.p.s), SV.val (Value.int IntKind.i64 q.p.id), SV.val (Value.bool q.x), SV.xs [q.a, q.b]]), (1, Blk.mk 60 [SV.val (Value.int IntKind.i64 r.cl), SV.val (Value.int IntKind.i64 r.p.k), SV.val (Value.bool r.p.b), SV.val (Value.float FloatKind.f64 r.p.n), SV.val (Value.string r.p.s), SV.val (Value.int IntKind.i64 r.p.id), SV.val (Value.bool r.x), SV.xs [r.a, r.b]])])))))) := by kernel_rfl
set_option maxRecDepth 100000 in
theorem sameSh81_round (M : Nat → Mo) (bx : XR) (q r : SA) (i : Nat) : letI := rowsB M bx
    evK Tryd.prog ext (tab2 BvL5 []) 80 71 (seqL (flat (roundOf (bodyOf Tryd.f81)))) ((⟨[(2, .ptr 0 0), (3, .ptr 1 0), (5, (.val (.int .i64 (i : Int))))], [(0, ⟨60, shCells q.cl q.p q.x [q.a, q.b]⟩), (1, ⟨60, shCells r.cl r.p r.x [r.a, r.b]⟩)]⟩ : Cut).st 2) (grab Tryd.prog Tryd.f81 [2, 3, 5] [0, 1] 2) =
    (bif decide ((↑i : Int) < (↑((M q.a).g q.b).n : Int)) then 
     (bif decide (0 ≤ (↑i : Int)) && decide ((↑i : Int) < (↑((M q.a).g q.b).n : Int)) then 
      (bif decide (0 ≤ (↑i : Int)) && decide ((↑i : Int) < (↑((M r.a).g r.b).n : Int)) then 
       (bif !((((M q.a).g q.b).g i).k.s == (((M r.a).g r.b).g i).k.s && ((((M q.a).g q.b).g i).k.n == (((M r.a).g r.b).g i).k.n && true)) then some (Res.ret (SV.val (Value.bool false))) else 
        (bif decide (0 ≤ (↑i : Int)) && decide ((↑i : Int) < (↑((M q.a).g q.b).n : Int)) then 
         (bif decide (0 ≤ (↑i : Int)) && decide ((↑i : Int) < (↑((M r.a).g r.b).n : Int)) then 
          (bif !R.eqDR (((M q.a).g q.b).g i).d (((M r.a).g r.b).g i).d then some (Res.ret (SV.val (Value.bool false))) else some (Res.cut Ex.normal (Cut.mk [(2, SV.ptr 0 0), (3, SV.ptr 1 0), (5, SV.val (Value.int IntKind.i64 (IntKind.i64.wrap ((↑i : Int) + 1))))] [(0, Blk.mk 60 [SV.val (Value.int IntKind.i64 q.cl), SV.val (Value.int IntKind.i64 q.p.k), SV.val (Value.bool q.p.b), SV.val (Value.float FloatKind.f64 q.p.n), SV.val (Value.string q.p.s), SV.val (Value.int IntKind.i64 q.p.id), SV.val (Value.bool q.x), SV.xs [q.a, q.b]]), (1, Blk.mk 60 [SV.val (Value.int IntKind.i64 r.cl), SV.val (Value.int IntKind.i64 r.p.k), SV.val (Value.bool r.p.b), SV.val (Value.float FloatKind.f64 r.p.n), SV.val (Value.string r.p.s), SV.val (Value.int IntKind.i64 r.p.id), SV.val (Value.bool r.x), SV.xs [r.a, r.b]])]))) else none) else none)) else none) else none) else some (Res.cut (Ex.exit 0) (Cut.mk [(2, SV.ptr 0 0), (3, SV.ptr 1 0), (5, SV.val (Value.int IntKind.i64 (↑i : Int)))] [(0, Blk.mk 60 [SV.val (Value.int IntKind.i64 q.cl), SV.val (Value.int IntKind.i64 q.p.k), SV.val (Value.bool q.p.b), SV.val (Value.float FloatKind.f64 q.p.n), SV.val (Value.string q.p.s), SV.val (Value.int IntKind.i64 q.p.id), SV.val (Value.bool q.x), SV.xs [q.a, q.b]]), (1, Blk.mk 60 [SV.val (Value.int IntKind.i64 r.cl), SV.val (Value.int IntKind.i64 r.p.k), SV.val (Value.bool r.p.b), SV.val (Value.float FloatKind.f64 r.p.n), SV.val (Value.string r.p.s), SV.val (Value.int IntKind.i64 r.p.id), SV.val (Value.bool r.x), SV.xs [r.a, r.b]])]))) := by kernel_rfl
set_option maxRecDepth 100000 in
theorem sameSh81_post (M : Nat → Mo) (bx : XR) (q r : SA) (i : Nat) : letI := rowsB M bx
    evK Tryd.prog ext (tab2 BvL5 []) 80 71 (seqL (postOf (bodyOf Tryd.f81))) ((⟨[(2, .ptr 0 0), (3, .ptr 1 0), (5, (.val (.int .i64 (i : Int))))], [(0, ⟨60, shCells q.cl q.p q.x [q.a, q.b]⟩), (1, ⟨60, shCells r.cl r.p r.x [r.a, r.b]⟩)]⟩ : Cut).st 2) (grab Tryd.prog Tryd.f81 [2, 3, 5] [0, 1] 2) =
    some (Res.ret (SV.val (Value.bool true))) := by kernel_rfl
set_option maxRecDepth 100000 in
theorem run_sameSh81 (M : Nat → Mo) (bx : XR) (hM : Fit M) (q r : SA) : letI := rowsB M bx
    Runs Tryd.prog (Inv M bx) 71 Tryd.f81 ((fun x : Bool => SV.val (.bool x)) (bif q.cl != r.cl || (!R.eqR q.p r.p || (!(q.x == r.x) || (((M q.a).g q.b).n : Int) != (((M r.a).g r.b).n : Int))) then false else (seek (fun i => bif !S.keq (((M q.a).g q.b).g i).k (((M r.a).g r.b).g i).k || !R.eqDR (((M q.a).g q.b).g i).d (((M r.a).g r.b).g i).d then some false else none) (((M q.a).g q.b).n) 0).getD true)) [] (bodyOf Tryd.f81) (⟨argS [q.sv, r.sv], fun _ => none, 0⟩) := by
  letI := rowsB M bx
  have C := ctxB M bx Bvents5 entsS_nil
  have hp := (sameSh81_pre M bx q r).trans (show _ = bif q.cl != r.cl || (!R.eqR q.p r.p || (!(q.x == r.x) || (((M q.a).g q.b).n : Int) != (((M r.a).g r.b).n : Int))) then some (Res.ret ((fun x : Bool => SV.val (.bool x)) false)) else some (Res.cut .normal ((fun i : Nat => (⟨[(2, .ptr 0 0), (3, .ptr 1 0), (5, (.val (.int .i64 (i : Int))))], [(0, ⟨60, shCells q.cl q.p q.x [q.a, q.b]⟩), (1, ⟨60, shCells r.cl r.p r.x [r.a, r.b]⟩)]⟩ : Cut)) 0)) by
    simp only [cnd_and, cnd_or, cnd_not, Bool.or_assoc]
    first | done | rfl)
  cases hg : q.cl != r.cl || (!R.eqR q.p r.p || (!(q.x == r.x) || (((M q.a).g q.b).n : Int) != (((M r.a).g r.b).n : Int))) with
  | true =>
    rw [hg] at hp
    exact retPre C (by kernel_rfl) hp
  | false =>
    rw [hg] at hp
    show Runs _ _ _ _ ((fun x : Bool => SV.val (.bool x)) ((seek (fun i => bif !S.keq (((M q.a).g q.b).g i).k (((M r.a).g r.b).g i).k || !R.eqDR (((M q.a).g q.b).g i).d (((M r.a).g r.b).g i).d then some false else none) (((M q.a).g q.b).n) 0).getD true)) _ _ _
    refine Runs.seekFn C (n := ((M q.a).g q.b).n) (p := fun i => bif !S.keq (((M q.a).g q.b).g i).k (((M r.a).g r.b).g i).k || !R.eqDR (((M q.a).g q.b).g i).d (((M r.a).g r.b).g i).d then some false else none) (f := (fun x : Bool => SV.val (.bool x))) (z := true) (hd := fun i => (⟨[(2, .ptr 0 0), (3, .ptr 1 0), (5, (.val (.int .i64 (i : Int))))], [(0, ⟨60, shCells q.cl q.p q.x [q.a, q.b]⟩), (1, ⟨60, shCells r.cl r.p r.x [r.a, r.b]⟩)]⟩ : Cut)) (c' := (fun i : Nat => (⟨[(2, .ptr 0 0), (3, .ptr 1 0), (5, (.val (.int .i64 (i : Int))))], [(0, ⟨60, shCells q.cl q.p q.x [q.a, q.b]⟩), (1, ⟨60, shCells r.cl r.p r.x [r.a, r.b]⟩)]⟩ : Cut)) (((M q.a).g q.b).n)) (by kernel_rfl) hp (fun i hi => ?_) ?_ (fun _ => Runs.ret C (sameSh81_post M bx q r (((M q.a).g q.b).n)))
    · refine (sameSh81_round M bx q r i).trans ?_
      have hi2 : i < ((M r.a).g r.b).n := by have := sh_guard hg; omega
      simp only [dlt hi, dge, wr hi ((hM q.a).2 q.b), cond_true, cond_false, Bool.and_self, Bool.true_and, map_cond, toR_cond, some_cond, Option.map_some, Option.map_none, toR_some, toR_none, cnd_and, cnd_or, cnd_not, S.keq, S.eqC, S.alikeC, dlt hi2]
      first | done | rfl
    · refine (sameSh81_round M bx q r (((M q.a).g q.b).n)).trans ?_
      simp only [dnl, cond_false]
      rfl
theorem ent_sameSh81 (M : Nat → Mo) (bx : XR) (hM : Fit M) : Ent M bx (81, noMem (onShSh fun q r => LB (R.sameSh (q.sh M) (r.sh M)))) := by
  letI := rowsB M bx
  refine EntryS.of (fun args t v h1 h2 => ?_) (inv_stable M bx)
  obtain ⟨q, r, rfl, rfl⟩ := onShSh_eq h1
  cases h2
  refine ⟨ok_val _ _, ?_, fun w m hI => Runs.calls (body := Tryd.f81.body.getD .skip) Tryd.func81 (by kernel_rfl) (by kernel_rfl) ?_ (run_sameSh81 M bx hM q r) w hI m⟩ <;>
  · intro x hx
    simp only [List.mem_cons, List.not_mem_nil, or_false] at hx
    rcases hx with rfl | rfl <;> exact ok_sa _ _
set_option maxRecDepth 100000 in
theorem same40_pre (M : Nat → Mo) (bx : XR) (a b : Nat) : letI := rowsB M bx
    evK Tryd.prog ext (tab2 BvL5 [(81, noMem (onShSh fun q r => LB (R.sameSh (q.sh M) (r.sh M))))]) 80 27 (seqL (preOf (bodyOf Tryd.f40))) (⟨argS [.xs [a], .xs [b]], fun _ => none, 0⟩) (grab Tryd.prog Tryd.f40 [0, 1, 5] [] 0) =
    (bif (↑(M a).n : Int) != (↑(M b).n : Int) then some (Res.ret (SV.val (Value.bool false))) else some (Res.cut Ex.normal (Cut.mk [(0, SV.xs [a]), (1, SV.xs [b]), (5, SV.val (Value.int IntKind.i64 0))] []))) := by kernel_rfl
set_option maxRecDepth 100000 in
theorem same40_round (M : Nat → Mo) (bx : XR) (a b : Nat) (i : Nat) : letI := rowsB M bx
    evK Tryd.prog ext (tab2 BvL5 [(81, noMem (onShSh fun q r => LB (R.sameSh (q.sh M) (r.sh M))))]) 80 27 (seqL (flat (roundOf (bodyOf Tryd.f40)))) ((⟨[(0, .xs [a]), (1, .xs [b]), (5, (.val (.int .i64 (i : Int))))], []⟩ : Cut).st 0) (grab Tryd.prog Tryd.f40 [0, 1, 5] [] 0) =
    (bif decide ((↑i : Int) < (↑(M a).n : Int)) then 
     (bif decide (0 ≤ (↑i : Int)) && decide ((↑i : Int) < (↑(M a).n : Int)) then 
      (bif decide (0 ≤ (↑i : Int)) && decide ((↑i : Int) < (↑(M b).n : Int)) then 
       (bif !R.sameSh (SA.sh M (SA.mk ((M a).g i).cl ((M a).g i).p ((M a).g i).x a i)) (SA.sh M (SA.mk ((M b).g i).cl ((M b).g i).p ((M b).g i).x b i)) then some (Res.ret (SV.val (Value.bool false))) else some (Res.cut Ex.normal (Cut.mk [(0, SV.xs [a]), (1, SV.xs [b]), (5, SV.val (Value.int IntKind.i64 (IntKind.i64.wrap ((↑i : Int) + 1))))] []))) else none) else none) else some (Res.cut (Ex.exit 0) (Cut.mk [(0, SV.xs [a]), (1, SV.xs [b]), (5, SV.val (Value.int IntKind.i64 (↑i : Int)))] []))) := by kernel_rfl
set_option maxRecDepth 100000 in
theorem same40_post (M : Nat → Mo) (bx : XR) (a b : Nat) (i : Nat) : letI := rowsB M bx
    evK Tryd.prog ext (tab2 BvL5 [(81, noMem (onShSh fun q r => LB (R.sameSh (q.sh M) (r.sh M))))]) 80 27 (seqL (postOf (bodyOf Tryd.f40))) ((⟨[(0, .xs [a]), (1, .xs [b]), (5, (.val (.int .i64 (i : Int))))], []⟩ : Cut).st 0) (grab Tryd.prog Tryd.f40 [0, 1, 5] [] 0) =
    some (Res.ret (SV.val (Value.bool true))) := by kernel_rfl
set_option maxRecDepth 100000 in
theorem run_same40 (M : Nat → Mo) (bx : XR) (hM : Fit M) (a b : Nat) : letI := rowsB M bx
    Runs Tryd.prog (Inv M bx) 27 Tryd.f40 ((fun x : Bool => SV.val (.bool x)) (bif ((M a).n : Int) != ((M b).n : Int) then false else (seek (fun i => bif !R.sameSh ((M a).g i) ((M b).g i) then some false else none) ((M a).n) 0).getD true)) [] (bodyOf Tryd.f40) (⟨argS [.xs [a], .xs [b]], fun _ => none, 0⟩) := by
  letI := rowsB M bx
  have C := ctxB M bx Bvents5 (entsS_cons (ent_sameSh81 M bx hM) entsS_nil)
  have hp := (same40_pre M bx a b).trans (show _ = bif ((M a).n : Int) != ((M b).n : Int) then some (Res.ret ((fun x : Bool => SV.val (.bool x)) false)) else some (Res.cut .normal ((fun i : Nat => (⟨[(0, .xs [a]), (1, .xs [b]), (5, (.val (.int .i64 (i : Int))))], []⟩ : Cut)) 0)) by
    simp only [cnd_and, cnd_or, cnd_not, Bool.or_assoc]
    first | done | rfl)
  cases hg : ((M a).n : Int) != ((M b).n : Int) with
  | true =>
    rw [hg] at hp
    exact retPre C (by kernel_rfl) hp
  | false =>
    rw [hg] at hp
    show Runs _ _ _ _ ((fun x : Bool => SV.val (.bool x)) ((seek (fun i => bif !R.sameSh ((M a).g i) ((M b).g i) then some false else none) ((M a).n) 0).getD true)) _ _ _
    refine Runs.seekFn C (n := (M a).n) (p := fun i => bif !R.sameSh ((M a).g i) ((M b).g i) then some false else none) (f := (fun x : Bool => SV.val (.bool x))) (z := true) (hd := fun i => (⟨[(0, .xs [a]), (1, .xs [b]), (5, (.val (.int .i64 (i : Int))))], []⟩ : Cut)) (c' := (fun i : Nat => (⟨[(0, .xs [a]), (1, .xs [b]), (5, (.val (.int .i64 (i : Int))))], []⟩ : Cut)) ((M a).n)) (by kernel_rfl) hp (fun i hi => ?_) ?_ (fun _ => Runs.ret C (same40_post M bx a b ((M a).n)))
    · refine (same40_round M bx a b i).trans ?_
      have hi2 : i < (M b).n := by have := eq_of_bne hg; omega
      simp only [dlt hi, dge, wr hi (hM a).1, cond_true, cond_false, Bool.and_self, Bool.true_and, map_cond, toR_cond, some_cond, Option.map_some, Option.map_none, toR_some, toR_none, cnd_and, cnd_or, cnd_not, S.keq, S.eqC, S.alikeC, dlt hi2]
      first | done | rfl
    · refine (same40_round M bx a b ((M a).n)).trans ?_
      simp only [dnl, cond_false]
      rfl
theorem ent_same40 (M : Nat → Mo) (bx : XR) (hM : Fit M) : Ent M bx (40, noMem (onMM fun a b => LB (R.sameM (M a) (M b)))) := by
  letI := rowsB M bx
  refine EntryS.of (fun args t v h1 h2 => ?_) (inv_stable M bx)
  obtain ⟨a, b, rfl, rfl⟩ := onMM_eq h1
  cases h2
  refine ⟨ok_val _ _, ?_, fun w m hI => Runs.calls (body := Tryd.f40.body.getD .skip) Tryd.func40 (by kernel_rfl) (by kernel_rfl) ?_ (run_same40 M bx hM a b) w hI m⟩ <;>
  · intro x hx
    simp only [List.mem_cons, List.not_mem_nil, or_false] at hx
    rcases hx with rfl | rfl <;> exact ok_xs
end Go.Proofs.YtaojjpdlfnphiaaDoor.PDescKinds

/-! #### part B5 -/
set_option linter.unusedSimpArgs false
set_option linter.unusedVariables false
set_option linter.unusedSectionVars false
namespace Go.Proofs.YtaojjpdlfnphiaaDoor.PDescKinds
open Go.RowKit Go.Ev
theorem dgeF {i n : Nat} (h : i < n) : decide ((i : Int) ≥ (n : Int)) = false := decide_eq_false (by omega)
theorem dgeT {i n : Nat} (h : n ≤ i) : decide ((i : Int) ≥ (n : Int)) = true := decide_eq_true (by omega)
namespace S
/-- The rules of invariant.Broken. -/
def ruleO (b a : Sh) : Option Int := bif a.cl != b.cl then some 2 else bif !b.x && a.x then some 3 else bif !b.x && !eqC a.p b.p then some 4 else bif !b.x && decide (freshAt b a ≥ 0) then some 5 else bif lost b a then some 6 else none
def brokenO (b a : Mo) : Int × Int := (seek (fun i => bif decide ((i : Int) ≥ (a.n : Int)) then some ((i : Int) + 1, 1) else (ruleO (b.g i) (a.g i)).map fun r => ((i : Int) + 1, r)) b.n 0).getD (0, 0)
end S
namespace R
/-- The last rule of cameoref10.rule. -/
def rule2 (b a : Sh) : Option Int := seek (fun i => bif S.find b (b.g i).k != (i : Int) || (b.g i).d.c != 1 then none else bif decide (S.find a (b.g i).k < 0) then some 6 else
  bif okK (b.g i).d (a.g (S.find a (b.g i).k).toNat).d then (bif keeps (b.g i).d (a.g (S.find a (b.g i).k).toNat).d then none else some 6) else some 6) b.n 0
/-- cameoref10.rule. -/
def rule (b a : Sh) : Int := bif b.cl != a.cl then 2 else bif !b.x then (bif a.x then 3 else bif !eqR b.p a.p then 4 else
  ((seek (fun i => bif decide (S.find b (a.g i).k < 0) then some 5 else none) a.n 0).getD ((rule2 b a).getD 0))) else (rule2 b a).getD 0
def broken (b a : Mo) : Int × Int := (seek (fun i => bif decide ((i : Int) ≥ (a.n : Int)) then some ((i : Int) + 1, 1) else bif rule (b.g i) (a.g i) != 0 then some ((i : Int) + 1, rule (b.g i) (a.g i)) else none) b.n 0).getD (0, 0)
end R
noncomputable def ruleA : List Code := (bodyOf Tryd.f74).take 4
noncomputable def ruleB : List Code := (bodyOf Tryd.f74).drop 5
def thenOf : Code → Code
  | .cond _ t _ => t
  | c => c
def elseOf : Code → Code
  | .cond _ _ e => e
  | c => c
def condOf : Code → Operand
  | .cond o _ _ => o
  | _ => .tmp 0
noncomputable def ruleC5 : Code := (bodyOf Tryd.f74).getD 4 .skip

set_option maxRecDepth 100000 in
theorem broken37_pre (M : Nat → Mo) (bx : XR) (a b : Nat) : letI := rowsB M bx
    evK Tryd.prog ext (tab2 BvL5 [(110, idxC M), (107, noMem (onShSh fun q r => LB (S.lost (q.sh M) (r.sh M))))]) 120 43 (seqL (preOf (bodyOf Tryd.f37))) (⟨argS [.xs [a], .xs [b]], fun _ => none, 0⟩) (grab Tryd.prog Tryd.f37 [0, 1, 10, 11, 12] [] 0) =
    some (Res.cut Ex.normal (Cut.mk [(0, SV.xs [a]), (1, SV.xs [b]), (10, SV.xs [a]), (11, SV.val (Value.int IntKind.i64 (↑(M a).n : Int))), (12, SV.val (Value.int IntKind.i64 0))] [])) := by kernel_rfl
set_option maxRecDepth 100000 in
theorem broken37_round (M : Nat → Mo) (bx : XR) (a b : Nat) (i : Nat) : letI := rowsB M bx
    evK Tryd.prog ext (tab2 BvL5 [(110, idxC M), (107, noMem (onShSh fun q r => LB (S.lost (q.sh M) (r.sh M))))]) 120 43 (seqL (flat (roundOf (bodyOf Tryd.f37)))) ((⟨[(0, .xs [a]), (1, .xs [b]), (10, .xs [a]), (11, .val (.int .i64 (M a).n)), (12, (.val (.int .i64 (i : Int))))], []⟩ : Cut).st 0) (grab Tryd.prog Tryd.f37 [0, 1, 10, 11, 12] [] 0) =
    (bif decide ((↑i : Int) < (↑(M a).n : Int)) then 
     (bif decide (0 ≤ (↑i : Int)) && decide ((↑i : Int) < (↑(M a).n : Int)) then 
      (bif decide ((↑i : Int) ≥ (↑(M b).n : Int)) then some (Res.ret (SV.val (Value.tuple #[Value.int IntKind.i64 (IntKind.i64.wrap ((↑i : Int) + 1)), Value.int IntKind.i64 1]))) else 
       (bif decide (0 ≤ (↑i : Int)) && decide ((↑i : Int) < (↑(M b).n : Int)) then 
        (bif ((M b).g i).cl != ((M a).g i).cl then some (Res.ret (SV.val (Value.tuple #[Value.int IntKind.i64 (IntKind.i64.wrap ((↑i : Int) + 1)), Value.int IntKind.i64 2]))) else 
         (bif decide (0 ≤ (↑i : Int)) && decide ((↑i : Int) < (↑(M b).n : Int)) then 
          (bif !((M a).g i).x then 
           (bif ((M b).g i).x then some (Res.ret (SV.val (Value.tuple #[Value.int IntKind.i64 (IntKind.i64.wrap ((↑i : Int) + 1)), Value.int IntKind.i64 3]))) else 
            (bif decide (0 ≤ (↑i : Int)) && decide ((↑i : Int) < (↑(M b).n : Int)) then 
             (bif !((M a).g i).x then 
              (bif !S.eqC ((M b).g i).p ((M a).g i).p then some (Res.ret (SV.val (Value.tuple #[Value.int IntKind.i64 (IntKind.i64.wrap ((↑i : Int) + 1)), Value.int IntKind.i64 4]))) else 
               (bif decide (0 ≤ (↑i : Int)) && decide ((↑i : Int) < (↑(M b).n : Int)) then 
                (bif !((M a).g i).x then 
                 (bif decide (S.freshAt (SA.sh M (SA.mk ((M a).g i).cl ((M a).g i).p ((M a).g i).x a i)) ((M b).g i) ≥ 0) then some (Res.ret (SV.val (Value.tuple #[Value.int IntKind.i64 (IntKind.i64.wrap ((↑i : Int) + 1)), Value.int IntKind.i64 5]))) else 
                  (bif decide (0 ≤ (↑i : Int)) && decide ((↑i : Int) < (↑(M b).n : Int)) then 
                   (bif S.lost (SA.sh M (SA.mk ((M a).g i).cl ((M a).g i).p ((M a).g i).x a i)) (SA.sh M (SA.mk ((M b).g i).cl ((M b).g i).p ((M b).g i).x b i)) then some (Res.ret (SV.val (Value.tuple #[Value.int IntKind.i64 (IntKind.i64.wrap ((↑i : Int) + 1)), Value.int IntKind.i64 6]))) else some (Res.cut Ex.normal (Cut.mk [(0, SV.xs [a]), (1, SV.xs [b]), (10, SV.xs [a]), (11, SV.val (Value.int IntKind.i64 (↑(M a).n : Int))), (12, SV.val (Value.int IntKind.i64 (IntKind.i64.wrap ((↑i : Int) + 1))))] []))) else none)) else 
                 (bif decide (0 ≤ (↑i : Int)) && decide ((↑i : Int) < (↑(M b).n : Int)) then 
                  (bif S.lost (SA.sh M (SA.mk ((M a).g i).cl ((M a).g i).p ((M a).g i).x a i)) (SA.sh M (SA.mk ((M b).g i).cl ((M b).g i).p ((M b).g i).x b i)) then some (Res.ret (SV.val (Value.tuple #[Value.int IntKind.i64 (IntKind.i64.wrap ((↑i : Int) + 1)), Value.int IntKind.i64 6]))) else some (Res.cut Ex.normal (Cut.mk [(0, SV.xs [a]), (1, SV.xs [b]), (10, SV.xs [a]), (11, SV.val (Value.int IntKind.i64 (↑(M a).n : Int))), (12, SV.val (Value.int IntKind.i64 (IntKind.i64.wrap ((↑i : Int) + 1))))] []))) else none)) else none)) else 
              (bif decide (0 ≤ (↑i : Int)) && decide ((↑i : Int) < (↑(M b).n : Int)) then 
               (bif !((M a).g i).x then 
                (bif decide (S.freshAt (SA.sh M (SA.mk ((M a).g i).cl ((M a).g i).p ((M a).g i).x a i)) ((M b).g i) ≥ 0) then some (Res.ret (SV.val (Value.tuple #[Value.int IntKind.i64 (IntKind.i64.wrap ((↑i : Int) + 1)), Value.int IntKind.i64 5]))) else 
                 (bif decide (0 ≤ (↑i : Int)) && decide ((↑i : Int) < (↑(M b).n : Int)) then 
                  (bif S.lost (SA.sh M (SA.mk ((M a).g i).cl ((M a).g i).p ((M a).g i).x a i)) (SA.sh M (SA.mk ((M b).g i).cl ((M b).g i).p ((M b).g i).x b i)) then some (Res.ret (SV.val (Value.tuple #[Value.int IntKind.i64 (IntKind.i64.wrap ((↑i : Int) + 1)), Value.int IntKind.i64 6]))) else some (Res.cut Ex.normal (Cut.mk [(0, SV.xs [a]), (1, SV.xs [b]), (10, SV.xs [a]), (11, SV.val (Value.int IntKind.i64 (↑(M a).n : Int))), (12, SV.val (Value.int IntKind.i64 (IntKind.i64.wrap ((↑i : Int) + 1))))] []))) else none)) else 
                (bif decide (0 ≤ (↑i : Int)) && decide ((↑i : Int) < (↑(M b).n : Int)) then 
                 (bif S.lost (SA.sh M (SA.mk ((M a).g i).cl ((M a).g i).p ((M a).g i).x a i)) (SA.sh M (SA.mk ((M b).g i).cl ((M b).g i).p ((M b).g i).x b i)) then some (Res.ret (SV.val (Value.tuple #[Value.int IntKind.i64 (IntKind.i64.wrap ((↑i : Int) + 1)), Value.int IntKind.i64 6]))) else some (Res.cut Ex.normal (Cut.mk [(0, SV.xs [a]), (1, SV.xs [b]), (10, SV.xs [a]), (11, SV.val (Value.int IntKind.i64 (↑(M a).n : Int))), (12, SV.val (Value.int IntKind.i64 (IntKind.i64.wrap ((↑i : Int) + 1))))] []))) else none)) else none)) else none)) else 
           (bif decide (0 ≤ (↑i : Int)) && decide ((↑i : Int) < (↑(M b).n : Int)) then 
            (bif !((M a).g i).x then 
             (bif !S.eqC ((M b).g i).p ((M a).g i).p then some (Res.ret (SV.val (Value.tuple #[Value.int IntKind.i64 (IntKind.i64.wrap ((↑i : Int) + 1)), Value.int IntKind.i64 4]))) else 
              (bif decide (0 ≤ (↑i : Int)) && decide ((↑i : Int) < (↑(M b).n : Int)) then 
               (bif !((M a).g i).x then 
                (bif decide (S.freshAt (SA.sh M (SA.mk ((M a).g i).cl ((M a).g i).p ((M a).g i).x a i)) ((M b).g i) ≥ 0) then some (Res.ret (SV.val (Value.tuple #[Value.int IntKind.i64 (IntKind.i64.wrap ((↑i : Int) + 1)), Value.int IntKind.i64 5]))) else 
                 (bif decide (0 ≤ (↑i : Int)) && decide ((↑i : Int) < (↑(M b).n : Int)) then 
                  (bif S.lost (SA.sh M (SA.mk ((M a).g i).cl ((M a).g i).p ((M a).g i).x a i)) (SA.sh M (SA.mk ((M b).g i).cl ((M b).g i).p ((M b).g i).x b i)) then some (Res.ret (SV.val (Value.tuple #[Value.int IntKind.i64 (IntKind.i64.wrap ((↑i : Int) + 1)), Value.int IntKind.i64 6]))) else some (Res.cut Ex.normal (Cut.mk [(0, SV.xs [a]), (1, SV.xs [b]), (10, SV.xs [a]), (11, SV.val (Value.int IntKind.i64 (↑(M a).n : Int))), (12, SV.val (Value.int IntKind.i64 (IntKind.i64.wrap ((↑i : Int) + 1))))] []))) else none)) else 
                (bif decide (0 ≤ (↑i : Int)) && decide ((↑i : Int) < (↑(M b).n : Int)) then 
                 (bif S.lost (SA.sh M (SA.mk ((M a).g i).cl ((M a).g i).p ((M a).g i).x a i)) (SA.sh M (SA.mk ((M b).g i).cl ((M b).g i).p ((M b).g i).x b i)) then some (Res.ret (SV.val (Value.tuple #[Value.int IntKind.i64 (IntKind.i64.wrap ((↑i : Int) + 1)), Value.int IntKind.i64 6]))) else some (Res.cut Ex.normal (Cut.mk [(0, SV.xs [a]), (1, SV.xs [b]), (10, SV.xs [a]), (11, SV.val (Value.int IntKind.i64 (↑(M a).n : Int))), (12, SV.val (Value.int IntKind.i64 (IntKind.i64.wrap ((↑i : Int) + 1))))] []))) else none)) else none)) else 
             (bif decide (0 ≤ (↑i : Int)) && decide ((↑i : Int) < (↑(M b).n : Int)) then 
              (bif !((M a).g i).x then 
               (bif decide (S.freshAt (SA.sh M (SA.mk ((M a).g i).cl ((M a).g i).p ((M a).g i).x a i)) ((M b).g i) ≥ 0) then some (Res.ret (SV.val (Value.tuple #[Value.int IntKind.i64 (IntKind.i64.wrap ((↑i : Int) + 1)), Value.int IntKind.i64 5]))) else 
                (bif decide (0 ≤ (↑i : Int)) && decide ((↑i : Int) < (↑(M b).n : Int)) then 
                 (bif S.lost (SA.sh M (SA.mk ((M a).g i).cl ((M a).g i).p ((M a).g i).x a i)) (SA.sh M (SA.mk ((M b).g i).cl ((M b).g i).p ((M b).g i).x b i)) then some (Res.ret (SV.val (Value.tuple #[Value.int IntKind.i64 (IntKind.i64.wrap ((↑i : Int) + 1)), Value.int IntKind.i64 6]))) else some (Res.cut Ex.normal (Cut.mk [(0, SV.xs [a]), (1, SV.xs [b]), (10, SV.xs [a]), (11, SV.val (Value.int IntKind.i64 (↑(M a).n : Int))), (12, SV.val (Value.int IntKind.i64 (IntKind.i64.wrap ((↑i : Int) + 1))))] []))) else none)) else 
               (bif decide (0 ≤ (↑i : Int)) && decide ((↑i : Int) < (↑(M b).n : Int)) then 
                (bif S.lost (SA.sh M (SA.mk ((M a).g i).cl ((M a).g i).p ((M a).g i).x a i)) (SA.sh M (SA.mk ((M b).g i).cl ((M b).g i).p ((M b).g i).x b i)) then some (Res.ret (SV.val (Value.tuple #[Value.int IntKind.i64 (IntKind.i64.wrap ((↑i : Int) + 1)), Value.int IntKind.i64 6]))) else some (Res.cut Ex.normal (Cut.mk [(0, SV.xs [a]), (1, SV.xs [b]), (10, SV.xs [a]), (11, SV.val (Value.int IntKind.i64 (↑(M a).n : Int))), (12, SV.val (Value.int IntKind.i64 (IntKind.i64.wrap ((↑i : Int) + 1))))] []))) else none)) else none)) else none)) else none)) else none)) else none) else some (Res.cut (Ex.exit 0) (Cut.mk [(0, SV.xs [a]), (1, SV.xs [b]), (10, SV.xs [a]), (11, SV.val (Value.int IntKind.i64 (↑(M a).n : Int))), (12, SV.val (Value.int IntKind.i64 (↑i : Int)))] []))) := by kernel_rfl
set_option maxRecDepth 100000 in
theorem broken37_post (M : Nat → Mo) (bx : XR) (a b : Nat) (i : Nat) : letI := rowsB M bx
    evK Tryd.prog ext (tab2 BvL5 [(110, idxC M), (107, noMem (onShSh fun q r => LB (S.lost (q.sh M) (r.sh M))))]) 120 43 (seqL (postOf (bodyOf Tryd.f37))) ((⟨[(0, .xs [a]), (1, .xs [b]), (10, .xs [a]), (11, .val (.int .i64 (M a).n)), (12, (.val (.int .i64 (i : Int))))], []⟩ : Cut).st 0) (grab Tryd.prog Tryd.f37 [0, 1, 10, 11, 12] [] 0) =
    some (Res.ret (SV.val (Value.tuple #[Value.int IntKind.i64 0, Value.int IntKind.i64 0]))) := by kernel_rfl
set_option maxRecDepth 100000 in
theorem run_broken37 (M : Nat → Mo) (bx : XR) (hM : Fit M) (a b : Nat) : letI := rowsB M bx
    Runs Tryd.prog (Inv M bx) 43 Tryd.f37 ((fun p : Int × Int => SV.val (.tuple #[.int .i64 p.1, .int .i64 p.2])) ((seek (fun i => bif decide ((i : Int) ≥ ((M b).n : Int)) then some ((i : Int) + 1, 1) else (S.ruleO ((M a).g i) ((M b).g i)).map fun r => ((i : Int) + 1, r)) ((M a).n) 0).getD (0, 0))) [] (bodyOf Tryd.f37) (⟨argS [.xs [a], .xs [b]], fun _ => none, 0⟩) := by
  letI := rowsB M bx
  have C := ctxB M bx Bvents5 (entsS_cons (ent_idxC M bx hM) (entsS_cons (ent_lost107 M bx hM) entsS_nil))
  refine Runs.seekFn C (n := (M a).n) (p := fun i => bif decide ((i : Int) ≥ ((M b).n : Int)) then some ((i : Int) + 1, 1) else (S.ruleO ((M a).g i) ((M b).g i)).map fun r => ((i : Int) + 1, r)) (f := (fun p : Int × Int => SV.val (.tuple #[.int .i64 p.1, .int .i64 p.2]))) (z := (0, 0)) (hd := fun i => (⟨[(0, .xs [a]), (1, .xs [b]), (10, .xs [a]), (11, .val (.int .i64 (M a).n)), (12, (.val (.int .i64 (i : Int))))], []⟩ : Cut)) (c' := (fun i : Nat => (⟨[(0, .xs [a]), (1, .xs [b]), (10, .xs [a]), (11, .val (.int .i64 (M a).n)), (12, (.val (.int .i64 (i : Int))))], []⟩ : Cut)) ((M a).n)) (by kernel_rfl) (broken37_pre M bx a b) (fun i hi => ?_) ?_ (fun _ => Runs.ret C (broken37_post M bx a b ((M a).n)))
  · refine (broken37_round M bx a b i).trans ?_
    rcases Nat.lt_or_ge i ((M b).n) with hi2 | hi2
    · simp only [dgeF hi2, dlt hi2, dlt hi, dge, wr hi (hM a).1, cond_true, cond_false, Bool.and_self, Bool.true_and, map_cond, toR_cond, some_cond, Option.map_some, Option.map_none, toR_some, toR_none, cnd_and, cnd_or, cnd_not, S.keq, S.eqC, S.alikeC, S.ruleO, Option.map_some, Option.map_none]
      first | done | rfl
    · simp only [dgeT hi2, dlt hi, dge, wr hi (hM a).1, cond_true, cond_false, Bool.and_self, Bool.true_and, map_cond, toR_cond, some_cond, Option.map_some, Option.map_none, toR_some, toR_none, cnd_and, cnd_or, cnd_not, S.keq, S.eqC, S.alikeC, S.ruleO, Option.map_some, Option.map_none]
      first | done | rfl
  · refine (broken37_round M bx a b ((M a).n)).trans ?_
    simp only [dnl, cond_false]
    rfl
theorem ent_broken37 (M : Nat → Mo) (bx : XR) (hM : Fit M) : Ent M bx (37, noMem (onMM fun a b => LII (S.brokenO (M a) (M b)))) := by
  letI := rowsB M bx
  refine EntryS.of (fun args t v h1 h2 => ?_) (inv_stable M bx)
  obtain ⟨a, b, rfl, rfl⟩ := onMM_eq h1
  cases h2
  refine ⟨ok_val _ _, ?_, fun w m hI => Runs.calls (body := Tryd.f37.body.getD .skip) Tryd.func37 (by kernel_rfl) (by kernel_rfl) ?_ (run_broken37 M bx hM a b) w hI m⟩ <;>
  · intro x hx
    simp only [List.mem_cons, List.not_mem_nil, or_false] at hx
    rcases hx with rfl | rfl <;> exact ok_xs
set_option maxRecDepth 100000 in
theorem ruleA_all (M : Nat → Mo) (bx : XR) (q r : SA) : letI := rowsB M bx
    evK Tryd.prog ext (tab2 BvL5 [(48, noMem (onPK fun a b k => LI (S.find ((M a).g b) k)))]) 80 94 (seqL (ruleA)) (⟨argS [q.sv, r.sv], fun _ => none, 0⟩) (grab Tryd.prog Tryd.f74 [2, 3, 18] [0, 1] 2) =
    (bif q.cl != r.cl then some (Res.ret (SV.val (Value.int IntKind.i64 2))) else some (Res.cut Ex.normal (Cut.mk [(2, SV.ptr 0 0), (3, SV.ptr 1 0), (18, SV.val (Value.bool !q.x))] [(0, Blk.mk 60 [SV.val (Value.int IntKind.i64 q.cl), SV.val (Value.int IntKind.i64 q.p.k), SV.val (Value.bool q.p.b), SV.val (Value.float FloatKind.f64 q.p.n), SV.val (Value.string q.p.s), SV.val (Value.int IntKind.i64 q.p.id), SV.val (Value.bool q.x), SV.xs [q.a, q.b]]), (1, Blk.mk 60 [SV.val (Value.int IntKind.i64 r.cl), SV.val (Value.int IntKind.i64 r.p.k), SV.val (Value.bool r.p.b), SV.val (Value.float FloatKind.f64 r.p.n), SV.val (Value.string r.p.s), SV.val (Value.int IntKind.i64 r.p.id), SV.val (Value.bool r.x), SV.xs [r.a, r.b]])]))) := by kernel_rfl
set_option maxRecDepth 100000 in
theorem ruleT_pre (M : Nat → Mo) (bx : XR) (q r : SA) : letI := rowsB M bx
    evK Tryd.prog ext (tab2 BvL5 [(48, noMem (onPK fun a b k => LI (S.find ((M a).g b) k)))]) 80 94 (seqL (preOf (flat (thenOf ruleC5)))) ((⟨[(2, .ptr 0 0), (3, .ptr 1 0), (18, .val (.bool (!q.x)))], [(0, ⟨60, shCells q.cl q.p q.x [q.a, q.b]⟩), (1, ⟨60, shCells r.cl r.p r.x [r.a, r.b]⟩)]⟩ : Cut).st 2) (grab Tryd.prog Tryd.f74 [2, 3, 5] [0, 1] 2) =
    (bif r.x then some (Res.ret (SV.val (Value.int IntKind.i64 3))) else 
     (bif !R.eqR q.p r.p then some (Res.ret (SV.val (Value.int IntKind.i64 4))) else some (Res.cut Ex.normal (Cut.mk [(2, SV.ptr 0 0), (3, SV.ptr 1 0), (5, SV.val (Value.int IntKind.i64 0))] [(0, Blk.mk 60 [SV.val (Value.int IntKind.i64 q.cl), SV.val (Value.int IntKind.i64 q.p.k), SV.val (Value.bool q.p.b), SV.val (Value.float FloatKind.f64 q.p.n), SV.val (Value.string q.p.s), SV.val (Value.int IntKind.i64 q.p.id), SV.val (Value.bool q.x), SV.xs [q.a, q.b]]), (1, Blk.mk 60 [SV.val (Value.int IntKind.i64 r.cl), SV.val (Value.int IntKind.i64 r.p.k), SV.val (Value.bool r.p.b), SV.val (Value.float FloatKind.f64 r.p.n), SV.val (Value.string r.p.s), SV.val (Value.int IntKind.i64 r.p.id), SV.val (Value.bool r.x), SV.xs [r.a, r.b]])])))) := by kernel_rfl
set_option maxRecDepth 100000 in
theorem ruleT_round (M : Nat → Mo) (bx : XR) (q r : SA) (i : Nat) : letI := rowsB M bx
    evK Tryd.prog ext (tab2 BvL5 [(48, noMem (onPK fun a b k => LI (S.find ((M a).g b) k)))]) 80 94 (seqL (flat (roundOf (flat (thenOf ruleC5))))) ((⟨[(2, .ptr 0 0), (3, .ptr 1 0), (5, (.val (.int .i64 (i : Int))))], [(0, ⟨60, shCells q.cl q.p q.x [q.a, q.b]⟩), (1, ⟨60, shCells r.cl r.p r.x [r.a, r.b]⟩)]⟩ : Cut).st 2) (grab Tryd.prog Tryd.f74 [2, 3, 5] [0, 1] 2) =
    (bif decide ((↑i : Int) < (↑((M r.a).g r.b).n : Int)) then 
     (bif decide (0 ≤ (↑i : Int)) && decide ((↑i : Int) < (↑((M r.a).g r.b).n : Int)) then 
      (bif decide (S.find ((M q.a).g q.b) (K.mk (((M r.a).g r.b).g i).k.s (((M r.a).g r.b).g i).k.n) < 0) then some (Res.ret (SV.val (Value.int IntKind.i64 5))) else some (Res.cut Ex.normal (Cut.mk [(2, SV.ptr 0 0), (3, SV.ptr 1 0), (5, SV.val (Value.int IntKind.i64 (IntKind.i64.wrap ((↑i : Int) + 1))))] [(0, Blk.mk 60 [SV.val (Value.int IntKind.i64 q.cl), SV.val (Value.int IntKind.i64 q.p.k), SV.val (Value.bool q.p.b), SV.val (Value.float FloatKind.f64 q.p.n), SV.val (Value.string q.p.s), SV.val (Value.int IntKind.i64 q.p.id), SV.val (Value.bool q.x), SV.xs [q.a, q.b]]), (1, Blk.mk 60 [SV.val (Value.int IntKind.i64 r.cl), SV.val (Value.int IntKind.i64 r.p.k), SV.val (Value.bool r.p.b), SV.val (Value.float FloatKind.f64 r.p.n), SV.val (Value.string r.p.s), SV.val (Value.int IntKind.i64 r.p.id), SV.val (Value.bool r.x), SV.xs [r.a, r.b]])]))) else none) else some (Res.cut (Ex.exit 0) (Cut.mk [(2, SV.ptr 0 0), (3, SV.ptr 1 0), (5, SV.val (Value.int IntKind.i64 (↑i : Int)))] [(0, Blk.mk 60 [SV.val (Value.int IntKind.i64 q.cl), SV.val (Value.int IntKind.i64 q.p.k), SV.val (Value.bool q.p.b), SV.val (Value.float FloatKind.f64 q.p.n), SV.val (Value.string q.p.s), SV.val (Value.int IntKind.i64 q.p.id), SV.val (Value.bool q.x), SV.xs [q.a, q.b]]), (1, Blk.mk 60 [SV.val (Value.int IntKind.i64 r.cl), SV.val (Value.int IntKind.i64 r.p.k), SV.val (Value.bool r.p.b), SV.val (Value.float FloatKind.f64 r.p.n), SV.val (Value.string r.p.s), SV.val (Value.int IntKind.i64 r.p.id), SV.val (Value.bool r.x), SV.xs [r.a, r.b]])]))) := by kernel_rfl
set_option maxRecDepth 100000 in
theorem ruleB_pre (M : Nat → Mo) (bx : XR) (q r : SA) : letI := rowsB M bx
    evK Tryd.prog ext (tab2 BvL5 [(48, noMem (onPK fun a b k => LI (S.find ((M a).g b) k)))]) 80 94 (seqL (preOf (ruleB))) ((⟨[(2, .ptr 0 0), (3, .ptr 1 0)], [(0, ⟨60, shCells q.cl q.p q.x [q.a, q.b]⟩), (1, ⟨60, shCells r.cl r.p r.x [r.a, r.b]⟩)]⟩ : Cut).st 2) (grab Tryd.prog Tryd.f74 [2, 3, 6] [0, 1] 2) =
    some (Res.cut Ex.normal (Cut.mk [(2, SV.ptr 0 0), (3, SV.ptr 1 0), (6, SV.val (Value.int IntKind.i64 0))] [(0, Blk.mk 60 [SV.val (Value.int IntKind.i64 q.cl), SV.val (Value.int IntKind.i64 q.p.k), SV.val (Value.bool q.p.b), SV.val (Value.float FloatKind.f64 q.p.n), SV.val (Value.string q.p.s), SV.val (Value.int IntKind.i64 q.p.id), SV.val (Value.bool q.x), SV.xs [q.a, q.b]]), (1, Blk.mk 60 [SV.val (Value.int IntKind.i64 r.cl), SV.val (Value.int IntKind.i64 r.p.k), SV.val (Value.bool r.p.b), SV.val (Value.float FloatKind.f64 r.p.n), SV.val (Value.string r.p.s), SV.val (Value.int IntKind.i64 r.p.id), SV.val (Value.bool r.x), SV.xs [r.a, r.b]])])) := by kernel_rfl
set_option maxRecDepth 100000 in
theorem ruleB_round (M : Nat → Mo) (bx : XR) (q r : SA) (i : Nat) : letI := rowsB M bx
    evK Tryd.prog ext (tab2 BvL5 [(48, noMem (onPK fun a b k => LI (S.find ((M a).g b) k)))]) 80 94 (seqL (flat (roundOf (ruleB)))) ((⟨[(2, .ptr 0 0), (3, .ptr 1 0), (6, (.val (.int .i64 (i : Int))))], [(0, ⟨60, shCells q.cl q.p q.x [q.a, q.b]⟩), (1, ⟨60, shCells r.cl r.p r.x [r.a, r.b]⟩)]⟩ : Cut).st 2) (grab Tryd.prog Tryd.f74 [2, 3, 6] [0, 1] 2) =
    (bif decide ((↑i : Int) < (↑((M q.a).g q.b).n : Int)) then 
     (bif decide (0 ≤ (↑i : Int)) && decide ((↑i : Int) < (↑((M q.a).g q.b).n : Int)) then 
      (bif S.find ((M q.a).g q.b) (K.mk (((M q.a).g q.b).g i).k.s (((M q.a).g q.b).g i).k.n) != (↑i : Int) then some (Res.cut Ex.normal (Cut.mk [(2, SV.ptr 0 0), (3, SV.ptr 1 0), (6, SV.val (Value.int IntKind.i64 (IntKind.i64.wrap ((↑i : Int) + 1))))] [(0, Blk.mk 60 [SV.val (Value.int IntKind.i64 q.cl), SV.val (Value.int IntKind.i64 q.p.k), SV.val (Value.bool q.p.b), SV.val (Value.float FloatKind.f64 q.p.n), SV.val (Value.string q.p.s), SV.val (Value.int IntKind.i64 q.p.id), SV.val (Value.bool q.x), SV.xs [q.a, q.b]]), (1, Blk.mk 60 [SV.val (Value.int IntKind.i64 r.cl), SV.val (Value.int IntKind.i64 r.p.k), SV.val (Value.bool r.p.b), SV.val (Value.float FloatKind.f64 r.p.n), SV.val (Value.string r.p.s), SV.val (Value.int IntKind.i64 r.p.id), SV.val (Value.bool r.x), SV.xs [r.a, r.b]])])) else 
       (bif (((M q.a).g q.b).g i).d.c != 1 then some (Res.cut Ex.normal (Cut.mk [(2, SV.ptr 0 0), (3, SV.ptr 1 0), (6, SV.val (Value.int IntKind.i64 (IntKind.i64.wrap ((↑i : Int) + 1))))] [(0, Blk.mk 60 [SV.val (Value.int IntKind.i64 q.cl), SV.val (Value.int IntKind.i64 q.p.k), SV.val (Value.bool q.p.b), SV.val (Value.float FloatKind.f64 q.p.n), SV.val (Value.string q.p.s), SV.val (Value.int IntKind.i64 q.p.id), SV.val (Value.bool q.x), SV.xs [q.a, q.b]]), (1, Blk.mk 60 [SV.val (Value.int IntKind.i64 r.cl), SV.val (Value.int IntKind.i64 r.p.k), SV.val (Value.bool r.p.b), SV.val (Value.float FloatKind.f64 r.p.n), SV.val (Value.string r.p.s), SV.val (Value.int IntKind.i64 r.p.id), SV.val (Value.bool r.x), SV.xs [r.a, r.b]])])) else 
        (bif decide (S.find ((M r.a).g r.b) (K.mk (((M q.a).g q.b).g i).k.s (((M q.a).g q.b).g i).k.n) < 0) then some (Res.ret (SV.val (Value.int IntKind.i64 6))) else 
         (bif decide (0 ≤ S.find ((M r.a).g r.b) (K.mk (((M q.a).g q.b).g i).k.s (((M q.a).g q.b).g i).k.n)) && decide (S.find ((M r.a).g r.b) (K.mk (((M q.a).g q.b).g i).k.s (((M q.a).g q.b).g i).k.n) < (↑((M r.a).g r.b).n : Int)) then 
          (bif R.okK (((M q.a).g q.b).g i).d (((M r.a).g r.b).g (S.find ((M r.a).g r.b) (K.mk (((M q.a).g q.b).g i).k.s (((M q.a).g q.b).g i).k.n)).toNat).d then 
           (bif !R.keeps (((M q.a).g q.b).g i).d (((M r.a).g r.b).g (S.find ((M r.a).g r.b) (K.mk (((M q.a).g q.b).g i).k.s (((M q.a).g q.b).g i).k.n)).toNat).d then some (Res.ret (SV.val (Value.int IntKind.i64 6))) else some (Res.cut Ex.normal (Cut.mk [(2, SV.ptr 0 0), (3, SV.ptr 1 0), (6, SV.val (Value.int IntKind.i64 (IntKind.i64.wrap ((↑i : Int) + 1))))] [(0, Blk.mk 60 [SV.val (Value.int IntKind.i64 q.cl), SV.val (Value.int IntKind.i64 q.p.k), SV.val (Value.bool q.p.b), SV.val (Value.float FloatKind.f64 q.p.n), SV.val (Value.string q.p.s), SV.val (Value.int IntKind.i64 q.p.id), SV.val (Value.bool q.x), SV.xs [q.a, q.b]]), (1, Blk.mk 60 [SV.val (Value.int IntKind.i64 r.cl), SV.val (Value.int IntKind.i64 r.p.k), SV.val (Value.bool r.p.b), SV.val (Value.float FloatKind.f64 r.p.n), SV.val (Value.string r.p.s), SV.val (Value.int IntKind.i64 r.p.id), SV.val (Value.bool r.x), SV.xs [r.a, r.b]])]))) else some (Res.ret (SV.val (Value.int IntKind.i64 6)))) else none)))) else none) else some (Res.cut (Ex.exit 2) (Cut.mk [(2, SV.ptr 0 0), (3, SV.ptr 1 0), (6, SV.val (Value.int IntKind.i64 (↑i : Int)))] [(0, Blk.mk 60 [SV.val (Value.int IntKind.i64 q.cl), SV.val (Value.int IntKind.i64 q.p.k), SV.val (Value.bool q.p.b), SV.val (Value.float FloatKind.f64 q.p.n), SV.val (Value.string q.p.s), SV.val (Value.int IntKind.i64 q.p.id), SV.val (Value.bool q.x), SV.xs [q.a, q.b]]), (1, Blk.mk 60 [SV.val (Value.int IntKind.i64 r.cl), SV.val (Value.int IntKind.i64 r.p.k), SV.val (Value.bool r.p.b), SV.val (Value.float FloatKind.f64 r.p.n), SV.val (Value.string r.p.s), SV.val (Value.int IntKind.i64 r.p.id), SV.val (Value.bool r.x), SV.xs [r.a, r.b]])]))) := by kernel_rfl
set_option maxRecDepth 100000 in
theorem ruleB_post (M : Nat → Mo) (bx : XR) (q r : SA) (i : Nat) : letI := rowsB M bx
    evK Tryd.prog ext (tab2 BvL5 [(48, noMem (onPK fun a b k => LI (S.find ((M a).g b) k)))]) 80 94 (seqL (postOf (ruleB))) ((⟨[(2, .ptr 0 0), (3, .ptr 1 0), (6, (.val (.int .i64 (i : Int))))], [(0, ⟨60, shCells q.cl q.p q.x [q.a, q.b]⟩), (1, ⟨60, shCells r.cl r.p r.x [r.a, r.b]⟩)]⟩ : Cut).st 2) (grab Tryd.prog Tryd.f74 [2, 3, 6] [0, 1] 2) =
    some (Res.ret (SV.val (Value.int IntKind.i64 0))) := by kernel_rfl
set_option maxRecDepth 100000 in
theorem run_ruleB (M : Nat → Mo) (bx : XR) (hM : Fit M) (q r : SA) : letI := rowsB M bx
    Runs Tryd.prog (Inv M bx) 94 Tryd.f74 ((fun x : Int => SV.val (.int .i64 x)) ((seek (fun i => bif S.find ((M q.a).g q.b) (((M q.a).g q.b).g i).k != (i : Int) || (((M q.a).g q.b).g i).d.c != 1 then none else bif decide ((S.find ((M r.a).g r.b) (((M q.a).g q.b).g i).k) < 0) then some 6 else bif R.okK (((M q.a).g q.b).g i).d (((M r.a).g r.b).g (S.find ((M r.a).g r.b) (((M q.a).g q.b).g i).k).toNat).d then (bif R.keeps (((M q.a).g q.b).g i).d (((M r.a).g r.b).g (S.find ((M r.a).g r.b) (((M q.a).g q.b).g i).k).toNat).d then none else some 6) else some 6) (((M q.a).g q.b).n) 0).getD 0)) [] (ruleB) ((⟨[(2, .ptr 0 0), (3, .ptr 1 0)], [(0, ⟨60, shCells q.cl q.p q.x [q.a, q.b]⟩), (1, ⟨60, shCells r.cl r.p r.x [r.a, r.b]⟩)]⟩ : Cut).st 2) := by
  letI := rowsB M bx
  have C := ctxB M bx Bvents5 (entsS_cons (ent_find48 M bx hM) entsS_nil)
  refine Runs.seekFn C (n := ((M q.a).g q.b).n) (p := fun i => bif S.find ((M q.a).g q.b) (((M q.a).g q.b).g i).k != (i : Int) || (((M q.a).g q.b).g i).d.c != 1 then none else bif decide ((S.find ((M r.a).g r.b) (((M q.a).g q.b).g i).k) < 0) then some 6 else bif R.okK (((M q.a).g q.b).g i).d (((M r.a).g r.b).g (S.find ((M r.a).g r.b) (((M q.a).g q.b).g i).k).toNat).d then (bif R.keeps (((M q.a).g q.b).g i).d (((M r.a).g r.b).g (S.find ((M r.a).g r.b) (((M q.a).g q.b).g i).k).toNat).d then none else some 6) else some 6) (f := (fun x : Int => SV.val (.int .i64 x))) (z := 0) (hd := fun i => (⟨[(2, .ptr 0 0), (3, .ptr 1 0), (6, (.val (.int .i64 (i : Int))))], [(0, ⟨60, shCells q.cl q.p q.x [q.a, q.b]⟩), (1, ⟨60, shCells r.cl r.p r.x [r.a, r.b]⟩)]⟩ : Cut)) (c' := (fun i : Nat => (⟨[(2, .ptr 0 0), (3, .ptr 1 0), (6, (.val (.int .i64 (i : Int))))], [(0, ⟨60, shCells q.cl q.p q.x [q.a, q.b]⟩), (1, ⟨60, shCells r.cl r.p r.x [r.a, r.b]⟩)]⟩ : Cut)) (((M q.a).g q.b).n)) (by kernel_rfl) (ruleB_pre M bx q r) (fun i hi => ?_) ?_ (fun _ => Runs.ret C (ruleB_post M bx q r (((M q.a).g q.b).n)))
  · refine (ruleB_round M bx q r i).trans ?_
    simp only [S.find_cond]
    simp only [dlt hi, dge, wr hi ((hM q.a).2 q.b), cond_true, cond_false, Bool.and_self, Bool.true_and, map_cond, toR_cond, some_cond, Option.map_some, Option.map_none, toR_some, toR_none, cnd_and, cnd_or, cnd_not, S.keq, S.eqC, S.alikeC]
    first | done | rfl
  · refine (ruleB_round M bx q r (((M q.a).g q.b).n)).trans ?_
    simp only [dnl, cond_false]
    rfl
set_option maxRecDepth 100000 in
theorem ruleT_post (M : Nat → Mo) (bx : XR) (q r : SA) (i : Nat) : letI := rowsB M bx
    evK Tryd.prog ext (tab2 BvL5 [(48, noMem (onPK fun a b k => LI (S.find ((M a).g b) k)))]) 80 94  (seqL (postOf (flat (thenOf ruleC5)))) ((⟨[(2, .ptr 0 0), (3, .ptr 1 0), (5, (.val (.int .i64 (i : Int))))], [(0, ⟨60, shCells q.cl q.p q.x [q.a, q.b]⟩), (1, ⟨60, shCells r.cl r.p r.x [r.a, r.b]⟩)]⟩ : Cut).st 2) (grab Tryd.prog Tryd.f74 [2, 3] [0, 1] 2) = some (.cut .normal (⟨[(2, .ptr 0 0), (3, .ptr 1 0)], [(0, ⟨60, shCells q.cl q.p q.x [q.a, q.b]⟩), (1, ⟨60, shCells r.cl r.p r.x [r.a, r.b]⟩)]⟩ : Cut)) := by kernel_rfl
set_option maxRecDepth 100000 in
theorem ruleE_all (M : Nat → Mo) (bx : XR) (q r : SA) : letI := rowsB M bx
    evK Tryd.prog ext (tab2 BvL5 [(48, noMem (onPK fun a b k => LI (S.find ((M a).g b) k)))]) 80 94  (seqL (flat (elseOf ruleC5))) ((⟨[(2, .ptr 0 0), (3, .ptr 1 0), (18, .val (.bool (!q.x)))], [(0, ⟨60, shCells q.cl q.p q.x [q.a, q.b]⟩), (1, ⟨60, shCells r.cl r.p r.x [r.a, r.b]⟩)]⟩ : Cut).st 2) (grab Tryd.prog Tryd.f74 [2, 3] [0, 1] 2) = some (.cut .normal (⟨[(2, .ptr 0 0), (3, .ptr 1 0)], [(0, ⟨60, shCells q.cl q.p q.x [q.a, q.b]⟩), (1, ⟨60, shCells r.cl r.p r.x [r.a, r.b]⟩)]⟩ : Cut)) := by kernel_rfl
theorem rule_split : bodyOf Tryd.f74 = ruleA ++ (Code.cond (condOf ruleC5) (thenOf ruleC5) (elseOf ruleC5) :: ruleB) := by kernel_rfl
set_option maxRecDepth 100000 in
theorem run_rule74 (M : Nat → Mo) (bx : XR) (hM : Fit M) (q r : SA) : letI := rowsB M bx
    Runs Tryd.prog (Inv M bx) 94 Tryd.f74 (.val (.int .i64 (R.rule (q.sh M) (r.sh M)))) [] (bodyOf Tryd.f74) ⟨argS [q.sv, r.sv], fun _ => none, 0⟩ := by
  letI := rowsB M bx
  have C := ctxB M bx Bvents5 (entsS_cons (ent_find48 M bx hM) entsS_nil)
  rw [rule_split]
  refine Runs.app ?_
  have hA := ruleA_all M bx q r
  have restB := run_ruleB M bx hM q r
  cases hcl : (q.cl != r.cl) with
  | true =>
    have e : R.rule (q.sh M) (r.sh M) = 2 := by
      show (bif q.cl != r.cl then _ else _) = _
      rw [hcl]; rfl
    rw [e]
    exact Runs.ret C (hA.trans (by simp only [hcl, cond_true]))
  | false =>
    have e0 : R.rule (q.sh M) (r.sh M) = bif !q.x then (bif r.x then 3 else bif !R.eqR q.p r.p then 4 else
        ((seek (fun i => bif decide (S.find ((M q.a).g q.b) (((M r.a).g r.b).g i).k < 0) then some 5 else none) ((M r.a).g r.b).n 0).getD ((R.rule2 (q.sh M) (r.sh M)).getD 0))) else (R.rule2 (q.sh M) (r.sh M)).getD 0 := by
      show (bif q.cl != r.cl then _ else _) = _
      rw [hcl]; rfl
    refine Runs.step C (hA.trans (by simp only [hcl, cond_false]; rfl)) (RunsX.rest (cond2 (b := !q.x) rfl (fun hx => ?_) (fun hx => ?_)))
    · rw [hx] at e0
      have hp := ruleT_pre M bx q r
      by_cases h3 : r.x = true
      · rw [h3] at e0
        have e : R.rule (q.sh M) (r.sh M) = 3 := e0
        rw [e]
        exact retPre C (by kernel_rfl) (hp.trans (by simp only [h3, cond_true]))
      · have h3 : r.x = false := by simpa using h3
        rw [h3] at e0
        cases h4 : R.eqR q.p r.p with
        | false =>
          rw [h4] at e0
          have e : R.rule (q.sh M) (r.sh M) = 4 := e0
          rw [e]
          exact retPre C (by kernel_rfl) (hp.trans (by simp only [h3, h4, cond_true, cond_false, Bool.not_false]))
        | true =>
          rw [h4] at e0
          simp only [cond_true, cond_false, Bool.not_true] at e0
          rw [e0]
          refine Runs.seekFn C (n := ((M r.a).g r.b).n) (p := fun i => bif decide (S.find ((M q.a).g q.b) (((M r.a).g r.b).g i).k < 0) then some 5 else none) (f := fun x : Int => SV.val (.int .i64 x)) (z := (R.rule2 (q.sh M) (r.sh M)).getD 0)
            (hd := fun i => (⟨[(2, .ptr 0 0), (3, .ptr 1 0), (5, (.val (.int .i64 (i : Int))))], [(0, ⟨60, shCells q.cl q.p q.x [q.a, q.b]⟩), (1, ⟨60, shCells r.cl r.p r.x [r.a, r.b]⟩)]⟩ : Cut)) (c' := (fun i : Nat => (⟨[(2, .ptr 0 0), (3, .ptr 1 0), (5, (.val (.int .i64 (i : Int))))], [(0, ⟨60, shCells q.cl q.p q.x [q.a, q.b]⟩), (1, ⟨60, shCells r.cl r.p r.x [r.a, r.b]⟩)]⟩ : Cut)) ((M r.a).g r.b).n) (by kernel_rfl)
            (hp.trans (by simp only [h3, h4, cond_true, cond_false, Bool.not_true]; rfl)) (fun i hi => ?_) ?_ (fun _ => Runs.step C (ruleT_post M bx q r _) (RunsX.rest restB))
          · refine (ruleT_round M bx q r i).trans ?_
            simp only [dlt hi, dge, wr hi ((hM r.a).2 r.b), cond_true, cond_false, Bool.and_self, Bool.true_and, map_cond, toR_cond, some_cond, Option.map_some, Option.map_none, toR_some, toR_none]
            first | done | rfl
          · refine (ruleT_round M bx q r ((M r.a).g r.b).n).trans ?_
            simp only [dnl, cond_false]
            rfl
    · rw [hx] at e0
      have e : R.rule (q.sh M) (r.sh M) = (R.rule2 (q.sh M) (r.sh M)).getD 0 := e0
      rw [e]
      exact Runs.step C (ruleE_all M bx q r) (RunsX.rest restB)
theorem ent_rule74 (M : Nat → Mo) (bx : XR) (hM : Fit M) : Ent M bx (74, noMem (onShSh fun q r => LI (R.rule (q.sh M) (r.sh M)))) := by
  letI := rowsB M bx
  refine EntryS.of (fun args t v h1 h2 => ?_) (inv_stable M bx)
  obtain ⟨q, r, rfl, rfl⟩ := onShSh_eq h1
  cases h2
  refine ⟨ok_val _ _, ?_, fun w m hI => Runs.calls (body := Tryd.f74.body.getD .skip) Tryd.func74 (by kernel_rfl) (by kernel_rfl) ?_ (run_rule74 M bx hM q r) w hI m⟩ <;>
  · intro x hx
    simp only [List.mem_cons, List.not_mem_nil, or_false] at hx
    rcases hx with rfl | rfl <;> exact ok_sa _ _
set_option maxRecDepth 100000 in
theorem rbroken38_pre (M : Nat → Mo) (bx : XR) (a b : Nat) : letI := rowsB M bx
    evK Tryd.prog ext (tab2 BvL5 [(74, noMem (onShSh fun q r => LI (R.rule (q.sh M) (r.sh M))))]) 80 34 (seqL (preOf (bodyOf Tryd.f38))) (⟨argS [.xs [a], .xs [b]], fun _ => none, 0⟩) (grab Tryd.prog Tryd.f38 [0, 1, 6] [] 0) =
    some (Res.cut Ex.normal (Cut.mk [(0, SV.xs [a]), (1, SV.xs [b]), (6, SV.val (Value.int IntKind.i64 0))] [])) := by kernel_rfl
set_option maxRecDepth 100000 in
theorem rbroken38_round (M : Nat → Mo) (bx : XR) (a b : Nat) (i : Nat) : letI := rowsB M bx
    evK Tryd.prog ext (tab2 BvL5 [(74, noMem (onShSh fun q r => LI (R.rule (q.sh M) (r.sh M))))]) 80 34 (seqL (flat (roundOf (bodyOf Tryd.f38)))) ((⟨[(0, .xs [a]), (1, .xs [b]), (6, (.val (.int .i64 (i : Int))))], []⟩ : Cut).st 0) (grab Tryd.prog Tryd.f38 [0, 1, 6] [] 0) =
    (bif decide ((↑i : Int) < (↑(M a).n : Int)) then 
     (bif decide ((↑i : Int) ≥ (↑(M b).n : Int)) then some (Res.ret (SV.val (Value.tuple #[Value.int IntKind.i64 (IntKind.i64.wrap ((↑i : Int) + 1)), Value.int IntKind.i64 1]))) else 
      (bif decide (0 ≤ (↑i : Int)) && decide ((↑i : Int) < (↑(M a).n : Int)) then 
       (bif decide (0 ≤ (↑i : Int)) && decide ((↑i : Int) < (↑(M b).n : Int)) then 
        (bif R.rule (SA.sh M (SA.mk ((M a).g i).cl ((M a).g i).p ((M a).g i).x a i)) (SA.sh M (SA.mk ((M b).g i).cl ((M b).g i).p ((M b).g i).x b i)) != 0 then some (Res.ret (SV.val (Value.tuple #[Value.int IntKind.i64 (IntKind.i64.wrap ((↑i : Int) + 1)), Value.int IntKind.i64 (R.rule (SA.sh M (SA.mk ((M a).g i).cl ((M a).g i).p ((M a).g i).x a i)) (SA.sh M (SA.mk ((M b).g i).cl ((M b).g i).p ((M b).g i).x b i)))]))) else some (Res.cut Ex.normal (Cut.mk [(0, SV.xs [a]), (1, SV.xs [b]), (6, SV.val (Value.int IntKind.i64 (IntKind.i64.wrap ((↑i : Int) + 1))))] []))) else none) else none)) else some (Res.cut (Ex.exit 0) (Cut.mk [(0, SV.xs [a]), (1, SV.xs [b]), (6, SV.val (Value.int IntKind.i64 (↑i : Int)))] []))) := by kernel_rfl
set_option maxRecDepth 100000 in
theorem rbroken38_post (M : Nat → Mo) (bx : XR) (a b : Nat) (i : Nat) : letI := rowsB M bx
    evK Tryd.prog ext (tab2 BvL5 [(74, noMem (onShSh fun q r => LI (R.rule (q.sh M) (r.sh M))))]) 80 34 (seqL (postOf (bodyOf Tryd.f38))) ((⟨[(0, .xs [a]), (1, .xs [b]), (6, (.val (.int .i64 (i : Int))))], []⟩ : Cut).st 0) (grab Tryd.prog Tryd.f38 [0, 1, 6] [] 0) =
    some (Res.ret (SV.val (Value.tuple #[Value.int IntKind.i64 0, Value.int IntKind.i64 0]))) := by kernel_rfl
set_option maxRecDepth 100000 in
theorem run_rbroken38 (M : Nat → Mo) (bx : XR) (hM : Fit M) (a b : Nat) : letI := rowsB M bx
    Runs Tryd.prog (Inv M bx) 34 Tryd.f38 ((fun p : Int × Int => SV.val (.tuple #[.int .i64 p.1, .int .i64 p.2])) ((seek (fun i => bif decide ((i : Int) ≥ ((M b).n : Int)) then some ((i : Int) + 1, 1) else bif R.rule ((M a).g i) ((M b).g i) != 0 then some ((i : Int) + 1, R.rule ((M a).g i) ((M b).g i)) else none) ((M a).n) 0).getD (0, 0))) [] (bodyOf Tryd.f38) (⟨argS [.xs [a], .xs [b]], fun _ => none, 0⟩) := by
  letI := rowsB M bx
  have C := ctxB M bx Bvents5 (entsS_cons (ent_rule74 M bx hM) entsS_nil)
  refine Runs.seekFn C (n := (M a).n) (p := fun i => bif decide ((i : Int) ≥ ((M b).n : Int)) then some ((i : Int) + 1, 1) else bif R.rule ((M a).g i) ((M b).g i) != 0 then some ((i : Int) + 1, R.rule ((M a).g i) ((M b).g i)) else none) (f := (fun p : Int × Int => SV.val (.tuple #[.int .i64 p.1, .int .i64 p.2]))) (z := (0, 0)) (hd := fun i => (⟨[(0, .xs [a]), (1, .xs [b]), (6, (.val (.int .i64 (i : Int))))], []⟩ : Cut)) (c' := (fun i : Nat => (⟨[(0, .xs [a]), (1, .xs [b]), (6, (.val (.int .i64 (i : Int))))], []⟩ : Cut)) ((M a).n)) (by kernel_rfl) (rbroken38_pre M bx a b) (fun i hi => ?_) ?_ (fun _ => Runs.ret C (rbroken38_post M bx a b ((M a).n)))
  · refine (rbroken38_round M bx a b i).trans ?_
    rcases Nat.lt_or_ge i ((M b).n) with hi2 | hi2
    · simp only [dgeF hi2, dlt hi2, dlt hi, dge, wr hi (hM a).1, cond_true, cond_false, Bool.and_self, Bool.true_and, map_cond, toR_cond, some_cond, Option.map_some, Option.map_none, toR_some, toR_none, cnd_and, cnd_or, cnd_not, S.keq, S.eqC, S.alikeC]
      first | done | rfl
    · simp only [dgeT hi2, dlt hi, dge, wr hi (hM a).1, cond_true, cond_false, Bool.and_self, Bool.true_and, map_cond, toR_cond, some_cond, Option.map_some, Option.map_none, toR_some, toR_none, cnd_and, cnd_or, cnd_not, S.keq, S.eqC, S.alikeC]
      first | done | rfl
  · refine (rbroken38_round M bx a b ((M a).n)).trans ?_
    simp only [dnl, cond_false]
    rfl
theorem ent_rbroken38 (M : Nat → Mo) (bx : XR) (hM : Fit M) : Ent M bx (38, noMem (onMM fun a b => LII (R.broken (M a) (M b)))) := by
  letI := rowsB M bx
  refine EntryS.of (fun args t v h1 h2 => ?_) (inv_stable M bx)
  obtain ⟨a, b, rfl, rfl⟩ := onMM_eq h1
  cases h2
  refine ⟨ok_val _ _, ?_, fun w m hI => Runs.calls (body := Tryd.f38.body.getD .skip) Tryd.func38 (by kernel_rfl) (by kernel_rfl) ?_ (run_rbroken38 M bx hM a b) w hI m⟩ <;>
  · intro x hx
    simp only [List.mem_cons, List.not_mem_nil, or_false] at hx
    rcases hx with rfl | rfl <;> exact ok_xs
end Go.Proofs.YtaojjpdlfnphiaaDoor.PDescKinds

/-! #### part B6 -/
set_option linter.unusedSimpArgs false
set_option linter.unusedVariables false
set_option linter.unusedSectionVars false
namespace Go.Proofs.YtaojjpdlfnphiaaDoor.PDescKinds
open Go.RowKit Go.Ev
namespace S
def fewAcc (s : Mo) : Nat → Nat → Int → Int
  | 0, _, x => x
  | k + 1, i, x => bif decide ((i : Int) < (s.n : Int)) && decide ((i : Int) ≤ 60) then fewAcc s k (i + 1) (IntKind.i64.wrap (x + ((s.g i).n : Int))) else x
def few (s : Mo) : Bool := decide ((s.n : Int) ≤ 60) && decide (fewAcc s 62 0 0 ≤ 400)
end S
noncomputable def brkA : List Code := (bodyOf Tryd.f8).take 3
noncomputable def brkR : List Code := (bodyOf Tryd.f8).drop 5

set_option maxRecDepth 100000 in
theorem few35_pre (M : Nat → Mo) (bx : XR) (a : Nat) (x : Int) : letI := rowsB M bx
    evK Tryd.prog ext (tab2 BvL5 []) 80 30 (seqL (preOf (bodyOf Tryd.f35))) (⟨argS [.xs [a]], fun _ => none, 0⟩) (grab Tryd.prog Tryd.f35 [0, 3, 4] [] 0) =
    some (Res.cut Ex.normal (Cut.mk [(0, SV.xs [a]), (3, SV.val (Value.int IntKind.i64 0)), (4, SV.val (Value.int IntKind.i64 0))] [])) := by kernel_rfl
set_option maxRecDepth 100000 in
theorem few35_round (M : Nat → Mo) (bx : XR) (a : Nat) (x : Int) (i : Nat) : letI := rowsB M bx
    evK Tryd.prog ext (tab2 BvL5 []) 80 30 (seqL (flat (roundOf (bodyOf Tryd.f35)))) ((⟨[(0, .xs [a]), (3, .val (.int .i64 x)), (4, (.val (.int .i64 (i : Int))))], []⟩ : Cut).st 0) (grab Tryd.prog Tryd.f35 [0, 3, 4] [] 0) =
    (bif decide ((↑i : Int) < (↑(M a).n : Int)) then 
     (bif decide ((↑i : Int) ≤ 60) then 
      (bif decide (0 ≤ (↑i : Int)) && decide ((↑i : Int) < (↑(M a).n : Int)) then some (Res.cut Ex.normal (Cut.mk [(0, SV.xs [a]), (3, SV.val (Value.int IntKind.i64 (IntKind.i64.wrap (x + (↑((M a).g i).n : Int))))), (4, SV.val (Value.int IntKind.i64 (IntKind.i64.wrap ((↑i : Int) + 1))))] [])) else none) else some (Res.cut (Ex.exit 0) (Cut.mk [(0, SV.xs [a]), (3, SV.val (Value.int IntKind.i64 x)), (4, SV.val (Value.int IntKind.i64 (↑i : Int)))] []))) else some (Res.cut (Ex.exit 0) (Cut.mk [(0, SV.xs [a]), (3, SV.val (Value.int IntKind.i64 x)), (4, SV.val (Value.int IntKind.i64 (↑i : Int)))] []))) := by kernel_rfl
set_option maxRecDepth 100000 in
theorem few35_post (M : Nat → Mo) (bx : XR) (a : Nat) (x : Int) (i : Nat) : letI := rowsB M bx
    evK Tryd.prog ext (tab2 BvL5 []) 80 30 (seqL (postOf (bodyOf Tryd.f35))) ((⟨[(0, .xs [a]), (3, .val (.int .i64 x)), (4, (.val (.int .i64 (i : Int))))], []⟩ : Cut).st 0) (grab Tryd.prog Tryd.f35 [0, 3, 4] [] 0) =
    (bif decide ((↑(M a).n : Int) ≤ 60) then some (Res.ret (SV.val (Value.bool (decide (x ≤ 400))))) else some (Res.ret (SV.val (Value.bool false)))) := by kernel_rfl
theorem run_fewL (M : Nat → Mo) (bx : XR) (hM : Fit M) (a : Nat) : letI := rowsB M bx
    ∀ (k i : Nat) (x : Int), 61 ≤ i + k → Runs Tryd.prog (Inv M bx) 30 Tryd.f35 (.val (.bool (decide (((M a).n : Int) ≤ 60) && decide (S.fewAcc (M a) (k + 1) i x ≤ 400))))
      [.loop (idOf (bodyOf Tryd.f35)) (roundOf (bodyOf Tryd.f35)) k, .rest (postOf (bodyOf Tryd.f35))] (flat (roundOf (bodyOf Tryd.f35))) ((⟨[(0, .xs [a]), (3, .val (.int .i64 x)), (4, .val (.int .i64 (i : Int)))], []⟩ : Cut).st 0) := by
  letI := rowsB M bx
  have C := ctxB M bx Bvents5 entsS_nil
  intro k
  induction k with
  | zero =>
    intro i x h
    have h60 : decide ((i : Int) ≤ 60) = false := decide_eq_false (by omega)
    have e : S.fewAcc (M a) (0 + 1) i x = x := by simp only [S.fewAcc, h60, Bool.and_false, cond_false]
    rw [e]
    have hr := few35_round M bx a x i
    rw [h60] at hr
    have hpost : Runs Tryd.prog (Inv M bx) 30 Tryd.f35 (.val (.bool (decide (((M a).n : Int) ≤ 60) && decide (x ≤ 400)))) [] (postOf (bodyOf Tryd.f35)) ((⟨[(0, .xs [a]), (3, .val (.int .i64 x)), (4, .val (.int .i64 (i : Int)))], []⟩ : Cut).st 0) := Runs.ret C ((few35_post M bx a x i).trans (by
      cases decide (((M a).n : Int) ≤ 60) <;> rfl))
    exact Runs.step (ex := .exit (idOf (bodyOf Tryd.f35))) (c := (⟨[(0, .xs [a]), (3, .val (.int .i64 x)), (4, .val (.int .i64 (i : Int)))], []⟩ : Cut)) C (hr.trans (by cases decide ((i : Int) < ((M a).n : Int)) <;> rfl)) (RunsX.out (RunsX.rest hpost))
  | succ k ih =>
    intro i x h
    have hr := few35_round M bx a x i
    have hpost : ∀ y, S.fewAcc (M a) (k + 1 + 1) i x = y → y = x → Runs Tryd.prog (Inv M bx) 30 Tryd.f35 (.val (.bool (decide (((M a).n : Int) ≤ 60) && decide (y ≤ 400)))) [] (postOf (bodyOf Tryd.f35)) ((⟨[(0, .xs [a]), (3, .val (.int .i64 x)), (4, .val (.int .i64 (i : Int)))], []⟩ : Cut).st 0) := fun y _ hy => by
      rw [hy]
      exact Runs.ret C ((few35_post M bx a x i).trans (by cases decide (((M a).n : Int) ≤ 60) <;> rfl))
    by_cases hi : i < (M a).n
    · by_cases h60 : (i : Int) ≤ 60
      · have e : S.fewAcc (M a) (k + 1 + 1) i x = S.fewAcc (M a) (k + 1) (i + 1) (IntKind.i64.wrap (x + (((M a).g i).n : Int))) := by
          show (bif decide ((i : Int) < ((M a).n : Int)) && decide ((i : Int) ≤ 60) then _ else _) = _
          rw [dlt hi, decide_eq_true h60]; rfl
        rw [e]
        refine Runs.step (ex := .normal) (c := ⟨[(0, .xs [a]), (3, .val (.int .i64 (IntKind.i64.wrap (x + (((M a).g i).n : Int))))), (4, .val (.int .i64 ((i + 1 : Nat) : Int)))], []⟩) C (hr.trans ?_) (RunsX.again (ih (i + 1) (IntKind.i64.wrap (x + (((M a).g i).n : Int))) (by omega)))
        simp only [dlt hi, dge, decide_eq_true h60, wr hi (hM a).1, cond_true, Bool.and_self]
        first | done | rfl
      · have e : S.fewAcc (M a) (k + 1 + 1) i x = x := by
          show (bif decide ((i : Int) < ((M a).n : Int)) && decide ((i : Int) ≤ 60) then _ else _) = _
          rw [decide_eq_false h60, Bool.and_false]; rfl
        have hp := hpost _ e rfl
        rw [e]
        refine Runs.step (ex := .exit (idOf (bodyOf Tryd.f35))) (c := (⟨[(0, .xs [a]), (3, .val (.int .i64 x)), (4, .val (.int .i64 (i : Int)))], []⟩ : Cut)) C (hr.trans ?_) (RunsX.out (RunsX.rest hp))
        simp only [dlt hi, decide_eq_false h60, cond_true, cond_false]
        rfl
    · have hd : decide ((i : Int) < ((M a).n : Int)) = false := decide_eq_false (by omega)
      have e : S.fewAcc (M a) (k + 1 + 1) i x = x := by
        show (bif decide ((i : Int) < ((M a).n : Int)) && decide ((i : Int) ≤ 60) then _ else _) = _
        rw [hd, Bool.false_and]; rfl
      have hp := hpost _ e rfl
      rw [e]
      refine Runs.step (ex := .exit (idOf (bodyOf Tryd.f35))) (c := (⟨[(0, .xs [a]), (3, .val (.int .i64 x)), (4, .val (.int .i64 (i : Int)))], []⟩ : Cut)) C (hr.trans ?_) (RunsX.out (RunsX.rest hp))
      simp only [hd, cond_false]
      rfl
theorem run_few35 (M : Nat → Mo) (bx : XR) (hM : Fit M) (a : Nat) : letI := rowsB M bx
    Runs Tryd.prog (Inv M bx) 30 Tryd.f35 (.val (.bool (S.few (M a)))) [] (bodyOf Tryd.f35) ⟨argS [.xs [a]], fun _ => none, 0⟩ := by
  letI := rowsB M bx
  have C := ctxB M bx Bvents5 entsS_nil
  exact Runs.looped C (by kernel_rfl) 61 (few35_pre M bx a 0) (run_fewL M bx hM a 61 0 0 (by omega))
theorem ent_few35 (M : Nat → Mo) (bx : XR) (hM : Fit M) : Ent M bx (35, noMem (onM fun a => LB (S.few (M a)))) := by
  letI := rowsB M bx
  refine EntryS.of (fun args t v h1 h2 => ?_) (inv_stable M bx)
  obtain ⟨a, rfl, rfl⟩ := onM_eq h1
  cases h2
  refine ⟨ok_val _ _, ?_, fun w m hI => Runs.calls (body := Tryd.f35.body.getD .skip) Tryd.func35 (by kernel_rfl) (by kernel_rfl) ?_ (run_few35 M bx hM a) w hI m⟩ <;>
  · intro x hx
    simp only [List.mem_cons, List.not_mem_nil, or_false] at hx
    rcases hx with rfl; exact ok_xs
set_option maxRecDepth 100000 in
theorem brkA_all (M : Nat → Mo) (bx : XR) : letI := rowsB M bx
    evK Tryd.prog ext (tab2 BvL5 [(35, noMem (onM fun a => LB (S.few (M a))))]) 80 91 (seqL (brkA)) (⟨argS [.xs [0], .xs [1]], fun _ => none, 0⟩) (grab Tryd.prog Tryd.f8 [0, 1] [] 0) =
    (bif !S.few (M 0) then some (Res.ret (SV.val (Value.bool true))) else 
     (bif !S.few (M 1) then some (Res.ret (SV.val (Value.bool true))) else some (Res.cut Ex.normal (Cut.mk [(0, SV.xs [0]), (1, SV.xs [1])] [])))) := by kernel_rfl
set_option maxRecDepth 100000 in
theorem brkR_pre (M : Nat → Mo) (bx : XR) : letI := rowsB M bx
    evK Tryd.prog ext (tab2 BvL5 [(110, idxC M), (37, noMem (onMM fun a b => LII (S.brokenO (M a) (M b)))), (38, noMem (onMM fun a b => LII (R.broken (M a) (M b)))), (75, noMem (onFM 76 fun a b => LB (S.sameC (M a) (M b)))), (40, noMem (onMM fun a b => LB (R.sameM (M a) (M b)))), (42, noMem (onSh fun q => LB (R.sealed (q.sh M)))), (44, noMem (onSh fun q => LB (R.frozen (q.sh M))))]) 80 91 (seqL (preOf (brkR))) ((⟨[(0, .xs [0]), (1, .xs [1]), (5, .xs [2]), (6, .xs [3])], []⟩ : Cut).st 0) (grab Tryd.prog Tryd.f8 [0, 1, 5, 6, 11] [] 0) =
    (bif (S.brokenO (M 2) (M 3)).fst != (R.broken (M 0) (M 1)).fst then some (Res.ret (SV.val (Value.bool false))) else 
     (bif (S.brokenO (M 2) (M 3)).snd != (R.broken (M 0) (M 1)).snd then some (Res.ret (SV.val (Value.bool false))) else 
      (bif !S.sameC (M 2) (M 3) == R.sameM (M 0) (M 1) then some (Res.ret (SV.val (Value.bool false))) else some (Res.cut Ex.normal (Cut.mk [(0, SV.xs [0]), (1, SV.xs [1]), (5, SV.xs [2]), (6, SV.xs [3]), (11, SV.val (Value.int IntKind.i64 0))] []))))) := by kernel_rfl
set_option maxRecDepth 100000 in
theorem brkR_round (M : Nat → Mo) (bx : XR) (i : Nat) : letI := rowsB M bx
    evK Tryd.prog ext (tab2 BvL5 [(110, idxC M), (37, noMem (onMM fun a b => LII (S.brokenO (M a) (M b)))), (38, noMem (onMM fun a b => LII (R.broken (M a) (M b)))), (75, noMem (onFM 76 fun a b => LB (S.sameC (M a) (M b)))), (40, noMem (onMM fun a b => LB (R.sameM (M a) (M b)))), (42, noMem (onSh fun q => LB (R.sealed (q.sh M)))), (44, noMem (onSh fun q => LB (R.frozen (q.sh M))))]) 80 91 (seqL (flat (roundOf (brkR)))) ((⟨[(0, .xs [0]), (1, .xs [1]), (5, .xs [2]), (6, .xs [3]), (11, (.val (.int .i64 (i : Int))))], []⟩ : Cut).st 0) (grab Tryd.prog Tryd.f8 [0, 1, 5, 6, 11] [] 0) =
    (bif decide ((↑i : Int) < (↑(M 2).n : Int)) then 
     (bif decide (0 ≤ (↑i : Int)) && decide ((↑i : Int) < (↑(M 2).n : Int)) then 
      (bif !((M 2).g i).x then 
       (bif decide (0 ≤ (↑i : Int)) && decide ((↑i : Int) < (↑(M 0).n : Int)) then 
        (bif !(!decide (S.confAt ((M 2).g i) ≥ 0)) == R.sealed (SA.sh M (SA.mk ((M 0).g i).cl ((M 0).g i).p ((M 0).g i).x 0 i)) then some (Res.ret (SV.val (Value.bool false))) else 
         (bif decide (0 ≤ (↑i : Int)) && decide ((↑i : Int) < (↑(M 2).n : Int)) then 
          (bif !((M 2).g i).x then 
           (bif !decide (S.confAt ((M 2).g i) ≥ 0) then 
            (bif decide (0 ≤ (↑i : Int)) && decide ((↑i : Int) < (↑(M 0).n : Int)) then 
             (bif !(!decide (S.thawAt ((M 2).g i) ≥ 0)) == R.frozen (SA.sh M (SA.mk ((M 0).g i).cl ((M 0).g i).p ((M 0).g i).x 0 i)) then some (Res.ret (SV.val (Value.bool false))) else some (Res.cut Ex.normal (Cut.mk [(0, SV.xs [0]), (1, SV.xs [1]), (5, SV.xs [2]), (6, SV.xs [3]), (11, SV.val (Value.int IntKind.i64 (IntKind.i64.wrap ((↑i : Int) + 1))))] []))) else none) else 
            (bif decide (0 ≤ (↑i : Int)) && decide ((↑i : Int) < (↑(M 0).n : Int)) then 
             (bif !false == R.frozen (SA.sh M (SA.mk ((M 0).g i).cl ((M 0).g i).p ((M 0).g i).x 0 i)) then some (Res.ret (SV.val (Value.bool false))) else some (Res.cut Ex.normal (Cut.mk [(0, SV.xs [0]), (1, SV.xs [1]), (5, SV.xs [2]), (6, SV.xs [3]), (11, SV.val (Value.int IntKind.i64 (IntKind.i64.wrap ((↑i : Int) + 1))))] []))) else none)) else 
           (bif decide (0 ≤ (↑i : Int)) && decide ((↑i : Int) < (↑(M 0).n : Int)) then 
            (bif !false == R.frozen (SA.sh M (SA.mk ((M 0).g i).cl ((M 0).g i).p ((M 0).g i).x 0 i)) then some (Res.ret (SV.val (Value.bool false))) else some (Res.cut Ex.normal (Cut.mk [(0, SV.xs [0]), (1, SV.xs [1]), (5, SV.xs [2]), (6, SV.xs [3]), (11, SV.val (Value.int IntKind.i64 (IntKind.i64.wrap ((↑i : Int) + 1))))] []))) else none)) else none)) else none) else 
       (bif decide (0 ≤ (↑i : Int)) && decide ((↑i : Int) < (↑(M 0).n : Int)) then 
        (bif !false == R.sealed (SA.sh M (SA.mk ((M 0).g i).cl ((M 0).g i).p ((M 0).g i).x 0 i)) then some (Res.ret (SV.val (Value.bool false))) else 
         (bif decide (0 ≤ (↑i : Int)) && decide ((↑i : Int) < (↑(M 2).n : Int)) then 
          (bif !((M 2).g i).x then 
           (bif !decide (S.confAt ((M 2).g i) ≥ 0) then 
            (bif decide (0 ≤ (↑i : Int)) && decide ((↑i : Int) < (↑(M 0).n : Int)) then 
             (bif !(!decide (S.thawAt ((M 2).g i) ≥ 0)) == R.frozen (SA.sh M (SA.mk ((M 0).g i).cl ((M 0).g i).p ((M 0).g i).x 0 i)) then some (Res.ret (SV.val (Value.bool false))) else some (Res.cut Ex.normal (Cut.mk [(0, SV.xs [0]), (1, SV.xs [1]), (5, SV.xs [2]), (6, SV.xs [3]), (11, SV.val (Value.int IntKind.i64 (IntKind.i64.wrap ((↑i : Int) + 1))))] []))) else none) else 
            (bif decide (0 ≤ (↑i : Int)) && decide ((↑i : Int) < (↑(M 0).n : Int)) then 
             (bif !false == R.frozen (SA.sh M (SA.mk ((M 0).g i).cl ((M 0).g i).p ((M 0).g i).x 0 i)) then some (Res.ret (SV.val (Value.bool false))) else some (Res.cut Ex.normal (Cut.mk [(0, SV.xs [0]), (1, SV.xs [1]), (5, SV.xs [2]), (6, SV.xs [3]), (11, SV.val (Value.int IntKind.i64 (IntKind.i64.wrap ((↑i : Int) + 1))))] []))) else none)) else 
           (bif decide (0 ≤ (↑i : Int)) && decide ((↑i : Int) < (↑(M 0).n : Int)) then 
            (bif !false == R.frozen (SA.sh M (SA.mk ((M 0).g i).cl ((M 0).g i).p ((M 0).g i).x 0 i)) then some (Res.ret (SV.val (Value.bool false))) else some (Res.cut Ex.normal (Cut.mk [(0, SV.xs [0]), (1, SV.xs [1]), (5, SV.xs [2]), (6, SV.xs [3]), (11, SV.val (Value.int IntKind.i64 (IntKind.i64.wrap ((↑i : Int) + 1))))] []))) else none)) else none)) else none)) else none) else some (Res.cut (Ex.exit 0) (Cut.mk [(0, SV.xs [0]), (1, SV.xs [1]), (5, SV.xs [2]), (6, SV.xs [3]), (11, SV.val (Value.int IntKind.i64 (↑i : Int)))] []))) := by kernel_rfl
set_option maxRecDepth 100000 in
theorem brkR_post (M : Nat → Mo) (bx : XR) (i : Nat) : letI := rowsB M bx
    evK Tryd.prog ext (tab2 BvL5 [(110, idxC M), (37, noMem (onMM fun a b => LII (S.brokenO (M a) (M b)))), (38, noMem (onMM fun a b => LII (R.broken (M a) (M b)))), (75, noMem (onFM 76 fun a b => LB (S.sameC (M a) (M b)))), (40, noMem (onMM fun a b => LB (R.sameM (M a) (M b)))), (42, noMem (onSh fun q => LB (R.sealed (q.sh M)))), (44, noMem (onSh fun q => LB (R.frozen (q.sh M))))]) 80 91 (seqL (postOf (brkR))) ((⟨[(0, .xs [0]), (1, .xs [1]), (5, .xs [2]), (6, .xs [3]), (11, (.val (.int .i64 (i : Int))))], []⟩ : Cut).st 0) (grab Tryd.prog Tryd.f8 [0, 1, 5, 6, 11] [] 0) =
    (bif R.sameM (M 2) (M 0) then some (Res.ret (SV.val (Value.bool (R.sameM (M 3) (M 1))))) else some (Res.ret (SV.val (Value.bool false)))) := by kernel_rfl
namespace S
def sealedC (s : Sh) : Bool := !s.x && !decide (confAt s ≥ 0)
def frozenC (s : Sh) : Bool := sealedC s && !decide (thawAt s ≥ 0)
end S
theorem seek_void {α : Type} (n i : Nat) : seek (fun _ => (none : Option α)) n i = none := (S.seek_none n i).2 fun _ _ _ => rfl
set_option maxRecDepth 100000 in
theorem run_brkR (M : Nat → Mo) (bx : XR) (hM : Fit M) (hn : (M 2).n = (M 0).n) (h1 : S.brokenO (M 2) (M 3) = R.broken (M 0) (M 1)) (h2 : S.sameC (M 2) (M 3) = R.sameM (M 0) (M 1))
    (h3 : ∀ i, i < (M 2).n → S.sealedC ((M 2).g i) = R.sealed ((M 0).g i)) (h4 : ∀ i, i < (M 2).n → S.frozenC ((M 2).g i) = R.frozen ((M 0).g i)) (h5 : R.sameM (M 2) (M 0) = true) (h6 : R.sameM (M 3) (M 1) = true) : letI := rowsB M bx
    Runs Tryd.prog (Inv M bx) 91 Tryd.f8 (.val (.bool true)) [] brkR ((⟨[(0, .xs [0]), (1, .xs [1]), (5, .xs [2]), (6, .xs [3])], []⟩ : Cut).st 0) := by
  letI := rowsB M bx
  have C := ctxB M bx Bvents5 (entsS_cons (ent_idxC M bx hM) (entsS_cons (ent_broken37 M bx hM) (entsS_cons (ent_rbroken38 M bx hM) (entsS_cons (ent_eqS75 M bx hM) (entsS_cons (ent_same40 M bx hM) (entsS_cons (ent_seal42 M bx hM) (entsS_cons (ent_froz44 M bx hM) entsS_nil)))))))
  have := Runs.seekFn (fs := []) (fn := Tryd.f8) (N := 91) (l := brkR) (st := (⟨[(0, .xs [0]), (1, .xs [1]), (5, .xs [2]), (6, .xs [3])], []⟩ : Cut).st 0) C (n := (M 2).n) (p := fun _ => (none : Option Bool)) (f := fun x : Bool => SV.val (.bool x)) (z := true) (hd := fun i => (⟨[(0, .xs [0]), (1, .xs [1]), (5, .xs [2]), (6, .xs [3]), (11, .val (.int .i64 (i : Int)))], []⟩ : Cut)) (c' := (fun i : Nat => (⟨[(0, .xs [0]), (1, .xs [1]), (5, .xs [2]), (6, .xs [3]), (11, .val (.int .i64 (i : Int)))], []⟩ : Cut)) (M 2).n) (by kernel_rfl)
    ((brkR_pre M bx).trans (by rw [h1, h2]; simp only [bne_self_eq_false, beq_self_eq_true, Bool.not_true, cond_false]; rfl)) (fun i hi => ?_) ?_ (fun _ => Runs.ret C ((brkR_post M bx (M 2).n).trans (by rw [h5, h6]; rfl)))
  · rw [seek_void] at this
    exact this
  · have hi0 : i < (M 0).n := by omega
    have e3 : R.sealed (SA.sh M (SA.mk ((M 0).g i).cl ((M 0).g i).p ((M 0).g i).x 0 i)) = S.sealedC ((M 2).g i) := (h3 i hi).symm
    have e4 : R.frozen (SA.sh M (SA.mk ((M 0).g i).cl ((M 0).g i).p ((M 0).g i).x 0 i)) = S.frozenC ((M 2).g i) := (h4 i hi).symm
    refine (brkR_round M bx i).trans ?_
    simp only [dlt hi, dlt hi0, dge, wr hi (hM 2).1, cond_true, Bool.and_self, e3, e4, S.frozenC, S.sealedC]
    cases ((M 2).g i).x <;> cases decide (S.confAt ((M 2).g i) ≥ 0) <;> cases decide (S.thawAt ((M 2).g i) ≥ 0) <;> rfl
  · refine (brkR_round M bx (M 2).n).trans ?_
    simp only [dnl, cond_false]
    rfl
end Go.Proofs.YtaojjpdlfnphiaaDoor.PDescKinds

