/- Parts of the proof, joined (3). -/
import Derived.Laws.AppendOwn
import Derived.Test.YtaojjpdlfnphiaaDoorCards
import Derived.Test.YtaojjpdlfnphiaaDoorTie
import Derived.WalkKit
import Derived.ProofKit
import Derived.OpenShut
import Derived.Deep.DeepHandedRow
import Derived.Lib.LaidTab
import Derived.Lib.LaidIn
import Derived.Lib.LaidU8T
import Derived.Test.YtaojjpdlfnphiaaDoorZ2
section
/- Contracts by evaluation: what each function of a list answers. Written by a program of this session. -/
namespace Go.Proofs.YtaojjpdlfnphiaaDoor.PDescKinds
open Go.RowKit Go.Ev
set_option linter.unusedSimpArgs false
set_option linter.unusedVariables false
set_option maxRecDepth 100000
abbrev HL0 : Tab := [(123, onV T.inn)]
theorem Hents0 : ∀ p ∈ HL0, E p := entries_cons (ent_inn) (entries_nil)
set_option maxHeartbeats 4000000 in
theorem ev_good (v : V) : evFn Tryd.prog ext (tab HL0) 40 114 [v.agg] = (T.goods v).val :=
  Eq.trans (b := 
    (bif v.k == 1 then 
     (bif v.b == false then 
      (bif v.s.toList == (ByteArray.mk #[]).toList then 
       (bif v.id == 0 then 
        (bif v.k == 4 then some (Value.tuple #[Value.iface 124 (Value.agg #[]), Value.bool true]) else some (Value.tuple #[Value.iface 124 (Value.agg #[]), Value.bool ((↑v.n : Int) == 0)])) else some (Value.tuple #[Value.iface 124 (Value.agg #[]), Value.bool false])) else some (Value.tuple #[Value.iface 124 (Value.agg #[]), Value.bool false])) else some (Value.tuple #[Value.iface 124 (Value.agg #[]), Value.bool false])) else 
     (bif v.k == 2 then 
      (bif v.b == false then 
       (bif v.s.toList == (ByteArray.mk #[]).toList then 
        (bif v.id == 0 then 
         (bif v.k == 4 then some (Value.tuple #[Value.iface 141 (Value.agg #[]), Value.bool true]) else some (Value.tuple #[Value.iface 141 (Value.agg #[]), Value.bool ((↑v.n : Int) == 0)])) else some (Value.tuple #[Value.iface 141 (Value.agg #[]), Value.bool false])) else some (Value.tuple #[Value.iface 141 (Value.agg #[]), Value.bool false])) else some (Value.tuple #[Value.iface 141 (Value.agg #[]), Value.bool false])) else 
      (bif v.k == 3 then 
       (bif v.b == v.b then 
        (bif v.s.toList == (ByteArray.mk #[]).toList then 
         (bif v.id == 0 then 
          (bif v.k == 4 then some (Value.tuple #[Value.iface 142 (Value.bool v.b), Value.bool true]) else some (Value.tuple #[Value.iface 142 (Value.bool v.b), Value.bool ((↑v.n : Int) == 0)])) else some (Value.tuple #[Value.iface 142 (Value.bool v.b), Value.bool false])) else some (Value.tuple #[Value.iface 142 (Value.bool v.b), Value.bool false])) else some (Value.tuple #[Value.iface 142 (Value.bool v.b), Value.bool false])) else 
       (bif v.k == 4 then 
        (bif v.b == false then 
         (bif v.s.toList == (ByteArray.mk #[]).toList then 
          (bif v.id == 0 then 
           (bif v.k == 4 then some (Value.tuple #[Value.iface 139 (Value.float FloatKind.f64 v.n), Value.bool true]) else some (Value.tuple #[Value.iface 139 (Value.float FloatKind.f64 v.n), Value.bool ((↑v.n : Int) == 0)])) else some (Value.tuple #[Value.iface 139 (Value.float FloatKind.f64 v.n), Value.bool false])) else some (Value.tuple #[Value.iface 139 (Value.float FloatKind.f64 v.n), Value.bool false])) else some (Value.tuple #[Value.iface 139 (Value.float FloatKind.f64 v.n), Value.bool false])) else 
        (bif v.k == 5 then 
         (bif leafIn.strOk v.s then 
          (bif v.b == false then 
           (bif v.s.toList == v.s.toList then 
            (bif v.id == 0 then 
             (bif v.k == 4 then some (Value.tuple #[Value.iface 143 (Value.string v.s), Value.bool true]) else some (Value.tuple #[Value.iface 143 (Value.string v.s), Value.bool ((↑v.n : Int) == 0)])) else some (Value.tuple #[Value.iface 143 (Value.string v.s), Value.bool false])) else some (Value.tuple #[Value.iface 143 (Value.string v.s), Value.bool false])) else some (Value.tuple #[Value.iface 143 (Value.string v.s), Value.bool false])) else some (Value.tuple #[Value.nilIface, Value.bool false])) else 
         (bif v.k == 6 then 
          (bif leafIn.idOk v.id then 
           (bif v.b == false then 
            (bif v.s.toList == (ByteArray.mk #[]).toList then 
             (bif v.id == v.id then 
              (bif v.k == 4 then some (Value.tuple #[Value.iface 144 (Value.int IntKind.i64 v.id), Value.bool true]) else some (Value.tuple #[Value.iface 144 (Value.int IntKind.i64 v.id), Value.bool ((↑v.n : Int) == 0)])) else some (Value.tuple #[Value.iface 144 (Value.int IntKind.i64 v.id), Value.bool false])) else some (Value.tuple #[Value.iface 144 (Value.int IntKind.i64 v.id), Value.bool false])) else some (Value.tuple #[Value.iface 144 (Value.int IntKind.i64 v.id), Value.bool false])) else some (Value.tuple #[Value.nilIface, Value.bool false])) else 
          (bif v.k == 7 then 
           (bif leafIn.idOk v.id then 
            (bif v.b == false then 
             (bif v.s.toList == (ByteArray.mk #[]).toList then 
              (bif v.id == v.id then 
               (bif v.k == 4 then some (Value.tuple #[Value.iface 145 (Value.int IntKind.i64 v.id), Value.bool true]) else some (Value.tuple #[Value.iface 145 (Value.int IntKind.i64 v.id), Value.bool ((↑v.n : Int) == 0)])) else some (Value.tuple #[Value.iface 145 (Value.int IntKind.i64 v.id), Value.bool false])) else some (Value.tuple #[Value.iface 145 (Value.int IntKind.i64 v.id), Value.bool false])) else some (Value.tuple #[Value.iface 145 (Value.int IntKind.i64 v.id), Value.bool false])) else some (Value.tuple #[Value.nilIface, Value.bool false])) else some (Value.tuple #[Value.nilIface, Value.bool false]))))))))) (by kernel_rfl) (by
    simp only [T.goods, T.inn, DT.val_node, DT.val_leaf, DT.bind, DT.val_bad]
    repeat' (first | (with_reducible refine bif_neq (fun h => ?_) (fun h => ?_)) | (with_reducible refine bif_and (fun h => ?_) (fun h => ?_)) | (with_reducible refine bif_eq (fun h => ?_) (fun h => ?_)))
    all_goals first | (simp only [*, S.good, S.emp, cond_true, cond_false, Bool.and_true, Bool.true_and, Bool.and_false, Bool.false_and, Bool.or_true, Bool.true_or, Bool.or_false, Bool.false_or, Bool.not_true, Bool.not_false, beq_self_eq_true, bne_self_eq_false, Bool.not_not]; done) | (exfalso; simp_all; done) | (simp_all [S.good, S.emp]; done) | grind [S.good, S.emp])
theorem ent_good : E (114, onV T.goods) := byEv Hents0 40 fun args t h => by
  obtain ⟨v, rfl, rfl⟩ := onV_eq h
  exact ev_good v
abbrev HL1 : Tab := (114, onV T.goods) :: HL0
theorem Hents1 : ∀ p ∈ HL1, E p := entries_cons ent_good Hents0
set_option maxHeartbeats 4000000 in
theorem ev_check92 (v : V) : evFn Tryd.prog ext (tab HL1) 40 92 [v.agg] = (T.good v).val :=
  Eq.trans (b := 
    (bif v.k == 1 then 
     (bif !S.good v then some (Value.int IntKind.i64 5) else some (Value.int IntKind.i64 0)) else 
     (bif v.k == 2 then 
      (bif !S.good v then some (Value.int IntKind.i64 5) else some (Value.int IntKind.i64 0)) else 
      (bif v.k == 3 then 
       (bif !S.good v then some (Value.int IntKind.i64 5) else some (Value.int IntKind.i64 0)) else 
       (bif v.k == 4 then 
        (bif !S.good v then some (Value.int IntKind.i64 5) else some (Value.int IntKind.i64 0)) else 
        (bif v.k == 5 then 
         (bif leafIn.strOk v.s then 
          (bif !S.good v then some (Value.int IntKind.i64 5) else some (Value.int IntKind.i64 0)) else 
          (bif !S.good v then some (Value.int IntKind.i64 5) else some (Value.int IntKind.i64 0))) else 
         (bif v.k == 6 then 
          (bif leafIn.idOk v.id then 
           (bif !S.good v then some (Value.int IntKind.i64 5) else some (Value.int IntKind.i64 0)) else 
           (bif !S.good v then some (Value.int IntKind.i64 5) else some (Value.int IntKind.i64 0))) else 
          (bif v.k == 7 then 
           (bif leafIn.idOk v.id then 
            (bif !S.good v then some (Value.int IntKind.i64 5) else some (Value.int IntKind.i64 0)) else 
            (bif !S.good v then some (Value.int IntKind.i64 5) else some (Value.int IntKind.i64 0))) else 
           (bif !S.good v then some (Value.int IntKind.i64 5) else some (Value.int IntKind.i64 0)))))))))) (by kernel_rfl) (by
    simp only [T.good, T.err, DT.val_node, DT.val_leaf, DT.bind, DT.val_bad]
    repeat' (first | (with_reducible refine bif_neq (fun h => ?_) (fun h => ?_)) | (with_reducible refine bif_and (fun h => ?_) (fun h => ?_)) | (with_reducible refine bif_eq (fun h => ?_) (fun h => ?_)))
    all_goals first | (simp only [*, S.good, cond_true, cond_false, Bool.and_true, Bool.true_and, Bool.and_false, Bool.false_and, Bool.or_true, Bool.true_or, Bool.or_false, Bool.false_or, Bool.not_true, Bool.not_false, beq_self_eq_true, bne_self_eq_false, Bool.not_not]; done) | (exfalso; simp_all; done) | (simp_all [S.good]; done) | grind [S.good])
theorem ent_check92 : E (92, onV T.good) := byEv Hents1 40 fun args t h => by
  obtain ⟨v, rfl, rfl⟩ := onV_eq h
  exact ev_check92 v
abbrev HL2 : Tab := (92, onV T.good) :: HL1
theorem Hents2 : ∀ p ∈ HL2, E p := entries_cons ent_check92 Hents1
set_option maxHeartbeats 4000000 in
theorem ev_numSame (a b : Nat) : evFn Tryd.prog ext (tab HL2) 40 108 [.float .f64 a, .float .f64 b] = (T.numSame a b).val :=
  Eq.trans (b := 
    (bif FloatKind.f64.format.order a a != some Ordering.eq then 
     (bif FloatKind.f64.format.order a a != some Ordering.eq then some (Value.bool (FloatKind.f64.format.order b b != some Ordering.eq)) else some (Value.bool false)) else 
     (bif FloatKind.f64.format.order b b != some Ordering.eq then 
      (bif FloatKind.f64.format.order a a != some Ordering.eq then some (Value.bool (FloatKind.f64.format.order b b != some Ordering.eq)) else some (Value.bool false)) else 
      (bif FloatKind.f64.format.order a b == some Ordering.eq then some (Value.bool (decide (IntKind.i64.wrap (↑a : Int) < 0) == decide (IntKind.i64.wrap (↑b : Int) < 0))) else some (Value.bool false))))) (by kernel_rfl) (by
    simp only [T.numSame, T.B, DT.val_node, DT.val_leaf, DT.bind, DT.val_bad]
    repeat' (first | (with_reducible refine bif_neq (fun h => ?_) (fun h => ?_)) | (with_reducible refine bif_and (fun h => ?_) (fun h => ?_)) | (with_reducible refine bif_eq (fun h => ?_) (fun h => ?_)))
    all_goals first | (simp only [*, S.numSame, S.nan, S.feq, S.neg, cond_true, cond_false, Bool.and_true, Bool.true_and, Bool.and_false, Bool.false_and, Bool.or_true, Bool.true_or, Bool.or_false, Bool.false_or, Bool.not_true, Bool.not_false, beq_self_eq_true, bne_self_eq_false, Bool.not_not]; done) | (exfalso; simp_all; done) | (simp_all [S.numSame, S.nan, S.feq, S.neg]; done) | grind [S.numSame, S.nan, S.feq, S.neg])
theorem ent_numSame : E (108, onFF T.numSame) := byEv Hents2 40 fun args t h => by
  obtain ⟨a, b, rfl, rfl⟩ := onFF_eq h
  exact ev_numSame a b
abbrev HL3 : Tab := (108, onFF T.numSame) :: HL2
theorem Hents3 : ∀ p ∈ HL3, E p := entries_cons ent_numSame Hents2
set_option maxHeartbeats 4000000 in
theorem ev_absent (v : V) : evFn Tryd.prog ext (tab HL3) 40 91 [v.agg] = (T.absent v).val :=
  Eq.trans (b := 
    (bif v.k == 0 && (v.b == false && (Op.floatEq FloatKind.f64 v.n 0 && (v.s == ByteArray.mk #[] && (v.id == 0 && true)))) then 
     (bif (Ieee.double.div 4607182418800017408 v.n).isSome then some (Value.bool (FloatKind.f64.format.order ((Ieee.double.div 4607182418800017408 v.n).getD 0) 0 == some Ordering.gt)) else none) else some (Value.bool false))) (by kernel_rfl) (by
    simp only [T.absent, T.B, DT.val_leaf]
    refine bif_eq (fun h => ?_) (fun h => ?_)
    · have hd := FloatEq.div_isSome (n := v.n) (by simp only [Bool.and_eq_true] at h; exact h.2.2.1)
      refine bif_eq (fun _ => ?_) (fun h2 => absurd (hd.symm.trans h2) (by simp))
      show _ = some (Value.bool (S.isV0 v && S.pos v.n))
      rw [show S.isV0 v = true from h]
      rfl
    · show _ = some (Value.bool (S.isV0 v && S.pos v.n))
      rw [show S.isV0 v = false from h]
      rfl)
theorem ent_absent : E (91, onV T.absent) := byEv Hents3 40 fun args t h => by
  obtain ⟨v, rfl, rfl⟩ := onV_eq h
  exact ev_absent v
abbrev HL4 : Tab := (91, onV T.absent) :: HL3
theorem Hents4 : ∀ p ∈ HL4, E p := entries_cons ent_absent Hents3
set_option maxHeartbeats 4000000 in
theorem ev_same (a b : V) : evFn Tryd.prog ext (tab HL4) 60 99 [a.agg, b.agg] = (T.same a b).val :=
  Eq.trans (b := 
    (bif a.k == 1 then 
     (bif b.k == 1 then 
      (bif !S.good a then some (Value.tuple #[Value.bool false, Value.int IntKind.i64 5]) else 
       (bif !S.good b then some (Value.tuple #[Value.bool false, Value.int IntKind.i64 5]) else some (Value.tuple #[Value.bool (1 == 1 && (false == false && (Op.floatEq FloatKind.f64 0 0 && (ByteArray.mk #[] == ByteArray.mk #[] && (0 == 0 && true))))), Value.int IntKind.i64 0]))) else 
      (bif b.k == 2 then 
       (bif !S.good a then some (Value.tuple #[Value.bool false, Value.int IntKind.i64 5]) else 
        (bif !S.good b then some (Value.tuple #[Value.bool false, Value.int IntKind.i64 5]) else some (Value.tuple #[Value.bool (1 == 2 && (false == false && (Op.floatEq FloatKind.f64 0 0 && (ByteArray.mk #[] == ByteArray.mk #[] && (0 == 0 && true))))), Value.int IntKind.i64 0]))) else 
       (bif b.k == 3 then 
        (bif !S.good a then some (Value.tuple #[Value.bool false, Value.int IntKind.i64 5]) else 
         (bif !S.good b then some (Value.tuple #[Value.bool false, Value.int IntKind.i64 5]) else some (Value.tuple #[Value.bool (1 == 3 && (false == b.b && (Op.floatEq FloatKind.f64 0 0 && (ByteArray.mk #[] == ByteArray.mk #[] && (0 == 0 && true))))), Value.int IntKind.i64 0]))) else 
        (bif b.k == 4 then 
         (bif !S.good a then some (Value.tuple #[Value.bool false, Value.int IntKind.i64 5]) else 
          (bif !S.good b then some (Value.tuple #[Value.bool false, Value.int IntKind.i64 5]) else some (Value.tuple #[Value.bool (1 == 4 && (false == false && (Op.floatEq FloatKind.f64 0 b.n && (ByteArray.mk #[] == ByteArray.mk #[] && (0 == 0 && true))))), Value.int IntKind.i64 0]))) else 
         (bif b.k == 5 then 
          (bif leafIn.strOk b.s then 
           (bif !S.good a then some (Value.tuple #[Value.bool false, Value.int IntKind.i64 5]) else 
            (bif !S.good b then some (Value.tuple #[Value.bool false, Value.int IntKind.i64 5]) else some (Value.tuple #[Value.bool (1 == 5 && (false == false && (Op.floatEq FloatKind.f64 0 0 && (ByteArray.mk #[] == b.s && (0 == 0 && true))))), Value.int IntKind.i64 0]))) else 
           (bif !S.good a then some (Value.tuple #[Value.bool false, Value.int IntKind.i64 5]) else 
            (bif !S.good b then some (Value.tuple #[Value.bool false, Value.int IntKind.i64 5]) else none))) else 
          (bif b.k == 6 then 
           (bif leafIn.idOk b.id then 
            (bif !S.good a then some (Value.tuple #[Value.bool false, Value.int IntKind.i64 5]) else 
             (bif !S.good b then some (Value.tuple #[Value.bool false, Value.int IntKind.i64 5]) else some (Value.tuple #[Value.bool (1 == 6 && (false == false && (Op.floatEq FloatKind.f64 0 0 && (ByteArray.mk #[] == ByteArray.mk #[] && (0 == b.id && true))))), Value.int IntKind.i64 0]))) else 
            (bif !S.good a then some (Value.tuple #[Value.bool false, Value.int IntKind.i64 5]) else 
             (bif !S.good b then some (Value.tuple #[Value.bool false, Value.int IntKind.i64 5]) else none))) else 
           (bif b.k == 7 then 
            (bif leafIn.idOk b.id then 
             (bif !S.good a then some (Value.tuple #[Value.bool false, Value.int IntKind.i64 5]) else 
              (bif !S.good b then some (Value.tuple #[Value.bool false, Value.int IntKind.i64 5]) else some (Value.tuple #[Value.bool (1 == 7 && (false == false && (Op.floatEq FloatKind.f64 0 0 && (ByteArray.mk #[] == ByteArray.mk #[] && (0 == b.id && true))))), Value.int IntKind.i64 0]))) else 
             (bif !S.good a then some (Value.tuple #[Value.bool false, Value.int IntKind.i64 5]) else 
              (bif !S.good b then some (Value.tuple #[Value.bool false, Value.int IntKind.i64 5]) else none))) else 
            (bif !S.good a then some (Value.tuple #[Value.bool false, Value.int IntKind.i64 5]) else 
             (bif !S.good b then some (Value.tuple #[Value.bool false, Value.int IntKind.i64 5]) else none))))))))) else 
     (bif a.k == 2 then 
      (bif b.k == 1 then 
       (bif !S.good a then some (Value.tuple #[Value.bool false, Value.int IntKind.i64 5]) else 
        (bif !S.good b then some (Value.tuple #[Value.bool false, Value.int IntKind.i64 5]) else some (Value.tuple #[Value.bool (2 == 1 && (false == false && (Op.floatEq FloatKind.f64 0 0 && (ByteArray.mk #[] == ByteArray.mk #[] && (0 == 0 && true))))), Value.int IntKind.i64 0]))) else 
       (bif b.k == 2 then 
        (bif !S.good a then some (Value.tuple #[Value.bool false, Value.int IntKind.i64 5]) else 
         (bif !S.good b then some (Value.tuple #[Value.bool false, Value.int IntKind.i64 5]) else some (Value.tuple #[Value.bool (2 == 2 && (false == false && (Op.floatEq FloatKind.f64 0 0 && (ByteArray.mk #[] == ByteArray.mk #[] && (0 == 0 && true))))), Value.int IntKind.i64 0]))) else 
        (bif b.k == 3 then 
         (bif !S.good a then some (Value.tuple #[Value.bool false, Value.int IntKind.i64 5]) else 
          (bif !S.good b then some (Value.tuple #[Value.bool false, Value.int IntKind.i64 5]) else some (Value.tuple #[Value.bool (2 == 3 && (false == b.b && (Op.floatEq FloatKind.f64 0 0 && (ByteArray.mk #[] == ByteArray.mk #[] && (0 == 0 && true))))), Value.int IntKind.i64 0]))) else 
         (bif b.k == 4 then 
          (bif !S.good a then some (Value.tuple #[Value.bool false, Value.int IntKind.i64 5]) else 
           (bif !S.good b then some (Value.tuple #[Value.bool false, Value.int IntKind.i64 5]) else some (Value.tuple #[Value.bool (2 == 4 && (false == false && (Op.floatEq FloatKind.f64 0 b.n && (ByteArray.mk #[] == ByteArray.mk #[] && (0 == 0 && true))))), Value.int IntKind.i64 0]))) else 
          (bif b.k == 5 then 
           (bif leafIn.strOk b.s then 
            (bif !S.good a then some (Value.tuple #[Value.bool false, Value.int IntKind.i64 5]) else 
             (bif !S.good b then some (Value.tuple #[Value.bool false, Value.int IntKind.i64 5]) else some (Value.tuple #[Value.bool (2 == 5 && (false == false && (Op.floatEq FloatKind.f64 0 0 && (ByteArray.mk #[] == b.s && (0 == 0 && true))))), Value.int IntKind.i64 0]))) else 
            (bif !S.good a then some (Value.tuple #[Value.bool false, Value.int IntKind.i64 5]) else 
             (bif !S.good b then some (Value.tuple #[Value.bool false, Value.int IntKind.i64 5]) else none))) else 
           (bif b.k == 6 then 
            (bif leafIn.idOk b.id then 
             (bif !S.good a then some (Value.tuple #[Value.bool false, Value.int IntKind.i64 5]) else 
              (bif !S.good b then some (Value.tuple #[Value.bool false, Value.int IntKind.i64 5]) else some (Value.tuple #[Value.bool (2 == 6 && (false == false && (Op.floatEq FloatKind.f64 0 0 && (ByteArray.mk #[] == ByteArray.mk #[] && (0 == b.id && true))))), Value.int IntKind.i64 0]))) else 
             (bif !S.good a then some (Value.tuple #[Value.bool false, Value.int IntKind.i64 5]) else 
              (bif !S.good b then some (Value.tuple #[Value.bool false, Value.int IntKind.i64 5]) else none))) else 
            (bif b.k == 7 then 
             (bif leafIn.idOk b.id then 
              (bif !S.good a then some (Value.tuple #[Value.bool false, Value.int IntKind.i64 5]) else 
               (bif !S.good b then some (Value.tuple #[Value.bool false, Value.int IntKind.i64 5]) else some (Value.tuple #[Value.bool (2 == 7 && (false == false && (Op.floatEq FloatKind.f64 0 0 && (ByteArray.mk #[] == ByteArray.mk #[] && (0 == b.id && true))))), Value.int IntKind.i64 0]))) else 
              (bif !S.good a then some (Value.tuple #[Value.bool false, Value.int IntKind.i64 5]) else 
               (bif !S.good b then some (Value.tuple #[Value.bool false, Value.int IntKind.i64 5]) else none))) else 
             (bif !S.good a then some (Value.tuple #[Value.bool false, Value.int IntKind.i64 5]) else 
              (bif !S.good b then some (Value.tuple #[Value.bool false, Value.int IntKind.i64 5]) else none))))))))) else 
      (bif a.k == 3 then 
       (bif b.k == 1 then 
        (bif !S.good a then some (Value.tuple #[Value.bool false, Value.int IntKind.i64 5]) else 
         (bif !S.good b then some (Value.tuple #[Value.bool false, Value.int IntKind.i64 5]) else some (Value.tuple #[Value.bool (3 == 1 && (a.b == false && (Op.floatEq FloatKind.f64 0 0 && (ByteArray.mk #[] == ByteArray.mk #[] && (0 == 0 && true))))), Value.int IntKind.i64 0]))) else 
        (bif b.k == 2 then 
         (bif !S.good a then some (Value.tuple #[Value.bool false, Value.int IntKind.i64 5]) else 
          (bif !S.good b then some (Value.tuple #[Value.bool false, Value.int IntKind.i64 5]) else some (Value.tuple #[Value.bool (3 == 2 && (a.b == false && (Op.floatEq FloatKind.f64 0 0 && (ByteArray.mk #[] == ByteArray.mk #[] && (0 == 0 && true))))), Value.int IntKind.i64 0]))) else 
         (bif b.k == 3 then 
          (bif !S.good a then some (Value.tuple #[Value.bool false, Value.int IntKind.i64 5]) else 
           (bif !S.good b then some (Value.tuple #[Value.bool false, Value.int IntKind.i64 5]) else some (Value.tuple #[Value.bool (3 == 3 && (a.b == b.b && (Op.floatEq FloatKind.f64 0 0 && (ByteArray.mk #[] == ByteArray.mk #[] && (0 == 0 && true))))), Value.int IntKind.i64 0]))) else 
          (bif b.k == 4 then 
           (bif !S.good a then some (Value.tuple #[Value.bool false, Value.int IntKind.i64 5]) else 
            (bif !S.good b then some (Value.tuple #[Value.bool false, Value.int IntKind.i64 5]) else some (Value.tuple #[Value.bool (3 == 4 && (a.b == false && (Op.floatEq FloatKind.f64 0 b.n && (ByteArray.mk #[] == ByteArray.mk #[] && (0 == 0 && true))))), Value.int IntKind.i64 0]))) else 
           (bif b.k == 5 then 
            (bif leafIn.strOk b.s then 
             (bif !S.good a then some (Value.tuple #[Value.bool false, Value.int IntKind.i64 5]) else 
              (bif !S.good b then some (Value.tuple #[Value.bool false, Value.int IntKind.i64 5]) else some (Value.tuple #[Value.bool (3 == 5 && (a.b == false && (Op.floatEq FloatKind.f64 0 0 && (ByteArray.mk #[] == b.s && (0 == 0 && true))))), Value.int IntKind.i64 0]))) else 
             (bif !S.good a then some (Value.tuple #[Value.bool false, Value.int IntKind.i64 5]) else 
              (bif !S.good b then some (Value.tuple #[Value.bool false, Value.int IntKind.i64 5]) else none))) else 
            (bif b.k == 6 then 
             (bif leafIn.idOk b.id then 
              (bif !S.good a then some (Value.tuple #[Value.bool false, Value.int IntKind.i64 5]) else 
               (bif !S.good b then some (Value.tuple #[Value.bool false, Value.int IntKind.i64 5]) else some (Value.tuple #[Value.bool (3 == 6 && (a.b == false && (Op.floatEq FloatKind.f64 0 0 && (ByteArray.mk #[] == ByteArray.mk #[] && (0 == b.id && true))))), Value.int IntKind.i64 0]))) else 
              (bif !S.good a then some (Value.tuple #[Value.bool false, Value.int IntKind.i64 5]) else 
               (bif !S.good b then some (Value.tuple #[Value.bool false, Value.int IntKind.i64 5]) else none))) else 
             (bif b.k == 7 then 
              (bif leafIn.idOk b.id then 
               (bif !S.good a then some (Value.tuple #[Value.bool false, Value.int IntKind.i64 5]) else 
                (bif !S.good b then some (Value.tuple #[Value.bool false, Value.int IntKind.i64 5]) else some (Value.tuple #[Value.bool (3 == 7 && (a.b == false && (Op.floatEq FloatKind.f64 0 0 && (ByteArray.mk #[] == ByteArray.mk #[] && (0 == b.id && true))))), Value.int IntKind.i64 0]))) else 
               (bif !S.good a then some (Value.tuple #[Value.bool false, Value.int IntKind.i64 5]) else 
                (bif !S.good b then some (Value.tuple #[Value.bool false, Value.int IntKind.i64 5]) else none))) else 
              (bif !S.good a then some (Value.tuple #[Value.bool false, Value.int IntKind.i64 5]) else 
               (bif !S.good b then some (Value.tuple #[Value.bool false, Value.int IntKind.i64 5]) else none))))))))) else 
       (bif a.k == 4 then 
        (bif b.k == 1 then 
         (bif !S.good a then some (Value.tuple #[Value.bool false, Value.int IntKind.i64 5]) else 
          (bif !S.good b then some (Value.tuple #[Value.bool false, Value.int IntKind.i64 5]) else some (Value.tuple #[Value.bool false, Value.int IntKind.i64 0]))) else 
         (bif b.k == 2 then 
          (bif !S.good a then some (Value.tuple #[Value.bool false, Value.int IntKind.i64 5]) else 
           (bif !S.good b then some (Value.tuple #[Value.bool false, Value.int IntKind.i64 5]) else some (Value.tuple #[Value.bool false, Value.int IntKind.i64 0]))) else 
          (bif b.k == 3 then 
           (bif !S.good a then some (Value.tuple #[Value.bool false, Value.int IntKind.i64 5]) else 
            (bif !S.good b then some (Value.tuple #[Value.bool false, Value.int IntKind.i64 5]) else some (Value.tuple #[Value.bool false, Value.int IntKind.i64 0]))) else 
           (bif b.k == 4 then 
            (bif !S.good a then some (Value.tuple #[Value.bool false, Value.int IntKind.i64 5]) else 
             (bif !S.good b then some (Value.tuple #[Value.bool false, Value.int IntKind.i64 5]) else some (Value.tuple #[Value.bool (S.numSame a.n b.n), Value.int IntKind.i64 0]))) else 
            (bif b.k == 5 then 
             (bif leafIn.strOk b.s then 
              (bif !S.good a then some (Value.tuple #[Value.bool false, Value.int IntKind.i64 5]) else 
               (bif !S.good b then some (Value.tuple #[Value.bool false, Value.int IntKind.i64 5]) else some (Value.tuple #[Value.bool false, Value.int IntKind.i64 0]))) else 
              (bif !S.good a then some (Value.tuple #[Value.bool false, Value.int IntKind.i64 5]) else 
               (bif !S.good b then some (Value.tuple #[Value.bool false, Value.int IntKind.i64 5]) else some (Value.tuple #[Value.bool false, Value.int IntKind.i64 0])))) else 
             (bif b.k == 6 then 
              (bif leafIn.idOk b.id then 
               (bif !S.good a then some (Value.tuple #[Value.bool false, Value.int IntKind.i64 5]) else 
                (bif !S.good b then some (Value.tuple #[Value.bool false, Value.int IntKind.i64 5]) else some (Value.tuple #[Value.bool false, Value.int IntKind.i64 0]))) else 
               (bif !S.good a then some (Value.tuple #[Value.bool false, Value.int IntKind.i64 5]) else 
                (bif !S.good b then some (Value.tuple #[Value.bool false, Value.int IntKind.i64 5]) else some (Value.tuple #[Value.bool false, Value.int IntKind.i64 0])))) else 
              (bif b.k == 7 then 
               (bif leafIn.idOk b.id then 
                (bif !S.good a then some (Value.tuple #[Value.bool false, Value.int IntKind.i64 5]) else 
                 (bif !S.good b then some (Value.tuple #[Value.bool false, Value.int IntKind.i64 5]) else some (Value.tuple #[Value.bool false, Value.int IntKind.i64 0]))) else 
                (bif !S.good a then some (Value.tuple #[Value.bool false, Value.int IntKind.i64 5]) else 
                 (bif !S.good b then some (Value.tuple #[Value.bool false, Value.int IntKind.i64 5]) else some (Value.tuple #[Value.bool false, Value.int IntKind.i64 0])))) else 
               (bif !S.good a then some (Value.tuple #[Value.bool false, Value.int IntKind.i64 5]) else 
                (bif !S.good b then some (Value.tuple #[Value.bool false, Value.int IntKind.i64 5]) else some (Value.tuple #[Value.bool false, Value.int IntKind.i64 0])))))))))) else 
        (bif a.k == 5 then 
         (bif leafIn.strOk a.s then 
          (bif b.k == 1 then 
           (bif !S.good a then some (Value.tuple #[Value.bool false, Value.int IntKind.i64 5]) else 
            (bif !S.good b then some (Value.tuple #[Value.bool false, Value.int IntKind.i64 5]) else some (Value.tuple #[Value.bool (5 == 1 && (false == false && (Op.floatEq FloatKind.f64 0 0 && (a.s == ByteArray.mk #[] && (0 == 0 && true))))), Value.int IntKind.i64 0]))) else 
           (bif b.k == 2 then 
            (bif !S.good a then some (Value.tuple #[Value.bool false, Value.int IntKind.i64 5]) else 
             (bif !S.good b then some (Value.tuple #[Value.bool false, Value.int IntKind.i64 5]) else some (Value.tuple #[Value.bool (5 == 2 && (false == false && (Op.floatEq FloatKind.f64 0 0 && (a.s == ByteArray.mk #[] && (0 == 0 && true))))), Value.int IntKind.i64 0]))) else 
            (bif b.k == 3 then 
             (bif !S.good a then some (Value.tuple #[Value.bool false, Value.int IntKind.i64 5]) else 
              (bif !S.good b then some (Value.tuple #[Value.bool false, Value.int IntKind.i64 5]) else some (Value.tuple #[Value.bool (5 == 3 && (false == b.b && (Op.floatEq FloatKind.f64 0 0 && (a.s == ByteArray.mk #[] && (0 == 0 && true))))), Value.int IntKind.i64 0]))) else 
             (bif b.k == 4 then 
              (bif !S.good a then some (Value.tuple #[Value.bool false, Value.int IntKind.i64 5]) else 
               (bif !S.good b then some (Value.tuple #[Value.bool false, Value.int IntKind.i64 5]) else some (Value.tuple #[Value.bool (5 == 4 && (false == false && (Op.floatEq FloatKind.f64 0 b.n && (a.s == ByteArray.mk #[] && (0 == 0 && true))))), Value.int IntKind.i64 0]))) else 
              (bif b.k == 5 then 
               (bif leafIn.strOk b.s then 
                (bif !S.good a then some (Value.tuple #[Value.bool false, Value.int IntKind.i64 5]) else 
                 (bif !S.good b then some (Value.tuple #[Value.bool false, Value.int IntKind.i64 5]) else some (Value.tuple #[Value.bool (5 == 5 && (false == false && (Op.floatEq FloatKind.f64 0 0 && (a.s == b.s && (0 == 0 && true))))), Value.int IntKind.i64 0]))) else 
                (bif !S.good a then some (Value.tuple #[Value.bool false, Value.int IntKind.i64 5]) else 
                 (bif !S.good b then some (Value.tuple #[Value.bool false, Value.int IntKind.i64 5]) else none))) else 
               (bif b.k == 6 then 
                (bif leafIn.idOk b.id then 
                 (bif !S.good a then some (Value.tuple #[Value.bool false, Value.int IntKind.i64 5]) else 
                  (bif !S.good b then some (Value.tuple #[Value.bool false, Value.int IntKind.i64 5]) else some (Value.tuple #[Value.bool (5 == 6 && (false == false && (Op.floatEq FloatKind.f64 0 0 && (a.s == ByteArray.mk #[] && (0 == b.id && true))))), Value.int IntKind.i64 0]))) else 
                 (bif !S.good a then some (Value.tuple #[Value.bool false, Value.int IntKind.i64 5]) else 
                  (bif !S.good b then some (Value.tuple #[Value.bool false, Value.int IntKind.i64 5]) else none))) else 
                (bif b.k == 7 then 
                 (bif leafIn.idOk b.id then 
                  (bif !S.good a then some (Value.tuple #[Value.bool false, Value.int IntKind.i64 5]) else 
                   (bif !S.good b then some (Value.tuple #[Value.bool false, Value.int IntKind.i64 5]) else some (Value.tuple #[Value.bool (5 == 7 && (false == false && (Op.floatEq FloatKind.f64 0 0 && (a.s == ByteArray.mk #[] && (0 == b.id && true))))), Value.int IntKind.i64 0]))) else 
                  (bif !S.good a then some (Value.tuple #[Value.bool false, Value.int IntKind.i64 5]) else 
                   (bif !S.good b then some (Value.tuple #[Value.bool false, Value.int IntKind.i64 5]) else none))) else 
                 (bif !S.good a then some (Value.tuple #[Value.bool false, Value.int IntKind.i64 5]) else 
                  (bif !S.good b then some (Value.tuple #[Value.bool false, Value.int IntKind.i64 5]) else none))))))))) else 
          (bif b.k == 1 then 
           (bif !S.good a then some (Value.tuple #[Value.bool false, Value.int IntKind.i64 5]) else 
            (bif !S.good b then some (Value.tuple #[Value.bool false, Value.int IntKind.i64 5]) else none)) else 
           (bif b.k == 2 then 
            (bif !S.good a then some (Value.tuple #[Value.bool false, Value.int IntKind.i64 5]) else 
             (bif !S.good b then some (Value.tuple #[Value.bool false, Value.int IntKind.i64 5]) else none)) else 
            (bif b.k == 3 then 
             (bif !S.good a then some (Value.tuple #[Value.bool false, Value.int IntKind.i64 5]) else 
              (bif !S.good b then some (Value.tuple #[Value.bool false, Value.int IntKind.i64 5]) else none)) else 
             (bif b.k == 4 then 
              (bif !S.good a then some (Value.tuple #[Value.bool false, Value.int IntKind.i64 5]) else 
               (bif !S.good b then some (Value.tuple #[Value.bool false, Value.int IntKind.i64 5]) else none)) else 
              (bif b.k == 5 then 
               (bif leafIn.strOk b.s then 
                (bif !S.good a then some (Value.tuple #[Value.bool false, Value.int IntKind.i64 5]) else 
                 (bif !S.good b then some (Value.tuple #[Value.bool false, Value.int IntKind.i64 5]) else none)) else 
                (bif !S.good a then some (Value.tuple #[Value.bool false, Value.int IntKind.i64 5]) else 
                 (bif !S.good b then some (Value.tuple #[Value.bool false, Value.int IntKind.i64 5]) else none))) else 
               (bif b.k == 6 then 
                (bif leafIn.idOk b.id then 
                 (bif !S.good a then some (Value.tuple #[Value.bool false, Value.int IntKind.i64 5]) else 
                  (bif !S.good b then some (Value.tuple #[Value.bool false, Value.int IntKind.i64 5]) else none)) else 
                 (bif !S.good a then some (Value.tuple #[Value.bool false, Value.int IntKind.i64 5]) else 
                  (bif !S.good b then some (Value.tuple #[Value.bool false, Value.int IntKind.i64 5]) else none))) else 
                (bif b.k == 7 then 
                 (bif leafIn.idOk b.id then 
                  (bif !S.good a then some (Value.tuple #[Value.bool false, Value.int IntKind.i64 5]) else 
                   (bif !S.good b then some (Value.tuple #[Value.bool false, Value.int IntKind.i64 5]) else none)) else 
                  (bif !S.good a then some (Value.tuple #[Value.bool false, Value.int IntKind.i64 5]) else 
                   (bif !S.good b then some (Value.tuple #[Value.bool false, Value.int IntKind.i64 5]) else none))) else 
                 (bif !S.good a then some (Value.tuple #[Value.bool false, Value.int IntKind.i64 5]) else 
                  (bif !S.good b then some (Value.tuple #[Value.bool false, Value.int IntKind.i64 5]) else none)))))))))) else 
         (bif a.k == 6 then 
          (bif leafIn.idOk a.id then 
           (bif b.k == 1 then 
            (bif !S.good a then some (Value.tuple #[Value.bool false, Value.int IntKind.i64 5]) else 
             (bif !S.good b then some (Value.tuple #[Value.bool false, Value.int IntKind.i64 5]) else some (Value.tuple #[Value.bool (6 == 1 && (false == false && (Op.floatEq FloatKind.f64 0 0 && (ByteArray.mk #[] == ByteArray.mk #[] && (a.id == 0 && true))))), Value.int IntKind.i64 0]))) else 
            (bif b.k == 2 then 
             (bif !S.good a then some (Value.tuple #[Value.bool false, Value.int IntKind.i64 5]) else 
              (bif !S.good b then some (Value.tuple #[Value.bool false, Value.int IntKind.i64 5]) else some (Value.tuple #[Value.bool (6 == 2 && (false == false && (Op.floatEq FloatKind.f64 0 0 && (ByteArray.mk #[] == ByteArray.mk #[] && (a.id == 0 && true))))), Value.int IntKind.i64 0]))) else 
             (bif b.k == 3 then 
              (bif !S.good a then some (Value.tuple #[Value.bool false, Value.int IntKind.i64 5]) else 
               (bif !S.good b then some (Value.tuple #[Value.bool false, Value.int IntKind.i64 5]) else some (Value.tuple #[Value.bool (6 == 3 && (false == b.b && (Op.floatEq FloatKind.f64 0 0 && (ByteArray.mk #[] == ByteArray.mk #[] && (a.id == 0 && true))))), Value.int IntKind.i64 0]))) else 
              (bif b.k == 4 then 
               (bif !S.good a then some (Value.tuple #[Value.bool false, Value.int IntKind.i64 5]) else 
                (bif !S.good b then some (Value.tuple #[Value.bool false, Value.int IntKind.i64 5]) else some (Value.tuple #[Value.bool (6 == 4 && (false == false && (Op.floatEq FloatKind.f64 0 b.n && (ByteArray.mk #[] == ByteArray.mk #[] && (a.id == 0 && true))))), Value.int IntKind.i64 0]))) else 
               (bif b.k == 5 then 
                (bif leafIn.strOk b.s then 
                 (bif !S.good a then some (Value.tuple #[Value.bool false, Value.int IntKind.i64 5]) else 
                  (bif !S.good b then some (Value.tuple #[Value.bool false, Value.int IntKind.i64 5]) else some (Value.tuple #[Value.bool (6 == 5 && (false == false && (Op.floatEq FloatKind.f64 0 0 && (ByteArray.mk #[] == b.s && (a.id == 0 && true))))), Value.int IntKind.i64 0]))) else 
                 (bif !S.good a then some (Value.tuple #[Value.bool false, Value.int IntKind.i64 5]) else 
                  (bif !S.good b then some (Value.tuple #[Value.bool false, Value.int IntKind.i64 5]) else none))) else 
                (bif b.k == 6 then 
                 (bif leafIn.idOk b.id then 
                  (bif !S.good a then some (Value.tuple #[Value.bool false, Value.int IntKind.i64 5]) else 
                   (bif !S.good b then some (Value.tuple #[Value.bool false, Value.int IntKind.i64 5]) else some (Value.tuple #[Value.bool (6 == 6 && (false == false && (Op.floatEq FloatKind.f64 0 0 && (ByteArray.mk #[] == ByteArray.mk #[] && (a.id == b.id && true))))), Value.int IntKind.i64 0]))) else 
                  (bif !S.good a then some (Value.tuple #[Value.bool false, Value.int IntKind.i64 5]) else 
                   (bif !S.good b then some (Value.tuple #[Value.bool false, Value.int IntKind.i64 5]) else none))) else 
                 (bif b.k == 7 then 
                  (bif leafIn.idOk b.id then 
                   (bif !S.good a then some (Value.tuple #[Value.bool false, Value.int IntKind.i64 5]) else 
                    (bif !S.good b then some (Value.tuple #[Value.bool false, Value.int IntKind.i64 5]) else some (Value.tuple #[Value.bool (6 == 7 && (false == false && (Op.floatEq FloatKind.f64 0 0 && (ByteArray.mk #[] == ByteArray.mk #[] && (a.id == b.id && true))))), Value.int IntKind.i64 0]))) else 
                   (bif !S.good a then some (Value.tuple #[Value.bool false, Value.int IntKind.i64 5]) else 
                    (bif !S.good b then some (Value.tuple #[Value.bool false, Value.int IntKind.i64 5]) else none))) else 
                  (bif !S.good a then some (Value.tuple #[Value.bool false, Value.int IntKind.i64 5]) else 
                   (bif !S.good b then some (Value.tuple #[Value.bool false, Value.int IntKind.i64 5]) else none))))))))) else 
           (bif b.k == 1 then 
            (bif !S.good a then some (Value.tuple #[Value.bool false, Value.int IntKind.i64 5]) else 
             (bif !S.good b then some (Value.tuple #[Value.bool false, Value.int IntKind.i64 5]) else none)) else 
            (bif b.k == 2 then 
             (bif !S.good a then some (Value.tuple #[Value.bool false, Value.int IntKind.i64 5]) else 
              (bif !S.good b then some (Value.tuple #[Value.bool false, Value.int IntKind.i64 5]) else none)) else 
             (bif b.k == 3 then 
              (bif !S.good a then some (Value.tuple #[Value.bool false, Value.int IntKind.i64 5]) else 
               (bif !S.good b then some (Value.tuple #[Value.bool false, Value.int IntKind.i64 5]) else none)) else 
              (bif b.k == 4 then 
               (bif !S.good a then some (Value.tuple #[Value.bool false, Value.int IntKind.i64 5]) else 
                (bif !S.good b then some (Value.tuple #[Value.bool false, Value.int IntKind.i64 5]) else none)) else 
               (bif b.k == 5 then 
                (bif leafIn.strOk b.s then 
                 (bif !S.good a then some (Value.tuple #[Value.bool false, Value.int IntKind.i64 5]) else 
                  (bif !S.good b then some (Value.tuple #[Value.bool false, Value.int IntKind.i64 5]) else none)) else 
                 (bif !S.good a then some (Value.tuple #[Value.bool false, Value.int IntKind.i64 5]) else 
                  (bif !S.good b then some (Value.tuple #[Value.bool false, Value.int IntKind.i64 5]) else none))) else 
                (bif b.k == 6 then 
                 (bif leafIn.idOk b.id then 
                  (bif !S.good a then some (Value.tuple #[Value.bool false, Value.int IntKind.i64 5]) else 
                   (bif !S.good b then some (Value.tuple #[Value.bool false, Value.int IntKind.i64 5]) else none)) else 
                  (bif !S.good a then some (Value.tuple #[Value.bool false, Value.int IntKind.i64 5]) else 
                   (bif !S.good b then some (Value.tuple #[Value.bool false, Value.int IntKind.i64 5]) else none))) else 
                 (bif b.k == 7 then 
                  (bif leafIn.idOk b.id then 
                   (bif !S.good a then some (Value.tuple #[Value.bool false, Value.int IntKind.i64 5]) else 
                    (bif !S.good b then some (Value.tuple #[Value.bool false, Value.int IntKind.i64 5]) else none)) else 
                   (bif !S.good a then some (Value.tuple #[Value.bool false, Value.int IntKind.i64 5]) else 
                    (bif !S.good b then some (Value.tuple #[Value.bool false, Value.int IntKind.i64 5]) else none))) else 
                  (bif !S.good a then some (Value.tuple #[Value.bool false, Value.int IntKind.i64 5]) else 
                   (bif !S.good b then some (Value.tuple #[Value.bool false, Value.int IntKind.i64 5]) else none)))))))))) else 
          (bif a.k == 7 then 
           (bif leafIn.idOk a.id then 
            (bif b.k == 1 then 
             (bif !S.good a then some (Value.tuple #[Value.bool false, Value.int IntKind.i64 5]) else 
              (bif !S.good b then some (Value.tuple #[Value.bool false, Value.int IntKind.i64 5]) else some (Value.tuple #[Value.bool (7 == 1 && (false == false && (Op.floatEq FloatKind.f64 0 0 && (ByteArray.mk #[] == ByteArray.mk #[] && (a.id == 0 && true))))), Value.int IntKind.i64 0]))) else 
             (bif b.k == 2 then 
              (bif !S.good a then some (Value.tuple #[Value.bool false, Value.int IntKind.i64 5]) else 
               (bif !S.good b then some (Value.tuple #[Value.bool false, Value.int IntKind.i64 5]) else some (Value.tuple #[Value.bool (7 == 2 && (false == false && (Op.floatEq FloatKind.f64 0 0 && (ByteArray.mk #[] == ByteArray.mk #[] && (a.id == 0 && true))))), Value.int IntKind.i64 0]))) else 
              (bif b.k == 3 then 
               (bif !S.good a then some (Value.tuple #[Value.bool false, Value.int IntKind.i64 5]) else 
                (bif !S.good b then some (Value.tuple #[Value.bool false, Value.int IntKind.i64 5]) else some (Value.tuple #[Value.bool (7 == 3 && (false == b.b && (Op.floatEq FloatKind.f64 0 0 && (ByteArray.mk #[] == ByteArray.mk #[] && (a.id == 0 && true))))), Value.int IntKind.i64 0]))) else 
               (bif b.k == 4 then 
                (bif !S.good a then some (Value.tuple #[Value.bool false, Value.int IntKind.i64 5]) else 
                 (bif !S.good b then some (Value.tuple #[Value.bool false, Value.int IntKind.i64 5]) else some (Value.tuple #[Value.bool (7 == 4 && (false == false && (Op.floatEq FloatKind.f64 0 b.n && (ByteArray.mk #[] == ByteArray.mk #[] && (a.id == 0 && true))))), Value.int IntKind.i64 0]))) else 
                (bif b.k == 5 then 
                 (bif leafIn.strOk b.s then 
                  (bif !S.good a then some (Value.tuple #[Value.bool false, Value.int IntKind.i64 5]) else 
                   (bif !S.good b then some (Value.tuple #[Value.bool false, Value.int IntKind.i64 5]) else some (Value.tuple #[Value.bool (7 == 5 && (false == false && (Op.floatEq FloatKind.f64 0 0 && (ByteArray.mk #[] == b.s && (a.id == 0 && true))))), Value.int IntKind.i64 0]))) else 
                  (bif !S.good a then some (Value.tuple #[Value.bool false, Value.int IntKind.i64 5]) else 
                   (bif !S.good b then some (Value.tuple #[Value.bool false, Value.int IntKind.i64 5]) else none))) else 
                 (bif b.k == 6 then 
                  (bif leafIn.idOk b.id then 
                   (bif !S.good a then some (Value.tuple #[Value.bool false, Value.int IntKind.i64 5]) else 
                    (bif !S.good b then some (Value.tuple #[Value.bool false, Value.int IntKind.i64 5]) else some (Value.tuple #[Value.bool (7 == 6 && (false == false && (Op.floatEq FloatKind.f64 0 0 && (ByteArray.mk #[] == ByteArray.mk #[] && (a.id == b.id && true))))), Value.int IntKind.i64 0]))) else 
                   (bif !S.good a then some (Value.tuple #[Value.bool false, Value.int IntKind.i64 5]) else 
                    (bif !S.good b then some (Value.tuple #[Value.bool false, Value.int IntKind.i64 5]) else none))) else 
                  (bif b.k == 7 then 
                   (bif leafIn.idOk b.id then 
                    (bif !S.good a then some (Value.tuple #[Value.bool false, Value.int IntKind.i64 5]) else 
                     (bif !S.good b then some (Value.tuple #[Value.bool false, Value.int IntKind.i64 5]) else some (Value.tuple #[Value.bool (7 == 7 && (false == false && (Op.floatEq FloatKind.f64 0 0 && (ByteArray.mk #[] == ByteArray.mk #[] && (a.id == b.id && true))))), Value.int IntKind.i64 0]))) else 
                    (bif !S.good a then some (Value.tuple #[Value.bool false, Value.int IntKind.i64 5]) else 
                     (bif !S.good b then some (Value.tuple #[Value.bool false, Value.int IntKind.i64 5]) else none))) else 
                   (bif !S.good a then some (Value.tuple #[Value.bool false, Value.int IntKind.i64 5]) else 
                    (bif !S.good b then some (Value.tuple #[Value.bool false, Value.int IntKind.i64 5]) else none))))))))) else 
            (bif b.k == 1 then 
             (bif !S.good a then some (Value.tuple #[Value.bool false, Value.int IntKind.i64 5]) else 
              (bif !S.good b then some (Value.tuple #[Value.bool false, Value.int IntKind.i64 5]) else none)) else 
             (bif b.k == 2 then 
              (bif !S.good a then some (Value.tuple #[Value.bool false, Value.int IntKind.i64 5]) else 
               (bif !S.good b then some (Value.tuple #[Value.bool false, Value.int IntKind.i64 5]) else none)) else 
              (bif b.k == 3 then 
               (bif !S.good a then some (Value.tuple #[Value.bool false, Value.int IntKind.i64 5]) else 
                (bif !S.good b then some (Value.tuple #[Value.bool false, Value.int IntKind.i64 5]) else none)) else 
               (bif b.k == 4 then 
                (bif !S.good a then some (Value.tuple #[Value.bool false, Value.int IntKind.i64 5]) else 
                 (bif !S.good b then some (Value.tuple #[Value.bool false, Value.int IntKind.i64 5]) else none)) else 
                (bif b.k == 5 then 
                 (bif leafIn.strOk b.s then 
                  (bif !S.good a then some (Value.tuple #[Value.bool false, Value.int IntKind.i64 5]) else 
                   (bif !S.good b then some (Value.tuple #[Value.bool false, Value.int IntKind.i64 5]) else none)) else 
                  (bif !S.good a then some (Value.tuple #[Value.bool false, Value.int IntKind.i64 5]) else 
                   (bif !S.good b then some (Value.tuple #[Value.bool false, Value.int IntKind.i64 5]) else none))) else 
                 (bif b.k == 6 then 
                  (bif leafIn.idOk b.id then 
                   (bif !S.good a then some (Value.tuple #[Value.bool false, Value.int IntKind.i64 5]) else 
                    (bif !S.good b then some (Value.tuple #[Value.bool false, Value.int IntKind.i64 5]) else none)) else 
                   (bif !S.good a then some (Value.tuple #[Value.bool false, Value.int IntKind.i64 5]) else 
                    (bif !S.good b then some (Value.tuple #[Value.bool false, Value.int IntKind.i64 5]) else none))) else 
                  (bif b.k == 7 then 
                   (bif leafIn.idOk b.id then 
                    (bif !S.good a then some (Value.tuple #[Value.bool false, Value.int IntKind.i64 5]) else 
                     (bif !S.good b then some (Value.tuple #[Value.bool false, Value.int IntKind.i64 5]) else none)) else 
                    (bif !S.good a then some (Value.tuple #[Value.bool false, Value.int IntKind.i64 5]) else 
                     (bif !S.good b then some (Value.tuple #[Value.bool false, Value.int IntKind.i64 5]) else none))) else 
                   (bif !S.good a then some (Value.tuple #[Value.bool false, Value.int IntKind.i64 5]) else 
                    (bif !S.good b then some (Value.tuple #[Value.bool false, Value.int IntKind.i64 5]) else none)))))))))) else 
           (bif b.k == 1 then 
            (bif !S.good a then some (Value.tuple #[Value.bool false, Value.int IntKind.i64 5]) else 
             (bif !S.good b then some (Value.tuple #[Value.bool false, Value.int IntKind.i64 5]) else none)) else 
            (bif b.k == 2 then 
             (bif !S.good a then some (Value.tuple #[Value.bool false, Value.int IntKind.i64 5]) else 
              (bif !S.good b then some (Value.tuple #[Value.bool false, Value.int IntKind.i64 5]) else none)) else 
             (bif b.k == 3 then 
              (bif !S.good a then some (Value.tuple #[Value.bool false, Value.int IntKind.i64 5]) else 
               (bif !S.good b then some (Value.tuple #[Value.bool false, Value.int IntKind.i64 5]) else none)) else 
              (bif b.k == 4 then 
               (bif !S.good a then some (Value.tuple #[Value.bool false, Value.int IntKind.i64 5]) else 
                (bif !S.good b then some (Value.tuple #[Value.bool false, Value.int IntKind.i64 5]) else none)) else 
               (bif b.k == 5 then 
                (bif leafIn.strOk b.s then 
                 (bif !S.good a then some (Value.tuple #[Value.bool false, Value.int IntKind.i64 5]) else 
                  (bif !S.good b then some (Value.tuple #[Value.bool false, Value.int IntKind.i64 5]) else none)) else 
                 (bif !S.good a then some (Value.tuple #[Value.bool false, Value.int IntKind.i64 5]) else 
                  (bif !S.good b then some (Value.tuple #[Value.bool false, Value.int IntKind.i64 5]) else none))) else 
                (bif b.k == 6 then 
                 (bif leafIn.idOk b.id then 
                  (bif !S.good a then some (Value.tuple #[Value.bool false, Value.int IntKind.i64 5]) else 
                   (bif !S.good b then some (Value.tuple #[Value.bool false, Value.int IntKind.i64 5]) else none)) else 
                  (bif !S.good a then some (Value.tuple #[Value.bool false, Value.int IntKind.i64 5]) else 
                   (bif !S.good b then some (Value.tuple #[Value.bool false, Value.int IntKind.i64 5]) else none))) else 
                 (bif b.k == 7 then 
                  (bif leafIn.idOk b.id then 
                   (bif !S.good a then some (Value.tuple #[Value.bool false, Value.int IntKind.i64 5]) else 
                    (bif !S.good b then some (Value.tuple #[Value.bool false, Value.int IntKind.i64 5]) else none)) else 
                   (bif !S.good a then some (Value.tuple #[Value.bool false, Value.int IntKind.i64 5]) else 
                    (bif !S.good b then some (Value.tuple #[Value.bool false, Value.int IntKind.i64 5]) else none))) else 
                  (bif !S.good a then some (Value.tuple #[Value.bool false, Value.int IntKind.i64 5]) else 
                   (bif !S.good b then some (Value.tuple #[Value.bool false, Value.int IntKind.i64 5]) else none))))))))))))))))) (by kernel_rfl) (by
    simp only [T.same, DT.val_node, DT.val_leaf, DT.bind, DT.val_bad]
    repeat' (first | (with_reducible refine bif_neq (fun h => ?_) (fun h => ?_)) | (with_reducible refine bif_and (fun h => ?_) (fun h => ?_)) | (with_reducible refine bif_eq (fun h => ?_) (fun h => ?_)))
    all_goals first | (simp only [*, cond_true, cond_false, Bool.and_true, Bool.true_and, Bool.and_false, Bool.false_and, Bool.not_true, Bool.not_false]; done) | (exfalso; simp_all [S.good]; done) | (simp_all [S.same, S.good, S.emp, beq_toListBytes, FloatEq.f00]; done) | (simp_all [S.same, S.good, S.emp, beq_toListBytes, FloatEq.f00]))
theorem ent_same : E (99, onVV T.same) := byEv Hents4 60 fun args t h => by
  obtain ⟨a, b, rfl, rfl⟩ := onVV_eq h
  exact ev_same a b
abbrev HL5 : Tab := (99, onVV T.same) :: HL4
theorem Hents5 : ∀ p ∈ HL5, E p := entries_cons ent_same Hents4
set_option maxHeartbeats 4000000 in
theorem ev_callable (v : V) : evFn Tryd.prog ext (tab HL5) 40 93 [v.agg] = (T.callable v).val :=
  Eq.trans (b := 
    (bif S.absent v then some (Value.bool true) else 
     (bif S.good v then 
      (bif v.k == 1 then some (Value.bool true) else some (Value.bool (v.k == 7))) else some (Value.bool false)))) (by kernel_rfl) (by
    simp only [T.callable, T.B, DT.val_node, DT.val_leaf, DT.bind, DT.val_bad]
    repeat' (first | (with_reducible refine bif_neq (fun h => ?_) (fun h => ?_)) | (with_reducible refine bif_and (fun h => ?_) (fun h => ?_)) | (with_reducible refine bif_eq (fun h => ?_) (fun h => ?_)))
    all_goals first | (simp only [*, S.callable, cond_true, cond_false, Bool.and_true, Bool.true_and, Bool.and_false, Bool.false_and, Bool.or_true, Bool.true_or, Bool.or_false, Bool.false_or, Bool.not_true, Bool.not_false, beq_self_eq_true, bne_self_eq_false, Bool.not_not]; done) | (exfalso; simp_all; done) | (simp_all [S.callable]; done) | grind [S.callable])
theorem ent_callable : E (93, onV T.callable) := byEv Hents5 40 fun args t h => by
  obtain ⟨v, rfl, rfl⟩ := onV_eq h
  exact ev_callable v
abbrev HL6 : Tab := (93, onV T.callable) :: HL5
theorem Hents6 : ∀ p ∈ HL6, E p := entries_cons ent_callable Hents5
set_option maxHeartbeats 4000000 in
theorem ev_tri (t : Int) : evFn Tryd.prog ext (tab HL6) 40 94 [.int .i64 t] = (T.tri t).val :=
  Eq.trans (b := 
    (bif decide (t ≥ 0) then some (Value.bool (decide (t ≤ 2))) else some (Value.bool false))) (by kernel_rfl) (by
    simp only [T.tri, T.B, DT.val_node, DT.val_leaf, DT.bind, DT.val_bad]
    repeat' (first | (with_reducible refine bif_neq (fun h => ?_) (fun h => ?_)) | (with_reducible refine bif_and (fun h => ?_) (fun h => ?_)) | (with_reducible refine bif_eq (fun h => ?_) (fun h => ?_)))
    all_goals first | (simp only [*, S.tri, cond_true, cond_false, Bool.and_true, Bool.true_and, Bool.and_false, Bool.false_and, Bool.or_true, Bool.true_or, Bool.or_false, Bool.false_or, Bool.not_true, Bool.not_false, beq_self_eq_true, bne_self_eq_false, Bool.not_not]; done) | (exfalso; simp_all; done) | (simp_all [S.tri]; done) | grind [S.tri])
theorem ent_tri : E (94, onI T.tri) := byEv Hents6 40 fun args t h => by
  obtain ⟨t, rfl, rfl⟩ := onI_eq h
  exact ev_tri t
abbrev HL7 : Tab := (94, onI T.tri) :: HL6
theorem Hents7 : ∀ p ∈ HL7, E p := entries_cons ent_tri Hents6
set_option maxHeartbeats 4000000 in
theorem ev_kind (d : D) : evFn Tryd.prog ext (tab HL7) 40 52 [d.agg] = (T.kind d).val :=
  Eq.trans (b := 
    (bif !S.absent d.v then 
     (bif S.good d.v then 
      (bif !S.callable d.g then some (Value.tuple #[Value.int IntKind.i64 0, Value.bool false]) else 
       (bif !S.callable d.t then some (Value.tuple #[Value.int IntKind.i64 0, Value.bool false]) else 
        (bif !S.tri d.w then some (Value.tuple #[Value.int IntKind.i64 0, Value.bool false]) else 
         (bif !S.tri d.e then some (Value.tuple #[Value.int IntKind.i64 0, Value.bool false]) else 
          (bif !S.tri d.c then some (Value.tuple #[Value.int IntKind.i64 0, Value.bool false]) else 
           (bif d.g.k != 0 then 
            (bif d.v.k != 0 then some (Value.tuple #[Value.int IntKind.i64 1, Value.bool !true]) else 
             (bif d.w != 0 then some (Value.tuple #[Value.int IntKind.i64 1, Value.bool !true]) else some (Value.tuple #[Value.int IntKind.i64 2, Value.bool true]))) else 
            (bif d.v.k != 0 then some (Value.tuple #[Value.int IntKind.i64 1, Value.bool !d.t.k != 0]) else 
             (bif d.w != 0 then some (Value.tuple #[Value.int IntKind.i64 1, Value.bool !d.t.k != 0]) else 
              (bif d.t.k != 0 then some (Value.tuple #[Value.int IntKind.i64 2, Value.bool true]) else some (Value.tuple #[Value.int IntKind.i64 0, Value.bool true])))))))))) else some (Value.tuple #[Value.int IntKind.i64 0, Value.bool false])) else 
     (bif !S.callable d.g then some (Value.tuple #[Value.int IntKind.i64 0, Value.bool false]) else 
      (bif !S.callable d.t then some (Value.tuple #[Value.int IntKind.i64 0, Value.bool false]) else 
       (bif !S.tri d.w then some (Value.tuple #[Value.int IntKind.i64 0, Value.bool false]) else 
        (bif !S.tri d.e then some (Value.tuple #[Value.int IntKind.i64 0, Value.bool false]) else 
         (bif !S.tri d.c then some (Value.tuple #[Value.int IntKind.i64 0, Value.bool false]) else 
          (bif d.g.k != 0 then 
           (bif d.v.k != 0 then some (Value.tuple #[Value.int IntKind.i64 1, Value.bool !true]) else 
            (bif d.w != 0 then some (Value.tuple #[Value.int IntKind.i64 1, Value.bool !true]) else some (Value.tuple #[Value.int IntKind.i64 2, Value.bool true]))) else 
           (bif d.v.k != 0 then some (Value.tuple #[Value.int IntKind.i64 1, Value.bool !d.t.k != 0]) else 
            (bif d.w != 0 then some (Value.tuple #[Value.int IntKind.i64 1, Value.bool !d.t.k != 0]) else 
             (bif d.t.k != 0 then some (Value.tuple #[Value.int IntKind.i64 2, Value.bool true]) else some (Value.tuple #[Value.int IntKind.i64 0, Value.bool true])))))))))))) (by kernel_rfl) (by
    simp only [T.kind, DT.val_node, DT.val_leaf, DT.bind, DT.val_bad]
    repeat' (first | (with_reducible refine bif_neq (fun h => ?_) (fun h => ?_)) | (with_reducible refine bif_and (fun h => ?_) (fun h => ?_)) | (with_reducible refine bif_eq (fun h => ?_) (fun h => ?_)))
    all_goals first | (simp only [*, S.check, S.fields, S.hasD, S.hasA, S.there, cond_true, cond_false, Bool.and_true, Bool.true_and, Bool.and_false, Bool.false_and, Bool.or_true, Bool.true_or, Bool.or_false, Bool.false_or, Bool.not_true, Bool.not_false, beq_self_eq_true, bne_self_eq_false, Bool.not_not]; done) | (exfalso; simp_all; done) | (simp_all [S.check, S.fields, S.hasD, S.hasA, S.there]; done) | grind [S.check, S.fields, S.hasD, S.hasA, S.there])
theorem ent_kind : E (52, onD T.kind) := byEv Hents7 40 fun args t h => by
  obtain ⟨d, rfl, rfl⟩ := onD_eq h
  exact ev_kind d
abbrev HL8 : Tab := (52, onD T.kind) :: HL7
theorem Hents8 : ∀ p ∈ HL8, E p := entries_cons ent_kind Hents7
set_option maxHeartbeats 4000000 in
theorem ev_check (d : D) : evFn Tryd.prog ext (tab HL8) 40 16 [d.agg] = (T.check d).val :=
  Eq.trans (b := 
    (bif S.check d then 
     (bif S.hasD d then some (Value.int IntKind.i64 0) else 
      (bif S.hasA d then some (Value.int IntKind.i64 0) else some (Value.int IntKind.i64 0))) else 
     (bif S.fields d then some (Value.int IntKind.i64 5) else some (Value.int IntKind.i64 5)))) (by kernel_rfl) (by
    simp only [T.check, T.err, DT.val_node, DT.val_leaf, DT.bind, DT.val_bad]
    repeat' (first | (with_reducible refine bif_neq (fun h => ?_) (fun h => ?_)) | (with_reducible refine bif_and (fun h => ?_) (fun h => ?_)) | (with_reducible refine bif_eq (fun h => ?_) (fun h => ?_)))
    all_goals first | (simp only [*, cond_true, cond_false, Bool.and_true, Bool.true_and, Bool.and_false, Bool.false_and, Bool.or_true, Bool.true_or, Bool.or_false, Bool.false_or, Bool.not_true, Bool.not_false, beq_self_eq_true, bne_self_eq_false, Bool.not_not]; done) | (exfalso; simp_all; done) | (simp_all []; done) | grind [])
theorem ent_check : E (16, onD T.check) := byEv Hents8 40 fun args t h => by
  obtain ⟨d, rfl, rfl⟩ := onD_eq h
  exact ev_check d
abbrev HL9 : Tab := (16, onD T.check) :: HL8
theorem Hents9 : ∀ p ∈ HL9, E p := entries_cons ent_check Hents8
set_option maxHeartbeats 4000000 in
theorem ev_isA (d : D) : evFn Tryd.prog ext (tab HL9) 40 19 [d.agg] = (T.isA d).val :=
  Eq.trans (b := 
    (bif S.check d then 
     (bif S.hasD d then some (Value.bool (1 == 2)) else 
      (bif S.hasA d then some (Value.bool (2 == 2)) else some (Value.bool (0 == 2)))) else 
     (bif S.fields d then some (Value.bool false) else some (Value.bool false)))) (by kernel_rfl) (by
    simp only [T.isA, T.B, DT.val_node, DT.val_leaf, DT.bind, DT.val_bad]
    repeat' (first | (with_reducible refine bif_neq (fun h => ?_) (fun h => ?_)) | (with_reducible refine bif_and (fun h => ?_) (fun h => ?_)) | (with_reducible refine bif_eq (fun h => ?_) (fun h => ?_)))
    all_goals first | (simp only [*, S.isA, cond_true, cond_false, Bool.and_true, Bool.true_and, Bool.and_false, Bool.false_and, Bool.or_true, Bool.true_or, Bool.or_false, Bool.false_or, Bool.not_true, Bool.not_false, beq_self_eq_true, bne_self_eq_false, Bool.not_not]; done) | (exfalso; simp_all; done) | (simp_all [S.isA]; done) | grind [S.isA])
theorem ent_isA : E (19, onD T.isA) := byEv Hents9 40 fun args t h => by
  obtain ⟨d, rfl, rfl⟩ := onD_eq h
  exact ev_isA d
abbrev HL10 : Tab := (19, onD T.isA) :: HL9
theorem Hents10 : ∀ p ∈ HL10, E p := entries_cons ent_isA Hents9
set_option maxHeartbeats 4000000 in
theorem ev_isD (d : D) : evFn Tryd.prog ext (tab HL10) 40 21 [d.agg] = (T.isD d).val :=
  Eq.trans (b := 
    (bif S.check d then 
     (bif S.hasD d then some (Value.bool (1 == 1)) else 
      (bif S.hasA d then some (Value.bool (2 == 1)) else some (Value.bool (0 == 1)))) else 
     (bif S.fields d then some (Value.bool false) else some (Value.bool false)))) (by kernel_rfl) (by
    simp only [T.isD, T.B, DT.val_node, DT.val_leaf, DT.bind, DT.val_bad]
    repeat' (first | (with_reducible refine bif_neq (fun h => ?_) (fun h => ?_)) | (with_reducible refine bif_and (fun h => ?_) (fun h => ?_)) | (with_reducible refine bif_eq (fun h => ?_) (fun h => ?_)))
    all_goals first | (simp only [*, S.isD, cond_true, cond_false, Bool.and_true, Bool.true_and, Bool.and_false, Bool.false_and, Bool.or_true, Bool.true_or, Bool.or_false, Bool.false_or, Bool.not_true, Bool.not_false, beq_self_eq_true, bne_self_eq_false, Bool.not_not]; done) | (exfalso; simp_all; done) | (simp_all [S.isD]; done) | grind [S.isD])
theorem ent_isD : E (21, onD T.isD) := byEv Hents10 40 fun args t h => by
  obtain ⟨d, rfl, rfl⟩ := onD_eq h
  exact ev_isD d
abbrev HL11 : Tab := (21, onD T.isD) :: HL10
theorem Hents11 : ∀ p ∈ HL11, E p := entries_cons ent_isD Hents10
set_option maxHeartbeats 4000000 in
theorem ev_isG (d : D) : evFn Tryd.prog ext (tab HL11) 40 23 [d.agg] = (T.isG d).val :=
  Eq.trans (b := 
    (bif S.check d then 
     (bif S.hasD d then some (Value.bool (1 == 0)) else 
      (bif S.hasA d then some (Value.bool (2 == 0)) else some (Value.bool (0 == 0)))) else 
     (bif S.fields d then some (Value.bool false) else some (Value.bool false)))) (by kernel_rfl) (by
    simp only [T.isG, T.B, DT.val_node, DT.val_leaf, DT.bind, DT.val_bad]
    repeat' (first | (with_reducible refine bif_neq (fun h => ?_) (fun h => ?_)) | (with_reducible refine bif_and (fun h => ?_) (fun h => ?_)) | (with_reducible refine bif_eq (fun h => ?_) (fun h => ?_)))
    all_goals first | (simp only [*, S.isG, cond_true, cond_false, Bool.and_true, Bool.true_and, Bool.and_false, Bool.false_and, Bool.or_true, Bool.true_or, Bool.or_false, Bool.false_or, Bool.not_true, Bool.not_false, beq_self_eq_true, bne_self_eq_false, Bool.not_not]; done) | (exfalso; simp_all; done) | (simp_all [S.isG]; done) | grind [S.isG])
theorem ent_isG : E (23, onD T.isG) := byEv Hents11 40 fun args t h => by
  obtain ⟨d, rfl, rfl⟩ := onD_eq h
  exact ev_isG d
abbrev HL12 : Tab := (23, onD T.isG) :: HL11
theorem Hents12 : ∀ p ∈ HL12, E p := entries_cons ent_isG Hents11
end Go.Proofs.YtaojjpdlfnphiaaDoor.PDescKinds
end
section
/- Contracts by evaluation: what each function of a list answers. Written by a program of this session. -/
namespace Go.Proofs.YtaojjpdlfnphiaaDoor.PDescKinds
open Go.RowKit Go.Ev
set_option linter.unusedSimpArgs false
set_option linter.unusedVariables false
set_option maxRecDepth 100000
set_option maxHeartbeats 4000000 in
theorem ev_complete (d : D) : evFn Tryd.prog ext (tab HL12) 60 12 [d.agg] = (T.complete d).val :=
  Eq.trans (b := 
    (bif S.check d then 
     (bif S.hasD d then 
      (bif !d.v.k != 0 then 
       (bif d.w == 0 then 
        (bif d.e == 0 then 
         (bif d.c == 0 then some (Value.tuple #[(D.mk (V.mk 1 false 0 (ByteArray.mk #[]) 0) d.g d.t 1 1 1).agg, Value.int IntKind.i64 0]) else some (Value.tuple #[(D.mk (V.mk 1 false 0 (ByteArray.mk #[]) 0) d.g d.t 1 1 d.c).agg, Value.int IntKind.i64 0])) else 
         (bif d.c == 0 then some (Value.tuple #[(D.mk (V.mk 1 false 0 (ByteArray.mk #[]) 0) d.g d.t 1 d.e 1).agg, Value.int IntKind.i64 0]) else some (Value.tuple #[(D.mk (V.mk 1 false 0 (ByteArray.mk #[]) 0) d.g d.t 1 d.e d.c).agg, Value.int IntKind.i64 0]))) else 
        (bif d.e == 0 then 
         (bif d.c == 0 then some (Value.tuple #[(D.mk (V.mk 1 false 0 (ByteArray.mk #[]) 0) d.g d.t d.w 1 1).agg, Value.int IntKind.i64 0]) else some (Value.tuple #[(D.mk (V.mk 1 false 0 (ByteArray.mk #[]) 0) d.g d.t d.w 1 d.c).agg, Value.int IntKind.i64 0])) else 
         (bif d.c == 0 then some (Value.tuple #[(D.mk (V.mk 1 false 0 (ByteArray.mk #[]) 0) d.g d.t d.w d.e 1).agg, Value.int IntKind.i64 0]) else some (Value.tuple #[(D.mk (V.mk 1 false 0 (ByteArray.mk #[]) 0) d.g d.t d.w d.e d.c).agg, Value.int IntKind.i64 0])))) else 
       (bif d.w == 0 then 
        (bif d.e == 0 then 
         (bif d.c == 0 then some (Value.tuple #[(D.mk d.v d.g d.t 1 1 1).agg, Value.int IntKind.i64 0]) else some (Value.tuple #[(D.mk d.v d.g d.t 1 1 d.c).agg, Value.int IntKind.i64 0])) else 
         (bif d.c == 0 then some (Value.tuple #[(D.mk d.v d.g d.t 1 d.e 1).agg, Value.int IntKind.i64 0]) else some (Value.tuple #[(D.mk d.v d.g d.t 1 d.e d.c).agg, Value.int IntKind.i64 0]))) else 
        (bif d.e == 0 then 
         (bif d.c == 0 then some (Value.tuple #[(D.mk d.v d.g d.t d.w 1 1).agg, Value.int IntKind.i64 0]) else some (Value.tuple #[(D.mk d.v d.g d.t d.w 1 d.c).agg, Value.int IntKind.i64 0])) else 
         (bif d.c == 0 then some (Value.tuple #[(D.mk d.v d.g d.t d.w d.e 1).agg, Value.int IntKind.i64 0]) else some (Value.tuple #[d.agg, Value.int IntKind.i64 0]))))) else 
      (bif S.hasA d then 
       (bif !d.g.k != 0 then 
        (bif !d.t.k != 0 then 
         (bif d.e == 0 then 
          (bif d.c == 0 then some (Value.tuple #[(D.mk d.v (V.mk 1 false 0 (ByteArray.mk #[]) 0) (V.mk 1 false 0 (ByteArray.mk #[]) 0) d.w 1 1).agg, Value.int IntKind.i64 0]) else some (Value.tuple #[(D.mk d.v (V.mk 1 false 0 (ByteArray.mk #[]) 0) (V.mk 1 false 0 (ByteArray.mk #[]) 0) d.w 1 d.c).agg, Value.int IntKind.i64 0])) else 
          (bif d.c == 0 then some (Value.tuple #[(D.mk d.v (V.mk 1 false 0 (ByteArray.mk #[]) 0) (V.mk 1 false 0 (ByteArray.mk #[]) 0) d.w d.e 1).agg, Value.int IntKind.i64 0]) else some (Value.tuple #[(D.mk d.v (V.mk 1 false 0 (ByteArray.mk #[]) 0) (V.mk 1 false 0 (ByteArray.mk #[]) 0) d.w d.e d.c).agg, Value.int IntKind.i64 0]))) else 
         (bif d.e == 0 then 
          (bif d.c == 0 then some (Value.tuple #[(D.mk d.v (V.mk 1 false 0 (ByteArray.mk #[]) 0) d.t d.w 1 1).agg, Value.int IntKind.i64 0]) else some (Value.tuple #[(D.mk d.v (V.mk 1 false 0 (ByteArray.mk #[]) 0) d.t d.w 1 d.c).agg, Value.int IntKind.i64 0])) else 
          (bif d.c == 0 then some (Value.tuple #[(D.mk d.v (V.mk 1 false 0 (ByteArray.mk #[]) 0) d.t d.w d.e 1).agg, Value.int IntKind.i64 0]) else some (Value.tuple #[(D.mk d.v (V.mk 1 false 0 (ByteArray.mk #[]) 0) d.t d.w d.e d.c).agg, Value.int IntKind.i64 0])))) else 
        (bif !d.t.k != 0 then 
         (bif d.e == 0 then 
          (bif d.c == 0 then some (Value.tuple #[(D.mk d.v d.g (V.mk 1 false 0 (ByteArray.mk #[]) 0) d.w 1 1).agg, Value.int IntKind.i64 0]) else some (Value.tuple #[(D.mk d.v d.g (V.mk 1 false 0 (ByteArray.mk #[]) 0) d.w 1 d.c).agg, Value.int IntKind.i64 0])) else 
          (bif d.c == 0 then some (Value.tuple #[(D.mk d.v d.g (V.mk 1 false 0 (ByteArray.mk #[]) 0) d.w d.e 1).agg, Value.int IntKind.i64 0]) else some (Value.tuple #[(D.mk d.v d.g (V.mk 1 false 0 (ByteArray.mk #[]) 0) d.w d.e d.c).agg, Value.int IntKind.i64 0]))) else 
         (bif d.e == 0 then 
          (bif d.c == 0 then some (Value.tuple #[(D.mk d.v d.g d.t d.w 1 1).agg, Value.int IntKind.i64 0]) else some (Value.tuple #[(D.mk d.v d.g d.t d.w 1 d.c).agg, Value.int IntKind.i64 0])) else 
          (bif d.c == 0 then some (Value.tuple #[(D.mk d.v d.g d.t d.w d.e 1).agg, Value.int IntKind.i64 0]) else some (Value.tuple #[d.agg, Value.int IntKind.i64 0]))))) else 
       (bif !d.v.k != 0 then 
        (bif d.w == 0 then 
         (bif d.e == 0 then 
          (bif d.c == 0 then some (Value.tuple #[(D.mk (V.mk 1 false 0 (ByteArray.mk #[]) 0) d.g d.t 1 1 1).agg, Value.int IntKind.i64 0]) else some (Value.tuple #[(D.mk (V.mk 1 false 0 (ByteArray.mk #[]) 0) d.g d.t 1 1 d.c).agg, Value.int IntKind.i64 0])) else 
          (bif d.c == 0 then some (Value.tuple #[(D.mk (V.mk 1 false 0 (ByteArray.mk #[]) 0) d.g d.t 1 d.e 1).agg, Value.int IntKind.i64 0]) else some (Value.tuple #[(D.mk (V.mk 1 false 0 (ByteArray.mk #[]) 0) d.g d.t 1 d.e d.c).agg, Value.int IntKind.i64 0]))) else 
         (bif d.e == 0 then 
          (bif d.c == 0 then some (Value.tuple #[(D.mk (V.mk 1 false 0 (ByteArray.mk #[]) 0) d.g d.t d.w 1 1).agg, Value.int IntKind.i64 0]) else some (Value.tuple #[(D.mk (V.mk 1 false 0 (ByteArray.mk #[]) 0) d.g d.t d.w 1 d.c).agg, Value.int IntKind.i64 0])) else 
          (bif d.c == 0 then some (Value.tuple #[(D.mk (V.mk 1 false 0 (ByteArray.mk #[]) 0) d.g d.t d.w d.e 1).agg, Value.int IntKind.i64 0]) else some (Value.tuple #[(D.mk (V.mk 1 false 0 (ByteArray.mk #[]) 0) d.g d.t d.w d.e d.c).agg, Value.int IntKind.i64 0])))) else 
        (bif d.w == 0 then 
         (bif d.e == 0 then 
          (bif d.c == 0 then some (Value.tuple #[(D.mk d.v d.g d.t 1 1 1).agg, Value.int IntKind.i64 0]) else some (Value.tuple #[(D.mk d.v d.g d.t 1 1 d.c).agg, Value.int IntKind.i64 0])) else 
          (bif d.c == 0 then some (Value.tuple #[(D.mk d.v d.g d.t 1 d.e 1).agg, Value.int IntKind.i64 0]) else some (Value.tuple #[(D.mk d.v d.g d.t 1 d.e d.c).agg, Value.int IntKind.i64 0]))) else 
         (bif d.e == 0 then 
          (bif d.c == 0 then some (Value.tuple #[(D.mk d.v d.g d.t d.w 1 1).agg, Value.int IntKind.i64 0]) else some (Value.tuple #[(D.mk d.v d.g d.t d.w 1 d.c).agg, Value.int IntKind.i64 0])) else 
          (bif d.c == 0 then some (Value.tuple #[(D.mk d.v d.g d.t d.w d.e 1).agg, Value.int IntKind.i64 0]) else some (Value.tuple #[d.agg, Value.int IntKind.i64 0]))))))) else 
     (bif S.fields d then some (Value.tuple #[(D.mk (V.mk 0 false 0 (ByteArray.mk #[]) 0) (V.mk 0 false 0 (ByteArray.mk #[]) 0) (V.mk 0 false 0 (ByteArray.mk #[]) 0) 0 0 0).agg, Value.int IntKind.i64 5]) else some (Value.tuple #[(D.mk (V.mk 0 false 0 (ByteArray.mk #[]) 0) (V.mk 0 false 0 (ByteArray.mk #[]) 0) (V.mk 0 false 0 (ByteArray.mk #[]) 0) 0 0 0).agg, Value.int IntKind.i64 5])))) (by kernel_rfl) (by
    simp only [T.complete, DT.val_node, DT.val_leaf, DT.bind, DT.val_bad]
    repeat' (first | (with_reducible refine bif_neq (fun h => ?_) (fun h => ?_)) | (with_reducible refine bif_and (fun h => ?_) (fun h => ?_)) | (with_reducible refine bif_eq (fun h => ?_) (fun h => ?_)))
    all_goals first | (simp only [*, S.complete, S.fill, S.no, S.there, S.VU, S.V0, S.D0, cond_true, cond_false, Bool.and_true, Bool.true_and, Bool.and_false, Bool.false_and, Bool.or_true, Bool.true_or, Bool.or_false, Bool.false_or, Bool.not_true, Bool.not_false, beq_self_eq_true, bne_self_eq_false, Bool.not_not]; done) | (exfalso; simp_all; done) | (simp_all [S.complete, S.fill, S.no, S.there, S.VU, S.V0, S.D0]; done) | grind [S.complete, S.fill, S.no, S.there, S.VU, S.V0, S.D0])
theorem ent_complete : E (12, onD T.complete) := byEv Hents12 60 fun args t h => by
  obtain ⟨d, rfl, rfl⟩ := onD_eq h
  exact ev_complete d
abbrev HL13 : Tab := (12, onD T.complete) :: HL12
theorem Hents13 : ∀ p ∈ HL13, E p := entries_cons ent_complete Hents12
set_option maxHeartbeats 4000000 in
theorem ev_alike (a b : V) : evFn Tryd.prog ext (tab HL13) 40 68 [a.agg, b.agg] = (T.alike a b).val :=
  Eq.trans (b := 
    (bif !a.k != 0 then some (Value.bool ((a.k != 0) == (b.k != 0))) else 
     (bif !b.k != 0 then some (Value.bool ((a.k != 0) == (b.k != 0))) else 
      (bif S.good a && S.good b then some (Value.bool (S.same a b)) else some (Value.bool false))))) (by kernel_rfl) (by
    simp only [T.alike, T.B, DT.val_node, DT.val_leaf, DT.bind, DT.val_bad]
    repeat' (first | (with_reducible refine bif_neq (fun h => ?_) (fun h => ?_)) | (with_reducible refine bif_and (fun h => ?_) (fun h => ?_)) | (with_reducible refine bif_eq (fun h => ?_) (fun h => ?_)))
    all_goals first | (simp only [*, S.alike, S.there, cond_true, cond_false, Bool.and_true, Bool.true_and, Bool.and_false, Bool.false_and, Bool.or_true, Bool.true_or, Bool.or_false, Bool.false_or, Bool.not_true, Bool.not_false, beq_self_eq_true, bne_self_eq_false, Bool.not_not]; done) | (exfalso; simp_all; done) | (simp_all [S.alike, S.there]; done) | grind [S.alike, S.there])
theorem ent_alike : E (68, onVV T.alike) := byEv Hents13 40 fun args t h => by
  obtain ⟨a, b, rfl, rfl⟩ := onVV_eq h
  exact ev_alike a b
abbrev HL14 : Tab := (68, onVV T.alike) :: HL13
theorem Hents14 : ∀ p ∈ HL14, E p := entries_cons ent_alike Hents13
set_option maxHeartbeats 4000000 in
theorem ev_equal (a b : D) : evFn Tryd.prog ext (tab HL14) 40 63 [a.agg, b.agg] = (T.equal a b).val :=
  Eq.trans (b := 
    (bif a.w == b.w then 
     (bif a.e == b.e then 
      (bif a.c == b.c then 
       (bif S.alike a.v b.v then 
        (bif S.alike a.g b.g then some (Value.bool (S.alike a.t b.t)) else some (Value.bool false)) else some (Value.bool false)) else some (Value.bool false)) else some (Value.bool false)) else some (Value.bool false))) (by kernel_rfl) (by
    simp only [T.equal, T.B, DT.val_node, DT.val_leaf, DT.bind, DT.val_bad]
    repeat' (first | (with_reducible refine bif_neq (fun h => ?_) (fun h => ?_)) | (with_reducible refine bif_and (fun h => ?_) (fun h => ?_)) | (with_reducible refine bif_eq (fun h => ?_) (fun h => ?_)))
    all_goals first | (simp only [*, S.equal, cond_true, cond_false, Bool.and_true, Bool.true_and, Bool.and_false, Bool.false_and, Bool.or_true, Bool.true_or, Bool.or_false, Bool.false_or, Bool.not_true, Bool.not_false, beq_self_eq_true, bne_self_eq_false, Bool.not_not]; done) | (exfalso; simp_all; done) | (simp_all [S.equal]; done) | grind [S.equal])
theorem ent_equal : E (63, onDD T.equal) := byEv Hents14 40 fun args t h => by
  obtain ⟨a, b, rfl, rfl⟩ := onDD_eq h
  exact ev_equal a b
abbrev HL15 : Tab := (63, onDD T.equal) :: HL14
theorem Hents15 : ∀ p ∈ HL15, E p := entries_cons ent_equal Hents14
set_option maxHeartbeats 4000000 in
theorem ev_whole (d : D) : evFn Tryd.prog ext (tab HL15) 40 25 [d.agg] = (T.whole d).val :=
  Eq.trans (b := 
    (bif S.check d then 
     (bif S.hasD d then 
      (bif S.check d then some (Value.bool (S.equal (S.complete d) d)) else some (Value.bool (S.equal S.D0 d))) else 
      (bif S.hasA d then 
       (bif S.check d then some (Value.bool (S.equal (S.complete d) d)) else some (Value.bool (S.equal S.D0 d))) else some (Value.bool false))) else 
     (bif S.fields d then some (Value.bool false) else some (Value.bool false)))) (by kernel_rfl) (by
    simp only [T.whole, T.B, DT.val_node, DT.val_leaf, DT.bind, DT.val_bad]
    repeat' (first | (with_reducible refine bif_neq (fun h => ?_) (fun h => ?_)) | (with_reducible refine bif_and (fun h => ?_) (fun h => ?_)) | (with_reducible refine bif_eq (fun h => ?_) (fun h => ?_)))
    all_goals first | (simp only [*, S.whole, cond_true, cond_false, Bool.and_true, Bool.true_and, Bool.and_false, Bool.false_and, Bool.or_true, Bool.true_or, Bool.or_false, Bool.false_or, Bool.not_true, Bool.not_false, beq_self_eq_true, bne_self_eq_false, Bool.not_not]; done) | (exfalso; simp_all; done) | (simp_all [S.whole]; done) | grind [S.whole])
theorem ent_whole : E (25, onD T.whole) := byEv Hents15 40 fun args t h => by
  obtain ⟨d, rfl, rfl⟩ := onD_eq h
  exact ev_whole d
abbrev HL16 : Tab := (25, onD T.whole) :: HL15
theorem Hents16 : ∀ p ∈ HL16, E p := entries_cons ent_whole Hents15
set_option maxHeartbeats 4000000 in
theorem ev_zero (d : D) : evFn Tryd.prog ext (tab HL16) 40 64 [d.agg] = (T.zero d).val :=
  Eq.trans (b := 
    (bif d.v.k == 0 && (d.v.b == false && (Op.floatEq FloatKind.f64 d.v.n 0 && (d.v.s == ByteArray.mk #[] && (d.v.id == 0 && true)))) && (d.g.k == 0 && (d.g.b == false && (Op.floatEq FloatKind.f64 d.g.n 0 && (d.g.s == ByteArray.mk #[] && (d.g.id == 0 && true)))) && (d.t.k == 0 && (d.t.b == false && (Op.floatEq FloatKind.f64 d.t.n 0 && (d.t.s == ByteArray.mk #[] && (d.t.id == 0 && true)))) && (d.w == 0 && (d.e == 0 && (d.c == 0 && true))))) then 
     (bif S.absent d.v then 
      (bif S.absent d.g then some (Value.bool (S.absent d.t)) else some (Value.bool false)) else some (Value.bool false)) else some (Value.bool false))) (by kernel_rfl) (by
    simp only [T.zero, T.B, DT.val_node, DT.val_leaf, DT.bind, DT.val_bad]
    repeat' (first | (with_reducible refine bif_neq (fun h => ?_) (fun h => ?_)) | (with_reducible refine bif_and (fun h => ?_) (fun h => ?_)) | (with_reducible refine bif_eq (fun h => ?_) (fun h => ?_)))
    all_goals first | (simp only [*, S.zero, S.isD0, cond_true, cond_false, Bool.and_true, Bool.true_and, Bool.and_false, Bool.false_and, Bool.or_true, Bool.true_or, Bool.or_false, Bool.false_or, Bool.not_true, Bool.not_false, beq_self_eq_true, bne_self_eq_false, Bool.not_not]; done) | (exfalso; simp_all; done) | (simp_all [S.zero, S.isD0]; done) | grind [S.zero, S.isD0])
theorem ent_zero : E (64, onD T.zero) := byEv Hents16 40 fun args t h => by
  obtain ⟨d, rfl, rfl⟩ := onD_eq h
  exact ev_zero d
abbrev HL17 : Tab := (64, onD T.zero) :: HL16
theorem Hents17 : ∀ p ∈ HL17, E p := entries_cons ent_zero Hents16
set_option maxHeartbeats 4000000 in
theorem ev_sameD (a b : D) : evFn Tryd.prog ext (tab HL17) 40 31 [a.agg, b.agg] = (T.sameD a b).val :=
  Eq.trans (b := 
    (bif S.check a then 
     (bif S.check b then some (Value.tuple #[Value.bool (S.equal a b), Value.int IntKind.i64 0]) else some (Value.tuple #[Value.bool false, Value.int IntKind.i64 5])) else some (Value.tuple #[Value.bool false, Value.int IntKind.i64 5]))) (by kernel_rfl) (by
    simp only [T.sameD, DT.val_node, DT.val_leaf, DT.bind, DT.val_bad]
    repeat' (first | (with_reducible refine bif_neq (fun h => ?_) (fun h => ?_)) | (with_reducible refine bif_and (fun h => ?_) (fun h => ?_)) | (with_reducible refine bif_eq (fun h => ?_) (fun h => ?_)))
    all_goals first | (simp only [*, cond_true, cond_false, Bool.and_true, Bool.true_and, Bool.and_false, Bool.false_and, Bool.or_true, Bool.true_or, Bool.or_false, Bool.false_or, Bool.not_true, Bool.not_false, beq_self_eq_true, bne_self_eq_false, Bool.not_not]; done) | (exfalso; simp_all; done) | (simp_all []; done) | grind [])
theorem ent_sameD : E (31, onDD T.sameD) := byEv Hents17 40 fun args t h => by
  obtain ⟨a, b, rfl, rfl⟩ := onDD_eq h
  exact ev_sameD a b
abbrev HL18 : Tab := (31, onDD T.sameD) :: HL17
theorem Hents18 : ∀ p ∈ HL18, E p := entries_cons ent_sameD Hents17
set_option maxHeartbeats 4000000 in
theorem ev_freeze (d : D) : evFn Tryd.prog ext (tab HL18) 40 13 [d.agg] = (T.freeze d).val :=
  Eq.trans (b := 
    (bif !S.whole d then some (Value.tuple #[(D.mk (V.mk 0 false 0 (ByteArray.mk #[]) 0) (V.mk 0 false 0 (ByteArray.mk #[]) 0) (V.mk 0 false 0 (ByteArray.mk #[]) 0) 0 0 0).agg, Value.int IntKind.i64 5]) else 
     (bif S.isD d then some (Value.tuple #[(D.mk (V.mk 0 false 0 (ByteArray.mk #[]) 0) (V.mk 0 false 0 (ByteArray.mk #[]) 0) (V.mk 0 false 0 (ByteArray.mk #[]) 0) 1 0 1).agg, Value.int IntKind.i64 0]) else some (Value.tuple #[(D.mk (V.mk 0 false 0 (ByteArray.mk #[]) 0) (V.mk 0 false 0 (ByteArray.mk #[]) 0) (V.mk 0 false 0 (ByteArray.mk #[]) 0) 0 0 1).agg, Value.int IntKind.i64 0])))) (by kernel_rfl) (by
    simp only [T.freeze, DT.val_node, DT.val_leaf, DT.bind, DT.val_bad]
    repeat' (first | (with_reducible refine bif_neq (fun h => ?_) (fun h => ?_)) | (with_reducible refine bif_and (fun h => ?_) (fun h => ?_)) | (with_reducible refine bif_eq (fun h => ?_) (fun h => ?_)))
    all_goals first | (simp only [*, S.V0, S.D0, cond_true, cond_false, Bool.and_true, Bool.true_and, Bool.and_false, Bool.false_and, Bool.or_true, Bool.true_or, Bool.or_false, Bool.false_or, Bool.not_true, Bool.not_false, beq_self_eq_true, bne_self_eq_false, Bool.not_not]; done) | (exfalso; simp_all; done) | (simp_all [S.V0, S.D0]; done) | grind [S.V0, S.D0])
theorem ent_freeze : E (13, onD T.freeze) := byEv Hents18 40 fun args t h => by
  obtain ⟨d, rfl, rfl⟩ := onD_eq h
  exact ev_freeze d
abbrev HL19 : Tab := (13, onD T.freeze) :: HL18
theorem Hents19 : ∀ p ∈ HL19, E p := entries_cons ent_freeze Hents18
set_option maxHeartbeats 4000000 in
theorem ev_barred (a b : D) : evFn Tryd.prog ext (tab HL19) 60 65 [a.agg, b.agg] = (T.barred a b).val :=
  Eq.trans (b := 
    (bif b.c == 2 then some (Value.bool true) else 
     (bif b.e != 0 then 
      (bif b.e != a.e then some (Value.bool true) else 
       (bif S.check b then 
        (bif S.hasD b then 
         (bif S.check a then 
          (bif S.hasD a then 
           (bif a.w == 1 then 
            (bif b.w == 2 then some (Value.bool true) else 
             (bif b.v.k != 0 then some (Value.bool !S.alike b.v a.v) else some (Value.bool false))) else some (Value.bool false)) else 
           (bif S.hasA a then some (Value.bool true) else some (Value.bool true))) else 
          (bif S.fields a then 
           (bif a.w == 1 then 
            (bif b.w == 2 then some (Value.bool true) else 
             (bif b.v.k != 0 then some (Value.bool !S.alike b.v a.v) else some (Value.bool false))) else some (Value.bool false)) else some (Value.bool true))) else 
         (bif S.hasA b then 
          (bif S.check a then 
           (bif S.hasD a then some (Value.bool true) else 
            (bif S.hasA a then 
             (bif b.g.k != 0 then 
              (bif !S.alike b.g a.g then some (Value.bool true) else 
               (bif b.t.k != 0 then some (Value.bool !S.alike b.t a.t) else some (Value.bool false))) else 
              (bif b.t.k != 0 then some (Value.bool !S.alike b.t a.t) else some (Value.bool false))) else some (Value.bool true))) else 
           (bif S.fields a then some (Value.bool true) else some (Value.bool true))) else 
          (bif S.check a then 
           (bif S.hasD a then some (Value.bool false) else 
            (bif S.hasA a then some (Value.bool false) else some (Value.bool false))) else 
           (bif S.fields a then some (Value.bool false) else some (Value.bool false))))) else 
        (bif S.fields b then 
         (bif S.check a then 
          (bif S.hasD a then 
           (bif a.w == 1 then 
            (bif b.w == 2 then some (Value.bool true) else 
             (bif b.v.k != 0 then some (Value.bool !S.alike b.v a.v) else some (Value.bool false))) else some (Value.bool false)) else 
           (bif S.hasA a then some (Value.bool true) else some (Value.bool true))) else 
          (bif S.fields a then 
           (bif a.w == 1 then 
            (bif b.w == 2 then some (Value.bool true) else 
             (bif b.v.k != 0 then some (Value.bool !S.alike b.v a.v) else some (Value.bool false))) else some (Value.bool false)) else some (Value.bool true))) else 
         (bif S.check a then 
          (bif S.hasD a then some (Value.bool false) else 
           (bif S.hasA a then some (Value.bool false) else some (Value.bool false))) else 
          (bif S.fields a then some (Value.bool false) else some (Value.bool false)))))) else 
      (bif S.check b then 
       (bif S.hasD b then 
        (bif S.check a then 
         (bif S.hasD a then 
          (bif a.w == 1 then 
           (bif b.w == 2 then some (Value.bool true) else 
            (bif b.v.k != 0 then some (Value.bool !S.alike b.v a.v) else some (Value.bool false))) else some (Value.bool false)) else 
          (bif S.hasA a then some (Value.bool true) else some (Value.bool true))) else 
         (bif S.fields a then 
          (bif a.w == 1 then 
           (bif b.w == 2 then some (Value.bool true) else 
            (bif b.v.k != 0 then some (Value.bool !S.alike b.v a.v) else some (Value.bool false))) else some (Value.bool false)) else some (Value.bool true))) else 
        (bif S.hasA b then 
         (bif S.check a then 
          (bif S.hasD a then some (Value.bool true) else 
           (bif S.hasA a then 
            (bif b.g.k != 0 then 
             (bif !S.alike b.g a.g then some (Value.bool true) else 
              (bif b.t.k != 0 then some (Value.bool !S.alike b.t a.t) else some (Value.bool false))) else 
             (bif b.t.k != 0 then some (Value.bool !S.alike b.t a.t) else some (Value.bool false))) else some (Value.bool true))) else 
          (bif S.fields a then some (Value.bool true) else some (Value.bool true))) else 
         (bif S.check a then 
          (bif S.hasD a then some (Value.bool false) else 
           (bif S.hasA a then some (Value.bool false) else some (Value.bool false))) else 
          (bif S.fields a then some (Value.bool false) else some (Value.bool false))))) else 
       (bif S.fields b then 
        (bif S.check a then 
         (bif S.hasD a then 
          (bif a.w == 1 then 
           (bif b.w == 2 then some (Value.bool true) else 
            (bif b.v.k != 0 then some (Value.bool !S.alike b.v a.v) else some (Value.bool false))) else some (Value.bool false)) else 
          (bif S.hasA a then some (Value.bool true) else some (Value.bool true))) else 
         (bif S.fields a then 
          (bif a.w == 1 then 
           (bif b.w == 2 then some (Value.bool true) else 
            (bif b.v.k != 0 then some (Value.bool !S.alike b.v a.v) else some (Value.bool false))) else some (Value.bool false)) else some (Value.bool true))) else 
        (bif S.check a then 
         (bif S.hasD a then some (Value.bool false) else 
          (bif S.hasA a then some (Value.bool false) else some (Value.bool false))) else 
         (bif S.fields a then some (Value.bool false) else some (Value.bool false)))))))) (by kernel_rfl) (by
    simp only [T.barred, T.B, DT.val_node, DT.val_leaf, DT.bind, DT.val_bad]
    repeat' (first | (with_reducible refine bif_neq (fun h => ?_) (fun h => ?_)) | (with_reducible refine bif_and (fun h => ?_) (fun h => ?_)) | (with_reducible refine bif_eq (fun h => ?_) (fun h => ?_)))
    all_goals first | (simp only [*, S.barred, S.kindN, S.there, cond_true, cond_false, Bool.and_true, Bool.true_and, Bool.and_false, Bool.false_and, Bool.or_true, Bool.true_or, Bool.or_false, Bool.false_or, Bool.not_true, Bool.not_false, beq_self_eq_true, bne_self_eq_false, Bool.not_not]; done) | (exfalso; simp_all; done) | (simp_all [S.barred, S.kindN, S.there]; done) | grind [S.barred, S.kindN, S.there])
theorem ent_barred : E (65, onDD T.barred) := byEv Hents19 60 fun args t h => by
  obtain ⟨a, b, rfl, rfl⟩ := onDD_eq h
  exact ev_barred a b
abbrev HL20 : Tab := (65, onDD T.barred) :: HL19
theorem Hents20 : ∀ p ∈ HL20, E p := entries_cons ent_barred Hents19
end Go.Proofs.YtaojjpdlfnphiaaDoor.PDescKinds
end
section
/- Contracts by evaluation: what each function of a list answers. Written by a program of this session. -/
namespace Go.Proofs.YtaojjpdlfnphiaaDoor.PDescKinds
open Go.RowKit Go.Ev
set_option linter.unusedSimpArgs false
set_option linter.unusedVariables false
set_option maxRecDepth 100000
set_option maxHeartbeats 4000000 in
theorem ev_over (a b : D) : evFn Tryd.prog ext (tab HL20) 90 66 [a.agg, b.agg] = (T.over a b).val :=
  Eq.trans (b := 
    (bif b.v.k != 0 then 
     (bif b.g.k != 0 then 
      (bif b.t.k != 0 then 
       (bif b.w != 0 then 
        (bif b.e != 0 then 
         (bif b.c != 0 then some (b.agg) else some ((D.mk b.v b.g b.t b.w b.e a.c).agg)) else 
         (bif b.c != 0 then some ((D.mk b.v b.g b.t b.w a.e b.c).agg) else some ((D.mk b.v b.g b.t b.w a.e a.c).agg))) else 
        (bif b.e != 0 then 
         (bif b.c != 0 then some ((D.mk b.v b.g b.t a.w b.e b.c).agg) else some ((D.mk b.v b.g b.t a.w b.e a.c).agg)) else 
         (bif b.c != 0 then some ((D.mk b.v b.g b.t a.w a.e b.c).agg) else some ((D.mk b.v b.g b.t a.w a.e a.c).agg)))) else 
       (bif b.w != 0 then 
        (bif b.e != 0 then 
         (bif b.c != 0 then some ((D.mk b.v b.g a.t b.w b.e b.c).agg) else some ((D.mk b.v b.g a.t b.w b.e a.c).agg)) else 
         (bif b.c != 0 then some ((D.mk b.v b.g a.t b.w a.e b.c).agg) else some ((D.mk b.v b.g a.t b.w a.e a.c).agg))) else 
        (bif b.e != 0 then 
         (bif b.c != 0 then some ((D.mk b.v b.g a.t a.w b.e b.c).agg) else some ((D.mk b.v b.g a.t a.w b.e a.c).agg)) else 
         (bif b.c != 0 then some ((D.mk b.v b.g a.t a.w a.e b.c).agg) else some ((D.mk b.v b.g a.t a.w a.e a.c).agg))))) else 
      (bif b.t.k != 0 then 
       (bif b.w != 0 then 
        (bif b.e != 0 then 
         (bif b.c != 0 then some ((D.mk b.v a.g b.t b.w b.e b.c).agg) else some ((D.mk b.v a.g b.t b.w b.e a.c).agg)) else 
         (bif b.c != 0 then some ((D.mk b.v a.g b.t b.w a.e b.c).agg) else some ((D.mk b.v a.g b.t b.w a.e a.c).agg))) else 
        (bif b.e != 0 then 
         (bif b.c != 0 then some ((D.mk b.v a.g b.t a.w b.e b.c).agg) else some ((D.mk b.v a.g b.t a.w b.e a.c).agg)) else 
         (bif b.c != 0 then some ((D.mk b.v a.g b.t a.w a.e b.c).agg) else some ((D.mk b.v a.g b.t a.w a.e a.c).agg)))) else 
       (bif b.w != 0 then 
        (bif b.e != 0 then 
         (bif b.c != 0 then some ((D.mk b.v a.g a.t b.w b.e b.c).agg) else some ((D.mk b.v a.g a.t b.w b.e a.c).agg)) else 
         (bif b.c != 0 then some ((D.mk b.v a.g a.t b.w a.e b.c).agg) else some ((D.mk b.v a.g a.t b.w a.e a.c).agg))) else 
        (bif b.e != 0 then 
         (bif b.c != 0 then some ((D.mk b.v a.g a.t a.w b.e b.c).agg) else some ((D.mk b.v a.g a.t a.w b.e a.c).agg)) else 
         (bif b.c != 0 then some ((D.mk b.v a.g a.t a.w a.e b.c).agg) else some ((D.mk b.v a.g a.t a.w a.e a.c).agg)))))) else 
     (bif b.g.k != 0 then 
      (bif b.t.k != 0 then 
       (bif b.w != 0 then 
        (bif b.e != 0 then 
         (bif b.c != 0 then some ((D.mk a.v b.g b.t b.w b.e b.c).agg) else some ((D.mk a.v b.g b.t b.w b.e a.c).agg)) else 
         (bif b.c != 0 then some ((D.mk a.v b.g b.t b.w a.e b.c).agg) else some ((D.mk a.v b.g b.t b.w a.e a.c).agg))) else 
        (bif b.e != 0 then 
         (bif b.c != 0 then some ((D.mk a.v b.g b.t a.w b.e b.c).agg) else some ((D.mk a.v b.g b.t a.w b.e a.c).agg)) else 
         (bif b.c != 0 then some ((D.mk a.v b.g b.t a.w a.e b.c).agg) else some ((D.mk a.v b.g b.t a.w a.e a.c).agg)))) else 
       (bif b.w != 0 then 
        (bif b.e != 0 then 
         (bif b.c != 0 then some ((D.mk a.v b.g a.t b.w b.e b.c).agg) else some ((D.mk a.v b.g a.t b.w b.e a.c).agg)) else 
         (bif b.c != 0 then some ((D.mk a.v b.g a.t b.w a.e b.c).agg) else some ((D.mk a.v b.g a.t b.w a.e a.c).agg))) else 
        (bif b.e != 0 then 
         (bif b.c != 0 then some ((D.mk a.v b.g a.t a.w b.e b.c).agg) else some ((D.mk a.v b.g a.t a.w b.e a.c).agg)) else 
         (bif b.c != 0 then some ((D.mk a.v b.g a.t a.w a.e b.c).agg) else some ((D.mk a.v b.g a.t a.w a.e a.c).agg))))) else 
      (bif b.t.k != 0 then 
       (bif b.w != 0 then 
        (bif b.e != 0 then 
         (bif b.c != 0 then some ((D.mk a.v a.g b.t b.w b.e b.c).agg) else some ((D.mk a.v a.g b.t b.w b.e a.c).agg)) else 
         (bif b.c != 0 then some ((D.mk a.v a.g b.t b.w a.e b.c).agg) else some ((D.mk a.v a.g b.t b.w a.e a.c).agg))) else 
        (bif b.e != 0 then 
         (bif b.c != 0 then some ((D.mk a.v a.g b.t a.w b.e b.c).agg) else some ((D.mk a.v a.g b.t a.w b.e a.c).agg)) else 
         (bif b.c != 0 then some ((D.mk a.v a.g b.t a.w a.e b.c).agg) else some ((D.mk a.v a.g b.t a.w a.e a.c).agg)))) else 
       (bif b.w != 0 then 
        (bif b.e != 0 then 
         (bif b.c != 0 then some ((D.mk a.v a.g a.t b.w b.e b.c).agg) else some ((D.mk a.v a.g a.t b.w b.e a.c).agg)) else 
         (bif b.c != 0 then some ((D.mk a.v a.g a.t b.w a.e b.c).agg) else some ((D.mk a.v a.g a.t b.w a.e a.c).agg))) else 
        (bif b.e != 0 then 
         (bif b.c != 0 then some ((D.mk a.v a.g a.t a.w b.e b.c).agg) else some ((D.mk a.v a.g a.t a.w b.e a.c).agg)) else 
         (bif b.c != 0 then some ((D.mk a.v a.g a.t a.w a.e b.c).agg) else some (a.agg)))))))) (by kernel_rfl) (by
    simp only [T.over, DT.val_node, DT.val_leaf, DT.bind, DT.val_bad]
    repeat' (first | (with_reducible refine bif_neq (fun h => ?_) (fun h => ?_)) | (with_reducible refine bif_and (fun h => ?_) (fun h => ?_)) | (with_reducible refine bif_eq (fun h => ?_) (fun h => ?_)))
    all_goals first | (simp only [*, S.over, S.orV, S.orT, S.there, cond_true, cond_false, Bool.and_true, Bool.true_and, Bool.and_false, Bool.false_and, Bool.or_true, Bool.true_or, Bool.or_false, Bool.false_or, Bool.not_true, Bool.not_false, beq_self_eq_true, bne_self_eq_false, Bool.not_not]; done) | (exfalso; simp_all; done) | (simp_all [S.over, S.orV, S.orT, S.there]; done) | grind [S.over, S.orV, S.orT, S.there])
theorem ent_over : E (66, onDD T.over) := byEv Hents20 90 fun args t h => by
  obtain ⟨a, b, rfl, rfl⟩ := onDD_eq h
  exact ev_over a b
abbrev HL21 : Tab := (66, onDD T.over) :: HL20
theorem Hents21 : ∀ p ∈ HL21, E p := entries_cons ent_over Hents20
set_option maxHeartbeats 4000000 in
theorem ev_apply (x : Bool) (a b : D) : evFn Tryd.prog ext (tab HL21) 60 28 [.bool x, a.agg, b.agg] = (T.apply x a b).val :=
  Eq.trans (b := 
    (bif S.check b then 
     (bif !S.whole a then 
      (bif !S.zero a then some (Value.tuple #[(D.mk (V.mk 0 false 0 (ByteArray.mk #[]) 0) (V.mk 0 false 0 (ByteArray.mk #[]) 0) (V.mk 0 false 0 (ByteArray.mk #[]) 0) 0 0 0).agg, Value.bool false, Value.int IntKind.i64 5]) else 
       (bif S.zero a then 
        (bif !x then some (Value.tuple #[a.agg, Value.bool false, Value.int IntKind.i64 0]) else 
         (bif S.check b then some (Value.tuple #[(S.complete b).agg, Value.bool true, Value.int IntKind.i64 0]) else some (Value.tuple #[S.D0.agg, Value.bool true, Value.int IntKind.i64 0]))) else 
        (bif a.c == 1 then 
         (bif S.barred a b then some (Value.tuple #[a.agg, Value.bool false, Value.int IntKind.i64 0]) else 
          (bif S.check b then 
           (bif S.hasD b then 
            (bif S.check a then 
             (bif S.hasD a then some (Value.tuple #[(S.over a b).agg, Value.bool true, Value.int IntKind.i64 0]) else 
              (bif S.hasA a then 
               (bif b.e == 0 then 
                (bif b.c == 0 then 
                 (bif S.check (D.mk b.v b.g b.t b.w a.e a.c) then some (Value.tuple #[(S.complete (D.mk b.v b.g b.t b.w a.e a.c)).agg, Value.bool true, Value.int IntKind.i64 0]) else some (Value.tuple #[S.D0.agg, Value.bool true, Value.int IntKind.i64 0])) else 
                 (bif S.check (D.mk b.v b.g b.t b.w a.e b.c) then some (Value.tuple #[(S.complete (D.mk b.v b.g b.t b.w a.e b.c)).agg, Value.bool true, Value.int IntKind.i64 0]) else some (Value.tuple #[S.D0.agg, Value.bool true, Value.int IntKind.i64 0]))) else 
                (bif b.c == 0 then 
                 (bif S.check (D.mk b.v b.g b.t b.w b.e a.c) then some (Value.tuple #[(S.complete (D.mk b.v b.g b.t b.w b.e a.c)).agg, Value.bool true, Value.int IntKind.i64 0]) else some (Value.tuple #[S.D0.agg, Value.bool true, Value.int IntKind.i64 0])) else 
                 (bif S.check b then some (Value.tuple #[(S.complete b).agg, Value.bool true, Value.int IntKind.i64 0]) else some (Value.tuple #[S.D0.agg, Value.bool true, Value.int IntKind.i64 0])))) else 
               (bif b.e == 0 then 
                (bif b.c == 0 then 
                 (bif S.check (D.mk b.v b.g b.t b.w a.e a.c) then some (Value.tuple #[(S.complete (D.mk b.v b.g b.t b.w a.e a.c)).agg, Value.bool true, Value.int IntKind.i64 0]) else some (Value.tuple #[S.D0.agg, Value.bool true, Value.int IntKind.i64 0])) else 
                 (bif S.check (D.mk b.v b.g b.t b.w a.e b.c) then some (Value.tuple #[(S.complete (D.mk b.v b.g b.t b.w a.e b.c)).agg, Value.bool true, Value.int IntKind.i64 0]) else some (Value.tuple #[S.D0.agg, Value.bool true, Value.int IntKind.i64 0]))) else 
                (bif b.c == 0 then 
                 (bif S.check (D.mk b.v b.g b.t b.w b.e a.c) then some (Value.tuple #[(S.complete (D.mk b.v b.g b.t b.w b.e a.c)).agg, Value.bool true, Value.int IntKind.i64 0]) else some (Value.tuple #[S.D0.agg, Value.bool true, Value.int IntKind.i64 0])) else 
                 (bif S.check b then some (Value.tuple #[(S.complete b).agg, Value.bool true, Value.int IntKind.i64 0]) else some (Value.tuple #[S.D0.agg, Value.bool true, Value.int IntKind.i64 0])))))) else 
             (bif S.fields a then some (Value.tuple #[(S.over a b).agg, Value.bool true, Value.int IntKind.i64 0]) else 
              (bif b.e == 0 then 
               (bif b.c == 0 then 
                (bif S.check (D.mk b.v b.g b.t b.w a.e a.c) then some (Value.tuple #[(S.complete (D.mk b.v b.g b.t b.w a.e a.c)).agg, Value.bool true, Value.int IntKind.i64 0]) else some (Value.tuple #[S.D0.agg, Value.bool true, Value.int IntKind.i64 0])) else 
                (bif S.check (D.mk b.v b.g b.t b.w a.e b.c) then some (Value.tuple #[(S.complete (D.mk b.v b.g b.t b.w a.e b.c)).agg, Value.bool true, Value.int IntKind.i64 0]) else some (Value.tuple #[S.D0.agg, Value.bool true, Value.int IntKind.i64 0]))) else 
               (bif b.c == 0 then 
                (bif S.check (D.mk b.v b.g b.t b.w b.e a.c) then some (Value.tuple #[(S.complete (D.mk b.v b.g b.t b.w b.e a.c)).agg, Value.bool true, Value.int IntKind.i64 0]) else some (Value.tuple #[S.D0.agg, Value.bool true, Value.int IntKind.i64 0])) else 
                (bif S.check b then some (Value.tuple #[(S.complete b).agg, Value.bool true, Value.int IntKind.i64 0]) else some (Value.tuple #[S.D0.agg, Value.bool true, Value.int IntKind.i64 0])))))) else 
            (bif S.hasA b then 
             (bif S.check a then 
              (bif S.hasD a then 
               (bif b.e == 0 then 
                (bif b.c == 0 then 
                 (bif S.check (D.mk b.v b.g b.t b.w a.e a.c) then some (Value.tuple #[(S.complete (D.mk b.v b.g b.t b.w a.e a.c)).agg, Value.bool true, Value.int IntKind.i64 0]) else some (Value.tuple #[S.D0.agg, Value.bool true, Value.int IntKind.i64 0])) else 
                 (bif S.check (D.mk b.v b.g b.t b.w a.e b.c) then some (Value.tuple #[(S.complete (D.mk b.v b.g b.t b.w a.e b.c)).agg, Value.bool true, Value.int IntKind.i64 0]) else some (Value.tuple #[S.D0.agg, Value.bool true, Value.int IntKind.i64 0]))) else 
                (bif b.c == 0 then 
                 (bif S.check (D.mk b.v b.g b.t b.w b.e a.c) then some (Value.tuple #[(S.complete (D.mk b.v b.g b.t b.w b.e a.c)).agg, Value.bool true, Value.int IntKind.i64 0]) else some (Value.tuple #[S.D0.agg, Value.bool true, Value.int IntKind.i64 0])) else 
                 (bif S.check b then some (Value.tuple #[(S.complete b).agg, Value.bool true, Value.int IntKind.i64 0]) else some (Value.tuple #[S.D0.agg, Value.bool true, Value.int IntKind.i64 0])))) else 
               (bif S.hasA a then some (Value.tuple #[(S.over a b).agg, Value.bool true, Value.int IntKind.i64 0]) else 
                (bif b.e == 0 then 
                 (bif b.c == 0 then 
                  (bif S.check (D.mk b.v b.g b.t b.w a.e a.c) then some (Value.tuple #[(S.complete (D.mk b.v b.g b.t b.w a.e a.c)).agg, Value.bool true, Value.int IntKind.i64 0]) else some (Value.tuple #[S.D0.agg, Value.bool true, Value.int IntKind.i64 0])) else 
                  (bif S.check (D.mk b.v b.g b.t b.w a.e b.c) then some (Value.tuple #[(S.complete (D.mk b.v b.g b.t b.w a.e b.c)).agg, Value.bool true, Value.int IntKind.i64 0]) else some (Value.tuple #[S.D0.agg, Value.bool true, Value.int IntKind.i64 0]))) else 
                 (bif b.c == 0 then 
                  (bif S.check (D.mk b.v b.g b.t b.w b.e a.c) then some (Value.tuple #[(S.complete (D.mk b.v b.g b.t b.w b.e a.c)).agg, Value.bool true, Value.int IntKind.i64 0]) else some (Value.tuple #[S.D0.agg, Value.bool true, Value.int IntKind.i64 0])) else 
                  (bif S.check b then some (Value.tuple #[(S.complete b).agg, Value.bool true, Value.int IntKind.i64 0]) else some (Value.tuple #[S.D0.agg, Value.bool true, Value.int IntKind.i64 0])))))) else 
              (bif S.fields a then 
               (bif b.e == 0 then 
                (bif b.c == 0 then 
                 (bif S.check (D.mk b.v b.g b.t b.w a.e a.c) then some (Value.tuple #[(S.complete (D.mk b.v b.g b.t b.w a.e a.c)).agg, Value.bool true, Value.int IntKind.i64 0]) else some (Value.tuple #[S.D0.agg, Value.bool true, Value.int IntKind.i64 0])) else 
                 (bif S.check (D.mk b.v b.g b.t b.w a.e b.c) then some (Value.tuple #[(S.complete (D.mk b.v b.g b.t b.w a.e b.c)).agg, Value.bool true, Value.int IntKind.i64 0]) else some (Value.tuple #[S.D0.agg, Value.bool true, Value.int IntKind.i64 0]))) else 
                (bif b.c == 0 then 
                 (bif S.check (D.mk b.v b.g b.t b.w b.e a.c) then some (Value.tuple #[(S.complete (D.mk b.v b.g b.t b.w b.e a.c)).agg, Value.bool true, Value.int IntKind.i64 0]) else some (Value.tuple #[S.D0.agg, Value.bool true, Value.int IntKind.i64 0])) else 
                 (bif S.check b then some (Value.tuple #[(S.complete b).agg, Value.bool true, Value.int IntKind.i64 0]) else some (Value.tuple #[S.D0.agg, Value.bool true, Value.int IntKind.i64 0])))) else 
               (bif b.e == 0 then 
                (bif b.c == 0 then 
                 (bif S.check (D.mk b.v b.g b.t b.w a.e a.c) then some (Value.tuple #[(S.complete (D.mk b.v b.g b.t b.w a.e a.c)).agg, Value.bool true, Value.int IntKind.i64 0]) else some (Value.tuple #[S.D0.agg, Value.bool true, Value.int IntKind.i64 0])) else 
                 (bif S.check (D.mk b.v b.g b.t b.w a.e b.c) then some (Value.tuple #[(S.complete (D.mk b.v b.g b.t b.w a.e b.c)).agg, Value.bool true, Value.int IntKind.i64 0]) else some (Value.tuple #[S.D0.agg, Value.bool true, Value.int IntKind.i64 0]))) else 
                (bif b.c == 0 then 
                 (bif S.check (D.mk b.v b.g b.t b.w b.e a.c) then some (Value.tuple #[(S.complete (D.mk b.v b.g b.t b.w b.e a.c)).agg, Value.bool true, Value.int IntKind.i64 0]) else some (Value.tuple #[S.D0.agg, Value.bool true, Value.int IntKind.i64 0])) else 
                 (bif S.check b then some (Value.tuple #[(S.complete b).agg, Value.bool true, Value.int IntKind.i64 0]) else some (Value.tuple #[S.D0.agg, Value.bool true, Value.int IntKind.i64 0])))))) else 
             (bif S.check a then 
              (bif S.hasD a then some (Value.tuple #[(S.over a b).agg, Value.bool true, Value.int IntKind.i64 0]) else 
               (bif S.hasA a then some (Value.tuple #[(S.over a b).agg, Value.bool true, Value.int IntKind.i64 0]) else some (Value.tuple #[(S.over a b).agg, Value.bool true, Value.int IntKind.i64 0]))) else 
              (bif S.fields a then some (Value.tuple #[(S.over a b).agg, Value.bool true, Value.int IntKind.i64 0]) else some (Value.tuple #[(S.over a b).agg, Value.bool true, Value.int IntKind.i64 0]))))) else 
           (bif S.fields b then 
            (bif S.check a then 
             (bif S.hasD a then some (Value.tuple #[(S.over a b).agg, Value.bool true, Value.int IntKind.i64 0]) else 
              (bif S.hasA a then 
               (bif b.e == 0 then 
                (bif b.c == 0 then 
                 (bif S.check (D.mk b.v b.g b.t b.w a.e a.c) then some (Value.tuple #[(S.complete (D.mk b.v b.g b.t b.w a.e a.c)).agg, Value.bool true, Value.int IntKind.i64 0]) else some (Value.tuple #[S.D0.agg, Value.bool true, Value.int IntKind.i64 0])) else 
                 (bif S.check (D.mk b.v b.g b.t b.w a.e b.c) then some (Value.tuple #[(S.complete (D.mk b.v b.g b.t b.w a.e b.c)).agg, Value.bool true, Value.int IntKind.i64 0]) else some (Value.tuple #[S.D0.agg, Value.bool true, Value.int IntKind.i64 0]))) else 
                (bif b.c == 0 then 
                 (bif S.check (D.mk b.v b.g b.t b.w b.e a.c) then some (Value.tuple #[(S.complete (D.mk b.v b.g b.t b.w b.e a.c)).agg, Value.bool true, Value.int IntKind.i64 0]) else some (Value.tuple #[S.D0.agg, Value.bool true, Value.int IntKind.i64 0])) else 
                 (bif S.check b then some (Value.tuple #[(S.complete b).agg, Value.bool true, Value.int IntKind.i64 0]) else some (Value.tuple #[S.D0.agg, Value.bool true, Value.int IntKind.i64 0])))) else 
               (bif b.e == 0 then 
                (bif b.c == 0 then 
                 (bif S.check (D.mk b.v b.g b.t b.w a.e a.c) then some (Value.tuple #[(S.complete (D.mk b.v b.g b.t b.w a.e a.c)).agg, Value.bool true, Value.int IntKind.i64 0]) else some (Value.tuple #[S.D0.agg, Value.bool true, Value.int IntKind.i64 0])) else 
                 (bif S.check (D.mk b.v b.g b.t b.w a.e b.c) then some (Value.tuple #[(S.complete (D.mk b.v b.g b.t b.w a.e b.c)).agg, Value.bool true, Value.int IntKind.i64 0]) else some (Value.tuple #[S.D0.agg, Value.bool true, Value.int IntKind.i64 0]))) else 
                (bif b.c == 0 then 
                 (bif S.check (D.mk b.v b.g b.t b.w b.e a.c) then some (Value.tuple #[(S.complete (D.mk b.v b.g b.t b.w b.e a.c)).agg, Value.bool true, Value.int IntKind.i64 0]) else some (Value.tuple #[S.D0.agg, Value.bool true, Value.int IntKind.i64 0])) else 
                 (bif S.check b then some (Value.tuple #[(S.complete b).agg, Value.bool true, Value.int IntKind.i64 0]) else some (Value.tuple #[S.D0.agg, Value.bool true, Value.int IntKind.i64 0])))))) else 
             (bif S.fields a then some (Value.tuple #[(S.over a b).agg, Value.bool true, Value.int IntKind.i64 0]) else 
              (bif b.e == 0 then 
               (bif b.c == 0 then 
                (bif S.check (D.mk b.v b.g b.t b.w a.e a.c) then some (Value.tuple #[(S.complete (D.mk b.v b.g b.t b.w a.e a.c)).agg, Value.bool true, Value.int IntKind.i64 0]) else some (Value.tuple #[S.D0.agg, Value.bool true, Value.int IntKind.i64 0])) else 
                (bif S.check (D.mk b.v b.g b.t b.w a.e b.c) then some (Value.tuple #[(S.complete (D.mk b.v b.g b.t b.w a.e b.c)).agg, Value.bool true, Value.int IntKind.i64 0]) else some (Value.tuple #[S.D0.agg, Value.bool true, Value.int IntKind.i64 0]))) else 
               (bif b.c == 0 then 
                (bif S.check (D.mk b.v b.g b.t b.w b.e a.c) then some (Value.tuple #[(S.complete (D.mk b.v b.g b.t b.w b.e a.c)).agg, Value.bool true, Value.int IntKind.i64 0]) else some (Value.tuple #[S.D0.agg, Value.bool true, Value.int IntKind.i64 0])) else 
                (bif S.check b then some (Value.tuple #[(S.complete b).agg, Value.bool true, Value.int IntKind.i64 0]) else some (Value.tuple #[S.D0.agg, Value.bool true, Value.int IntKind.i64 0])))))) else 
            (bif S.check a then 
             (bif S.hasD a then some (Value.tuple #[(S.over a b).agg, Value.bool true, Value.int IntKind.i64 0]) else 
              (bif S.hasA a then some (Value.tuple #[(S.over a b).agg, Value.bool true, Value.int IntKind.i64 0]) else some (Value.tuple #[(S.over a b).agg, Value.bool true, Value.int IntKind.i64 0]))) else 
             (bif S.fields a then some (Value.tuple #[(S.over a b).agg, Value.bool true, Value.int IntKind.i64 0]) else some (Value.tuple #[(S.over a b).agg, Value.bool true, Value.int IntKind.i64 0])))))) else 
         (bif S.check b then 
          (bif S.hasD b then 
           (bif S.check a then 
            (bif S.hasD a then some (Value.tuple #[(S.over a b).agg, Value.bool true, Value.int IntKind.i64 0]) else 
             (bif S.hasA a then 
              (bif b.e == 0 then 
               (bif b.c == 0 then 
                (bif S.check (D.mk b.v b.g b.t b.w a.e a.c) then some (Value.tuple #[(S.complete (D.mk b.v b.g b.t b.w a.e a.c)).agg, Value.bool true, Value.int IntKind.i64 0]) else some (Value.tuple #[S.D0.agg, Value.bool true, Value.int IntKind.i64 0])) else 
                (bif S.check (D.mk b.v b.g b.t b.w a.e b.c) then some (Value.tuple #[(S.complete (D.mk b.v b.g b.t b.w a.e b.c)).agg, Value.bool true, Value.int IntKind.i64 0]) else some (Value.tuple #[S.D0.agg, Value.bool true, Value.int IntKind.i64 0]))) else 
               (bif b.c == 0 then 
                (bif S.check (D.mk b.v b.g b.t b.w b.e a.c) then some (Value.tuple #[(S.complete (D.mk b.v b.g b.t b.w b.e a.c)).agg, Value.bool true, Value.int IntKind.i64 0]) else some (Value.tuple #[S.D0.agg, Value.bool true, Value.int IntKind.i64 0])) else 
                (bif S.check b then some (Value.tuple #[(S.complete b).agg, Value.bool true, Value.int IntKind.i64 0]) else some (Value.tuple #[S.D0.agg, Value.bool true, Value.int IntKind.i64 0])))) else 
              (bif b.e == 0 then 
               (bif b.c == 0 then 
                (bif S.check (D.mk b.v b.g b.t b.w a.e a.c) then some (Value.tuple #[(S.complete (D.mk b.v b.g b.t b.w a.e a.c)).agg, Value.bool true, Value.int IntKind.i64 0]) else some (Value.tuple #[S.D0.agg, Value.bool true, Value.int IntKind.i64 0])) else 
                (bif S.check (D.mk b.v b.g b.t b.w a.e b.c) then some (Value.tuple #[(S.complete (D.mk b.v b.g b.t b.w a.e b.c)).agg, Value.bool true, Value.int IntKind.i64 0]) else some (Value.tuple #[S.D0.agg, Value.bool true, Value.int IntKind.i64 0]))) else 
               (bif b.c == 0 then 
                (bif S.check (D.mk b.v b.g b.t b.w b.e a.c) then some (Value.tuple #[(S.complete (D.mk b.v b.g b.t b.w b.e a.c)).agg, Value.bool true, Value.int IntKind.i64 0]) else some (Value.tuple #[S.D0.agg, Value.bool true, Value.int IntKind.i64 0])) else 
                (bif S.check b then some (Value.tuple #[(S.complete b).agg, Value.bool true, Value.int IntKind.i64 0]) else some (Value.tuple #[S.D0.agg, Value.bool true, Value.int IntKind.i64 0])))))) else 
            (bif S.fields a then some (Value.tuple #[(S.over a b).agg, Value.bool true, Value.int IntKind.i64 0]) else 
             (bif b.e == 0 then 
              (bif b.c == 0 then 
               (bif S.check (D.mk b.v b.g b.t b.w a.e a.c) then some (Value.tuple #[(S.complete (D.mk b.v b.g b.t b.w a.e a.c)).agg, Value.bool true, Value.int IntKind.i64 0]) else some (Value.tuple #[S.D0.agg, Value.bool true, Value.int IntKind.i64 0])) else 
               (bif S.check (D.mk b.v b.g b.t b.w a.e b.c) then some (Value.tuple #[(S.complete (D.mk b.v b.g b.t b.w a.e b.c)).agg, Value.bool true, Value.int IntKind.i64 0]) else some (Value.tuple #[S.D0.agg, Value.bool true, Value.int IntKind.i64 0]))) else 
              (bif b.c == 0 then 
               (bif S.check (D.mk b.v b.g b.t b.w b.e a.c) then some (Value.tuple #[(S.complete (D.mk b.v b.g b.t b.w b.e a.c)).agg, Value.bool true, Value.int IntKind.i64 0]) else some (Value.tuple #[S.D0.agg, Value.bool true, Value.int IntKind.i64 0])) else 
               (bif S.check b then some (Value.tuple #[(S.complete b).agg, Value.bool true, Value.int IntKind.i64 0]) else some (Value.tuple #[S.D0.agg, Value.bool true, Value.int IntKind.i64 0])))))) else 
           (bif S.hasA b then 
            (bif S.check a then 
             (bif S.hasD a then 
              (bif b.e == 0 then 
               (bif b.c == 0 then 
                (bif S.check (D.mk b.v b.g b.t b.w a.e a.c) then some (Value.tuple #[(S.complete (D.mk b.v b.g b.t b.w a.e a.c)).agg, Value.bool true, Value.int IntKind.i64 0]) else some (Value.tuple #[S.D0.agg, Value.bool true, Value.int IntKind.i64 0])) else 
                (bif S.check (D.mk b.v b.g b.t b.w a.e b.c) then some (Value.tuple #[(S.complete (D.mk b.v b.g b.t b.w a.e b.c)).agg, Value.bool true, Value.int IntKind.i64 0]) else some (Value.tuple #[S.D0.agg, Value.bool true, Value.int IntKind.i64 0]))) else 
               (bif b.c == 0 then 
                (bif S.check (D.mk b.v b.g b.t b.w b.e a.c) then some (Value.tuple #[(S.complete (D.mk b.v b.g b.t b.w b.e a.c)).agg, Value.bool true, Value.int IntKind.i64 0]) else some (Value.tuple #[S.D0.agg, Value.bool true, Value.int IntKind.i64 0])) else 
                (bif S.check b then some (Value.tuple #[(S.complete b).agg, Value.bool true, Value.int IntKind.i64 0]) else some (Value.tuple #[S.D0.agg, Value.bool true, Value.int IntKind.i64 0])))) else 
              (bif S.hasA a then some (Value.tuple #[(S.over a b).agg, Value.bool true, Value.int IntKind.i64 0]) else 
               (bif b.e == 0 then 
                (bif b.c == 0 then 
                 (bif S.check (D.mk b.v b.g b.t b.w a.e a.c) then some (Value.tuple #[(S.complete (D.mk b.v b.g b.t b.w a.e a.c)).agg, Value.bool true, Value.int IntKind.i64 0]) else some (Value.tuple #[S.D0.agg, Value.bool true, Value.int IntKind.i64 0])) else 
                 (bif S.check (D.mk b.v b.g b.t b.w a.e b.c) then some (Value.tuple #[(S.complete (D.mk b.v b.g b.t b.w a.e b.c)).agg, Value.bool true, Value.int IntKind.i64 0]) else some (Value.tuple #[S.D0.agg, Value.bool true, Value.int IntKind.i64 0]))) else 
                (bif b.c == 0 then 
                 (bif S.check (D.mk b.v b.g b.t b.w b.e a.c) then some (Value.tuple #[(S.complete (D.mk b.v b.g b.t b.w b.e a.c)).agg, Value.bool true, Value.int IntKind.i64 0]) else some (Value.tuple #[S.D0.agg, Value.bool true, Value.int IntKind.i64 0])) else 
                 (bif S.check b then some (Value.tuple #[(S.complete b).agg, Value.bool true, Value.int IntKind.i64 0]) else some (Value.tuple #[S.D0.agg, Value.bool true, Value.int IntKind.i64 0])))))) else 
             (bif S.fields a then 
              (bif b.e == 0 then 
               (bif b.c == 0 then 
                (bif S.check (D.mk b.v b.g b.t b.w a.e a.c) then some (Value.tuple #[(S.complete (D.mk b.v b.g b.t b.w a.e a.c)).agg, Value.bool true, Value.int IntKind.i64 0]) else some (Value.tuple #[S.D0.agg, Value.bool true, Value.int IntKind.i64 0])) else 
                (bif S.check (D.mk b.v b.g b.t b.w a.e b.c) then some (Value.tuple #[(S.complete (D.mk b.v b.g b.t b.w a.e b.c)).agg, Value.bool true, Value.int IntKind.i64 0]) else some (Value.tuple #[S.D0.agg, Value.bool true, Value.int IntKind.i64 0]))) else 
               (bif b.c == 0 then 
                (bif S.check (D.mk b.v b.g b.t b.w b.e a.c) then some (Value.tuple #[(S.complete (D.mk b.v b.g b.t b.w b.e a.c)).agg, Value.bool true, Value.int IntKind.i64 0]) else some (Value.tuple #[S.D0.agg, Value.bool true, Value.int IntKind.i64 0])) else 
                (bif S.check b then some (Value.tuple #[(S.complete b).agg, Value.bool true, Value.int IntKind.i64 0]) else some (Value.tuple #[S.D0.agg, Value.bool true, Value.int IntKind.i64 0])))) else 
              (bif b.e == 0 then 
               (bif b.c == 0 then 
                (bif S.check (D.mk b.v b.g b.t b.w a.e a.c) then some (Value.tuple #[(S.complete (D.mk b.v b.g b.t b.w a.e a.c)).agg, Value.bool true, Value.int IntKind.i64 0]) else some (Value.tuple #[S.D0.agg, Value.bool true, Value.int IntKind.i64 0])) else 
                (bif S.check (D.mk b.v b.g b.t b.w a.e b.c) then some (Value.tuple #[(S.complete (D.mk b.v b.g b.t b.w a.e b.c)).agg, Value.bool true, Value.int IntKind.i64 0]) else some (Value.tuple #[S.D0.agg, Value.bool true, Value.int IntKind.i64 0]))) else 
               (bif b.c == 0 then 
                (bif S.check (D.mk b.v b.g b.t b.w b.e a.c) then some (Value.tuple #[(S.complete (D.mk b.v b.g b.t b.w b.e a.c)).agg, Value.bool true, Value.int IntKind.i64 0]) else some (Value.tuple #[S.D0.agg, Value.bool true, Value.int IntKind.i64 0])) else 
                (bif S.check b then some (Value.tuple #[(S.complete b).agg, Value.bool true, Value.int IntKind.i64 0]) else some (Value.tuple #[S.D0.agg, Value.bool true, Value.int IntKind.i64 0])))))) else 
            (bif S.check a then 
             (bif S.hasD a then some (Value.tuple #[(S.over a b).agg, Value.bool true, Value.int IntKind.i64 0]) else 
              (bif S.hasA a then some (Value.tuple #[(S.over a b).agg, Value.bool true, Value.int IntKind.i64 0]) else some (Value.tuple #[(S.over a b).agg, Value.bool true, Value.int IntKind.i64 0]))) else 
             (bif S.fields a then some (Value.tuple #[(S.over a b).agg, Value.bool true, Value.int IntKind.i64 0]) else some (Value.tuple #[(S.over a b).agg, Value.bool true, Value.int IntKind.i64 0]))))) else 
          (bif S.fields b then 
           (bif S.check a then 
            (bif S.hasD a then some (Value.tuple #[(S.over a b).agg, Value.bool true, Value.int IntKind.i64 0]) else 
             (bif S.hasA a then 
              (bif b.e == 0 then 
               (bif b.c == 0 then 
                (bif S.check (D.mk b.v b.g b.t b.w a.e a.c) then some (Value.tuple #[(S.complete (D.mk b.v b.g b.t b.w a.e a.c)).agg, Value.bool true, Value.int IntKind.i64 0]) else some (Value.tuple #[S.D0.agg, Value.bool true, Value.int IntKind.i64 0])) else 
                (bif S.check (D.mk b.v b.g b.t b.w a.e b.c) then some (Value.tuple #[(S.complete (D.mk b.v b.g b.t b.w a.e b.c)).agg, Value.bool true, Value.int IntKind.i64 0]) else some (Value.tuple #[S.D0.agg, Value.bool true, Value.int IntKind.i64 0]))) else 
               (bif b.c == 0 then 
                (bif S.check (D.mk b.v b.g b.t b.w b.e a.c) then some (Value.tuple #[(S.complete (D.mk b.v b.g b.t b.w b.e a.c)).agg, Value.bool true, Value.int IntKind.i64 0]) else some (Value.tuple #[S.D0.agg, Value.bool true, Value.int IntKind.i64 0])) else 
                (bif S.check b then some (Value.tuple #[(S.complete b).agg, Value.bool true, Value.int IntKind.i64 0]) else some (Value.tuple #[S.D0.agg, Value.bool true, Value.int IntKind.i64 0])))) else 
              (bif b.e == 0 then 
               (bif b.c == 0 then 
                (bif S.check (D.mk b.v b.g b.t b.w a.e a.c) then some (Value.tuple #[(S.complete (D.mk b.v b.g b.t b.w a.e a.c)).agg, Value.bool true, Value.int IntKind.i64 0]) else some (Value.tuple #[S.D0.agg, Value.bool true, Value.int IntKind.i64 0])) else 
                (bif S.check (D.mk b.v b.g b.t b.w a.e b.c) then some (Value.tuple #[(S.complete (D.mk b.v b.g b.t b.w a.e b.c)).agg, Value.bool true, Value.int IntKind.i64 0]) else some (Value.tuple #[S.D0.agg, Value.bool true, Value.int IntKind.i64 0]))) else 
               (bif b.c == 0 then 
                (bif S.check (D.mk b.v b.g b.t b.w b.e a.c) then some (Value.tuple #[(S.complete (D.mk b.v b.g b.t b.w b.e a.c)).agg, Value.bool true, Value.int IntKind.i64 0]) else some (Value.tuple #[S.D0.agg, Value.bool true, Value.int IntKind.i64 0])) else 
                (bif S.check b then some (Value.tuple #[(S.complete b).agg, Value.bool true, Value.int IntKind.i64 0]) else some (Value.tuple #[S.D0.agg, Value.bool true, Value.int IntKind.i64 0])))))) else 
            (bif S.fields a then some (Value.tuple #[(S.over a b).agg, Value.bool true, Value.int IntKind.i64 0]) else 
             (bif b.e == 0 then 
              (bif b.c == 0 then 
               (bif S.check (D.mk b.v b.g b.t b.w a.e a.c) then some (Value.tuple #[(S.complete (D.mk b.v b.g b.t b.w a.e a.c)).agg, Value.bool true, Value.int IntKind.i64 0]) else some (Value.tuple #[S.D0.agg, Value.bool true, Value.int IntKind.i64 0])) else 
               (bif S.check (D.mk b.v b.g b.t b.w a.e b.c) then some (Value.tuple #[(S.complete (D.mk b.v b.g b.t b.w a.e b.c)).agg, Value.bool true, Value.int IntKind.i64 0]) else some (Value.tuple #[S.D0.agg, Value.bool true, Value.int IntKind.i64 0]))) else 
              (bif b.c == 0 then 
               (bif S.check (D.mk b.v b.g b.t b.w b.e a.c) then some (Value.tuple #[(S.complete (D.mk b.v b.g b.t b.w b.e a.c)).agg, Value.bool true, Value.int IntKind.i64 0]) else some (Value.tuple #[S.D0.agg, Value.bool true, Value.int IntKind.i64 0])) else 
               (bif S.check b then some (Value.tuple #[(S.complete b).agg, Value.bool true, Value.int IntKind.i64 0]) else some (Value.tuple #[S.D0.agg, Value.bool true, Value.int IntKind.i64 0])))))) else 
           (bif S.check a then 
            (bif S.hasD a then some (Value.tuple #[(S.over a b).agg, Value.bool true, Value.int IntKind.i64 0]) else 
             (bif S.hasA a then some (Value.tuple #[(S.over a b).agg, Value.bool true, Value.int IntKind.i64 0]) else some (Value.tuple #[(S.over a b).agg, Value.bool true, Value.int IntKind.i64 0]))) else 
            (bif S.fields a then some (Value.tuple #[(S.over a b).agg, Value.bool true, Value.int IntKind.i64 0]) else some (Value.tuple #[(S.over a b).agg, Value.bool true, Value.int IntKind.i64 0])))))))) else 
      (bif S.zero a then 
       (bif !x then some (Value.tuple #[a.agg, Value.bool false, Value.int IntKind.i64 0]) else 
        (bif S.check b then some (Value.tuple #[(S.complete b).agg, Value.bool true, Value.int IntKind.i64 0]) else some (Value.tuple #[S.D0.agg, Value.bool true, Value.int IntKind.i64 0]))) else 
       (bif a.c == 1 then 
        (bif S.barred a b then some (Value.tuple #[a.agg, Value.bool false, Value.int IntKind.i64 0]) else 
         (bif S.check b then 
          (bif S.hasD b then 
           (bif S.check a then 
            (bif S.hasD a then some (Value.tuple #[(S.over a b).agg, Value.bool true, Value.int IntKind.i64 0]) else 
             (bif S.hasA a then 
              (bif b.e == 0 then 
               (bif b.c == 0 then 
                (bif S.check (D.mk b.v b.g b.t b.w a.e a.c) then some (Value.tuple #[(S.complete (D.mk b.v b.g b.t b.w a.e a.c)).agg, Value.bool true, Value.int IntKind.i64 0]) else some (Value.tuple #[S.D0.agg, Value.bool true, Value.int IntKind.i64 0])) else 
                (bif S.check (D.mk b.v b.g b.t b.w a.e b.c) then some (Value.tuple #[(S.complete (D.mk b.v b.g b.t b.w a.e b.c)).agg, Value.bool true, Value.int IntKind.i64 0]) else some (Value.tuple #[S.D0.agg, Value.bool true, Value.int IntKind.i64 0]))) else 
               (bif b.c == 0 then 
                (bif S.check (D.mk b.v b.g b.t b.w b.e a.c) then some (Value.tuple #[(S.complete (D.mk b.v b.g b.t b.w b.e a.c)).agg, Value.bool true, Value.int IntKind.i64 0]) else some (Value.tuple #[S.D0.agg, Value.bool true, Value.int IntKind.i64 0])) else 
                (bif S.check b then some (Value.tuple #[(S.complete b).agg, Value.bool true, Value.int IntKind.i64 0]) else some (Value.tuple #[S.D0.agg, Value.bool true, Value.int IntKind.i64 0])))) else 
              (bif b.e == 0 then 
               (bif b.c == 0 then 
                (bif S.check (D.mk b.v b.g b.t b.w a.e a.c) then some (Value.tuple #[(S.complete (D.mk b.v b.g b.t b.w a.e a.c)).agg, Value.bool true, Value.int IntKind.i64 0]) else some (Value.tuple #[S.D0.agg, Value.bool true, Value.int IntKind.i64 0])) else 
                (bif S.check (D.mk b.v b.g b.t b.w a.e b.c) then some (Value.tuple #[(S.complete (D.mk b.v b.g b.t b.w a.e b.c)).agg, Value.bool true, Value.int IntKind.i64 0]) else some (Value.tuple #[S.D0.agg, Value.bool true, Value.int IntKind.i64 0]))) else 
               (bif b.c == 0 then 
                (bif S.check (D.mk b.v b.g b.t b.w b.e a.c) then some (Value.tuple #[(S.complete (D.mk b.v b.g b.t b.w b.e a.c)).agg, Value.bool true, Value.int IntKind.i64 0]) else some (Value.tuple #[S.D0.agg, Value.bool true, Value.int IntKind.i64 0])) else 
                (bif S.check b then some (Value.tuple #[(S.complete b).agg, Value.bool true, Value.int IntKind.i64 0]) else some (Value.tuple #[S.D0.agg, Value.bool true, Value.int IntKind.i64 0])))))) else 
            (bif S.fields a then some (Value.tuple #[(S.over a b).agg, Value.bool true, Value.int IntKind.i64 0]) else 
             (bif b.e == 0 then 
              (bif b.c == 0 then 
               (bif S.check (D.mk b.v b.g b.t b.w a.e a.c) then some (Value.tuple #[(S.complete (D.mk b.v b.g b.t b.w a.e a.c)).agg, Value.bool true, Value.int IntKind.i64 0]) else some (Value.tuple #[S.D0.agg, Value.bool true, Value.int IntKind.i64 0])) else 
               (bif S.check (D.mk b.v b.g b.t b.w a.e b.c) then some (Value.tuple #[(S.complete (D.mk b.v b.g b.t b.w a.e b.c)).agg, Value.bool true, Value.int IntKind.i64 0]) else some (Value.tuple #[S.D0.agg, Value.bool true, Value.int IntKind.i64 0]))) else 
              (bif b.c == 0 then 
               (bif S.check (D.mk b.v b.g b.t b.w b.e a.c) then some (Value.tuple #[(S.complete (D.mk b.v b.g b.t b.w b.e a.c)).agg, Value.bool true, Value.int IntKind.i64 0]) else some (Value.tuple #[S.D0.agg, Value.bool true, Value.int IntKind.i64 0])) else 
               (bif S.check b then some (Value.tuple #[(S.complete b).agg, Value.bool true, Value.int IntKind.i64 0]) else some (Value.tuple #[S.D0.agg, Value.bool true, Value.int IntKind.i64 0])))))) else 
           (bif S.hasA b then 
            (bif S.check a then 
             (bif S.hasD a then 
              (bif b.e == 0 then 
               (bif b.c == 0 then 
                (bif S.check (D.mk b.v b.g b.t b.w a.e a.c) then some (Value.tuple #[(S.complete (D.mk b.v b.g b.t b.w a.e a.c)).agg, Value.bool true, Value.int IntKind.i64 0]) else some (Value.tuple #[S.D0.agg, Value.bool true, Value.int IntKind.i64 0])) else 
                (bif S.check (D.mk b.v b.g b.t b.w a.e b.c) then some (Value.tuple #[(S.complete (D.mk b.v b.g b.t b.w a.e b.c)).agg, Value.bool true, Value.int IntKind.i64 0]) else some (Value.tuple #[S.D0.agg, Value.bool true, Value.int IntKind.i64 0]))) else 
               (bif b.c == 0 then 
                (bif S.check (D.mk b.v b.g b.t b.w b.e a.c) then some (Value.tuple #[(S.complete (D.mk b.v b.g b.t b.w b.e a.c)).agg, Value.bool true, Value.int IntKind.i64 0]) else some (Value.tuple #[S.D0.agg, Value.bool true, Value.int IntKind.i64 0])) else 
                (bif S.check b then some (Value.tuple #[(S.complete b).agg, Value.bool true, Value.int IntKind.i64 0]) else some (Value.tuple #[S.D0.agg, Value.bool true, Value.int IntKind.i64 0])))) else 
              (bif S.hasA a then some (Value.tuple #[(S.over a b).agg, Value.bool true, Value.int IntKind.i64 0]) else 
               (bif b.e == 0 then 
                (bif b.c == 0 then 
                 (bif S.check (D.mk b.v b.g b.t b.w a.e a.c) then some (Value.tuple #[(S.complete (D.mk b.v b.g b.t b.w a.e a.c)).agg, Value.bool true, Value.int IntKind.i64 0]) else some (Value.tuple #[S.D0.agg, Value.bool true, Value.int IntKind.i64 0])) else 
                 (bif S.check (D.mk b.v b.g b.t b.w a.e b.c) then some (Value.tuple #[(S.complete (D.mk b.v b.g b.t b.w a.e b.c)).agg, Value.bool true, Value.int IntKind.i64 0]) else some (Value.tuple #[S.D0.agg, Value.bool true, Value.int IntKind.i64 0]))) else 
                (bif b.c == 0 then 
                 (bif S.check (D.mk b.v b.g b.t b.w b.e a.c) then some (Value.tuple #[(S.complete (D.mk b.v b.g b.t b.w b.e a.c)).agg, Value.bool true, Value.int IntKind.i64 0]) else some (Value.tuple #[S.D0.agg, Value.bool true, Value.int IntKind.i64 0])) else 
                 (bif S.check b then some (Value.tuple #[(S.complete b).agg, Value.bool true, Value.int IntKind.i64 0]) else some (Value.tuple #[S.D0.agg, Value.bool true, Value.int IntKind.i64 0])))))) else 
             (bif S.fields a then 
              (bif b.e == 0 then 
               (bif b.c == 0 then 
                (bif S.check (D.mk b.v b.g b.t b.w a.e a.c) then some (Value.tuple #[(S.complete (D.mk b.v b.g b.t b.w a.e a.c)).agg, Value.bool true, Value.int IntKind.i64 0]) else some (Value.tuple #[S.D0.agg, Value.bool true, Value.int IntKind.i64 0])) else 
                (bif S.check (D.mk b.v b.g b.t b.w a.e b.c) then some (Value.tuple #[(S.complete (D.mk b.v b.g b.t b.w a.e b.c)).agg, Value.bool true, Value.int IntKind.i64 0]) else some (Value.tuple #[S.D0.agg, Value.bool true, Value.int IntKind.i64 0]))) else 
               (bif b.c == 0 then 
                (bif S.check (D.mk b.v b.g b.t b.w b.e a.c) then some (Value.tuple #[(S.complete (D.mk b.v b.g b.t b.w b.e a.c)).agg, Value.bool true, Value.int IntKind.i64 0]) else some (Value.tuple #[S.D0.agg, Value.bool true, Value.int IntKind.i64 0])) else 
                (bif S.check b then some (Value.tuple #[(S.complete b).agg, Value.bool true, Value.int IntKind.i64 0]) else some (Value.tuple #[S.D0.agg, Value.bool true, Value.int IntKind.i64 0])))) else 
              (bif b.e == 0 then 
               (bif b.c == 0 then 
                (bif S.check (D.mk b.v b.g b.t b.w a.e a.c) then some (Value.tuple #[(S.complete (D.mk b.v b.g b.t b.w a.e a.c)).agg, Value.bool true, Value.int IntKind.i64 0]) else some (Value.tuple #[S.D0.agg, Value.bool true, Value.int IntKind.i64 0])) else 
                (bif S.check (D.mk b.v b.g b.t b.w a.e b.c) then some (Value.tuple #[(S.complete (D.mk b.v b.g b.t b.w a.e b.c)).agg, Value.bool true, Value.int IntKind.i64 0]) else some (Value.tuple #[S.D0.agg, Value.bool true, Value.int IntKind.i64 0]))) else 
               (bif b.c == 0 then 
                (bif S.check (D.mk b.v b.g b.t b.w b.e a.c) then some (Value.tuple #[(S.complete (D.mk b.v b.g b.t b.w b.e a.c)).agg, Value.bool true, Value.int IntKind.i64 0]) else some (Value.tuple #[S.D0.agg, Value.bool true, Value.int IntKind.i64 0])) else 
                (bif S.check b then some (Value.tuple #[(S.complete b).agg, Value.bool true, Value.int IntKind.i64 0]) else some (Value.tuple #[S.D0.agg, Value.bool true, Value.int IntKind.i64 0])))))) else 
            (bif S.check a then 
             (bif S.hasD a then some (Value.tuple #[(S.over a b).agg, Value.bool true, Value.int IntKind.i64 0]) else 
              (bif S.hasA a then some (Value.tuple #[(S.over a b).agg, Value.bool true, Value.int IntKind.i64 0]) else some (Value.tuple #[(S.over a b).agg, Value.bool true, Value.int IntKind.i64 0]))) else 
             (bif S.fields a then some (Value.tuple #[(S.over a b).agg, Value.bool true, Value.int IntKind.i64 0]) else some (Value.tuple #[(S.over a b).agg, Value.bool true, Value.int IntKind.i64 0]))))) else 
          (bif S.fields b then 
           (bif S.check a then 
            (bif S.hasD a then some (Value.tuple #[(S.over a b).agg, Value.bool true, Value.int IntKind.i64 0]) else 
             (bif S.hasA a then 
              (bif b.e == 0 then 
               (bif b.c == 0 then 
                (bif S.check (D.mk b.v b.g b.t b.w a.e a.c) then some (Value.tuple #[(S.complete (D.mk b.v b.g b.t b.w a.e a.c)).agg, Value.bool true, Value.int IntKind.i64 0]) else some (Value.tuple #[S.D0.agg, Value.bool true, Value.int IntKind.i64 0])) else 
                (bif S.check (D.mk b.v b.g b.t b.w a.e b.c) then some (Value.tuple #[(S.complete (D.mk b.v b.g b.t b.w a.e b.c)).agg, Value.bool true, Value.int IntKind.i64 0]) else some (Value.tuple #[S.D0.agg, Value.bool true, Value.int IntKind.i64 0]))) else 
               (bif b.c == 0 then 
                (bif S.check (D.mk b.v b.g b.t b.w b.e a.c) then some (Value.tuple #[(S.complete (D.mk b.v b.g b.t b.w b.e a.c)).agg, Value.bool true, Value.int IntKind.i64 0]) else some (Value.tuple #[S.D0.agg, Value.bool true, Value.int IntKind.i64 0])) else 
                (bif S.check b then some (Value.tuple #[(S.complete b).agg, Value.bool true, Value.int IntKind.i64 0]) else some (Value.tuple #[S.D0.agg, Value.bool true, Value.int IntKind.i64 0])))) else 
              (bif b.e == 0 then 
               (bif b.c == 0 then 
                (bif S.check (D.mk b.v b.g b.t b.w a.e a.c) then some (Value.tuple #[(S.complete (D.mk b.v b.g b.t b.w a.e a.c)).agg, Value.bool true, Value.int IntKind.i64 0]) else some (Value.tuple #[S.D0.agg, Value.bool true, Value.int IntKind.i64 0])) else 
                (bif S.check (D.mk b.v b.g b.t b.w a.e b.c) then some (Value.tuple #[(S.complete (D.mk b.v b.g b.t b.w a.e b.c)).agg, Value.bool true, Value.int IntKind.i64 0]) else some (Value.tuple #[S.D0.agg, Value.bool true, Value.int IntKind.i64 0]))) else 
               (bif b.c == 0 then 
                (bif S.check (D.mk b.v b.g b.t b.w b.e a.c) then some (Value.tuple #[(S.complete (D.mk b.v b.g b.t b.w b.e a.c)).agg, Value.bool true, Value.int IntKind.i64 0]) else some (Value.tuple #[S.D0.agg, Value.bool true, Value.int IntKind.i64 0])) else 
                (bif S.check b then some (Value.tuple #[(S.complete b).agg, Value.bool true, Value.int IntKind.i64 0]) else some (Value.tuple #[S.D0.agg, Value.bool true, Value.int IntKind.i64 0])))))) else 
            (bif S.fields a then some (Value.tuple #[(S.over a b).agg, Value.bool true, Value.int IntKind.i64 0]) else 
             (bif b.e == 0 then 
              (bif b.c == 0 then 
               (bif S.check (D.mk b.v b.g b.t b.w a.e a.c) then some (Value.tuple #[(S.complete (D.mk b.v b.g b.t b.w a.e a.c)).agg, Value.bool true, Value.int IntKind.i64 0]) else some (Value.tuple #[S.D0.agg, Value.bool true, Value.int IntKind.i64 0])) else 
               (bif S.check (D.mk b.v b.g b.t b.w a.e b.c) then some (Value.tuple #[(S.complete (D.mk b.v b.g b.t b.w a.e b.c)).agg, Value.bool true, Value.int IntKind.i64 0]) else some (Value.tuple #[S.D0.agg, Value.bool true, Value.int IntKind.i64 0]))) else 
              (bif b.c == 0 then 
               (bif S.check (D.mk b.v b.g b.t b.w b.e a.c) then some (Value.tuple #[(S.complete (D.mk b.v b.g b.t b.w b.e a.c)).agg, Value.bool true, Value.int IntKind.i64 0]) else some (Value.tuple #[S.D0.agg, Value.bool true, Value.int IntKind.i64 0])) else 
               (bif S.check b then some (Value.tuple #[(S.complete b).agg, Value.bool true, Value.int IntKind.i64 0]) else some (Value.tuple #[S.D0.agg, Value.bool true, Value.int IntKind.i64 0])))))) else 
           (bif S.check a then 
            (bif S.hasD a then some (Value.tuple #[(S.over a b).agg, Value.bool true, Value.int IntKind.i64 0]) else 
             (bif S.hasA a then some (Value.tuple #[(S.over a b).agg, Value.bool true, Value.int IntKind.i64 0]) else some (Value.tuple #[(S.over a b).agg, Value.bool true, Value.int IntKind.i64 0]))) else 
            (bif S.fields a then some (Value.tuple #[(S.over a b).agg, Value.bool true, Value.int IntKind.i64 0]) else some (Value.tuple #[(S.over a b).agg, Value.bool true, Value.int IntKind.i64 0])))))) else 
        (bif S.check b then 
         (bif S.hasD b then 
          (bif S.check a then 
           (bif S.hasD a then some (Value.tuple #[(S.over a b).agg, Value.bool true, Value.int IntKind.i64 0]) else 
            (bif S.hasA a then 
             (bif b.e == 0 then 
              (bif b.c == 0 then 
               (bif S.check (D.mk b.v b.g b.t b.w a.e a.c) then some (Value.tuple #[(S.complete (D.mk b.v b.g b.t b.w a.e a.c)).agg, Value.bool true, Value.int IntKind.i64 0]) else some (Value.tuple #[S.D0.agg, Value.bool true, Value.int IntKind.i64 0])) else 
               (bif S.check (D.mk b.v b.g b.t b.w a.e b.c) then some (Value.tuple #[(S.complete (D.mk b.v b.g b.t b.w a.e b.c)).agg, Value.bool true, Value.int IntKind.i64 0]) else some (Value.tuple #[S.D0.agg, Value.bool true, Value.int IntKind.i64 0]))) else 
              (bif b.c == 0 then 
               (bif S.check (D.mk b.v b.g b.t b.w b.e a.c) then some (Value.tuple #[(S.complete (D.mk b.v b.g b.t b.w b.e a.c)).agg, Value.bool true, Value.int IntKind.i64 0]) else some (Value.tuple #[S.D0.agg, Value.bool true, Value.int IntKind.i64 0])) else 
               (bif S.check b then some (Value.tuple #[(S.complete b).agg, Value.bool true, Value.int IntKind.i64 0]) else some (Value.tuple #[S.D0.agg, Value.bool true, Value.int IntKind.i64 0])))) else 
             (bif b.e == 0 then 
              (bif b.c == 0 then 
               (bif S.check (D.mk b.v b.g b.t b.w a.e a.c) then some (Value.tuple #[(S.complete (D.mk b.v b.g b.t b.w a.e a.c)).agg, Value.bool true, Value.int IntKind.i64 0]) else some (Value.tuple #[S.D0.agg, Value.bool true, Value.int IntKind.i64 0])) else 
               (bif S.check (D.mk b.v b.g b.t b.w a.e b.c) then some (Value.tuple #[(S.complete (D.mk b.v b.g b.t b.w a.e b.c)).agg, Value.bool true, Value.int IntKind.i64 0]) else some (Value.tuple #[S.D0.agg, Value.bool true, Value.int IntKind.i64 0]))) else 
              (bif b.c == 0 then 
               (bif S.check (D.mk b.v b.g b.t b.w b.e a.c) then some (Value.tuple #[(S.complete (D.mk b.v b.g b.t b.w b.e a.c)).agg, Value.bool true, Value.int IntKind.i64 0]) else some (Value.tuple #[S.D0.agg, Value.bool true, Value.int IntKind.i64 0])) else 
               (bif S.check b then some (Value.tuple #[(S.complete b).agg, Value.bool true, Value.int IntKind.i64 0]) else some (Value.tuple #[S.D0.agg, Value.bool true, Value.int IntKind.i64 0])))))) else 
           (bif S.fields a then some (Value.tuple #[(S.over a b).agg, Value.bool true, Value.int IntKind.i64 0]) else 
            (bif b.e == 0 then 
             (bif b.c == 0 then 
              (bif S.check (D.mk b.v b.g b.t b.w a.e a.c) then some (Value.tuple #[(S.complete (D.mk b.v b.g b.t b.w a.e a.c)).agg, Value.bool true, Value.int IntKind.i64 0]) else some (Value.tuple #[S.D0.agg, Value.bool true, Value.int IntKind.i64 0])) else 
              (bif S.check (D.mk b.v b.g b.t b.w a.e b.c) then some (Value.tuple #[(S.complete (D.mk b.v b.g b.t b.w a.e b.c)).agg, Value.bool true, Value.int IntKind.i64 0]) else some (Value.tuple #[S.D0.agg, Value.bool true, Value.int IntKind.i64 0]))) else 
             (bif b.c == 0 then 
              (bif S.check (D.mk b.v b.g b.t b.w b.e a.c) then some (Value.tuple #[(S.complete (D.mk b.v b.g b.t b.w b.e a.c)).agg, Value.bool true, Value.int IntKind.i64 0]) else some (Value.tuple #[S.D0.agg, Value.bool true, Value.int IntKind.i64 0])) else 
              (bif S.check b then some (Value.tuple #[(S.complete b).agg, Value.bool true, Value.int IntKind.i64 0]) else some (Value.tuple #[S.D0.agg, Value.bool true, Value.int IntKind.i64 0])))))) else 
          (bif S.hasA b then 
           (bif S.check a then 
            (bif S.hasD a then 
             (bif b.e == 0 then 
              (bif b.c == 0 then 
               (bif S.check (D.mk b.v b.g b.t b.w a.e a.c) then some (Value.tuple #[(S.complete (D.mk b.v b.g b.t b.w a.e a.c)).agg, Value.bool true, Value.int IntKind.i64 0]) else some (Value.tuple #[S.D0.agg, Value.bool true, Value.int IntKind.i64 0])) else 
               (bif S.check (D.mk b.v b.g b.t b.w a.e b.c) then some (Value.tuple #[(S.complete (D.mk b.v b.g b.t b.w a.e b.c)).agg, Value.bool true, Value.int IntKind.i64 0]) else some (Value.tuple #[S.D0.agg, Value.bool true, Value.int IntKind.i64 0]))) else 
              (bif b.c == 0 then 
               (bif S.check (D.mk b.v b.g b.t b.w b.e a.c) then some (Value.tuple #[(S.complete (D.mk b.v b.g b.t b.w b.e a.c)).agg, Value.bool true, Value.int IntKind.i64 0]) else some (Value.tuple #[S.D0.agg, Value.bool true, Value.int IntKind.i64 0])) else 
               (bif S.check b then some (Value.tuple #[(S.complete b).agg, Value.bool true, Value.int IntKind.i64 0]) else some (Value.tuple #[S.D0.agg, Value.bool true, Value.int IntKind.i64 0])))) else 
             (bif S.hasA a then some (Value.tuple #[(S.over a b).agg, Value.bool true, Value.int IntKind.i64 0]) else 
              (bif b.e == 0 then 
               (bif b.c == 0 then 
                (bif S.check (D.mk b.v b.g b.t b.w a.e a.c) then some (Value.tuple #[(S.complete (D.mk b.v b.g b.t b.w a.e a.c)).agg, Value.bool true, Value.int IntKind.i64 0]) else some (Value.tuple #[S.D0.agg, Value.bool true, Value.int IntKind.i64 0])) else 
                (bif S.check (D.mk b.v b.g b.t b.w a.e b.c) then some (Value.tuple #[(S.complete (D.mk b.v b.g b.t b.w a.e b.c)).agg, Value.bool true, Value.int IntKind.i64 0]) else some (Value.tuple #[S.D0.agg, Value.bool true, Value.int IntKind.i64 0]))) else 
               (bif b.c == 0 then 
                (bif S.check (D.mk b.v b.g b.t b.w b.e a.c) then some (Value.tuple #[(S.complete (D.mk b.v b.g b.t b.w b.e a.c)).agg, Value.bool true, Value.int IntKind.i64 0]) else some (Value.tuple #[S.D0.agg, Value.bool true, Value.int IntKind.i64 0])) else 
                (bif S.check b then some (Value.tuple #[(S.complete b).agg, Value.bool true, Value.int IntKind.i64 0]) else some (Value.tuple #[S.D0.agg, Value.bool true, Value.int IntKind.i64 0])))))) else 
            (bif S.fields a then 
             (bif b.e == 0 then 
              (bif b.c == 0 then 
               (bif S.check (D.mk b.v b.g b.t b.w a.e a.c) then some (Value.tuple #[(S.complete (D.mk b.v b.g b.t b.w a.e a.c)).agg, Value.bool true, Value.int IntKind.i64 0]) else some (Value.tuple #[S.D0.agg, Value.bool true, Value.int IntKind.i64 0])) else 
               (bif S.check (D.mk b.v b.g b.t b.w a.e b.c) then some (Value.tuple #[(S.complete (D.mk b.v b.g b.t b.w a.e b.c)).agg, Value.bool true, Value.int IntKind.i64 0]) else some (Value.tuple #[S.D0.agg, Value.bool true, Value.int IntKind.i64 0]))) else 
              (bif b.c == 0 then 
               (bif S.check (D.mk b.v b.g b.t b.w b.e a.c) then some (Value.tuple #[(S.complete (D.mk b.v b.g b.t b.w b.e a.c)).agg, Value.bool true, Value.int IntKind.i64 0]) else some (Value.tuple #[S.D0.agg, Value.bool true, Value.int IntKind.i64 0])) else 
               (bif S.check b then some (Value.tuple #[(S.complete b).agg, Value.bool true, Value.int IntKind.i64 0]) else some (Value.tuple #[S.D0.agg, Value.bool true, Value.int IntKind.i64 0])))) else 
             (bif b.e == 0 then 
              (bif b.c == 0 then 
               (bif S.check (D.mk b.v b.g b.t b.w a.e a.c) then some (Value.tuple #[(S.complete (D.mk b.v b.g b.t b.w a.e a.c)).agg, Value.bool true, Value.int IntKind.i64 0]) else some (Value.tuple #[S.D0.agg, Value.bool true, Value.int IntKind.i64 0])) else 
               (bif S.check (D.mk b.v b.g b.t b.w a.e b.c) then some (Value.tuple #[(S.complete (D.mk b.v b.g b.t b.w a.e b.c)).agg, Value.bool true, Value.int IntKind.i64 0]) else some (Value.tuple #[S.D0.agg, Value.bool true, Value.int IntKind.i64 0]))) else 
              (bif b.c == 0 then 
               (bif S.check (D.mk b.v b.g b.t b.w b.e a.c) then some (Value.tuple #[(S.complete (D.mk b.v b.g b.t b.w b.e a.c)).agg, Value.bool true, Value.int IntKind.i64 0]) else some (Value.tuple #[S.D0.agg, Value.bool true, Value.int IntKind.i64 0])) else 
               (bif S.check b then some (Value.tuple #[(S.complete b).agg, Value.bool true, Value.int IntKind.i64 0]) else some (Value.tuple #[S.D0.agg, Value.bool true, Value.int IntKind.i64 0])))))) else 
           (bif S.check a then 
            (bif S.hasD a then some (Value.tuple #[(S.over a b).agg, Value.bool true, Value.int IntKind.i64 0]) else 
             (bif S.hasA a then some (Value.tuple #[(S.over a b).agg, Value.bool true, Value.int IntKind.i64 0]) else some (Value.tuple #[(S.over a b).agg, Value.bool true, Value.int IntKind.i64 0]))) else 
            (bif S.fields a then some (Value.tuple #[(S.over a b).agg, Value.bool true, Value.int IntKind.i64 0]) else some (Value.tuple #[(S.over a b).agg, Value.bool true, Value.int IntKind.i64 0]))))) else 
         (bif S.fields b then 
          (bif S.check a then 
           (bif S.hasD a then some (Value.tuple #[(S.over a b).agg, Value.bool true, Value.int IntKind.i64 0]) else 
            (bif S.hasA a then 
             (bif b.e == 0 then 
              (bif b.c == 0 then 
               (bif S.check (D.mk b.v b.g b.t b.w a.e a.c) then some (Value.tuple #[(S.complete (D.mk b.v b.g b.t b.w a.e a.c)).agg, Value.bool true, Value.int IntKind.i64 0]) else some (Value.tuple #[S.D0.agg, Value.bool true, Value.int IntKind.i64 0])) else 
               (bif S.check (D.mk b.v b.g b.t b.w a.e b.c) then some (Value.tuple #[(S.complete (D.mk b.v b.g b.t b.w a.e b.c)).agg, Value.bool true, Value.int IntKind.i64 0]) else some (Value.tuple #[S.D0.agg, Value.bool true, Value.int IntKind.i64 0]))) else 
              (bif b.c == 0 then 
               (bif S.check (D.mk b.v b.g b.t b.w b.e a.c) then some (Value.tuple #[(S.complete (D.mk b.v b.g b.t b.w b.e a.c)).agg, Value.bool true, Value.int IntKind.i64 0]) else some (Value.tuple #[S.D0.agg, Value.bool true, Value.int IntKind.i64 0])) else 
               (bif S.check b then some (Value.tuple #[(S.complete b).agg, Value.bool true, Value.int IntKind.i64 0]) else some (Value.tuple #[S.D0.agg, Value.bool true, Value.int IntKind.i64 0])))) else 
             (bif b.e == 0 then 
              (bif b.c == 0 then 
               (bif S.check (D.mk b.v b.g b.t b.w a.e a.c) then some (Value.tuple #[(S.complete (D.mk b.v b.g b.t b.w a.e a.c)).agg, Value.bool true, Value.int IntKind.i64 0]) else some (Value.tuple #[S.D0.agg, Value.bool true, Value.int IntKind.i64 0])) else 
               (bif S.check (D.mk b.v b.g b.t b.w a.e b.c) then some (Value.tuple #[(S.complete (D.mk b.v b.g b.t b.w a.e b.c)).agg, Value.bool true, Value.int IntKind.i64 0]) else some (Value.tuple #[S.D0.agg, Value.bool true, Value.int IntKind.i64 0]))) else 
              (bif b.c == 0 then 
               (bif S.check (D.mk b.v b.g b.t b.w b.e a.c) then some (Value.tuple #[(S.complete (D.mk b.v b.g b.t b.w b.e a.c)).agg, Value.bool true, Value.int IntKind.i64 0]) else some (Value.tuple #[S.D0.agg, Value.bool true, Value.int IntKind.i64 0])) else 
               (bif S.check b then some (Value.tuple #[(S.complete b).agg, Value.bool true, Value.int IntKind.i64 0]) else some (Value.tuple #[S.D0.agg, Value.bool true, Value.int IntKind.i64 0])))))) else 
           (bif S.fields a then some (Value.tuple #[(S.over a b).agg, Value.bool true, Value.int IntKind.i64 0]) else 
            (bif b.e == 0 then 
             (bif b.c == 0 then 
              (bif S.check (D.mk b.v b.g b.t b.w a.e a.c) then some (Value.tuple #[(S.complete (D.mk b.v b.g b.t b.w a.e a.c)).agg, Value.bool true, Value.int IntKind.i64 0]) else some (Value.tuple #[S.D0.agg, Value.bool true, Value.int IntKind.i64 0])) else 
              (bif S.check (D.mk b.v b.g b.t b.w a.e b.c) then some (Value.tuple #[(S.complete (D.mk b.v b.g b.t b.w a.e b.c)).agg, Value.bool true, Value.int IntKind.i64 0]) else some (Value.tuple #[S.D0.agg, Value.bool true, Value.int IntKind.i64 0]))) else 
             (bif b.c == 0 then 
              (bif S.check (D.mk b.v b.g b.t b.w b.e a.c) then some (Value.tuple #[(S.complete (D.mk b.v b.g b.t b.w b.e a.c)).agg, Value.bool true, Value.int IntKind.i64 0]) else some (Value.tuple #[S.D0.agg, Value.bool true, Value.int IntKind.i64 0])) else 
              (bif S.check b then some (Value.tuple #[(S.complete b).agg, Value.bool true, Value.int IntKind.i64 0]) else some (Value.tuple #[S.D0.agg, Value.bool true, Value.int IntKind.i64 0])))))) else 
          (bif S.check a then 
           (bif S.hasD a then some (Value.tuple #[(S.over a b).agg, Value.bool true, Value.int IntKind.i64 0]) else 
            (bif S.hasA a then some (Value.tuple #[(S.over a b).agg, Value.bool true, Value.int IntKind.i64 0]) else some (Value.tuple #[(S.over a b).agg, Value.bool true, Value.int IntKind.i64 0]))) else 
           (bif S.fields a then some (Value.tuple #[(S.over a b).agg, Value.bool true, Value.int IntKind.i64 0]) else some (Value.tuple #[(S.over a b).agg, Value.bool true, Value.int IntKind.i64 0])))))))) else some (Value.tuple #[(D.mk (V.mk 0 false 0 (ByteArray.mk #[]) 0) (V.mk 0 false 0 (ByteArray.mk #[]) 0) (V.mk 0 false 0 (ByteArray.mk #[]) 0) 0 0 0).agg, Value.bool false, Value.int IntKind.i64 5]))) (by kernel_rfl) (by
    obtain ⟨bv, bg, bt, bw, be, bc⟩ := b
    simp only [T.apply, DT.val_node, DT.val_leaf, DT.bind, DT.val_bad]
    repeat' (first | (with_reducible refine bif_neq (fun h => ?_) (fun h => ?_)) | (with_reducible refine bif_and (fun h => ?_) (fun h => ?_)) | (with_reducible refine bif_eq (fun h => ?_) (fun h => ?_)))
    all_goals first | (simp only [*, S.apply, S.okA, S.kindN, S.compl, S.turn, S.no, S.V0, S.D0, D.eta, cond_true, cond_false, Bool.and_true, Bool.true_and, Bool.and_false, Bool.false_and, Bool.or_true, Bool.true_or, Bool.or_false, Bool.false_or, Bool.not_true, Bool.not_false, beq_self_eq_true, bne_self_eq_false, Bool.not_not]; done) | (exfalso; simp_all; done) | (simp_all [S.apply, S.okA, S.kindN, S.compl, S.turn, S.no, S.V0, S.D0, D.eta]; done) | grind [S.apply, S.okA, S.kindN, S.compl, S.turn, S.no, S.V0, S.D0, D.eta])
theorem ent_apply : E (28, onBDD T.apply) := byEv Hents21 60 fun args t h => by
  obtain ⟨x, a, b, rfl, rfl⟩ := onBDD_eq h
  exact ev_apply x a b
abbrev HL22 : Tab := (28, onBDD T.apply) :: HL21
theorem Hents22 : ∀ p ∈ HL22, E p := entries_cons ent_apply Hents21
set_option maxHeartbeats 4000000 in
theorem ev_keeps (a b : D) : evFn Tryd.prog ext (tab HL22) 60 30 [a.agg, b.agg] = (T.keeps a b).val :=
  Eq.trans (b := 
    (bif !S.whole a then 
     (bif !S.zero a then some (Value.tuple #[Value.bool false, Value.int IntKind.i64 5]) else 
      (bif !S.whole b then 
       (bif !S.zero b then some (Value.tuple #[Value.bool false, Value.int IntKind.i64 5]) else 
        (bif S.zero a then some (Value.tuple #[Value.bool true, Value.int IntKind.i64 0]) else 
         (bif a.c == 2 then some (Value.tuple #[Value.bool true, Value.int IntKind.i64 0]) else 
          (bif S.zero b then some (Value.tuple #[Value.bool false, Value.int IntKind.i64 0]) else 
           (bif b.c != 1 then some (Value.tuple #[Value.bool false, Value.int IntKind.i64 0]) else 
            (bif b.e != a.e then some (Value.tuple #[Value.bool false, Value.int IntKind.i64 0]) else 
             (bif !S.isA a == S.isA b then some (Value.tuple #[Value.bool false, Value.int IntKind.i64 0]) else 
              (bif S.isA a then 
               (bif S.alike a.g b.g then some (Value.tuple #[Value.bool (S.alike a.t b.t), Value.int IntKind.i64 0]) else some (Value.tuple #[Value.bool false, Value.int IntKind.i64 0])) else 
               (bif a.w == 2 then some (Value.tuple #[Value.bool true, Value.int IntKind.i64 0]) else 
                (bif b.w == 1 then some (Value.tuple #[Value.bool (S.alike a.v b.v), Value.int IntKind.i64 0]) else some (Value.tuple #[Value.bool false, Value.int IntKind.i64 0]))))))))))) else 
       (bif S.zero a then some (Value.tuple #[Value.bool true, Value.int IntKind.i64 0]) else 
        (bif a.c == 2 then some (Value.tuple #[Value.bool true, Value.int IntKind.i64 0]) else 
         (bif S.zero b then some (Value.tuple #[Value.bool false, Value.int IntKind.i64 0]) else 
          (bif b.c != 1 then some (Value.tuple #[Value.bool false, Value.int IntKind.i64 0]) else 
           (bif b.e != a.e then some (Value.tuple #[Value.bool false, Value.int IntKind.i64 0]) else 
            (bif !S.isA a == S.isA b then some (Value.tuple #[Value.bool false, Value.int IntKind.i64 0]) else 
             (bif S.isA a then 
              (bif S.alike a.g b.g then some (Value.tuple #[Value.bool (S.alike a.t b.t), Value.int IntKind.i64 0]) else some (Value.tuple #[Value.bool false, Value.int IntKind.i64 0])) else 
              (bif a.w == 2 then some (Value.tuple #[Value.bool true, Value.int IntKind.i64 0]) else 
               (bif b.w == 1 then some (Value.tuple #[Value.bool (S.alike a.v b.v), Value.int IntKind.i64 0]) else some (Value.tuple #[Value.bool false, Value.int IntKind.i64 0])))))))))))) else 
     (bif !S.whole b then 
      (bif !S.zero b then some (Value.tuple #[Value.bool false, Value.int IntKind.i64 5]) else 
       (bif S.zero a then some (Value.tuple #[Value.bool true, Value.int IntKind.i64 0]) else 
        (bif a.c == 2 then some (Value.tuple #[Value.bool true, Value.int IntKind.i64 0]) else 
         (bif S.zero b then some (Value.tuple #[Value.bool false, Value.int IntKind.i64 0]) else 
          (bif b.c != 1 then some (Value.tuple #[Value.bool false, Value.int IntKind.i64 0]) else 
           (bif b.e != a.e then some (Value.tuple #[Value.bool false, Value.int IntKind.i64 0]) else 
            (bif !S.isA a == S.isA b then some (Value.tuple #[Value.bool false, Value.int IntKind.i64 0]) else 
             (bif S.isA a then 
              (bif S.alike a.g b.g then some (Value.tuple #[Value.bool (S.alike a.t b.t), Value.int IntKind.i64 0]) else some (Value.tuple #[Value.bool false, Value.int IntKind.i64 0])) else 
              (bif a.w == 2 then some (Value.tuple #[Value.bool true, Value.int IntKind.i64 0]) else 
               (bif b.w == 1 then some (Value.tuple #[Value.bool (S.alike a.v b.v), Value.int IntKind.i64 0]) else some (Value.tuple #[Value.bool false, Value.int IntKind.i64 0]))))))))))) else 
      (bif S.zero a then some (Value.tuple #[Value.bool true, Value.int IntKind.i64 0]) else 
       (bif a.c == 2 then some (Value.tuple #[Value.bool true, Value.int IntKind.i64 0]) else 
        (bif S.zero b then some (Value.tuple #[Value.bool false, Value.int IntKind.i64 0]) else 
         (bif b.c != 1 then some (Value.tuple #[Value.bool false, Value.int IntKind.i64 0]) else 
          (bif b.e != a.e then some (Value.tuple #[Value.bool false, Value.int IntKind.i64 0]) else 
           (bif !S.isA a == S.isA b then some (Value.tuple #[Value.bool false, Value.int IntKind.i64 0]) else 
            (bif S.isA a then 
             (bif S.alike a.g b.g then some (Value.tuple #[Value.bool (S.alike a.t b.t), Value.int IntKind.i64 0]) else some (Value.tuple #[Value.bool false, Value.int IntKind.i64 0])) else 
             (bif a.w == 2 then some (Value.tuple #[Value.bool true, Value.int IntKind.i64 0]) else 
              (bif b.w == 1 then some (Value.tuple #[Value.bool (S.alike a.v b.v), Value.int IntKind.i64 0]) else some (Value.tuple #[Value.bool false, Value.int IntKind.i64 0]))))))))))))) (by kernel_rfl) (by
    simp only [T.keeps, DT.val_node, DT.val_leaf, DT.bind, DT.val_bad]
    repeat' (first | (with_reducible refine bif_neq (fun h => ?_) (fun h => ?_)) | (with_reducible refine bif_and (fun h => ?_) (fun h => ?_)) | (with_reducible refine bif_eq (fun h => ?_) (fun h => ?_)))
    all_goals first | (simp only [*, S.keeps, S.okK, cond_true, cond_false, Bool.and_true, Bool.true_and, Bool.and_false, Bool.false_and, Bool.or_true, Bool.true_or, Bool.or_false, Bool.false_or, Bool.not_true, Bool.not_false, beq_self_eq_true, bne_self_eq_false, Bool.not_not]; done) | (exfalso; simp_all; done) | (simp_all [S.keeps, S.okK]; done) | grind [S.keeps, S.okK])
theorem ent_keeps : E (30, onDD T.keeps) := byEv Hents22 60 fun args t h => by
  obtain ⟨a, b, rfl, rfl⟩ := onDD_eq h
  exact ev_keeps a b
abbrev HL23 : Tab := (30, onDD T.keeps) :: HL22
theorem Hents23 : ∀ p ∈ HL23, E p := entries_cons ent_keeps Hents22
set_option maxHeartbeats 4000000 in
theorem ev_eqV (a b : V) : evFn Tryd.prog ext (tab HL23) 40 29 [a.agg, b.agg] = (T.eqV a b).val :=
  Eq.trans (b := 
    (bif (↑a.n : Int) == (↑b.n : Int) then 
     (bif a.k == b.k then 
      (bif a.b == b.b then 
       (bif a.s.toList == b.s.toList then some (Value.bool (a.id == b.id)) else some (Value.bool false)) else some (Value.bool false)) else some (Value.bool false)) else 
     (bif FloatKind.f64.format.order a.n a.n != some Ordering.eq then 
      (bif FloatKind.f64.format.order b.n b.n != some Ordering.eq then 
       (bif a.k == b.k then 
        (bif a.b == b.b then 
         (bif a.s.toList == b.s.toList then some (Value.bool (a.id == b.id)) else some (Value.bool false)) else some (Value.bool false)) else some (Value.bool false)) else some (Value.bool false)) else some (Value.bool false)))) (by kernel_rfl) (by
    simp only [T.eqV, T.B, DT.val_node, DT.val_leaf, DT.bind, DT.val_bad]
    repeat' (first | (with_reducible refine bif_neq (fun h => ?_) (fun h => ?_)) | (with_reducible refine bif_and (fun h => ?_) (fun h => ?_)) | (with_reducible refine bif_eq (fun h => ?_) (fun h => ?_)))
    all_goals first | (simp only [*, S.eqV, S.nan, cond_true, cond_false, Bool.and_true, Bool.true_and, Bool.and_false, Bool.false_and, Bool.or_true, Bool.true_or, Bool.or_false, Bool.false_or, Bool.not_true, Bool.not_false, beq_self_eq_true, bne_self_eq_false, Bool.not_not]; done) | (exfalso; simp_all; done) | (simp_all [S.eqV, S.nan]; done) | grind [S.eqV, S.nan])
theorem ent_eqV : E (29, onVV T.eqV) := byEv Hents23 40 fun args t h => by
  obtain ⟨a, b, rfl, rfl⟩ := onVV_eq h
  exact ev_eqV a b
abbrev HL24 : Tab := (29, onVV T.eqV) :: HL23
theorem Hents24 : ∀ p ∈ HL24, E p := entries_cons ent_eqV Hents23
set_option maxHeartbeats 4000000 in
theorem ev_eqD (a b : D) : evFn Tryd.prog ext (tab HL24) 40 17 [a.agg, b.agg] = (T.eqD a b).val :=
  Eq.trans (b := 
    (bif S.eqV a.v b.v then 
     (bif S.eqV a.g b.g then 
      (bif S.eqV a.t b.t then 
       (bif a.w == b.w then 
        (bif a.e == b.e then some (Value.bool (a.c == b.c)) else some (Value.bool false)) else some (Value.bool false)) else some (Value.bool false)) else some (Value.bool false)) else some (Value.bool false))) (by kernel_rfl) (by
    simp only [T.eqD, T.B, DT.val_node, DT.val_leaf, DT.bind, DT.val_bad]
    repeat' (first | (with_reducible refine bif_neq (fun h => ?_) (fun h => ?_)) | (with_reducible refine bif_and (fun h => ?_) (fun h => ?_)) | (with_reducible refine bif_eq (fun h => ?_) (fun h => ?_)))
    all_goals first | (simp only [*, S.eqD, cond_true, cond_false, Bool.and_true, Bool.true_and, Bool.and_false, Bool.false_and, Bool.or_true, Bool.true_or, Bool.or_false, Bool.false_or, Bool.not_true, Bool.not_false, beq_self_eq_true, bne_self_eq_false, Bool.not_not]; done) | (exfalso; simp_all; done) | (simp_all [S.eqD]; done) | grind [S.eqD])
theorem ent_eqD : E (17, onDD T.eqD) := byEv Hents24 40 fun args t h => by
  obtain ⟨a, b, rfl, rfl⟩ := onDD_eq h
  exact ev_eqD a b
abbrev HL25 : Tab := (17, onDD T.eqD) :: HL24
theorem Hents25 : ∀ p ∈ HL25, E p := entries_cons ent_eqD Hents24
end Go.Proofs.YtaojjpdlfnphiaaDoor.PDescKinds
end
section
/- Contracts by evaluation: what each function of a list answers. Written by a program of this session. -/
namespace Go.Proofs.YtaojjpdlfnphiaaDoor.PDescKinds
open Go.RowKit Go.Ev
set_option linter.unusedSimpArgs false
set_option linter.unusedVariables false
set_option maxRecDepth 100000
set_option maxHeartbeats 4000000 in
theorem ev_awake : evFn Tryd.prog ext (tab HL25) 80 27 [] = ((T.B true)).val :=
  Eq.trans (b := some (Value.bool true)) (by kernel_rfl) (by
    rfl)
theorem ent_awake : E (27, on0 (T.B true)) := byEv Hents25 80 fun args t h => by
  obtain ⟨rfl, rfl⟩ := on0_eq h
  exact ev_awake 
abbrev HL26 : Tab := (27, on0 (T.B true)) :: HL25
theorem Hents26 : ∀ p ∈ HL26, E p := entries_cons ent_awake Hents25
set_option maxHeartbeats 4000000 in
theorem ev_takes (x : Bool) (a b : D) : evFn Tryd.prog ext (tab HL26) 80 4 [.bool x, a.agg, b.agg] = ((fun _ _ _ => T.B true) x a b).val :=
  Eq.trans (b := 
    (bif S.okA a b then 
     (bif !(S.apply x a b).snd then some (Value.bool (S.eqD (S.apply x a b).fst a)) else 
      (bif S.okA (S.apply x a b).fst b then 
       (bif !S.whole (S.apply x a b).fst then some (Value.bool false) else 
        (bif !(S.apply x (S.apply x a b).fst b).snd then some (Value.bool false) else 
         (bif !S.eqD (S.apply x (S.apply x a b).fst b).fst (S.apply x a b).fst then some (Value.bool false) else 
          (bif b.v.k != 0 then 
           (bif !S.eqV (S.apply x a b).fst.v b.v then some (Value.bool false) else 
            (bif b.g.k != 0 then 
             (bif !S.eqV (S.apply x a b).fst.g b.g then some (Value.bool false) else 
              (bif b.t.k != 0 then 
               (bif !S.eqV (S.apply x a b).fst.t b.t then some (Value.bool false) else 
                (bif b.w == 0 then 
                 (bif b.e == 0 then 
                  (bif b.c == 0 then some (Value.bool true) else some (Value.bool ((S.apply x a b).fst.c == b.c))) else 
                  (bif (S.apply x a b).fst.e == b.e then 
                   (bif b.c == 0 then some (Value.bool true) else some (Value.bool ((S.apply x a b).fst.c == b.c))) else some (Value.bool false))) else 
                 (bif (S.apply x a b).fst.w == b.w then 
                  (bif b.e == 0 then 
                   (bif b.c == 0 then some (Value.bool true) else some (Value.bool ((S.apply x a b).fst.c == b.c))) else 
                   (bif (S.apply x a b).fst.e == b.e then 
                    (bif b.c == 0 then some (Value.bool true) else some (Value.bool ((S.apply x a b).fst.c == b.c))) else some (Value.bool false))) else some (Value.bool false)))) else 
               (bif b.w == 0 then 
                (bif b.e == 0 then 
                 (bif b.c == 0 then some (Value.bool true) else some (Value.bool ((S.apply x a b).fst.c == b.c))) else 
                 (bif (S.apply x a b).fst.e == b.e then 
                  (bif b.c == 0 then some (Value.bool true) else some (Value.bool ((S.apply x a b).fst.c == b.c))) else some (Value.bool false))) else 
                (bif (S.apply x a b).fst.w == b.w then 
                 (bif b.e == 0 then 
                  (bif b.c == 0 then some (Value.bool true) else some (Value.bool ((S.apply x a b).fst.c == b.c))) else 
                  (bif (S.apply x a b).fst.e == b.e then 
                   (bif b.c == 0 then some (Value.bool true) else some (Value.bool ((S.apply x a b).fst.c == b.c))) else some (Value.bool false))) else some (Value.bool false))))) else 
             (bif b.t.k != 0 then 
              (bif !S.eqV (S.apply x a b).fst.t b.t then some (Value.bool false) else 
               (bif b.w == 0 then 
                (bif b.e == 0 then 
                 (bif b.c == 0 then some (Value.bool true) else some (Value.bool ((S.apply x a b).fst.c == b.c))) else 
                 (bif (S.apply x a b).fst.e == b.e then 
                  (bif b.c == 0 then some (Value.bool true) else some (Value.bool ((S.apply x a b).fst.c == b.c))) else some (Value.bool false))) else 
                (bif (S.apply x a b).fst.w == b.w then 
                 (bif b.e == 0 then 
                  (bif b.c == 0 then some (Value.bool true) else some (Value.bool ((S.apply x a b).fst.c == b.c))) else 
                  (bif (S.apply x a b).fst.e == b.e then 
                   (bif b.c == 0 then some (Value.bool true) else some (Value.bool ((S.apply x a b).fst.c == b.c))) else some (Value.bool false))) else some (Value.bool false)))) else 
              (bif b.w == 0 then 
               (bif b.e == 0 then 
                (bif b.c == 0 then some (Value.bool true) else some (Value.bool ((S.apply x a b).fst.c == b.c))) else 
                (bif (S.apply x a b).fst.e == b.e then 
                 (bif b.c == 0 then some (Value.bool true) else some (Value.bool ((S.apply x a b).fst.c == b.c))) else some (Value.bool false))) else 
               (bif (S.apply x a b).fst.w == b.w then 
                (bif b.e == 0 then 
                 (bif b.c == 0 then some (Value.bool true) else some (Value.bool ((S.apply x a b).fst.c == b.c))) else 
                 (bif (S.apply x a b).fst.e == b.e then 
                  (bif b.c == 0 then some (Value.bool true) else some (Value.bool ((S.apply x a b).fst.c == b.c))) else some (Value.bool false))) else some (Value.bool false)))))) else 
           (bif b.g.k != 0 then 
            (bif !S.eqV (S.apply x a b).fst.g b.g then some (Value.bool false) else 
             (bif b.t.k != 0 then 
              (bif !S.eqV (S.apply x a b).fst.t b.t then some (Value.bool false) else 
               (bif b.w == 0 then 
                (bif b.e == 0 then 
                 (bif b.c == 0 then some (Value.bool true) else some (Value.bool ((S.apply x a b).fst.c == b.c))) else 
                 (bif (S.apply x a b).fst.e == b.e then 
                  (bif b.c == 0 then some (Value.bool true) else some (Value.bool ((S.apply x a b).fst.c == b.c))) else some (Value.bool false))) else 
                (bif (S.apply x a b).fst.w == b.w then 
                 (bif b.e == 0 then 
                  (bif b.c == 0 then some (Value.bool true) else some (Value.bool ((S.apply x a b).fst.c == b.c))) else 
                  (bif (S.apply x a b).fst.e == b.e then 
                   (bif b.c == 0 then some (Value.bool true) else some (Value.bool ((S.apply x a b).fst.c == b.c))) else some (Value.bool false))) else some (Value.bool false)))) else 
              (bif b.w == 0 then 
               (bif b.e == 0 then 
                (bif b.c == 0 then some (Value.bool true) else some (Value.bool ((S.apply x a b).fst.c == b.c))) else 
                (bif (S.apply x a b).fst.e == b.e then 
                 (bif b.c == 0 then some (Value.bool true) else some (Value.bool ((S.apply x a b).fst.c == b.c))) else some (Value.bool false))) else 
               (bif (S.apply x a b).fst.w == b.w then 
                (bif b.e == 0 then 
                 (bif b.c == 0 then some (Value.bool true) else some (Value.bool ((S.apply x a b).fst.c == b.c))) else 
                 (bif (S.apply x a b).fst.e == b.e then 
                  (bif b.c == 0 then some (Value.bool true) else some (Value.bool ((S.apply x a b).fst.c == b.c))) else some (Value.bool false))) else some (Value.bool false))))) else 
            (bif b.t.k != 0 then 
             (bif !S.eqV (S.apply x a b).fst.t b.t then some (Value.bool false) else 
              (bif b.w == 0 then 
               (bif b.e == 0 then 
                (bif b.c == 0 then some (Value.bool true) else some (Value.bool ((S.apply x a b).fst.c == b.c))) else 
                (bif (S.apply x a b).fst.e == b.e then 
                 (bif b.c == 0 then some (Value.bool true) else some (Value.bool ((S.apply x a b).fst.c == b.c))) else some (Value.bool false))) else 
               (bif (S.apply x a b).fst.w == b.w then 
                (bif b.e == 0 then 
                 (bif b.c == 0 then some (Value.bool true) else some (Value.bool ((S.apply x a b).fst.c == b.c))) else 
                 (bif (S.apply x a b).fst.e == b.e then 
                  (bif b.c == 0 then some (Value.bool true) else some (Value.bool ((S.apply x a b).fst.c == b.c))) else some (Value.bool false))) else some (Value.bool false)))) else 
             (bif b.w == 0 then 
              (bif b.e == 0 then 
               (bif b.c == 0 then some (Value.bool true) else some (Value.bool ((S.apply x a b).fst.c == b.c))) else 
               (bif (S.apply x a b).fst.e == b.e then 
                (bif b.c == 0 then some (Value.bool true) else some (Value.bool ((S.apply x a b).fst.c == b.c))) else some (Value.bool false))) else 
              (bif (S.apply x a b).fst.w == b.w then 
               (bif b.e == 0 then 
                (bif b.c == 0 then some (Value.bool true) else some (Value.bool ((S.apply x a b).fst.c == b.c))) else 
                (bif (S.apply x a b).fst.e == b.e then 
                 (bif b.c == 0 then some (Value.bool true) else some (Value.bool ((S.apply x a b).fst.c == b.c))) else some (Value.bool false))) else some (Value.bool false))))))))) else 
       (bif !S.whole (S.apply x a b).fst then some (Value.bool false) else some (Value.bool false)))) else some (Value.bool (S.eqD S.D0 (D.mk (V.mk 0 false 0 (ByteArray.mk #[]) 0) (V.mk 0 false 0 (ByteArray.mk #[]) 0) (V.mk 0 false 0 (ByteArray.mk #[]) 0) 0 0 0))))) (by kernel_rfl) (by
    simp only [T.B, DT.val_leaf]
    cases ho : S.okA a b
    · simp only [cond_false, cond_true, Bool.not_true, Bool.not_false]
      exact congrArg (fun z => some (Value.bool z)) (S.eqD_refl S.D0)
    · cases h2 : (S.apply x a b).2
      · simp only [cond_true, cond_false, Bool.not_false, S.takes_no ho h2]
      · obtain ⟨k1, k2, k3, k4, k5, k6, k7, k8, k9, k10⟩ := S.takes_yes ho h2
        simp only [cond_true, cond_false, Bool.not_true, k1, k2, k3, k4]
        repeat' (first | (with_reducible refine bif_neq (fun h => ?_) (fun h => ?_)) | (with_reducible refine bif_and (fun h => ?_) (fun h => ?_)) | (with_reducible refine bif_eq (fun h => ?_) (fun h => ?_)))
        all_goals simp_all)
theorem ent_takes : E (4, onBDD (fun _ _ _ => T.B true)) := byEv Hents26 80 fun args t h => by
  obtain ⟨x, a, b, rfl, rfl⟩ := onBDD_eq h
  exact ev_takes x a b
abbrev HL27 : Tab := (4, onBDD (fun _ _ _ => T.B true)) :: HL26
theorem Hents27 : ∀ p ∈ HL27, E p := entries_cons ent_takes Hents26
end Go.Proofs.YtaojjpdlfnphiaaDoor.PDescKinds
end
section
/- Plain laws: what is frozen stays. -/
set_option linter.unusedSimpArgs false
set_option linter.unusedVariables false
set_option linter.unusedSectionVars false
namespace Go.Proofs.YtaojjpdlfnphiaaDoor.PDescKinds.S
open Ieee FloatEq
theorem cmp_symm (x y : Int) : (compare x y == Ordering.eq) = (compare y x == Ordering.eq) := by
  rw [compare_eq_int, compare_eq_int]
  exact decide_eq_decide.2 eq_comm
theorem order_symm (x y : Datum) : (Datum.order x y == some Ordering.eq) = (Datum.order y x == some Ordering.eq) := by
  cases x <;> cases y <;> simp only [Datum.order]
  case number.number s m i t n j =>
    rw [Int.min_comm j i]
    exact cmp_symm _ _
  case number.infinity => split <;> rfl
  case infinity.number => split <;> rfl
  case infinity.infinity s t => cases s <;> cases t <;> rfl
theorem feq_symm (a b : Nat) : feq a b = feq b a := order_symm _ _
theorem numSame_symm (a b : Nat) : numSame a b = numSame b a := by
  unfold numSame
  rw [feq_symm a b, Bool.or_comm, Bool.and_comm (nan a), Bool.beq_comm (a := neg a)]
theorem same_symm (a b : V) : same a b = same b a := by
  unfold same
  have h1 : (a.k == b.k) = (b.k == a.k) := BEq.comm
  have h2 : (a.b == b.b) = (b.b == a.b) := BEq.comm
  have h3 : (a.s.toList == b.s.toList) = (b.s.toList == a.s.toList) := BEq.comm
  have h4 : (a.id == b.id) = (b.id == a.id) := BEq.comm
  rw [numSame_symm a.n b.n, Bool.and_comm (a.k == 4), h1, h2, h3, h4]
theorem alike_symm (a b : V) : alike a b = alike b a := by
  unfold alike
  rw [same_symm a b, Bool.and_comm (there a), Bool.and_comm (good a), Bool.beq_comm (a := there a)]
theorem tri_cases {t : Int} (h : tri t = true) (h2 : (t == 2) = false) : t = 0 ∨ t = 1 := by
  unfold tri at h
  simp only [Bool.and_eq_true, decide_eq_true_eq] at h
  rw [beq_eq_false_iff_ne] at h2
  omega
end Go.Proofs.YtaojjpdlfnphiaaDoor.PDescKinds.S
end
section
/- Laws with loops: the rows that come in, the pieces of the laws' code. -/
set_option linter.unusedSimpArgs false
set_option linter.unusedVariables false
set_option linter.unusedSectionVars false
namespace Go.Proofs.YtaojjpdlfnphiaaDoor.PDescKinds
open Go.RowKit Go.Ev
/-- A descriptor's cells. -/
def D.cells (d : D) : List SV := [.val (.int .i64 d.v.k), .val (.bool d.v.b), .val (.float .f64 d.v.n), .val (.string d.v.s), .val (.int .i64 d.v.id),
  .val (.int .i64 d.g.k), .val (.bool d.g.b), .val (.float .f64 d.g.n), .val (.string d.g.s), .val (.int .i64 d.g.id), .val (.int .i64 d.t.k), .val (.bool d.t.b), .val (.float .f64 d.t.n), .val (.string d.t.s), .val (.int .i64 d.t.id), .val (.int .i64 d.w), .val (.int .i64 d.e), .val (.int .i64 d.c)]
/-- One row of descriptors. -/
@[instance_reducible] def rowD (A : Option Addr) (n c : Nat) (g : Nat → D) : XEnv := ⟨fun _ => ⟨A, 18, n, c, fun j => (g j).cells⟩⟩
theorem onD_val {f : Nat} {g g' : D → DT Value} (h : E (f, onD g)) (e : ∀ d, (g' d).val = (g d).val) : E (f, onD g') := by
  intro args t v ht hv
  obtain ⟨d, rfl, rfl⟩ := onD_eq ht
  rw [e d] at hv
  exact h [d.agg] (g d) v rfl hv
namespace S
def err (b : Bool) : Int := bif b then 0 else 5
def freezeD (d : D) : D := ⟨V0, V0, V0, bif whole d && isD d then 1 else 0, 0, bif whole d then 1 else 0⟩
end S
namespace T
def freeze1 (d : D) : DT Value := .leaf (.tuple #[(S.freezeD d).agg, .int .i64 (S.err (S.whole d))])
end T
theorem ent_freeze1 : E (13, onD T.freeze1) := onD_val ent_freeze fun d => by
  simp only [T.freeze1, T.freeze, DT.val_node, DT.val_leaf, S.err, S.freezeD]
  cases S.whole d <;> cases S.isD d <;> rfl
abbrev FL : Tab := (13, onD T.freeze1) :: HL27
theorem entsFL : ∀ p ∈ FL, E p := entries_cons ent_freeze1 Hents27
/-! DescFrozen's code -/
namespace Frozen
def inLoop : Code → Code
  | .block _ (.loop c) => c
  | c => c
end Frozen
end Go.Proofs.YtaojjpdlfnphiaaDoor.PDescKinds
end
section
/- DescFrozen: what is frozen stays. -/
set_option linter.unusedSimpArgs false
set_option linter.unusedVariables false
set_option linter.unusedSectionVars false
namespace Go.Proofs.YtaojjpdlfnphiaaDoor.PDescKinds
open Go.RowKit Go.Ev
namespace S
end S
namespace Frozen
section
variable (A : Option Addr) (n c : Nat) (g : Nat → D)
/-- What stands while the law runs. -/
def Inv (w : World) : Prop := Tabs w ∧ @XOk (rowD A n c g) w
theorem inv_stable : Stable (Inv A n c g) := fun w w' h hb => ⟨tabs_stable _ _ h.1 hb, @XOk.below (rowD A n c g) _ _ h.2 hb⟩
theorem given : @GivenSound (rowD A n c g) Tryd.prog (Inv A n c g) (tab FL) := letI := rowD A n c g; tab_sound fun p hp => (entsFL p hp).mono (J := Inv A n c g) fun w h => h.1
def Post (w0 : World) : Ending → World → Prop := fun e w' => e = .returned (.bool true) ∧ Below w0.heap.size w0 w'
end
end Frozen
end Go.Proofs.YtaojjpdlfnphiaaDoor.PDescKinds
end
section
/- Plain laws: what never changes, over any steps. -/
set_option linter.unusedSimpArgs false
set_option linter.unusedVariables false
set_option linter.unusedSectionVars false
namespace Go.Proofs.YtaojjpdlfnphiaaDoor.PDescKinds.S
open Ieee FloatEq
def sg (s : Bool) : Int := bif s then -1 else 1
theorem signed_mul (s : Bool) (m i : Nat) : signed s m i = sg s * m * 2 ^ i := by
  have h : ((m <<< i : Nat) : Int) = (m : Int) * 2 ^ i := by
    rw [Nat.shiftLeft_eq]
    push_cast
    rfl
  cases s
  · show ((m <<< i : Nat) : Int) = _
    rw [h]; simp [sg]
  · show -((m <<< i : Nat) : Int) = _
    rw [h]; simp [sg, Int.neg_mul]
theorem cmp_iff (x y : Int) : (some (compare x y) == some Ordering.eq) = true ↔ x = y := by
  have := compare_eq_int x y
  show (compare x y == Ordering.eq) = true ↔ _
  rw [this]
  simp
theorem pow_split (A : Int) (i k q : Int) (h1 : q ≤ k) (h2 : k ≤ i) : A * 2 ^ (i - q).toNat = A * 2 ^ (i - k).toNat * 2 ^ (k - q).toNat := by
  rw [Int.mul_assoc, ← Int.pow_add]
  congr 2
  omega
theorem pow_inj {A B : Int} {k : Nat} (h : A * 2 ^ k = B * 2 ^ k) : A = B := Int.eq_of_mul_eq_mul_right (by
  have : (0 : Int) < 2 ^ k := Int.pow_pos (by decide)
  omega) h
theorem order_trans (x y z : Datum) (h1 : (Datum.order x y == some Ordering.eq) = true) (h2 : (Datum.order y z == some Ordering.eq) = true) : (Datum.order x z == some Ordering.eq) = true := by
  cases x <;> cases y <;> simp only [Datum.order] at h1
  case number.number s m i t n j =>
    cases z <;> simp only [Datum.order] at h2 ⊢
    case number u p l =>
      rw [cmp_iff, signed_mul, signed_mul] at h1 h2 ⊢
      have hq : ∃ q : Int, q ≤ i ∧ q ≤ j ∧ q ≤ l := ⟨min i (min j l), by omega, by omega, by omega⟩
      obtain ⟨q, q1, q2, q3⟩ := hq
      have e1 : sg s * m * 2 ^ (i - q).toNat = sg t * n * 2 ^ (j - q).toNat := by
        rw [pow_split _ i (min i j) q (by omega) (by omega), pow_split _ j (min i j) q (by omega) (by omega), h1]
      have e2 : sg t * n * 2 ^ (j - q).toNat = sg u * p * 2 ^ (l - q).toNat := by
        rw [pow_split _ j (min j l) q (by omega) (by omega), pow_split _ l (min j l) q (by omega) (by omega), h2]
      have e3 := e1.trans e2
      rw [pow_split _ i (min i l) q (by omega) (by omega), pow_split _ l (min i l) q (by omega) (by omega)] at e3
      exact pow_inj e3
    case infinity u => cases u <;> simp at h2
    all_goals simp at h2
  case number.infinity s m i t => cases t <;> simp at h1
  case infinity.number s t n j => cases s <;> simp at h1
  case infinity.infinity s t =>
    cases z <;> simp only [Datum.order] at h2 ⊢
    case number u p l => cases t <;> simp at h2
    case infinity u => revert h1 h2; cases s <;> cases t <;> cases u <;> decide
    all_goals simp at h2
  all_goals simp at h1
theorem feq_trans {a b c : Nat} (h1 : feq a b = true) (h2 : feq b c = true) : feq a c = true := order_trans _ _ _ h1 h2
theorem numSame_trans {a b c : Nat} (h1 : numSame a b = true) (h2 : numSame b c = true) : numSame a c = true := by
  unfold numSame at h1 h2 ⊢
  cases ha : nan a <;> cases hb : nan b <;> cases hc : nan c <;> simp only [ha, hb, hc, Bool.or_self, Bool.or_true, Bool.or_false, Bool.true_or, Bool.false_or, cond_true, cond_false, Bool.and_self, Bool.and_true, Bool.and_false, Bool.true_and, Bool.false_and, Bool.false_eq_true] at h1 h2 ⊢
  rw [Bool.and_eq_true] at h1 h2 ⊢
  refine ⟨feq_trans h1.1 h2.1, ?_⟩
  have e1 : neg a = neg b := by simpa using h1.2
  have e2 : neg b = neg c := by simpa using h2.2
  simp [e1, e2]
theorem same_k {a b : V} (h : same a b = true) : a.k = b.k := by
  unfold same at h
  cases h4 : (a.k == 4 && b.k == 4)
  · rw [h4] at h
    simp only [cond_false, Bool.and_eq_true] at h
    simpa using h.1
  · simp only [Bool.and_eq_true, beq_iff_eq] at h4
    rw [h4.1, h4.2]
theorem same_trans {a b c : V} (h1 : same a b = true) (h2 : same b c = true) : same a c = true := by
  have k1 := same_k h1
  have k2 := same_k h2
  unfold same at h1 h2 ⊢
  rw [k1, k2] at h1
  rw [k2] at h2
  rw [k1, k2]
  cases h4 : (c.k == 4)
  · rw [h4] at h1 h2
    simp only [Bool.and_self, cond_false, Bool.and_eq_true, beq_iff_eq] at h1 h2 ⊢
    obtain ⟨_, b1, s1, i1⟩ := h1
    obtain ⟨_, b2, s2, i2⟩ := h2
    exact ⟨trivial, b1.trans b2, s1.trans s2, i1.trans i2⟩
  · rw [h4] at h1 h2
    exact numSame_trans h1 h2
theorem alike_trans {a b c : V} (h1 : alike a b = true) (h2 : alike b c = true) : alike a c = true := by
  unfold alike at h1 h2 ⊢
  cases ha : there a <;> cases hb : there b <;> cases hc : there c <;> simp only [ha, hb, hc, Bool.and_self, Bool.and_true, Bool.and_false, Bool.false_and, Bool.true_and, cond_true, cond_false, Bool.and_eq_true, beq_self_eq_true, Bool.true_beq, Bool.false_beq, Bool.not_true, Bool.not_false, Bool.false_eq_true] at h1 h2 ⊢
  exact ⟨⟨h1.1.1, h2.1.2⟩, same_trans h1.2 h2.2⟩
theorem alike_orV {x y : V} (hx : okv x = true) (hy : there y = true → alike y x = true) : alike x (orV x y) = true := by
  unfold orV
  cases ht : there y
  · exact alike_refl hx
  · simp only [cond_true]
    rw [alike_symm]
    exact hy ht
/-- What may not be configured: what a step changes of it. -/
theorem hard_step {a d : D} (x : Bool) (hw : whole a = true) (hc : a.c = 1) (ho : okA a d = true) :
    whole (apply x a d).1 = true ∧ (apply x a d).1.c = 1 ∧ (apply x a d).1.e = a.e ∧ hasD (apply x a d).1 = hasD a ∧ alike a.g (apply x a d).1.g = true ∧ alike a.t (apply x a d).1.t = true ∧
    (a.w = 1 → (apply x a d).1.w = 1 ∧ alike a.v (apply x a d).1.v = true) := by
  have hca := check_whole hw
  obtain ⟨av, ag, at_⟩ := okv_of hca
  rcases apply_cases x ho with e | ⟨h2, hf⟩
  · rw [e]
    exact ⟨hw, hc, rfl, rfl, alike_refl ag, alike_refl at_, fun h => ⟨h, alike_refl av⟩⟩
  · obtain ⟨hcd, _⟩ := okA_of ho
    have hz := whole_zero hw
    have hc1 : (a.c == 1) = true := by simp [hc]
    unfold S.apply at h2 hf ⊢
    rw [hz, hc1] at h2 hf ⊢
    simp only [cond_false, Bool.true_and] at h2 hf ⊢
    cases hb : barred a d
    case true => rw [hb] at h2; cases h2
    rw [hb] at h2 hf
    simp only [cond_false] at h2 hf ⊢
    unfold barred at hb
    cases h3 : (d.c == 2 || (d.e != 0 && d.e != a.e))
    case true => rw [h3] at hb; cases hb
    rw [h3] at hb
    simp only [cond_false] at hb
    rw [Bool.or_eq_false_iff] at h3
    obtain ⟨hc2, he2⟩ := h3
    have htri := hcd
    rw [check_eq] at htri
    simp only [Bool.and_eq_true] at htri
    obtain ⟨⟨kv, kg, kt, kw, ke, kc⟩, kx⟩ := htri
    have ekind : (kindN d != 0 && kindN d != kindN a) = false := by
      cases hk : kindN d == 0
      · rw [hk] at hb
        simp only [cond_false] at hb
        cases hk2 : kindN d != kindN a
        · simp
        · rw [hk2] at hb; cases hb
      · simp only [beq_iff_eq] at hk
        simp [hk]
    rw [ekind] at hf ⊢
    simp only [cond_false] at hf ⊢
    have eE : orT a.e d.e = a.e := orT_same fun hn => by
      by_cases h4 : d.e = a.e
      · exact h4.symm
      · simp [hn, h4] at he2
    have eC : orT a.c d.c = a.c := orT_same fun hn => by
      rcases tri_cases kc hc2 with h4 | h4
      · exact absurd h4 hn
      · rw [h4, hc]
    have hkA := kindN_whole hw
    have hkD := kindN_of hcd
    have parts : (a.w = 1 → orT a.w d.w = a.w ∧ (there d.v = true → alike d.v a.v = true)) ∧ (there d.g = true → alike d.g a.g = true) ∧ (there d.t = true → alike d.t a.t = true) ∧ (hasD d = true → hasD a = true) := by
      cases hk : kindN d == 0
      · rw [hk] at hb
        simp only [cond_false] at hb
        have hk2 : kindN d = kindN a := by
          have h5 : (kindN d != 0) = true := by simpa using hk
          rw [h5, Bool.true_and] at ekind
          simpa using ekind
        have e0 : (kindN d != kindN a) = false := by simp [hk2]
        rw [e0] at hb
        simp only [cond_false] at hb
        cases hD : hasD a
        · rw [hD] at hkA
          simp only [cond_false] at hkA
          have hd2 : kindN d = 2 := hk2.trans hkA
          have hnd : hasD d = false := by
            cases hq : hasD d
            · rfl
            · rw [hkD, hq] at hd2; simp at hd2
          rw [hd2] at hb
          simp only [beq_self_eq_true, cond_true, Bool.or_eq_false_iff] at hb
          unfold hasD at hnd
          rw [Bool.or_eq_false_iff] at hnd
          refine ⟨fun _ => ⟨orT_same fun hn => ?_, fun hv => ?_⟩, fun hg => ?_, fun ht => ?_, fun hq => ?_⟩
          · have := hnd.2; simp [hn] at this
          · rw [hnd.1] at hv; cases hv
          · have := hb.1; rw [hg] at this; simpa using this
          · have := hb.2; rw [ht] at this; simpa using this
          · unfold hasD at hq; rw [hnd.1, hnd.2] at hq; cases hq
        · rw [hD] at hkA
          simp only [cond_true] at hkA
          have hd2 : kindN d = 1 := hk2.trans hkA
          rw [hd2] at hb
          have e2 : ((1 : Int) == 2) = false := rfl
          rw [e2] at hb
          simp only [cond_false] at hb
          have hD1 : hasD d = true := by
            cases hq : hasD d
            · exfalso
              rw [hkD, hq] at hd2
              revert hd2
              cases hasA d <;> decide
            · rfl
          have hnA : hasA d = false := by
            rw [hD1] at kx; simpa using kx
          unfold hasA at hnA
          rw [Bool.or_eq_false_iff] at hnA
          refine ⟨fun hw1 => ?_, fun hg => ?_, fun ht => ?_, fun _ => rfl⟩
          · rw [hw1] at hb ⊢
            simp only [beq_self_eq_true, Bool.true_and, Bool.or_eq_false_iff] at hb
            refine ⟨orT_same fun hn => ?_, fun hv => ?_⟩
            · rcases tri_cases kw hb.1 with h4 | h4
              · exact absurd h4 hn
              · exact h4.symm
            · have := hb.2; rw [hv] at this; simpa using this
          · rw [hnA.1] at hg; cases hg
          · rw [hnA.2] at ht; cases ht
      · have hz2 := kind_zero hcd
        rw [hk] at hz2
        have hz3 := hz2.symm
        rw [Bool.and_eq_true, Bool.not_eq_true', Bool.not_eq_true'] at hz3
        obtain ⟨hnd, hna⟩ := hz3
        have hnd' := hnd
        unfold hasD at hnd
        unfold hasA at hna
        rw [Bool.or_eq_false_iff] at hnd hna
        refine ⟨fun _ => ⟨orT_same fun hn => ?_, fun hv => ?_⟩, fun hg => ?_, fun ht => ?_, fun hq => ?_⟩
        · have := hnd.2; simp [hn] at this
        · rw [hnd.1] at hv; cases hv
        · rw [hna.1] at hg; cases hg
        · rw [hna.2] at ht; cases ht
        · rw [hnd'] at hq; cases hq
    obtain ⟨pw, pg, pt, pD⟩ := parts
    refine ⟨hf.whole, eC.trans hc, eE, ?_, alike_orV ag pg, alike_orV at_ pt, fun h1 => ?_⟩
    · rw [hasD_over]
      cases hD : hasD a
      · cases hq : hasD d
        · rfl
        · rw [pD hq] at hD; cases hD
      · rfl
    · obtain ⟨p1, p2⟩ := pw h1
      exact ⟨p1.trans h1, alike_orV av p2⟩
theorem isA_whole {a : D} (h : whole a = true) : isA a = !hasD a := by
  have hc := check_whole h
  unfold isA
  rw [hc]
  rw [whole_eq] at h
  simp only [Bool.and_eq_true] at h
  have := h.2.1
  revert this
  unfold hasD hasA
  cases there a.v <;> cases a.w != 0 <;> cases there a.g <;> cases there a.t <;> simp
/-- Whole, or nothing at all. -/
def wz (a : D) : Bool := whole a || zero a
theorem okK_eq (a b : D) : okK a b = (wz a && wz b) := rfl
theorem okA_eq (a d : D) : okA a d = (check d && wz a) := rfl
theorem whole_wz {a : D} (h : wz a = true) (hz : zero a = false) : whole a = true := by
  unfold wz at h
  rw [hz, Bool.or_false] at h
  exact h
theorem apply_wz {a d : D} (x : Bool) (ho : okA a d = true) : wz (apply x a d).1 = true := by
  rcases apply_cases x ho with e | ⟨_, hf⟩
  · rw [e]
    rw [okA_eq, Bool.and_eq_true] at ho
    exact ho.2
  · unfold wz; rw [hf.whole]; rfl
theorem tri_pos {t : Int} (h : tri t = true) (h0 : t ≠ 0) (h2 : (t == 2) = false) : t = 1 := by
  rcases tri_cases h h2 with h | h
  · exact absurd h h0
  · exact h
theorem keeps_refl {a : D} (h : wz a = true) : keeps a a = true := by
  unfold keeps
  cases hz : zero a
  · have hw := whole_wz h hz
    have hc := check_whole hw
    obtain ⟨av, ag, at_⟩ := okv_of hc
    have htri := hc
    rw [check_eq] at htri
    simp only [Bool.and_eq_true] at htri
    obtain ⟨⟨kv, kg, kt, kw, ke, kc⟩, kx⟩ := htri
    cases h2 : a.c == 2
    · have h1 := tri_pos kc (whole_ec hw).2 h2
      simp only [Bool.or_self, cond_false, h1, bne_self_eq_false, cond_false]
      cases hA : isA a
      · simp only [cond_false, alike_refl av, Bool.and_true]
        rw [isA_whole hw] at hA
        cases hw2 : a.w == 2
        · have hwn : a.w ≠ 0 := by
            rw [whole_eq] at hw
            simp only [Bool.and_eq_true] at hw
            have h3 := hw.2.1
            intro h0
            have hD : hasD a = true := by simpa using hA
            rw [hD] at h3
            simp [h0] at h3
          rw [tri_pos kw hwn hw2]
          rfl
        · rfl
      · simp [alike_refl ag, alike_refl at_]
    · simp
  · simp
/-- What keeps, keeps over a step more. -/
theorem keeps_step {a b d : D} (x : Bool) (h : keeps a b = true) (ho : okA b d = true) : keeps a (apply x b d).1 = true := by
  unfold keeps at h ⊢
  cases h0 : zero a || a.c == 2
  · rw [h0] at h
    simp only [cond_false] at h ⊢
    cases h1 : zero b || (b.c != 1 || (b.e != a.e || isA a != isA b))
    case true => rw [h1] at h; cases h
    rw [h1] at h
    simp only [cond_false] at h
    simp only [Bool.or_eq_false_iff] at h1
    obtain ⟨hz, hc, he, hk⟩ := h1
    have hwz : wz b = true := by
      rw [okA_eq, Bool.and_eq_true] at ho
      exact ho.2
    have hw := whole_wz hwz hz
    have hc1 : b.c = 1 := by simpa using hc
    obtain ⟨r1, r2, r3, r4, r5, r6, r7⟩ := hard_step x hw hc1 ho
    have e1 : zero (apply x b d).1 = false := whole_zero r1
    have e2 : isA (apply x b d).1 = isA b := by rw [isA_whole r1, isA_whole hw, r4]
    have e3 : ((apply x b d).1.e != a.e) = false := by rw [r3]; exact he
    have e4 : ((apply x b d).1.c != 1) = false := by rw [r2]; rfl
    rw [e1, e2, e3, e4, hk]
    simp only [Bool.or_self, cond_false]
    cases hA : isA a
    · rw [hA] at h
      simp only [cond_false] at h ⊢
      cases hw2 : a.w == 2
      · rw [hw2] at h
        simp only [Bool.false_or, Bool.and_eq_true, beq_iff_eq] at h ⊢
        obtain ⟨q1, q2⟩ := r7 h.1
        exact ⟨q1, alike_trans h.2 q2⟩
      · rfl
    · rw [hA] at h
      simp only [cond_true, Bool.and_eq_true] at h ⊢
      exact ⟨alike_trans h.1 r5, alike_trans h.2 r6⟩
  · rfl
end Go.Proofs.YtaojjpdlfnphiaaDoor.PDescKinds.S
end
section
/- DescKeeps: its code, in pieces; rows that came in and rows of its own. -/
set_option linter.unusedSimpArgs false
set_option linter.unusedVariables false
set_option linter.unusedSectionVars false
namespace Go.Proofs.YtaojjpdlfnphiaaDoor.PDescKinds
open Go.RowKit Go.Ev
namespace Keeps
/-- The parameter's row, the own row, the box of what is now. -/
@[instance_reducible] def rows (A : Option Addr) (n c : Nat) (g : Nat → D) (A1 : Option Addr) (n1 c1 : Nat) (g1 : Nat → D) (A2 : Option Addr) (z : D) : XEnv :=
  ⟨fun r => match r with
    | [0] => ⟨A, 18, n, c, fun j => (g j).cells⟩
    | [1] => ⟨A1, 18, n1, c1, fun j => (g1 j).cells⟩
    | [2] => ⟨A2, 18, 1, 1, fun _ => z.cells⟩
    | _ => ⟨none, 18, 0, 0, fun _ => []⟩⟩
def inBlk : Code → Code
  | .block _ c => c
  | c => c
def opsOf : Code → Array Oper
  | .region _ ops _ => ops
  | _ => #[]
noncomputable def code : List Code := flat (Tryd.f5.body.getD .skip)
noncomputable def pre : List Code := code.take 7
noncomputable def round1 : Code := Frozen.inLoop (code.getD 7 .skip)
noncomputable def mid : Code := code.getD 8 .skip
noncomputable def round2 : Code := Frozen.inLoop (code.getD 9 .skip)
noncomputable def post : List Code := code.drop 10
theorem split : code = pre ++ Code.block 0 (.loop round1) :: mid :: Code.block 2 (.loop round2) :: post := by kernel_rfl
-- the first loop
noncomputable def r1a : List Code := (flat round1).take 2
noncomputable def r1b : Code := inBlk ((flat round1).getD 2 .skip)
noncomputable def r1c : List Code := (flat round1).drop 3
theorem split1 : flat round1 = r1a ++ Code.block 1 r1b :: r1c := by kernel_rfl
noncomputable def b1a : List Code := (flat r1b).take 3
noncomputable def ops11 : Array Oper := opsOf ((flat r1b).getD 3 .skip)
theorem split1b : flat r1b = b1a ++ [Code.region 11 ops11 false] := by kernel_rfl
-- the second
noncomputable def r2a : List Code := (flat round2).take 2
noncomputable def r2b : Code := inBlk ((flat round2).getD 2 .skip)
noncomputable def r2c : List Code := (flat round2).drop 3
theorem split2 : flat round2 = r2a ++ Code.block 3 r2b :: r2c := by kernel_rfl
noncomputable def b2a : List Code := (flat r2b).take 1
noncomputable def round3 : Code := Frozen.inLoop ((flat r2b).getD 1 .skip)
theorem split2b : flat r2b = b2a ++ [Code.block 4 (.loop round3)] := by kernel_rfl
/-- Heads. -/
def hd1 (x : Bool) (i : Int) : Cut := ⟨[(0, .val (.bool x)), (2, .xs [0]), (4, .xp [2] 0 0), (7, .xs [1]), (8, .val (.int .i64 i))], []⟩
def hd2 (i : Int) : Cut := ⟨[(4, .xp [2] 0 0), (7, .xs [1]), (12, .val (.int .i64 i))], []⟩
def hd3 (i j : Int) : Cut := ⟨[(4, .xp [2] 0 0), (7, .xs [1]), (12, .val (.int .i64 i)), (13, .val (.int .i64 j))], []⟩
end Keeps
end Go.Proofs.YtaojjpdlfnphiaaDoor.PDescKinds
end
section
/- What the rows' arguments read as_: descriptors as_ plain data; what the rows' tables give. -/
set_option linter.unusedSimpArgs false
set_option linter.unusedVariables false
set_option linter.unusedSectionVars false
namespace Go.Proofs.YtaojjpdlfnphiaaDoor.PDescKinds
open Go.ChangeShapes Go.WideShapes Go.ChangeAt Go.RowKit Go.Lib
section
variable {H : Type} {enc : TypeId × Value → H} {P : Program} {w : World} {base : Nat} {spare : Nat → Bool} {held : Bool} {fuel : Nat} {t : TypeId} {cs : List Value} {x : DataW H × List MemPlace}
theorem read_int {k : IntKind} (ht : P.underlying t = some (.int k)) (h : DataW.trod enc P w base spare held fuel t cs = some x) : ∃ n, cs = [.int k n] := by
  obtain ⟨n, h, _⟩ := DataW.trod_int ht h
  exact ⟨n, h⟩
theorem read_bool (ht : P.underlying t = some .bool) (h : DataW.trod enc P w base spare held fuel t cs = some x) : ∃ b, cs = [.bool b] := by
  cases fuel with
  | zero => simp [DataW.trod] at h
  | succ n =>
    rw [DataW.trod.eq_def] at h
    simp only [ht] at h
    split at h <;> first | (simp_all; done) | exact ⟨_, rfl⟩
theorem read_f64 (ht : P.underlying t = some (.float .f64)) (h : DataW.trod enc P w base spare held fuel t cs = some x) : ∃ b, cs = [.float .f64 b] := by
  cases fuel with
  | zero => simp [DataW.trod] at h
  | succ n =>
    rw [DataW.trod.eq_def] at h
    simp only [ht] at h
    split at h <;> first | (simp_all; done) | skip
theorem read_string (ht : P.underlying t = some .string) (h : DataW.trod enc P w base spare held fuel t cs = some x) : ∃ s, cs = [.string s] ∧ s.size ≤ maxLen := by
  cases fuel with
  | zero => simp [DataW.trod] at h
  | succ n =>
    rw [DataW.trod.eq_def] at h
    simp only [ht] at h
    split at h <;> first | (simp_all; done) | skip
end
def V.list (v : V) : List Value := [.int .i64 v.k, .bool v.b, .float .f64 v.n, .string v.s, .int .i64 v.id]
def D.list (d : D) : List Value := d.v.list ++ (d.g.list ++ (d.t.list ++ [.int .i64 d.w, .int .i64 d.e, .int .i64 d.c]))
theorem D.agg_list (d : D) : d.agg = .agg d.list.toArray := rfl
section
variable {H : Type} {enc : TypeId × Value → H} {w : World} {base : Nat} {spare : Nat → Bool} {held : Bool} {fuel : Nat} {cs : List Value} {x : DataW H × List MemPlace}
theorem cells3 : Tryd.prog.cellsOf 3 = 1 := by kernel_rfl
theorem cells4 : Tryd.prog.cellsOf 4 = 1 := by kernel_rfl
theorem cells9 : Tryd.prog.cellsOf 9 = 1 := by kernel_rfl
theorem cells22 : Tryd.prog.cellsOf 22 = 1 := by kernel_rfl
theorem cells24 : Tryd.prog.cellsOf 24 = 5 := by kernel_rfl
theorem cells25 : Tryd.prog.cellsOf 25 = 1 := by kernel_rfl
theorem cells27 : Tryd.prog.cellsOf 27 = 18 := by kernel_rfl
set_option maxRecDepth 100000 in
theorem read_V (h : DataW.trod enc Tryd.prog w base spare held fuel 24 cs = some x) : ∃ v : V, cs = v.list := by
  obtain ⟨xs, n, _, _, hl, hn, hf⟩ := DataW.trod_struct Tryd.underlying24 h
  rw [cells24] at hl
  match cs, hl, xs, hn with
  | [c0, c1, c2, c3, c4], _, [y0, y1, y2, y3, y4], _ =>
    have h0 := hf 0 ⟨"Kind", 3, 0, false, "", "", 0⟩ rfl
    have h1 := hf 1 ⟨"Bool", 4, 1, false, "", "", 8⟩ rfl
    have h2 := hf 2 ⟨"Num", 22, 2, false, "", "", 16⟩ rfl
    have h3 := hf 3 ⟨"Str", 9, 3, false, "", "", 24⟩ rfl
    have h4 := hf 4 ⟨"Id", 3, 4, false, "", "", 40⟩ rfl
    simp only [cells3, cells4, cells9, cells22, List.drop_succ_cons, List.drop_zero, List.take_succ_cons, List.take_zero] at h0 h1 h2 h3 h4
    obtain ⟨v0, e0⟩ := read_int Tryd.underlying3 h0
    obtain ⟨v1, e1⟩ := read_bool Tryd.underlying4 h1
    obtain ⟨v2, e2⟩ := read_f64 Tryd.underlying22 h2
    obtain ⟨v3, e3, _⟩ := read_string Tryd.underlying9 h3
    obtain ⟨v4, e4⟩ := read_int Tryd.underlying3 h4
    cases e0; cases e1; cases e2; cases e3; cases e4
    exact ⟨⟨v0, v1, v2, v3, v4⟩, rfl⟩
set_option maxRecDepth 100000 in
theorem read_D (h : DataW.trod enc Tryd.prog w base spare held fuel 27 cs = some x) : ∃ d : D, cs = d.list := by
  obtain ⟨xs, n, _, _, hl, hn, hf⟩ := DataW.trod_struct Tryd.underlying27 h
  rw [cells27] at hl
  match cs, hl, xs, hn with
  | [c0, c1, c2, c3, c4, c5, c6, c7, c8, c9, c10, c11, c12, c13, c14, c15, c16, c17], _, [y0, y1, y2, y3, y4, y5], _ =>
    have h0 := hf 0 ⟨"Value", 24, 0, false, "", "", 0⟩ rfl
    have h1 := hf 1 ⟨"Get", 24, 5, false, "", "", 48⟩ rfl
    have h2 := hf 2 ⟨"Set", 24, 10, false, "", "", 96⟩ rfl
    have h3 := hf 3 ⟨"Writable", 25, 15, false, "", "", 144⟩ rfl
    have h4 := hf 4 ⟨"Enumerable", 25, 16, false, "", "", 152⟩ rfl
    have h5 := hf 5 ⟨"Configurable", 25, 17, false, "", "", 160⟩ rfl
    simp only [cells24, cells25, List.drop_succ_cons, List.drop_zero, List.take_succ_cons, List.take_zero] at h0 h1 h2 h3 h4 h5
    obtain ⟨v0, e0⟩ := read_V h0
    obtain ⟨v1, e1⟩ := read_V h1
    obtain ⟨v2, e2⟩ := read_V h2
    obtain ⟨v3, e3⟩ := read_int Tryd.underlying25 h3
    obtain ⟨v4, e4⟩ := read_int Tryd.underlying25 h4
    obtain ⟨v5, e5⟩ := read_int Tryd.underlying25 h5
    unfold V.list at e0 e1 e2
    cases e0; cases e1; cases e2; cases e3; cases e4; cases e5
    exact ⟨⟨v0, v1, v2, v3, v4, v5⟩, rfl⟩
set_option maxRecDepth 100000 in
/-- A descriptor that came in. -/
theorem open_D {v : Value} {base' : Nat} {d : DataW H} {p : List MemPlace} (hv : Value.okWide Tryd.prog w .any base' 27 v) (h : DataW.Trod enc Tryd.prog w base spare held 27 v d p) : ∃ z : D, v = z.agg := by
  obtain ⟨arr, rfl, _⟩ := okWide_struct Tryd.underlying27 hv
  obtain ⟨f, hf⟩ := h
  obtain ⟨z, hz⟩ := read_D hf
  refine ⟨z, ?_⟩
  rw [D.agg_list, ← hz]
  rfl
end
theorem D.list_length (d : D) : d.list.length = 18 := rfl
/-- A row of descriptors, as_ the world has it. -/
def RawRow (w : World) (A : Option Addr) (n : Nat) (g : Nat → D) : Prop := ∀ j, j < n → ∃ a, A = some a ∧ a.block < w.heap.size ∧ ∀ k v, (g j).list[k]? = some v → w.cell? (a.add (j * 18 + k)) = some v
theorem RawRow.below {w w' : World} {A : Option Addr} {n : Nat} {g : Nat → D} (h : RawRow w A n g) (hb : Below w.heap.size w w') : RawRow w' A n g := fun j hj => by
  obtain ⟨a, h1, h2, h3⟩ := h j hj
  refine ⟨a, h1, Nat.lt_of_lt_of_le h2 hb.size, fun k v hk => ?_⟩
  rw [← h3 k v hk]
  refine hb.cell ?_
  have : (a.add (j * 18 + k)).block = a.block := by
    unfold Addr.add
    split <;> rfl
  rw [this]
  exact h2
theorem xrow_of [Go.Ev.XEnv] {w : World} {A : Option Addr} {n c : Nat} {g : Nat → D} (h : RawRow w A n g) : Go.Ev.XRow w ⟨A, 18, n, c, fun j => (g j).cells⟩ := fun j hj => by
  obtain ⟨a, h1, h2, h3⟩ := h j hj
  refine ⟨rfl, fun s hs mem => ?_, a, h1, h2, fun k s hk m => ?_⟩
  · have e : (g j).cells = (g j).list.map Go.Ev.SV.val := rfl
    have hs : s ∈ (g j).cells := hs
    rw [e, List.mem_map] at hs
    obtain ⟨v, _, rfl⟩ := hs
    exact Go.Ev.ok_val _ _
  · have e : (g j).cells = (g j).list.map Go.Ev.SV.val := rfl
    have hk : (g j).cells[k]? = some s := hk
    rw [e, List.getElem?_map, Option.map_eq_some_iff] at hk
    obtain ⟨v, hv, rfl⟩ := hk
    rw [Go.Ev.den_val]
    exact h3 k v hv
section
variable {H : Type} {enc : TypeId × Value → H} {w : World} {base : Nat} {spare : Nat → Bool} {held : Bool}
set_option maxRecDepth 100000 in
/-- A row of descriptors that came in. -/
theorem open_raw {v : Value} {base' : Nat} {d : DataW H} {p : List MemPlace} (hv : Value.okWide Tryd.prog w .any base' 42 v) (h : DataW.Trod enc Tryd.prog w base spare held 42 v d p) :
    ∃ (A : Option Addr) (n c : Nat) (g : Nat → D), v = .slice A n c ∧ (n : Int) ≤ 9223372036854775807 ∧ RawRow w A n g := by
  obtain ⟨a, len, cap, rfl⟩ := okWide_slice Tryd.underlying42 hv
  obtain ⟨f, hf⟩ := h
  rcases DataW.trod_slice Tryd.underlying42 hf with ⟨hc, _⟩ | ⟨a', len', cap', elems, rest, n, rfl, hc, _, hb, hlc, hcm, hel, hall, _, _⟩
  · simp only [Value.cells, List.cons.injEq, Value.slice.injEq, and_true] at hc
    obtain ⟨rfl, rfl, rfl⟩ := hc
    exact ⟨none, 0, 0, fun _ => S.D0, rfl, by omega, fun j hj => absurd hj (Nat.not_lt_zero _)⟩
  · simp only [Value.cells, List.cons.injEq, Value.slice.injEq, and_true] at hc
    obtain ⟨rfl, rfl, rfl⟩ := hc
    have hm : maxLen ≤ 9223372036854775807 := by decide +kernel
    have key : ∀ j, ∃ z : D, j < len → a'.block < w.heap.size ∧ ∀ k v, z.list[k]? = some v → w.cell? (a'.add (j * 18 + k)) = some v := by
      intro j
      by_cases hj : j < len
      · have h1 := hall j hj
        have hj' : j < elems.length := by rw [hel]; exact hj
        obtain ⟨e, he⟩ : ∃ e, elems[j]? = some e := ⟨elems[j]'hj', List.getElem?_eq_getElem hj'⟩
        rw [he, cells27] at h1
        obtain ⟨cs, hcs, htr⟩ := Option.bind_eq_some_iff.1 h1
        obtain ⟨z, rfl⟩ := read_D htr
        have hbk : (a'.add (j * 18)).block = a'.block := by unfold Addr.add; split <;> rfl
        refine ⟨z, fun _ => ⟨hbk ▸ World.cells?_block hcs (Nat.zero_lt_succ 17), fun k v hk => ?_⟩⟩
        obtain ⟨_, hl, hce⟩ := World.cells?_some hcs
        have hk18 : k < 18 := by
          rw [← hl]
          exact (List.getElem?_eq_some_iff.1 hk).1
        have := hce k hk18
        rw [hk, Go.Ev.add_add] at this
        exact this
      · exact ⟨S.D0, fun h => absurd h hj⟩
    obtain ⟨g, hg⟩ := Classical.axiomOfChoice key
    refine ⟨some a', len, cap, g, rfl, by omega, fun j hj => ?_⟩
    obtain ⟨hbl, hgc⟩ := hg j hj
    exact ⟨a', rfl, hbl, hgc⟩
end
theorem own : ownKnob Tryd.prog.godebug = none := by kernel_rfl
theorem laidOut : laidOutB Tryd.prog = true := by kernel_rfl
theorem accept_eq : Rows.laid_unicode_utf8_acceptRanges = Lib.acceptData := by kernel_rfl
theorem first_eq : Rows.laid_unicode_utf8_first = Lib.firstData := by kernel_rfl
theorem u8extra : U8Extra Tryd.prog Tryd.lays260_ren := ⟨by kernel_rfl, by kernel_rfl, by kernel_rfl, by kernel_rfl, by kernel_rfl, by kernel_rfl, by kernel_rfl⟩
/-- What the rows' list gives. -/
theorem tabs_of {W : World} (h : laidMetH Tryd.prog [("unicode/utf8.acceptRanges", Rows.laid_unicode_utf8_acceptRanges), ("unicode/utf8.first", Rows.laid_unicode_utf8_first)] W) : Tabs W := by
  rw [accept_eq, first_eq] at h
  exact utf8Tabs_of_readsT (U8Types.of260 Tryd.lays260) u8extra (Lib.laidMet.reads h (.tail _ (.head _))) (Lib.laidMet.reads h (.head _))
/-- A world in which both tables hold what their initialisers lay. -/
noncomputable def laidWorld (os : Os) : World :=
  let w0 := World.holding Tryd.prog os ⟨#[], #[], []⟩
  let put (h : Array Obj) (g : Nat) (cs : Array Value) : Array Obj := h.modify g fun
    | .cells _ t frozen => .cells cs t frozen
    | o => o
  let h1 := put w0.heap 1 (Lib.firstTab.map fun z => Value.int .u8 z).toArray
  let h2 := put h1 2 ((List.range 16).flatMap fun i => [Value.int .u8 (Lib.accLo i), Value.int .u8 (Lib.accHi i)]).toArray
  { w0 with heap := h2 }
theorem laid_met (os : Os) (args : Array Value) : laidMet Tryd.prog [("unicode/utf8.acceptRanges", Rows.laid_unicode_utf8_acceptRanges), ("unicode/utf8.first", Rows.laid_unicode_utf8_first)] ((laidWorld os).forCall (fun _ _ => 0) ⟨#[], args, []⟩).memory := by
  rw [accept_eq, first_eq]
  exact (LaidIn.of_run (l := [("unicode/utf8.acceptRanges", Lib.acceptData), ("unicode/utf8.first", Lib.firstData)]) [2, 1] 8 (by kernel_rfl) (by kernel_rfl) (by kernel_rfl) (by kernel_rfl)).met
end Go.Proofs.YtaojjpdlfnphiaaDoor.PDescKinds
end
section
/- DescKeeps: words: epochs, rows of its own, the chain. -/
set_option linter.unusedSimpArgs false
set_option linter.unusedVariables false
set_option linter.unusedSectionVars false
namespace Go.Ev
open Go.RowKit
section
variable [XEnv]
variable {P : Program} {X : ExtFn} {call : CallFn} {I : World → Prop} {N : Nat} {ops : Array Oper} {w0 : World} {Q : Exit → Act → World → Prop}
/-- Some operations of a region, and what is behind them. -/
theorem ops_sound_tail (hX : ExtSound P X) (hI : I w0) (hs : Stable I) (hXO : ∀ w, I w → XOk w) (hcall : CallSound P I call) (tail : List Oper) : ∀ (l : List Oper) (st st' : St) (m : Nat → Nat) (a : Act) (w : World), evOps P X call ops N l st = some st' → SR w0 N m st a w →
    (∀ m' a' w', Later st m st' m' → SR w0 N m' st' a' w' → wpList P ops Q tail a' w') → wpList P ops Q (l ++ tail) a w
  | [], st, st', m, a, w, h, hr, k => by
    simp only [evOps, Option.some.injEq] at h
    subst h
    exact k m a w (Later.refl _ _) hr
  | o :: r, st, st', m, a, w, h, hr, k => by
    unfold evOps at h
    cases hdg : dstOk N o.dst && knownG ops st.tmps o with
    | false => rw [hdg] at h; cases h
    | true =>
      rw [hdg] at h
      rw [Bool.and_eq_true] at hdg
      obtain ⟨hd, hgk⟩ := hdg
      simp only [cond_true] at h
      simp only [List.cons_append]
      unfold wpList
      rw [want_eq hr.ar.tm o hgk]
      cases hw : wantS ops st.tmps o with
      | true =>
        rw [hw] at h
        simp only [cond_true] at h
        simp only [if_true]
        split at h
        · rename_i v e he
          refine .inl (op_sound hX hI hs hXO hcall he (fun _ => hr.fresh _ (Nat.le_refl _)) (fun _ => hr.fresh) hr.ar.look_ok hr.ar.eval hr.mr ?_)
          intro m' w' hag hmr hv hg hall
          have hf := hall hr.fresh
          exact ops_sound_tail hX hI hs hXO hcall tail r _ st' m' _ w' h ⟨hmr, hr.ar.put hag hg hd hv, hf.1⟩ (fun m2 a2 w2 hl hr2 => k m2 a2 w2 (Later.trans ⟨hag, hg, hf.2⟩ hl) hr2)
        · cases h
      | false =>
        rw [hw] at h
        simp only [cond_false] at h
        simp only [Bool.false_eq_true, if_false]
        exact ops_sound_tail hX hI hs hXO hcall tail r _ st' m _ w h ⟨hr.mr, (den_val m undef) ▸ hr.ar.put (v := .val undef) (Agree.refl _ _) (Grows.refl _) hd (ok_val _ _), hr.fresh⟩ (fun m2 a2 w2 hl hr2 => k m2 a2 w2 ⟨hl.agree, hl.grows, hl.le⟩ hr2)
theorem pickT_mem (t : Nat) : ∀ ts : List (Nat × SV), pickT ts t = SV.unk ∨ (t, pickT ts t) ∈ ts
  | [] => .inl rfl
  | p :: r => by
    simp only [pickT]
    cases h : Nat.beq t p.1 with
    | true =>
      have := Nat.eq_of_beq_eq_true h
      subst this
      exact .inr List.mem_cons_self
    | false =>
      rcases pickT_mem t r with h | h
      · exact .inl h
      · exact .inr (List.mem_cons_of_mem _ h)
/-- All that is, is as_ if it had come in. -/
theorem epoch {a : Act} {w : World} (hs : a.tmps.size = N) (hd : a.defers = []) (ts : List (Nat × SV)) (m : Nat → Nat) (h : ∀ p ∈ ts, a.tmps.getD p.1 undef = p.2.den m) (hok : ∀ p ∈ ts, p.2.ok fun _ => none) :
    SR w N m ((Cut.mk ts []).st 0) a w := by
  refine ⟨MR.start w m, ⟨hs, hd, fun t ht => ?_, fun t => ?_⟩, fun _ _ => rfl⟩
  · have ht : (pickT ts t).known = true := ht
    show a.tmps.getD t undef = (pickT ts t).den m
    rcases pickT_mem t ts with h1 | h1
    · rw [h1] at ht; cases ht
    · exact h _ h1
  · show (pickT ts t).ok _
    rcases pickT_mem t ts with h1 | h1
    · rw [h1]; exact ok_unk
    · exact hok _ h1
end
end Go.Ev
namespace Go.Proofs.YtaojjpdlfnphiaaDoor.PDescKinds
open Go.RowKit Go.Ev
theorem flat_get (L : List D) (j k : Nat) (v : Value) (hj : j < L.length) (h : (L.getD j S.D0).list[k]? = some v) : (L.flatMap D.list)[j * 18 + k]? = some v := by
  induction L generalizing j with
  | nil => simp at hj
  | cons d r ih =>
    have hk : k < 18 := by
      have := (List.getElem?_eq_some_iff.1 h).1
      rwa [D.list_length] at this
    rw [List.flatMap_cons]
    cases j with
    | zero =>
      simp only [Nat.zero_mul, Nat.zero_add]
      rw [List.getElem?_append_left (by rw [D.list_length]; exact hk)]
      simpa using h
    | succ j =>
      rw [List.getElem?_append_right (by rw [D.list_length]; omega), D.list_length]
      rw [show (j + 1) * 18 + k - 18 = j * 18 + k by omega]
      exact ih j (by simpa using hj) (by simpa using h)
namespace Keeps
/-- An own row. -/
theorem own_row {w : World} {base : Nat} {v : Value} {L : List D} (h : w.ownsRow base 27 18 v L.length (L.flatMap D.list)) (hne : L ≠ []) :
    ∃ g cap, v = .slice (some ⟨g, 0, none⟩) L.length cap ∧ base ≤ g ∧ RawRow w (some ⟨g, 0, none⟩) L.length (fun j => L.getD j S.D0) := by
  have hl := h.lt
  have hc := h.cells (g := (v.ownBlock).getD 0)
  rcases h.2 with ⟨_, h0⟩ | ⟨g, cap, cur, rfl, hb, hg, h1, h2, h3, h4⟩
  · exact absurd (List.length_eq_zero_iff.1 h0) hne
  · refine ⟨g, cap, rfl, hb, fun j hj => ⟨_, rfl, (hl g rfl).2, fun k u hu => ?_⟩⟩
    exact hc rfl _ _ (flat_get L j k u hj hu)
structure Chain (z : D) (L : List D) : Prop where
  ne : L ≠ []
  no : S.wz z = false → L = [z]
  all : S.wz z = true → (∀ b ∈ L, S.wz b = true) ∧ ∀ i j, i ≤ j → j < L.length → S.keeps (L.getD i S.D0) (L.getD j S.D0) = true
theorem Chain.one (z : D) : Chain z [z] := by
  refine ⟨by simp, fun _ => rfl, fun h => ⟨fun b hb => ?_, fun i j hij hj => ?_⟩⟩
  · rw [List.mem_singleton.1 hb]; exact h
  · simp only [List.length_cons, List.length_nil, Nat.zero_add, Nat.lt_one_iff] at hj
    subst hj
    obtain rfl : i = 0 := by omega
    exact S.keeps_refl h
theorem Chain.step {z d : D} {L : List D} (x : Bool) (h : Chain z L) (ho : S.okA (L.getD (L.length - 1) S.D0) d = true) : Chain z (L ++ [(S.apply x (L.getD (L.length - 1) S.D0) d).1]) := by
  have hlen : 0 < L.length := List.length_pos_iff.2 h.ne
  cases hz : S.wz z with
  | false =>
    exfalso
    have e := h.no hz
    subst e
    rw [S.okA_eq, Bool.and_eq_true] at ho
    have := ho.2
    simp only [List.length_cons, List.length_nil, Nat.zero_add, Nat.sub_self, List.getD_cons_zero] at this
    rw [hz] at this
    cases this
  | true =>
    obtain ⟨h1, h2⟩ := h.all hz
    refine ⟨by simp, fun h => (by rw [hz] at h; cases h), fun _ => ⟨fun b hb => ?_, fun i j hij hj => ?_⟩⟩
    · rcases List.mem_append.1 hb with hb | hb
      · exact h1 b hb
      · rw [List.mem_singleton.1 hb]
        exact S.apply_wz x ho
    · simp only [List.length_append, List.length_cons, List.length_nil, Nat.zero_add] at hj
      have gl : ∀ q, q < L.length → (L ++ [(S.apply x (L.getD (L.length - 1) S.D0) d).1]).getD q S.D0 = L.getD q S.D0 := fun q hq => by
        simp [List.getD_eq_getElem?_getD, List.getElem?_append_left hq]
      have gr : (L ++ [(S.apply x (L.getD (L.length - 1) S.D0) d).1]).getD L.length S.D0 = (S.apply x (L.getD (L.length - 1) S.D0) d).1 := by
        simp [List.getD_eq_getElem?_getD]
      by_cases hjl : j < L.length
      · rw [gl i (by omega), gl j hjl]
        exact h2 i j hij hjl
      · obtain rfl : j = L.length := by omega
        rw [gr]
        by_cases hil : i < L.length
        · rw [gl i hil]
          exact S.keeps_step x (h2 i (L.length - 1) (by omega) (by omega)) ho
        · obtain rfl : i = L.length := by omega
          rw [gr]
          exact S.keeps_refl (S.apply_wz x ho)
end Keeps
end Go.Proofs.YtaojjpdlfnphiaaDoor.PDescKinds
end
section
/- DescKeeps: what each piece comes to. -/
set_option linter.unusedSimpArgs false
set_option linter.unusedVariables false
set_option linter.unusedSectionVars false
namespace Go.Proofs.YtaojjpdlfnphiaaDoor.PDescKinds
open Go.RowKit Go.Ev
namespace Keeps
section
variable (A : Option Addr) (n c : Nat) (g : Nat → D) (A1 : Option Addr) (n1 c1 : Nat) (g1 : Nat → D) (A2 : Option Addr) (z : D) (x : Bool) (i j : Int)
set_option maxRecDepth 100000
theorem pre_ev : letI := rowD A n c g
    evK Tryd.prog ext (tab FL) 90 87 (seqL Keeps.pre) ⟨argS [.val (.bool x), .val z.agg, .xs [0]], fun _ => none, 0⟩ (grab Tryd.prog Tryd.f5 [0,2,4,7,8] [0,1] 2) =
    (bif decide ((n : Int) > 60) then some (Res.ret (SV.val (Value.bool true))) else some (Res.cut Ex.normal (Cut.mk [(0, SV.val (Value.bool x)), (2, SV.xs [0]), (4, SV.ptr 0 0), (7, SV.slc 1 0 1 1), (8, SV.val (Value.int IntKind.i64 0))] [(0, Blk.mk 27 z.cells), (1, Blk.mk 27 z.cells)]))) := by kernel_rfl
theorem r1a_ev : letI := rows A n c g A1 n1 c1 g1 A2 z
    evK Tryd.prog ext (tab FL) 90 87 (seqL Keeps.r1a) ((Keeps.hd1 x i).st 0) (grab Tryd.prog Tryd.f5 [0,2,4,7,8] [] 0) =
    (bif decide (i < (n : Int)) then some (Res.cut Ex.normal (hd1 x i)) else some (Res.cut (Ex.exit 0) (hd1 x i))) := by kernel_rfl
/-- Behind a step that was taken. -/
def took (y : D) : Cut := ⟨[(0, .val (.bool x)), (2, .xs [0]), (4, .xp [2] 0 0), (7, .xs [1]), (8, .val (.int .i64 i)), (9, .ptr 16 0)], [(16, ⟨27, y.cells⟩)]⟩
theorem b1a_ev : letI := rows A n c g A1 n1 c1 g1 A2 z
    evK Tryd.prog ext (tab FL) 90 87 (seqL Keeps.b1a) ((Keeps.hd1 x i).st 0) (grab Tryd.prog Tryd.f5 [0,2,4,7,8,9] [16] 20) =
    (bif decide (0 ≤ IntKind.i64.wrap ((n1 : Int) - 1)) && decide (IntKind.i64.wrap ((n1 : Int) - 1) < (n1 : Int)) then
     (bif decide (0 ≤ i) && decide (i < (n : Int)) then
      (bif S.okA (g1 (IntKind.i64.wrap ((n1 : Int) - 1)).toNat) (g i.toNat) then some (Res.cut Ex.normal (took x i (S.apply x (g1 (IntKind.i64.wrap ((n1 : Int) - 1)).toNat) (g i.toNat)).fst)) else some (Res.cut (Ex.exit 1) (took x i S.D0))) else none) else none) := by kernel_rfl
theorem took_hd (y : D) : cutS [0,2,4,7,8] [] 0 ((took x i y).st 20) = some (hd1 x i) := by kernel_rfl
/-- Ahead of the append. -/
def ahead (y : D) : Cut := ⟨[(0, .val (.bool x)), (2, .xs [0]), (4, .xp [2] 0 0), (7, .xs [1]), (8, .val (.int .i64 i)), (47, .xs [1]), (49, .slc 20 0 1 1)], [(20, ⟨27, y.cells⟩)]⟩
theorem o3_ev (y : D) : letI := rows A n c g A1 n1 c1 g1 A2 z
    (evOps Tryd.prog ext (callWith Tryd.prog (tab FL) (ev Tryd.prog ext (tab FL) 0)) Keeps.ops11 87 (Keeps.ops11.toList.take 3) ((took x i y).st 20)).bind (fun st => cutS [0,2,4,7,8,47,49] [20] 21 st) = some (ahead x i y) := by kernel_rfl
theorem r1c_ev : letI := rows A n c g A1 n1 c1 g1 A2 z
    evK Tryd.prog ext (tab FL) 90 87 (seqL Keeps.r1c) ((Keeps.hd1 x i).st 0) (grab Tryd.prog Tryd.f5 [0,2,4,7,8] [] 0) = some (Res.cut Ex.normal (hd1 x (IntKind.i64.wrap (i + 1)))) := by kernel_rfl
theorem mid_ev : letI := rows A n c g A1 n1 c1 g1 A2 z
    evK Tryd.prog ext (tab FL) 90 87 (seqL [Keeps.mid]) ((Keeps.hd1 x i).st 0) (grab Tryd.prog Tryd.f5 [4,7,12] [] 0) = some (Res.cut Ex.normal (hd2 0)) := by kernel_rfl
theorem r2a_ev : letI := rows A n c g A1 n1 c1 g1 A2 z
    evK Tryd.prog ext (tab FL) 90 87 (seqL Keeps.r2a) ((Keeps.hd2 i).st 0) (grab Tryd.prog Tryd.f5 [4,7,12] [] 0) =
    (bif decide (i < (n1 : Int)) then some (Res.cut Ex.normal (hd2 i)) else some (Res.cut (Ex.exit 2) (hd2 i))) := by kernel_rfl
theorem b2a_ev : letI := rows A n c g A1 n1 c1 g1 A2 z
    evK Tryd.prog ext (tab FL) 90 87 (seqL Keeps.b2a) ((Keeps.hd2 i).st 0) (grab Tryd.prog Tryd.f5 [4,7,12,13] [] 0) = some (Res.cut Ex.normal (hd3 i i)) := by kernel_rfl
theorem r3_ev : letI := rows A n c g A1 n1 c1 g1 A2 z
    evK Tryd.prog ext (tab FL) 90 87 (seqL (flat Keeps.round3)) ((Keeps.hd3 i j).st 0) (grab Tryd.prog Tryd.f5 [4,7,12,13] [] 0) =
    (bif decide (j < (n1 : Int)) then
     (bif decide (0 ≤ i) && decide (i < (n1 : Int)) then
      (bif decide (0 ≤ j) && decide (j < (n1 : Int)) then
       (bif S.okK (g1 i.toNat) (g1 j.toNat) then
        (bif !S.keeps (g1 i.toNat) (g1 j.toNat) then some (Res.ret (SV.val (Value.bool false))) else some (Res.cut Ex.normal (hd3 i (IntKind.i64.wrap (j + 1))))) else
        (bif i == 0 then some (Res.ret (SV.val (Value.bool !S.whole z))) else some (Res.ret (SV.val (Value.bool false))))) else none) else none) else some (Res.cut (Ex.exit 4) (hd3 i j))) := by kernel_rfl
theorem r2c_ev : letI := rows A n c g A1 n1 c1 g1 A2 z
    evK Tryd.prog ext (tab FL) 90 87 (seqL Keeps.r2c) ((Keeps.hd3 i j).st 0) (grab Tryd.prog Tryd.f5 [4,7,12] [] 0) = some (Res.cut Ex.normal (hd2 (IntKind.i64.wrap (i + 1)))) := by kernel_rfl
theorem post_ev : letI := rows A n c g A1 n1 c1 g1 A2 z
    evK Tryd.prog ext (tab FL) 90 87 (seqL Keeps.post) ((Keeps.hd2 i).st 0) (grab Tryd.prog Tryd.f5 [4,7,12] [] 0) = some (Res.ret (SV.val (Value.bool true))) := by kernel_rfl
end
theorem info27 : ∃ (i : TypeInfo) (z : Value), Tryd.prog.info? 27 = some i ∧ i.zero = some z ∧ i.size = 18 ∧ i.bytes = 168 ∧ z.cells.size = 18 := by
  have h : (Tryd.prog.info? 27).bind (fun i => i.zero.map fun z => (i.size, i.bytes, z.cells.size)) = some (18, 168, 18) := by kernel_rfl
  obtain ⟨i, hi, h⟩ := Option.bind_eq_some_iff.1 h
  obtain ⟨z, hz, h⟩ := Option.map_eq_some_iff.1 h
  simp only [Prod.mk.injEq] at h
  exact ⟨i, z, hi, hz, h.1, h.2.1, h.2.2⟩
noncomputable def oA : Oper := ops11.toList.getD 3 default
noncomputable def oB : Oper := ops11.toList.getD 4 default
theorem ops11_eq : ops11.toList = ops11.toList.take 3 ++ [oA, oB] := by kernel_rfl
theorem oA_op : oA.op = .call { callee := .builtin .append, args := #[.tmp 47, .tmp 49], argTypes := #[42, 42] } := by kernel_rfl
theorem oA_guard : oA.guard = none := by kernel_rfl
theorem oA_dst : oA.dst = some 50 := by kernel_rfl
theorem oB_op : oB.op = .assign (.tmp 50) := by kernel_rfl
theorem oB_guard : oB.guard = none := by kernel_rfl
theorem oB_dst : oB.dst = some 7 := by kernel_rfl
end Keeps
end Go.Proofs.YtaojjpdlfnphiaaDoor.PDescKinds
end
section
/- DescKeeps: the first loop. -/
set_option linter.unusedSimpArgs false
set_option linter.unusedVariables false
set_option linter.unusedSectionVars false
namespace Go.Proofs.YtaojjpdlfnphiaaDoor.PDescKinds
open Go.RowKit Go.Ev
namespace Keeps
theorem xok_rows {w : World} {A : Option Addr} {n c : Nat} {g : Nat → D} {A1 : Option Addr} {n1 c1 : Nat} {g1 : Nat → D} {A2 : Option Addr} {z : D} (h0 : RawRow w A n g) (h1 : RawRow w A1 n1 g1) (h2 : RawRow w A2 1 fun _ => z) :
    @XOk (rows A n c g A1 n1 c1 g1 A2 z) w := by
  letI := rows A n c g A1 n1 c1 g1 A2 z
  intro r
  show XRow w (match r with
    | [0] => ⟨A, 18, n, c, fun j => (g j).cells⟩
    | [1] => ⟨A1, 18, n1, c1, fun j => (g1 j).cells⟩
    | [2] => ⟨A2, 18, 1, 1, fun _ => z.cells⟩
    | _ => ⟨none, 18, 0, 0, fun _ => []⟩)
  split
  · exact xrow_of h0
  · exact xrow_of h1
  · exact xrow_of h2
  · exact fun j hj => absurd hj (Nat.not_lt_zero _)
theorem raw_box {w : World} {g4 : Nat} {z : D} (h : w.heap[g4]? = some (.cells z.list.toArray 27 (0, 0))) : RawRow w (some ⟨g4, 0, none⟩) 1 fun _ => z := fun j hj => by
  obtain rfl : j = 0 := by omega
  refine ⟨_, rfl, (Array.getElem?_eq_some_iff.1 h).1, fun k v hk => ?_⟩
  rw [add_none, cell_of_row w g4 _ _ 27 (0, 0) h]
  simpa using hk
section
variable (w0 : World) (A : Option Addr) (n c : Nat) (g : Nat → D) (x : Bool) (z : D)
/-- At the head of the first loop. -/
structure Head (L : List D) (i : Int) (a : Act) (w : World) : Prop where
  below : Below w0.heap.size w0 w
  size : a.tmps.size = 87
  defers : a.defers = []
  t0 : a.tmps.getD 0 undef = .bool x
  t2 : a.tmps.getD 2 undef = .slice A n c
  t8 : a.tmps.getD 8 undef = .int .i64 i
  own : w.ownsRow w0.heap.size 27 18 (a.tmps.getD 7 undef) L.length (L.flatMap D.list)
  box : ∃ g4, a.tmps.getD 4 undef = .pointer (some ⟨g4, 0, none⟩) ∧ w0.heap.size ≤ g4 ∧ w.heap[g4]? = some (.cells z.list.toArray 27 (0, 0)) ∧ (a.tmps.getD 7 undef).ownBlock ≠ some g4
/-- The rows of an epoch. -/
abbrev Er (gb cap g4 : Nat) (L : List D) : XEnv := rows A n c g (some ⟨gb, 0, none⟩) L.length cap (fun j => L.getD j S.D0) (some ⟨g4, 0, none⟩) z
def InvE (gb cap g4 : Nat) (L : List D) (w : World) : Prop := Tabs w ∧ @XOk (Er A n c g z gb cap g4 L) w
theorem invE_stable (gb cap g4 : Nat) (L : List D) : Stable (InvE A n c g z gb cap g4 L) := fun w w' h hb => ⟨tabs_stable _ _ h.1 hb, @XOk.below (Er A n c g z gb cap g4 L) _ _ h.2 hb⟩
theorem givenE (gb cap g4 : Nat) (L : List D) : @GivenSound (Er A n c g z gb cap g4 L) Tryd.prog (InvE A n c g z gb cap g4 L) (tab FL) := letI := Er A n c g z gb cap g4 L; tab_sound fun p hp => (entsFL p hp).mono (J := InvE A n c g z gb cap g4 L) fun w h => h.1
variable {w0 A n c g x z}
theorem grown_of {w w' : World} (hb : Below w.heap.size w w') (row : Option Nat) : w.grownBy w' row := ⟨hb.os, hb.tape, hb.output, hb.size, fun k hk _ => hb.block k hk⟩
theorem Head.enter {L : List D} {i : Int} {a : Act} {w : World} (h : Head w0 A n c x z L i a w) (hne : L ≠ []) (hraw : RawRow w0 A n g) (ht : Tabs w0) :
    ∃ gb cap g4, a.tmps.getD 7 undef = .slice (some ⟨gb, 0, none⟩) L.length cap ∧ w0.heap.size ≤ gb ∧ a.tmps.getD 4 undef = .pointer (some ⟨g4, 0, none⟩) ∧ w0.heap.size ≤ g4 ∧ w.heap[g4]? = some (.cells z.list.toArray 27 (0, 0)) ∧ gb ≠ g4 ∧
      InvE A n c g z gb cap g4 L w ∧ @SR (Er A n c g z gb cap g4 L) w 87 (fun _ => 0) ((hd1 x i).st 0) a w := by
  obtain ⟨gb, cap, h7, hb, hr1⟩ := own_row h.own hne
  obtain ⟨g4, h4, hb4, hg4, hne4⟩ := h.box
  refine ⟨gb, cap, g4, h7, hb, h4, hb4, hg4, fun e => hne4 (by rw [h7, e]; rfl), ⟨tabs_stable _ _ ht h.below, xok_rows (hraw.below h.below) hr1 (raw_box hg4)⟩, ?_⟩
  letI := Er A n c g z gb cap g4 L
  refine epoch h.size h.defers _ _ (fun p hp => ?_) (fun p hp => ?_)
  · simp only [List.mem_cons, List.not_mem_nil, or_false] at hp
    rcases hp with rfl | rfl | rfl | rfl | rfl
    · rw [den_val]; exact h.t0
    · rw [den_xs]; exact h.t2
    · rw [den_xp]
      show a.tmps.getD 4 undef = .pointer ((some (⟨g4, 0, none⟩ : Addr)).map fun a => a.add (0 * 18 + 0))
      rw [h4]
      rfl
    · rw [den_xs]; exact h7
    · rw [den_val]; exact h.t8
  · simp only [List.mem_cons, List.not_mem_nil, or_false] at hp
    rcases hp with rfl | rfl | rfl | rfl | rfl
    · exact ok_val _ _
    · exact ok_xs
    · exact ok_xp.2 (show 0 < 1 by decide)
    · exact ok_xs
    · exact ok_val _ _
theorem Head.leave {L : List D} {i i' : Int} {a a' : Act} {w w' : World} {gb cap g4 : Nat} {m : Nat → Nat} (h : Head w0 A n c x z L i a w) (h7 : a.tmps.getD 7 undef = .slice (some ⟨gb, 0, none⟩) L.length cap) (h4 : a.tmps.getD 4 undef = .pointer (some ⟨g4, 0, none⟩)) (hb4 : w0.heap.size ≤ g4) (hg4 : w.heap[g4]? = some (.cells z.list.toArray 27 (0, 0))) (hne : gb ≠ g4)
    (hr : @SR (Er A n c g z gb cap g4 L) w 87 m ((hd1 x i').st 0) a' w') : Head w0 A n c x z L i' a' w' := by
  letI := Er A n c g z gb cap g4 L
  have hb := hr.mr.below
  have e7 : a'.tmps.getD 7 undef = .slice (some ⟨gb, 0, none⟩) L.length cap := (hr.ar.tm 7 rfl).trans (den_xs m [1])
  refine ⟨h.below.trans (hb.mono h.below.size), hr.ar.size, hr.ar.defers, (hr.ar.tm 0 rfl).trans (den_val m _), (hr.ar.tm 2 rfl).trans (den_xs m [0]), (hr.ar.tm 8 rfl).trans (den_val m _), ?_, g4, ?_, hb4, ?_, ?_⟩
  · rw [e7]
    have := h.own
    rw [h7] at this
    exact this.kept (grown_of hb none) (.inr (by simp [Value.ownBlock]))
  · exact ((hr.ar.tm 4 rfl).trans (den_xp m [2] 0 0))
  · exact (hb.block g4 (Array.getElem?_eq_some_iff.1 hg4).1).trans hg4
  · rw [e7]
    simpa [Value.ownBlock] using hne
end
end Keeps
end Go.Proofs.YtaojjpdlfnphiaaDoor.PDescKinds
end
section
/- DescKeeps: the first loop. -/
set_option linter.unusedSimpArgs false
set_option linter.unusedVariables false
set_option linter.unusedSectionVars false
namespace Go.Proofs.YtaojjpdlfnphiaaDoor.PDescKinds
open Go.RowKit Go.Ev
namespace Keeps
theorem list_one (y : D) : ∀ u ∈ y.list, u.oneCell' = true := by
  intro u hu
  simp only [D.list, V.list, List.cons_append, List.nil_append, List.mem_cons, List.not_mem_nil, or_false] at hu
  rcases hu with rfl | rfl | rfl | rfl | rfl | rfl | rfl | rfl | rfl | rfl | rfl | rfl | rfl | rfl | rfl | rfl | rfl | rfl <;> rfl
theorem put_self (a : Act) (d : Nat) (v : Value) (h : d < a.tmps.size) : (a.put (some d) v).tmps.getD d undef = v := by
  show (a.tmps.setIfInBounds d v).getD d undef = v
  simp [h]
theorem put_ne (a : Act) (d t : Nat) (v : Value) (h : d ≠ t) : (a.put (some d) v).tmps.getD t undef = a.tmps.getD t undef := by
  show (a.tmps.setIfInBounds d v).getD t undef = _
  simp [Array.getElem?_setIfInBounds_ne h]
section
variable {w0 : World} {A : Option Addr} {n c : Nat} {g : Nat → D} {x : Bool} {z : D}
/-- A step that was taken: the own row grows. -/
theorem grow {L : List D} {i : Int} {a a2 : Act} {w w2 : World} {gb cap g4 : Nat} {m : Nat → Nat} {y : D} (h : Head w0 A n c x z L i a w) (hne : L ≠ []) (hlen : L.length ≤ 61) (h7 : a.tmps.getD 7 undef = .slice (some ⟨gb, 0, none⟩) L.length cap) (hb0 : w0.heap.size ≤ gb)
    (hb4 : w0.heap.size ≤ g4) (hg4 : w.heap[g4]? = some (.cells z.list.toArray 27 (0, 0))) (hne4 : gb ≠ g4) (hI : InvE A n c g z gb cap g4 L w)
    (hr : @SR (Er A n c g z gb cap g4 L) w 87 m ((took x i y).st 20) a2 w2) {Q : Exit → Act → World → Prop} (hQ : ∀ a3 w3, Head w0 A n c x z (L ++ [y]) i a3 w3 → Q .normal a3 w3) :
    (Code.region 11 ops11 false).wp Tryd.prog Q a2 w2 := by
  letI := Er A n c g z gb cap g4 L
  refine wp_region_list ?_
  rw [ops11_eq]
  have hev := o3_ev A n c g (some ⟨gb, 0, none⟩) L.length cap (fun j => L.getD j S.D0) (some ⟨g4, 0, none⟩) z x i y
  obtain ⟨st', hst', hcut⟩ := Option.bind_eq_some_iff.1 hev
  have hs := invE_stable A n c g z gb cap g4 L
  have hXO : ∀ w, InvE A n c g z gb cap g4 L w → XOk w := fun _ h => h.2
  have hG := givenE A n c g z gb cap g4 L
  refine ops_sound_tail ext_sound hI hs hXO (call_sound hs hG (ev_sound mixed ext_sound hs hXO hG 0).1) [oA, oB] _ _ _ m a2 w2 hst' hr ?_
  intro m3 a3 w3 _ hr3
  have hr4 := cut_sound hcut hr3
  have hb := hr4.mr.below
  have e47 : a3.eval (.tmp 47) = .slice (some ⟨gb, 0, none⟩) L.length cap := (hr4.ar.tm 47 rfl).trans (den_xs m3 [1])
  have e49 : a3.eval (.tmp 49) = .slice (some ⟨m3 20, 0, none⟩) 1 1 := (hr4.ar.tm 49 rfl).trans (den_slc m3 20 0 1 1)
  have hblk := hr4.mr.blk 20 ⟨27, y.cells⟩ rfl
  have hcells : (y.cells.map (SV.den m3)).toArray = y.list.toArray := by
    have e : y.cells = y.list.map SV.val := rfl
    rw [e, List.map_map, show (SV.den m3 ∘ SV.val) = _root_.id from funext fun v => den_val m3 v, List.map_id]
  have hrow : w3.heap[m3 20]? = some (.cells y.list.toArray 27 (0, 0)) := by rw [← hcells]; exact hblk.2.1
  have hown : w3.ownsRow w0.heap.size 27 18 (.slice (some ⟨gb, 0, none⟩) L.length cap) L.length (L.flatMap D.list) := by
    have := h.own
    rw [h7] at this
    exact this.kept (grown_of hb none) (.inr (by simp [Value.ownBlock]))
  obtain ⟨i27, z27, hi1, hi2, hi3, hi4, hi5⟩ := info27
  refine wpList_append_own w3 oA_guard (.tmp 47) (.tmp 49) 42 oA_op w0.heap.size 27 i27 z27 18 168 Tryd.underlying42 hi1 hi2 hi3 hi4 hi5 (by decide) _ L.length _ e47 hown ⟨m3 20, 0, none⟩ 1 1 y.list e49 rfl ?_ (list_one y) ?_ ?_ ?_ ?_
  · intro j u hu
    rw [add_none, cell_of_row w3 (m3 20) _ _ 27 (0, 0) hrow]
    simpa using hu
  · have : maxLen = 9223372036854775807 := by decide +kernel
    omega
  · omega
  · exact Nat.le_trans h.below.size hb.size
  intro v' w4 hown' hgr hnil
  have hsz3 : a3.tmps.size = 87 := hr4.ar.size
  refine wpList_plain oB_guard fun K hK => ?_
  have hex : (execOp (a3.put oA.dst v').eval oB).run Tryd.prog w4 = .ok (.value v') w4 := by
    have e50 : (a3.put oA.dst v').eval (.tmp 50) = v' := by rw [oA_dst]; exact put_self a3 50 v' (by omega)
    unfold execOp
    simp only [oB_op, e50, Sem.run_pure]
  unfold Oper.wp
  rw [hex, Oper.upon_value, oA_dst, oB_dst]
  refine hK _ _ (hQ _ _ ?_)
  have hsz4 : (a3.put (some 50) v').tmps.size = 87 := by simp [Act.put, hsz3]
  have e7 : ((a3.put (some 50) v').put (some 7) v').tmps.getD 7 undef = v' := put_self _ 7 v' (by omega)
  have eo : ∀ t, t ≠ 50 → t ≠ 7 → ((a3.put (some 50) v').put (some 7) v').tmps.getD t undef = a3.tmps.getD t undef := fun t h1 h2 => by rw [put_ne _ _ _ _ (Ne.symm h2), put_ne _ _ _ _ (Ne.symm h1)]
  have hg43 : w3.heap[g4]? = some (.cells z.list.toArray 27 (0, 0)) := (hb.block g4 (Array.getElem?_eq_some_iff.1 hg4).1).trans hg4
  have hg44 : w4.heap[g4]? = some (.cells z.list.toArray 27 (0, 0)) := (hgr.block g4 (Array.getElem?_eq_some_iff.1 hg43).1 (by simp [Value.ownBlock]; omega)).trans hg43
  have hbel3 : Below w0.heap.size w0 w3 := h.below.trans (hb.mono h.below.size)
  have hfl : (L ++ [y]).flatMap D.list = L.flatMap D.list ++ y.list := by simp
  refine ⟨hbel3.trans ⟨hgr.os, hgr.tape, hgr.output, hgr.size, fun k hk => hgr.block k (Nat.lt_of_lt_of_le hk hbel3.size) (by simp [Value.ownBlock]; omega)⟩, by simp [Act.put, hsz3], hr4.ar.defers, ?_, ?_, ?_, ?_, g4, ?_, hb4, hg44, ?_⟩
  · rw [eo 0 (by decide) (by decide)]; exact (hr4.ar.tm 0 rfl).trans (den_val m3 _)
  · rw [eo 2 (by decide) (by decide)]; exact (hr4.ar.tm 2 rfl).trans (den_xs m3 [0])
  · rw [eo 8 (by decide) (by decide)]; exact (hr4.ar.tm 8 rfl).trans (den_val m3 _)
  · rw [e7, hfl, List.length_append]
    exact hown'
  · rw [eo 4 (by decide) (by decide)]; exact (hr4.ar.tm 4 rfl).trans (den_xp m3 [2] 0 0)
  · rw [e7]
    intro e
    rcases hown'.2 with ⟨rfl, _⟩ | ⟨g', cap', cur, rfl, _, hg', hl', _, hcs, _⟩
    · simp [Value.ownBlock] at e
    · simp only [Value.ownBlock, Option.some.injEq] at e
      subst e
      rw [hg44] at hg'
      simp only [Option.some.injEq, Obj.cells.injEq, and_true] at hg'
      obtain ⟨rfl, _⟩ := hg'
      have : z.list.toArray.size = 18 := rfl
      have h0 : 0 < L.length := List.length_pos_iff.2 hne
      omega
end
end Keeps
end Go.Proofs.YtaojjpdlfnphiaaDoor.PDescKinds
end
section
/- DescKeeps: what never changes, over any steps. -/
set_option linter.unusedSimpArgs false
set_option linter.unusedVariables false
set_option linter.unusedSectionVars false
namespace Go.Proofs.YtaojjpdlfnphiaaDoor.PDescKinds
open Go.RowKit Go.Ev
namespace Keeps
section
variable {w0 : World} {A : Option Addr} {n c : Nat} {g : Nat → D} {x : Bool} {z : D}
theorem loop1 (hn : n ≤ 60) (hraw : RawRow w0 A n g) (ht : Tabs w0) {Q : Exit → Act → World → Prop} (hQ : ∀ L i a w, Chain z L → L.length ≤ 61 → Head w0 A n c x z L i a w → Q .normal a w) :
    ∀ (k : Nat) (i : Int) (L : List D) (a : Act) (w : World), 0 ≤ i → i ≤ n → (n : Int) - i < k → Chain z L → (L.length : Int) ≤ i + 1 → Head w0 A n c x z L i a w → Code.rounds Tryd.prog round1 (Exit.inBlock 0 Q) k a w := by
  intro k
  induction k with
  | zero => intro i L a w h0 h1 h2; exfalso; omega
  | succ k ih =>
    intro i L a w h0 h1 h2 hc hl hh
    have hw : IntKind.i64.wrap (i + 1) = i + 1 := by rw [IntKind.wrap_i64]; omega
    rw [rounds_succ]
    refine wpL_flat _ ?_
    rw [split1, wpL_app]
    obtain ⟨gb, cap, g4, h7, hb0, h4, hb4, hg4, hne4, hI, hst⟩ := hh.enter (g := g) hc.ne hraw ht
    letI := Er A n c g z gb cap g4 L
    have hs := invE_stable A n c g z gb cap g4 L
    have hXO : ∀ w, InvE A n c g z gb cap g4 L w → XOk w := fun _ h => h.2
    have hG := givenE A n c g z gb cap g4 L
    have hev := r1a_ev A n c g (some ⟨gb, 0, none⟩) L.length cap (fun j => L.getD j S.D0) (some ⟨g4, 0, none⟩) z x i
    by_cases hlt : i < n
    · rw [decide_eq_true hlt] at hev
      refine piece mixed ext_sound hs hXO hG hev hI hst (fun v hv => by cases hv) ?_
      intro ex d hd m1 a1 w1 hr1
      cases hd
      show wpL Tryd.prog (Code.block 1 r1b :: r1c) _ a1 w1
      simp only [wpL]
      refine wp_block (wpL_flat _ ?_)
      rw [split1b, wpL_app]
      have hlen0 : 0 < L.length := List.length_pos_iff.2 hc.ne
      have hw1 : IntKind.i64.wrap ((L.length : Int) - 1) = (L.length : Int) - 1 := by rw [IntKind.wrap_i64]; omega
      have hev2 := b1a_ev A n c g (some ⟨gb, 0, none⟩) L.length cap (fun j => L.getD j S.D0) (some ⟨g4, 0, none⟩) z x i
      rw [hw1, decide_eq_true (show (0 : Int) ≤ (L.length : Int) - 1 by omega), decide_eq_true (show (L.length : Int) - 1 < L.length by omega), decide_eq_true h0, decide_eq_true hlt, show ((L.length : Int) - 1).toNat = L.length - 1 by omega] at hev2
      simp only [Bool.and_self, cond_true] at hev2
      cases ho : S.okA (L.getD (L.length - 1) S.D0) (g i.toNat) with
      | false =>
        rw [ho] at hev2
        refine piece mixed ext_sound hs hXO hG hev2 hI hr1 (fun v hv => by cases hv) ?_
        intro ex d hd m2 a2 w2 hr2
        cases hd
        simp only [Ex.out, Exit.then, Exit.inBlock, if_true]
        have hr2' := cut_sound (took_hd x i S.D0) hr2
        have hev3 := r1c_ev A n c g (some ⟨gb, 0, none⟩) L.length cap (fun j => L.getD j S.D0) (some ⟨g4, 0, none⟩) z x i
        rw [hw] at hev3
        refine piece mixed ext_sound hs hXO hG hev3 hI hr2' (fun v hv => by cases hv) ?_
        intro ex d hd m3 a3 w3 hr3
        cases hd
        exact ih (i + 1) L a3 w3 (by omega) (by omega) (by omega) hc (by omega) (hh.leave h7 h4 hb4 hg4 hne4 hr3)
      | true =>
        rw [ho] at hev2
        refine piece mixed ext_sound hs hXO hG hev2 hI hr1 (fun v hv => by cases hv) ?_
        intro ex d hd m2 a2 w2 hr2
        cases hd
        show wpL Tryd.prog [Code.region 11 ops11 false] _ a2 w2
        simp only [wpL]
        refine grow hh hc.ne (by omega) h7 hb0 hb4 hg4 hne4 hI hr2 ?_
        intro a3 w3 hh3
        simp only [Exit.then, Exit.inBlock]
        have hc' := hc.step x ho
        obtain ⟨gb', cap', g4', h7', hb0', h4', hb4', hg4', hne4', hI', hst'⟩ := hh3.enter (g := g) hc'.ne hraw ht
        have hev3 := r1c_ev A n c g (some ⟨gb', 0, none⟩) (L ++ [(S.apply x (L.getD (L.length - 1) S.D0) (g i.toNat)).1]).length cap' (fun j => (L ++ [(S.apply x (L.getD (L.length - 1) S.D0) (g i.toNat)).1]).getD j S.D0) (some ⟨g4', 0, none⟩) z x i
        rw [hw] at hev3
        refine @piece (Er A n c g z gb' cap' g4' (L ++ [(S.apply x (L.getD (L.length - 1) S.D0) (g i.toNat)).1])) _ _ _ _ _ _ _ _ _ _ mixed ext_sound (invE_stable A n c g z gb' cap' g4' _) (fun _ h => h.2) (givenE A n c g z gb' cap' g4' _) _ _ _ _ _ _ _ hev3 hI' hst' _ (fun v hv => by cases hv) ?_
        intro ex d hd m4 a4 w4 hr4
        cases hd
        exact ih (i + 1) _ a4 w4 (by omega) (by omega) (by omega) hc' (by rw [List.length_append, List.length_singleton]; omega) (hh3.leave h7' h4' hb4' hg4' hne4' hr4)
    · rw [decide_eq_false hlt] at hev
      refine piece mixed ext_sound hs hXO hG hev hI hst (fun v hv => by cases hv) ?_
      intro ex d hd m1 a1 w1 hr1
      cases hd
      simp only [Ex.out, Exit.then, Exit.inBlock, if_true]
      exact hQ L i a1 w1 hc (by omega) (hh.leave h7 h4 hb4 hg4 hne4 hr1)
/-- Pairs from one on. -/
theorem loop3 {L : List D} {gb cap g4 : Nat} {w : World} (hc : Chain z L) (hlen : L.length ≤ 61) (hI : InvE A n c g z gb cap g4 L w) {i : Int} (hi : 0 ≤ i) {Q : Exit → Act → World → Prop}
    (hret : ∀ (b : Bool), b = true → ∀ (m' : Nat → Nat) (a' : Act) (w' : World), a'.defers = [] → (results Tryd.f5 a'.tmps).run Tryd.prog w' = .ok (@SV.den (Er A n c g z gb cap g4 L) m' (SV.val (.bool b))) w' → Below w.heap.size w w' → Q .ret a' w')
    (hQ : ∀ j m a' w', @SR (Er A n c g z gb cap g4 L) w 87 m ((hd3 i j).st 0) a' w' → Q .normal a' w') :
    ∀ (k : Nat) (j : Int) (m : Nat → Nat) (a' : Act) (w' : World), i ≤ j → (L.length : Int) - j < k → @SR (Er A n c g z gb cap g4 L) w 87 m ((hd3 i j).st 0) a' w' → j ≤ L.length → Code.rounds Tryd.prog round3 (Exit.inBlock 4 Q) k a' w' := by
  letI := Er A n c g z gb cap g4 L
  have hs := invE_stable A n c g z gb cap g4 L
  have hXO : ∀ w, InvE A n c g z gb cap g4 L w → XOk w := fun _ h => h.2
  have hG := givenE A n c g z gb cap g4 L
  intro k
  induction k with
  | zero => intro j m a' w' h1 h2 _ h3; exfalso; omega
  | succ k ih =>
    intro j m a' w' hij h2 hr h3
    have hw : IntKind.i64.wrap (j + 1) = j + 1 := by rw [IntKind.wrap_i64]; omega
    rw [rounds_succ]
    refine wpL_flat _ ?_
    have hev := r3_ev A n c g (some ⟨gb, 0, none⟩) L.length cap (fun j => L.getD j S.D0) (some ⟨g4, 0, none⟩) z i j
    by_cases hlt : j < L.length
    · rw [decide_eq_true hlt, decide_eq_true hi, decide_eq_true (show i < (L.length : Int) by omega), decide_eq_true (show 0 ≤ j by omega), hw] at hev
      simp only [Bool.and_self, cond_true] at hev
      have gm : ∀ q : Nat, q < L.length → L.getD q S.D0 ∈ L := fun q hq => by
        rw [List.getD_eq_getElem?_getD, List.getElem?_eq_getElem hq]
        exact List.getElem_mem hq
      cases hz : S.wz z with
      | true =>
        obtain ⟨c1, c2⟩ := hc.all hz
        have ho : S.okK (L.getD i.toNat S.D0) (L.getD j.toNat S.D0) = true := by rw [S.okK_eq, c1 _ (gm _ (by omega)), c1 _ (gm _ (by omega))]; rfl
        have hk := c2 i.toNat j.toNat (by omega) (by omega)
        rw [ho, hk] at hev
        refine piece mixed ext_sound hs hXO hG hev hI hr (fun v hv => by cases hv) ?_
        intro ex d hd m1 a1 w1 hr1
        cases hd
        exact ih (j + 1) m1 a1 w1 (by omega) (by omega) hr1 (by omega)
      | false =>
        have e := hc.no hz
        have e1 : L.length = 1 := by rw [e]; rfl
        have hj : j = 0 := by omega
        have hi0 : i = 0 := by omega
        have ho : S.okK (L.getD i.toNat S.D0) (L.getD j.toNat S.D0) = false := by
          rw [hj, hi0, e, S.okK_eq]
          show (S.wz z && S.wz z) = false
          rw [hz]; rfl
        have hwh : S.whole z = false := by
          unfold S.wz at hz
          rw [Bool.or_eq_false_iff] at hz
          exact hz.1
        have e0 : (i == 0) = true := by rw [hi0]; rfl
        rw [ho, hwh, e0] at hev
        refine piece mixed ext_sound hs hXO hG hev hI hr (fun v hv => ?_) (fun ex d hd => by cases hd)
        cases hv
        exact hret _ rfl
    · rw [decide_eq_false hlt] at hev
      refine piece mixed ext_sound hs hXO hG hev hI hr (fun v hv => by cases hv) ?_
      intro ex d hd m1 a1 w1 hr1
      cases hd
      simp only [Ex.out, Exit.then, Exit.inBlock, if_true]
      exact hQ j m1 a1 w1 hr1
/-- All pairs. -/
theorem loop2 {L : List D} {gb cap g4 : Nat} {w : World} (hc : Chain z L) (hlen : L.length ≤ 61) (hI : InvE A n c g z gb cap g4 L w) {Q : Exit → Act → World → Prop}
    (hret : ∀ (b : Bool), b = true → ∀ (m' : Nat → Nat) (a' : Act) (w' : World), a'.defers = [] → (results Tryd.f5 a'.tmps).run Tryd.prog w' = .ok (@SV.den (Er A n c g z gb cap g4 L) m' (SV.val (.bool b))) w' → Below w.heap.size w w' → Q .ret a' w')
    (hQ : ∀ i m a' w', @SR (Er A n c g z gb cap g4 L) w 87 m ((hd2 i).st 0) a' w' → Q .normal a' w') :
    ∀ (k : Nat) (i : Int) (m : Nat → Nat) (a' : Act) (w' : World), 0 ≤ i → (L.length : Int) - i < k → @SR (Er A n c g z gb cap g4 L) w 87 m ((hd2 i).st 0) a' w' → i ≤ L.length → Code.rounds Tryd.prog round2 (Exit.inBlock 2 Q) k a' w' := by
  letI := Er A n c g z gb cap g4 L
  have hs := invE_stable A n c g z gb cap g4 L
  have hXO : ∀ w, InvE A n c g z gb cap g4 L w → XOk w := fun _ h => h.2
  have hG := givenE A n c g z gb cap g4 L
  intro k
  induction k with
  | zero => intro i m a' w' h1 h2 _ h3; exfalso; omega
  | succ k ih =>
    intro i m a' w' hi h2 hr h3
    have hw : IntKind.i64.wrap (i + 1) = i + 1 := by rw [IntKind.wrap_i64]; omega
    rw [rounds_succ]
    refine wpL_flat _ ?_
    rw [split2, wpL_app]
    have hev := r2a_ev A n c g (some ⟨gb, 0, none⟩) L.length cap (fun j => L.getD j S.D0) (some ⟨g4, 0, none⟩) z i
    by_cases hlt : i < L.length
    · rw [decide_eq_true hlt] at hev
      refine piece mixed ext_sound hs hXO hG hev hI hr (fun v hv => by cases hv) ?_
      intro ex d hd m1 a1 w1 hr1
      cases hd
      show wpL Tryd.prog (Code.block 3 r2b :: r2c) _ a1 w1
      simp only [wpL]
      refine wp_block (wpL_flat _ ?_)
      rw [split2b, wpL_app]
      refine piece mixed ext_sound hs hXO hG (b2a_ev A n c g (some ⟨gb, 0, none⟩) L.length cap (fun j => L.getD j S.D0) (some ⟨g4, 0, none⟩) z i) hI hr1 (fun v hv => by cases hv) ?_
      intro ex d hd m2 a2 w2 hr2
      cases hd
      show wpL Tryd.prog [Code.block 4 (.loop round3)] _ a2 w2
      simp only [wpL]
      refine wp_block (wp_loop_rounds (L.length + 1) ?_)
      refine loop3 hc hlen hI hi ?_ ?_ (L.length + 1) i m2 a2 w2 (by omega) (by omega) hr2 (by omega)
      · intro b hb m' a' w' q1 q2 q3
        simp only [Exit.then, Exit.inBlock]
        exact hret b hb m' a' w' q1 q2 q3
      · intro j m3 a3 w3 hr3
        simp only [Exit.then, Exit.inBlock]
        have hev3 := r2c_ev A n c g (some ⟨gb, 0, none⟩) L.length cap (fun j => L.getD j S.D0) (some ⟨g4, 0, none⟩) z i j
        rw [hw] at hev3
        refine piece mixed ext_sound hs hXO hG hev3 hI hr3 (fun v hv => by cases hv) ?_
        intro ex d hd m4 a4 w4 hr4
        cases hd
        exact ih (i + 1) m4 a4 w4 (by omega) (by omega) hr4 (by omega)
    · rw [decide_eq_false hlt] at hev
      refine piece mixed ext_sound hs hXO hG hev hI hr (fun v hv => by cases hv) ?_
      intro ex d hd m1 a1 w1 hr1
      cases hd
      simp only [Ex.out, Exit.then, Exit.inBlock, if_true]
      exact hQ i m1 a1 w1 hr1
theorem calls (A : Option Addr) (n c : Nat) (g : Nat → D) (x : Bool) (z : D) (w : World) (ht : Tabs w) (hraw : RawRow w A n g) :
    Calls Tryd.prog 5 #[.bool x, z.agg, .slice A n c] w (Frozen.Post w) := by
  refine calls_of_wp Tryd.func5 (c := Tryd.f5.body.getD .skip) (by kernel_rfl) ?_
  refine wpL_flat _ ?_
  show wpL Tryd.prog Keeps.code _ _ _
  rw [Keeps.split, wpL_app]
  letI := rowD A n c g
  have hI : Frozen.Inv A n c g w := ⟨ht, fun _ => xrow_of hraw⟩
  have hs := Frozen.inv_stable A n c g
  have hXO : ∀ w, Frozen.Inv A n c g w → XOk w := fun _ h => h.2
  have hG := Frozen.given A n c g
  have hst := start_sound (fn := Tryd.f5) [.val (.bool x), .val z.agg, .xs [0]] (fun x hx => by
    simp only [List.mem_cons, List.not_mem_nil, or_false] at hx
    rcases hx with rfl | rfl | rfl
    · exact ok_val _ _
    · exact ok_val _ _
    · exact ok_xs) w (fun _ => 0)
  have hret : ∀ (b : Bool), b = true → ∀ (u : Value), u = .bool b → ∀ (a' : Act) (w' : World), a'.defers = [] → (results Tryd.f5 a'.tmps).run Tryd.prog w' = .ok u w' → Below w.heap.size w w' → bodyPost Tryd.prog Tryd.f5 (Frozen.Post w) .ret a' w' := by
    intro b hb u hu a' w' h1 h2 h3
    subst hb hu
    exact ⟨h1, _, h2, rfl, h3⟩
  have hev := pre_ev A n c g z x
  by_cases hn : (n : Int) > 60
  · rw [decide_eq_true hn] at hev
    refine piece mixed ext_sound hs hXO hG hev hI hst (fun v hv => ?_) (fun ex d hd => by cases hd)
    cases hv
    exact fun m' a' w' => hret true rfl _ (den_val _ _) a' w'
  · rw [decide_eq_false hn] at hev
    refine piece mixed ext_sound hs hXO hG hev hI hst (fun v hv => by cases hv) ?_
    intro ex d hd m1 a1 w1 hr1
    cases hd
    show wpL Tryd.prog (Code.block 0 (.loop round1) :: mid :: Code.block 2 (.loop round2) :: post) _ a1 w1
    simp only [wpL]
    refine wp_block (wp_loop_rounds (n + 1) ?_)
    have hcells : (z.cells.map (SV.den m1)).toArray = z.list.toArray := by
      have e : z.cells = z.list.map SV.val := rfl
      rw [e, List.map_map, show (SV.den m1 ∘ SV.val) = _root_.id from funext fun v => den_val m1 v, List.map_id]
    have hb0 := hr1.mr.blk 0 ⟨27, z.cells⟩ rfl
    have hb1 := hr1.mr.blk 1 ⟨27, z.cells⟩ rfl
    have h01 : m1 1 ≠ m1 0 := fun e => absurd (hr1.mr.inj 1 0 ⟨27, z.cells⟩ ⟨27, z.cells⟩ rfl rfl e) (by decide)
    rw [hcells] at hb0 hb1
    have e7 : a1.tmps.getD 7 undef = .slice (some ⟨m1 1, 0, none⟩) 1 1 := (hr1.ar.tm 7 rfl).trans (den_slc m1 1 0 1 1)
    have hh : Head w A n c x z [z] 0 a1 w1 := by
      refine ⟨hr1.mr.below, hr1.ar.size, hr1.ar.defers, (hr1.ar.tm 0 rfl).trans (den_val m1 _), (hr1.ar.tm 2 rfl).trans (den_xs m1 [0]), (hr1.ar.tm 8 rfl).trans (den_val m1 _), ?_, m1 0, (hr1.ar.tm 4 rfl).trans (den_ptr m1 0 0), hb0.1, hb0.2.1, ?_⟩
      · rw [e7]
        refine ⟨rfl, .inr ⟨m1 1, 1, z.list.toArray, rfl, hb1.1, hb1.2.1, Nat.le_refl _, by decide +kernel, rfl, rfl⟩⟩
      · rw [e7]
        simpa [Value.ownBlock] using h01
    refine loop1 (by omega) hraw ht ?_ (n + 1) 0 [z] a1 w1 (by omega) (by omega) (by omega) (Chain.one z) (by simp) hh
    intro L i a w2 hc hlen hh2
    obtain ⟨gb, cap, g4, h7, hbb, h4, hb4, hg4, hne4, hI2, hst2⟩ := hh2.enter (g := g) hc.ne hraw ht
    have hs2 := invE_stable A n c g z gb cap g4 L
    have hG2 := givenE A n c g z gb cap g4 L
    simp only [Exit.then]
    have hmid := @piece (Er A n c g z gb cap g4 L) _ _ _ _ _ _ _ _ _ _ mixed ext_sound hs2 (fun _ h => h.2) hG2 _ _ _ _ _ _ _ (mid_ev A n c g (some ⟨gb, 0, none⟩) L.length cap (fun j => L.getD j S.D0) (some ⟨g4, 0, none⟩) z x i) hI2 hst2 (Exit.then (wpL Tryd.prog (Code.block 2 (.loop round2) :: post) (bodyPost Tryd.prog Tryd.f5 (Frozen.Post w))) (bodyPost Tryd.prog Tryd.f5 (Frozen.Post w))) (fun v hv => by cases hv) (by
      intro ex d hd m3 a3 w3 hr3
      cases hd
      show wpL Tryd.prog (Code.block 2 (.loop round2) :: post) _ a3 w3
      simp only [wpL]
      refine wp_block (wp_loop_rounds (L.length + 1) ?_)
      refine loop2 hc hlen hI2 ?_ ?_ (L.length + 1) 0 m3 a3 w3 (by omega) (by omega) hr3 (by omega)
      · intro b hb m' a' w' q1 q2 q3
        exact hret b hb _ (@den_val (Er A n c g z gb cap g4 L) _ _) a' w' q1 q2 (hh2.below.trans (q3.mono hh2.below.size))
      · intro i' m4 a4 w4 hr4
        simp only [Exit.then]
        refine @piece (Er A n c g z gb cap g4 L) _ _ _ _ _ _ _ _ _ _ mixed ext_sound hs2 (fun _ h => h.2) hG2 _ _ _ _ _ _ _ (post_ev A n c g (some ⟨gb, 0, none⟩) L.length cap (fun j => L.getD j S.D0) (some ⟨g4, 0, none⟩) z i') hI2 hr4 _ (fun v hv => ?_) (fun ex d hd => by cases hd)
        cases hv
        exact fun m' a' w' q1 q2 q3 => hret true rfl _ (@den_val (Er A n c g z gb cap g4 L) _ _) a' w' q1 q2 (hh2.below.trans (q3.mono hh2.below.size)))
    simp only [wpL] at hmid
    exact wp_mono hmid fun e a w h => by cases e <;> exact h
end
end Keeps
end Go.Proofs.YtaojjpdlfnphiaaDoor.PDescKinds
end
