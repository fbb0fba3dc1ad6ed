/- Parts of the proof, joined (3). -/
import Derived.Test.YtaojjpdlfnphiaaDoorCards
import Derived.Test.YtaojjpdlfnphiaaDoorTie
import Derived.WalkKit
import Derived.ProofKit
import Derived.OpenShut
import Derived.Deep.DeepHandedRow
import Derived.Lib.LaidTab
import Derived.Lib.LaidIn
import Derived.Lib.LaidU8T
import Derived.Test.YtaojjpdlfnphiaaDoorZ2
section
/- Contracts by evaluation: what each function of a list answers. Written by a program of this session. -/
namespace Go.Proofs.YtaojjpdlfnphiaaDoor.PDescKinds
open Go.RowKit Go.Ev
set_option linter.unusedSimpArgs false
set_option linter.unusedVariables false
set_option maxRecDepth 100000
abbrev HL0 : Tab := [(123, onV T.inn)]
theorem Hents0 : ∀ p ∈ HL0, E p := entries_cons (ent_inn) (entries_nil)
set_option maxHeartbeats 4000000 in
theorem ev_good (v : V) : evFn Tryd.prog ext (tab HL0) 40 114 [v.agg] = (T.goods v).val :=
  Eq.trans (b := 
    (bif v.k == 1 then 
     (bif v.b == false then 
      (bif v.s.toList == (ByteArray.mk #[]).toList then 
       (bif v.id == 0 then 
        (bif v.k == 4 then some (Value.tuple #[Value.iface 124 (Value.agg #[]), Value.bool true]) else some (Value.tuple #[Value.iface 124 (Value.agg #[]), Value.bool ((↑v.n : Int) == 0)])) else some (Value.tuple #[Value.iface 124 (Value.agg #[]), Value.bool false])) else some (Value.tuple #[Value.iface 124 (Value.agg #[]), Value.bool false])) else some (Value.tuple #[Value.iface 124 (Value.agg #[]), Value.bool false])) else 
     (bif v.k == 2 then 
      (bif v.b == false then 
       (bif v.s.toList == (ByteArray.mk #[]).toList then 
        (bif v.id == 0 then 
         (bif v.k == 4 then some (Value.tuple #[Value.iface 141 (Value.agg #[]), Value.bool true]) else some (Value.tuple #[Value.iface 141 (Value.agg #[]), Value.bool ((↑v.n : Int) == 0)])) else some (Value.tuple #[Value.iface 141 (Value.agg #[]), Value.bool false])) else some (Value.tuple #[Value.iface 141 (Value.agg #[]), Value.bool false])) else some (Value.tuple #[Value.iface 141 (Value.agg #[]), Value.bool false])) else 
      (bif v.k == 3 then 
       (bif v.b == v.b then 
        (bif v.s.toList == (ByteArray.mk #[]).toList then 
         (bif v.id == 0 then 
          (bif v.k == 4 then some (Value.tuple #[Value.iface 142 (Value.bool v.b), Value.bool true]) else some (Value.tuple #[Value.iface 142 (Value.bool v.b), Value.bool ((↑v.n : Int) == 0)])) else some (Value.tuple #[Value.iface 142 (Value.bool v.b), Value.bool false])) else some (Value.tuple #[Value.iface 142 (Value.bool v.b), Value.bool false])) else some (Value.tuple #[Value.iface 142 (Value.bool v.b), Value.bool false])) else 
       (bif v.k == 4 then 
        (bif v.b == false then 
         (bif v.s.toList == (ByteArray.mk #[]).toList then 
          (bif v.id == 0 then 
           (bif v.k == 4 then some (Value.tuple #[Value.iface 139 (Value.float FloatKind.f64 v.n), Value.bool true]) else some (Value.tuple #[Value.iface 139 (Value.float FloatKind.f64 v.n), Value.bool ((↑v.n : Int) == 0)])) else some (Value.tuple #[Value.iface 139 (Value.float FloatKind.f64 v.n), Value.bool false])) else some (Value.tuple #[Value.iface 139 (Value.float FloatKind.f64 v.n), Value.bool false])) else some (Value.tuple #[Value.iface 139 (Value.float FloatKind.f64 v.n), Value.bool false])) else 
        (bif v.k == 5 then 
         (bif leafIn.strOk v.s then 
          (bif v.b == false then 
           (bif v.s.toList == v.s.toList then 
            (bif v.id == 0 then 
             (bif v.k == 4 then some (Value.tuple #[Value.iface 143 (Value.string v.s), Value.bool true]) else some (Value.tuple #[Value.iface 143 (Value.string v.s), Value.bool ((↑v.n : Int) == 0)])) else some (Value.tuple #[Value.iface 143 (Value.string v.s), Value.bool false])) else some (Value.tuple #[Value.iface 143 (Value.string v.s), Value.bool false])) else some (Value.tuple #[Value.iface 143 (Value.string v.s), Value.bool false])) else some (Value.tuple #[Value.nilIface, Value.bool false])) else 
         (bif v.k == 6 then 
          (bif leafIn.idOk v.id then 
           (bif v.b == false then 
            (bif v.s.toList == (ByteArray.mk #[]).toList then 
             (bif v.id == v.id then 
              (bif v.k == 4 then some (Value.tuple #[Value.iface 144 (Value.int IntKind.i64 v.id), Value.bool true]) else some (Value.tuple #[Value.iface 144 (Value.int IntKind.i64 v.id), Value.bool ((↑v.n : Int) == 0)])) else some (Value.tuple #[Value.iface 144 (Value.int IntKind.i64 v.id), Value.bool false])) else some (Value.tuple #[Value.iface 144 (Value.int IntKind.i64 v.id), Value.bool false])) else some (Value.tuple #[Value.iface 144 (Value.int IntKind.i64 v.id), Value.bool false])) else some (Value.tuple #[Value.nilIface, Value.bool false])) else 
          (bif v.k == 7 then 
           (bif leafIn.idOk v.id then 
            (bif v.b == false then 
             (bif v.s.toList == (ByteArray.mk #[]).toList then 
              (bif v.id == v.id then 
               (bif v.k == 4 then some (Value.tuple #[Value.iface 145 (Value.int IntKind.i64 v.id), Value.bool true]) else some (Value.tuple #[Value.iface 145 (Value.int IntKind.i64 v.id), Value.bool ((↑v.n : Int) == 0)])) else some (Value.tuple #[Value.iface 145 (Value.int IntKind.i64 v.id), Value.bool false])) else some (Value.tuple #[Value.iface 145 (Value.int IntKind.i64 v.id), Value.bool false])) else some (Value.tuple #[Value.iface 145 (Value.int IntKind.i64 v.id), Value.bool false])) else some (Value.tuple #[Value.nilIface, Value.bool false])) else some (Value.tuple #[Value.nilIface, Value.bool false]))))))))) (by kernel_rfl) (by
    simp only [T.goods, T.inn, DT.val_node, DT.val_leaf, DT.bind, DT.val_bad]
    repeat' (first | (with_reducible refine bif_neq (fun h => ?_) (fun h => ?_)) | (with_reducible refine bif_and (fun h => ?_) (fun h => ?_)) | (with_reducible refine bif_eq (fun h => ?_) (fun h => ?_)))
    all_goals first | (simp only [*, S.good, S.emp, cond_true, cond_false, Bool.and_true, Bool.true_and, Bool.and_false, Bool.false_and, Bool.or_true, Bool.true_or, Bool.or_false, Bool.false_or, Bool.not_true, Bool.not_false, beq_self_eq_true, bne_self_eq_false, Bool.not_not]; done) | (exfalso; simp_all; done) | (simp_all [S.good, S.emp]; done) | grind [S.good, S.emp])
theorem ent_good : E (114, onV T.goods) := byEv Hents0 40 fun args t h => by
  obtain ⟨v, rfl, rfl⟩ := onV_eq h
  exact ev_good v
abbrev HL1 : Tab := (114, onV T.goods) :: HL0
theorem Hents1 : ∀ p ∈ HL1, E p := entries_cons ent_good Hents0
set_option maxHeartbeats 4000000 in
theorem ev_check92 (v : V) : evFn Tryd.prog ext (tab HL1) 40 92 [v.agg] = (T.good v).val :=
  Eq.trans (b := 
    (bif v.k == 1 then 
     (bif !S.good v then some (Value.int IntKind.i64 5) else some (Value.int IntKind.i64 0)) else 
     (bif v.k == 2 then 
      (bif !S.good v then some (Value.int IntKind.i64 5) else some (Value.int IntKind.i64 0)) else 
      (bif v.k == 3 then 
       (bif !S.good v then some (Value.int IntKind.i64 5) else some (Value.int IntKind.i64 0)) else 
       (bif v.k == 4 then 
        (bif !S.good v then some (Value.int IntKind.i64 5) else some (Value.int IntKind.i64 0)) else 
        (bif v.k == 5 then 
         (bif leafIn.strOk v.s then 
          (bif !S.good v then some (Value.int IntKind.i64 5) else some (Value.int IntKind.i64 0)) else 
          (bif !S.good v then some (Value.int IntKind.i64 5) else some (Value.int IntKind.i64 0))) else 
         (bif v.k == 6 then 
          (bif leafIn.idOk v.id then 
           (bif !S.good v then some (Value.int IntKind.i64 5) else some (Value.int IntKind.i64 0)) else 
           (bif !S.good v then some (Value.int IntKind.i64 5) else some (Value.int IntKind.i64 0))) else 
          (bif v.k == 7 then 
           (bif leafIn.idOk v.id then 
            (bif !S.good v then some (Value.int IntKind.i64 5) else some (Value.int IntKind.i64 0)) else 
            (bif !S.good v then some (Value.int IntKind.i64 5) else some (Value.int IntKind.i64 0))) else 
           (bif !S.good v then some (Value.int IntKind.i64 5) else some (Value.int IntKind.i64 0)))))))))) (by kernel_rfl) (by
    simp only [T.good, T.err, DT.val_node, DT.val_leaf, DT.bind, DT.val_bad]
    repeat' (first | (with_reducible refine bif_neq (fun h => ?_) (fun h => ?_)) | (with_reducible refine bif_and (fun h => ?_) (fun h => ?_)) | (with_reducible refine bif_eq (fun h => ?_) (fun h => ?_)))
    all_goals first | (simp only [*, S.good, cond_true, cond_false, Bool.and_true, Bool.true_and, Bool.and_false, Bool.false_and, Bool.or_true, Bool.true_or, Bool.or_false, Bool.false_or, Bool.not_true, Bool.not_false, beq_self_eq_true, bne_self_eq_false, Bool.not_not]; done) | (exfalso; simp_all; done) | (simp_all [S.good]; done) | grind [S.good])
theorem ent_check92 : E (92, onV T.good) := byEv Hents1 40 fun args t h => by
  obtain ⟨v, rfl, rfl⟩ := onV_eq h
  exact ev_check92 v
abbrev HL2 : Tab := (92, onV T.good) :: HL1
theorem Hents2 : ∀ p ∈ HL2, E p := entries_cons ent_check92 Hents1
set_option maxHeartbeats 4000000 in
theorem ev_numSame (a b : Nat) : evFn Tryd.prog ext (tab HL2) 40 108 [.float .f64 a, .float .f64 b] = (T.numSame a b).val :=
  Eq.trans (b := 
    (bif FloatKind.f64.format.order a a != some Ordering.eq then 
     (bif FloatKind.f64.format.order a a != some Ordering.eq then some (Value.bool (FloatKind.f64.format.order b b != some Ordering.eq)) else some (Value.bool false)) else 
     (bif FloatKind.f64.format.order b b != some Ordering.eq then 
      (bif FloatKind.f64.format.order a a != some Ordering.eq then some (Value.bool (FloatKind.f64.format.order b b != some Ordering.eq)) else some (Value.bool false)) else 
      (bif FloatKind.f64.format.order a b == some Ordering.eq then some (Value.bool (decide (IntKind.i64.wrap (↑a : Int) < 0) == decide (IntKind.i64.wrap (↑b : Int) < 0))) else some (Value.bool false))))) (by kernel_rfl) (by
    simp only [T.numSame, T.B, DT.val_node, DT.val_leaf, DT.bind, DT.val_bad]
    repeat' (first | (with_reducible refine bif_neq (fun h => ?_) (fun h => ?_)) | (with_reducible refine bif_and (fun h => ?_) (fun h => ?_)) | (with_reducible refine bif_eq (fun h => ?_) (fun h => ?_)))
    all_goals first | (simp only [*, S.numSame, S.nan, S.feq, S.neg, cond_true, cond_false, Bool.and_true, Bool.true_and, Bool.and_false, Bool.false_and, Bool.or_true, Bool.true_or, Bool.or_false, Bool.false_or, Bool.not_true, Bool.not_false, beq_self_eq_true, bne_self_eq_false, Bool.not_not]; done) | (exfalso; simp_all; done) | (simp_all [S.numSame, S.nan, S.feq, S.neg]; done) | grind [S.numSame, S.nan, S.feq, S.neg])
theorem ent_numSame : E (108, onFF T.numSame) := byEv Hents2 40 fun args t h => by
  obtain ⟨a, b, rfl, rfl⟩ := onFF_eq h
  exact ev_numSame a b
abbrev HL3 : Tab := (108, onFF T.numSame) :: HL2
theorem Hents3 : ∀ p ∈ HL3, E p := entries_cons ent_numSame Hents2
set_option maxHeartbeats 4000000 in
theorem ev_absent (v : V) : evFn Tryd.prog ext (tab HL3) 40 91 [v.agg] = (T.absent v).val :=
  Eq.trans (b := 
    (bif v.k == 0 && (v.b == false && (Op.floatEq FloatKind.f64 v.n 0 && (v.s == ByteArray.mk #[] && (v.id == 0 && true)))) then 
     (bif (Ieee.double.div 4607182418800017408 v.n).isSome then some (Value.bool (FloatKind.f64.format.order ((Ieee.double.div 4607182418800017408 v.n).getD 0) 0 == some Ordering.gt)) else none) else some (Value.bool false))) (by kernel_rfl) (by
    simp only [T.absent, T.B, DT.val_leaf]
    refine bif_eq (fun h => ?_) (fun h => ?_)
    · have hd := FloatEq.div_isSome (n := v.n) (by simp only [Bool.and_eq_true] at h; exact h.2.2.1)
      refine bif_eq (fun _ => ?_) (fun h2 => absurd (hd.symm.trans h2) (by simp))
      show _ = some (Value.bool (S.isV0 v && S.pos v.n))
      rw [show S.isV0 v = true from h]
      rfl
    · show _ = some (Value.bool (S.isV0 v && S.pos v.n))
      rw [show S.isV0 v = false from h]
      rfl)
theorem ent_absent : E (91, onV T.absent) := byEv Hents3 40 fun args t h => by
  obtain ⟨v, rfl, rfl⟩ := onV_eq h
  exact ev_absent v
abbrev HL4 : Tab := (91, onV T.absent) :: HL3
theorem Hents4 : ∀ p ∈ HL4, E p := entries_cons ent_absent Hents3
set_option maxHeartbeats 4000000 in
theorem ev_same (a b : V) : evFn Tryd.prog ext (tab HL4) 60 99 [a.agg, b.agg] = (T.same a b).val :=
  Eq.trans (b := 
    (bif a.k == 1 then 
     (bif b.k == 1 then 
      (bif !S.good a then some (Value.tuple #[Value.bool false, Value.int IntKind.i64 5]) else 
       (bif !S.good b then some (Value.tuple #[Value.bool false, Value.int IntKind.i64 5]) else some (Value.tuple #[Value.bool (1 == 1 && (false == false && (Op.floatEq FloatKind.f64 0 0 && (ByteArray.mk #[] == ByteArray.mk #[] && (0 == 0 && true))))), Value.int IntKind.i64 0]))) else 
      (bif b.k == 2 then 
       (bif !S.good a then some (Value.tuple #[Value.bool false, Value.int IntKind.i64 5]) else 
        (bif !S.good b then some (Value.tuple #[Value.bool false, Value.int IntKind.i64 5]) else some (Value.tuple #[Value.bool (1 == 2 && (false == false && (Op.floatEq FloatKind.f64 0 0 && (ByteArray.mk #[] == ByteArray.mk #[] && (0 == 0 && true))))), Value.int IntKind.i64 0]))) else 
       (bif b.k == 3 then 
        (bif !S.good a then some (Value.tuple #[Value.bool false, Value.int IntKind.i64 5]) else 
         (bif !S.good b then some (Value.tuple #[Value.bool false, Value.int IntKind.i64 5]) else some (Value.tuple #[Value.bool (1 == 3 && (false == b.b && (Op.floatEq FloatKind.f64 0 0 && (ByteArray.mk #[] == ByteArray.mk #[] && (0 == 0 && true))))), Value.int IntKind.i64 0]))) else 
        (bif b.k == 4 then 
         (bif !S.good a then some (Value.tuple #[Value.bool false, Value.int IntKind.i64 5]) else 
          (bif !S.good b then some (Value.tuple #[Value.bool false, Value.int IntKind.i64 5]) else some (Value.tuple #[Value.bool (1 == 4 && (false == false && (Op.floatEq FloatKind.f64 0 b.n && (ByteArray.mk #[] == ByteArray.mk #[] && (0 == 0 && true))))), Value.int IntKind.i64 0]))) else 
         (bif b.k == 5 then 
          (bif leafIn.strOk b.s then 
           (bif !S.good a then some (Value.tuple #[Value.bool false, Value.int IntKind.i64 5]) else 
            (bif !S.good b then some (Value.tuple #[Value.bool false, Value.int IntKind.i64 5]) else some (Value.tuple #[Value.bool (1 == 5 && (false == false && (Op.floatEq FloatKind.f64 0 0 && (ByteArray.mk #[] == b.s && (0 == 0 && true))))), Value.int IntKind.i64 0]))) else 
           (bif !S.good a then some (Value.tuple #[Value.bool false, Value.int IntKind.i64 5]) else 
            (bif !S.good b then some (Value.tuple #[Value.bool false, Value.int IntKind.i64 5]) else none))) else 
          (bif b.k == 6 then 
           (bif leafIn.idOk b.id then 
            (bif !S.good a then some (Value.tuple #[Value.bool false, Value.int IntKind.i64 5]) else 
             (bif !S.good b then some (Value.tuple #[Value.bool false, Value.int IntKind.i64 5]) else some (Value.tuple #[Value.bool (1 == 6 && (false == false && (Op.floatEq FloatKind.f64 0 0 && (ByteArray.mk #[] == ByteArray.mk #[] && (0 == b.id && true))))), Value.int IntKind.i64 0]))) else 
            (bif !S.good a then some (Value.tuple #[Value.bool false, Value.int IntKind.i64 5]) else 
             (bif !S.good b then some (Value.tuple #[Value.bool false, Value.int IntKind.i64 5]) else none))) else 
           (bif b.k == 7 then 
            (bif leafIn.idOk b.id then 
             (bif !S.good a then some (Value.tuple #[Value.bool false, Value.int IntKind.i64 5]) else 
              (bif !S.good b then some (Value.tuple #[Value.bool false, Value.int IntKind.i64 5]) else some (Value.tuple #[Value.bool (1 == 7 && (false == false && (Op.floatEq FloatKind.f64 0 0 && (ByteArray.mk #[] == ByteArray.mk #[] && (0 == b.id && true))))), Value.int IntKind.i64 0]))) else 
             (bif !S.good a then some (Value.tuple #[Value.bool false, Value.int IntKind.i64 5]) else 
              (bif !S.good b then some (Value.tuple #[Value.bool false, Value.int IntKind.i64 5]) else none))) else 
            (bif !S.good a then some (Value.tuple #[Value.bool false, Value.int IntKind.i64 5]) else 
             (bif !S.good b then some (Value.tuple #[Value.bool false, Value.int IntKind.i64 5]) else none))))))))) else 
     (bif a.k == 2 then 
      (bif b.k == 1 then 
       (bif !S.good a then some (Value.tuple #[Value.bool false, Value.int IntKind.i64 5]) else 
        (bif !S.good b then some (Value.tuple #[Value.bool false, Value.int IntKind.i64 5]) else some (Value.tuple #[Value.bool (2 == 1 && (false == false && (Op.floatEq FloatKind.f64 0 0 && (ByteArray.mk #[] == ByteArray.mk #[] && (0 == 0 && true))))), Value.int IntKind.i64 0]))) else 
       (bif b.k == 2 then 
        (bif !S.good a then some (Value.tuple #[Value.bool false, Value.int IntKind.i64 5]) else 
         (bif !S.good b then some (Value.tuple #[Value.bool false, Value.int IntKind.i64 5]) else some (Value.tuple #[Value.bool (2 == 2 && (false == false && (Op.floatEq FloatKind.f64 0 0 && (ByteArray.mk #[] == ByteArray.mk #[] && (0 == 0 && true))))), Value.int IntKind.i64 0]))) else 
        (bif b.k == 3 then 
         (bif !S.good a then some (Value.tuple #[Value.bool false, Value.int IntKind.i64 5]) else 
          (bif !S.good b then some (Value.tuple #[Value.bool false, Value.int IntKind.i64 5]) else some (Value.tuple #[Value.bool (2 == 3 && (false == b.b && (Op.floatEq FloatKind.f64 0 0 && (ByteArray.mk #[] == ByteArray.mk #[] && (0 == 0 && true))))), Value.int IntKind.i64 0]))) else 
         (bif b.k == 4 then 
          (bif !S.good a then some (Value.tuple #[Value.bool false, Value.int IntKind.i64 5]) else 
           (bif !S.good b then some (Value.tuple #[Value.bool false, Value.int IntKind.i64 5]) else some (Value.tuple #[Value.bool (2 == 4 && (false == false && (Op.floatEq FloatKind.f64 0 b.n && (ByteArray.mk #[] == ByteArray.mk #[] && (0 == 0 && true))))), Value.int IntKind.i64 0]))) else 
          (bif b.k == 5 then 
           (bif leafIn.strOk b.s then 
            (bif !S.good a then some (Value.tuple #[Value.bool false, Value.int IntKind.i64 5]) else 
             (bif !S.good b then some (Value.tuple #[Value.bool false, Value.int IntKind.i64 5]) else some (Value.tuple #[Value.bool (2 == 5 && (false == false && (Op.floatEq FloatKind.f64 0 0 && (ByteArray.mk #[] == b.s && (0 == 0 && true))))), Value.int IntKind.i64 0]))) else 
            (bif !S.good a then some (Value.tuple #[Value.bool false, Value.int IntKind.i64 5]) else 
             (bif !S.good b then some (Value.tuple #[Value.bool false, Value.int IntKind.i64 5]) else none))) else 
           (bif b.k == 6 then 
            (bif leafIn.idOk b.id then 
             (bif !S.good a then some (Value.tuple #[Value.bool false, Value.int IntKind.i64 5]) else 
              (bif !S.good b then some (Value.tuple #[Value.bool false, Value.int IntKind.i64 5]) else some (Value.tuple #[Value.bool (2 == 6 && (false == false && (Op.floatEq FloatKind.f64 0 0 && (ByteArray.mk #[] == ByteArray.mk #[] && (0 == b.id && true))))), Value.int IntKind.i64 0]))) else 
             (bif !S.good a then some (Value.tuple #[Value.bool false, Value.int IntKind.i64 5]) else 
              (bif !S.good b then some (Value.tuple #[Value.bool false, Value.int IntKind.i64 5]) else none))) else 
            (bif b.k == 7 then 
             (bif leafIn.idOk b.id then 
              (bif !S.good a then some (Value.tuple #[Value.bool false, Value.int IntKind.i64 5]) else 
               (bif !S.good b then some (Value.tuple #[Value.bool false, Value.int IntKind.i64 5]) else some (Value.tuple #[Value.bool (2 == 7 && (false == false && (Op.floatEq FloatKind.f64 0 0 && (ByteArray.mk #[] == ByteArray.mk #[] && (0 == b.id && true))))), Value.int IntKind.i64 0]))) else 
              (bif !S.good a then some (Value.tuple #[Value.bool false, Value.int IntKind.i64 5]) else 
               (bif !S.good b then some (Value.tuple #[Value.bool false, Value.int IntKind.i64 5]) else none))) else 
             (bif !S.good a then some (Value.tuple #[Value.bool false, Value.int IntKind.i64 5]) else 
              (bif !S.good b then some (Value.tuple #[Value.bool false, Value.int IntKind.i64 5]) else none))))))))) else 
      (bif a.k == 3 then 
       (bif b.k == 1 then 
        (bif !S.good a then some (Value.tuple #[Value.bool false, Value.int IntKind.i64 5]) else 
         (bif !S.good b then some (Value.tuple #[Value.bool false, Value.int IntKind.i64 5]) else some (Value.tuple #[Value.bool (3 == 1 && (a.b == false && (Op.floatEq FloatKind.f64 0 0 && (ByteArray.mk #[] == ByteArray.mk #[] && (0 == 0 && true))))), Value.int IntKind.i64 0]))) else 
        (bif b.k == 2 then 
         (bif !S.good a then some (Value.tuple #[Value.bool false, Value.int IntKind.i64 5]) else 
          (bif !S.good b then some (Value.tuple #[Value.bool false, Value.int IntKind.i64 5]) else some (Value.tuple #[Value.bool (3 == 2 && (a.b == false && (Op.floatEq FloatKind.f64 0 0 && (ByteArray.mk #[] == ByteArray.mk #[] && (0 == 0 && true))))), Value.int IntKind.i64 0]))) else 
         (bif b.k == 3 then 
          (bif !S.good a then some (Value.tuple #[Value.bool false, Value.int IntKind.i64 5]) else 
           (bif !S.good b then some (Value.tuple #[Value.bool false, Value.int IntKind.i64 5]) else some (Value.tuple #[Value.bool (3 == 3 && (a.b == b.b && (Op.floatEq FloatKind.f64 0 0 && (ByteArray.mk #[] == ByteArray.mk #[] && (0 == 0 && true))))), Value.int IntKind.i64 0]))) else 
          (bif b.k == 4 then 
           (bif !S.good a then some (Value.tuple #[Value.bool false, Value.int IntKind.i64 5]) else 
            (bif !S.good b then some (Value.tuple #[Value.bool false, Value.int IntKind.i64 5]) else some (Value.tuple #[Value.bool (3 == 4 && (a.b == false && (Op.floatEq FloatKind.f64 0 b.n && (ByteArray.mk #[] == ByteArray.mk #[] && (0 == 0 && true))))), Value.int IntKind.i64 0]))) else 
           (bif b.k == 5 then 
            (bif leafIn.strOk b.s then 
             (bif !S.good a then some (Value.tuple #[Value.bool false, Value.int IntKind.i64 5]) else 
              (bif !S.good b then some (Value.tuple #[Value.bool false, Value.int IntKind.i64 5]) else some (Value.tuple #[Value.bool (3 == 5 && (a.b == false && (Op.floatEq FloatKind.f64 0 0 && (ByteArray.mk #[] == b.s && (0 == 0 && true))))), Value.int IntKind.i64 0]))) else 
             (bif !S.good a then some (Value.tuple #[Value.bool false, Value.int IntKind.i64 5]) else 
              (bif !S.good b then some (Value.tuple #[Value.bool false, Value.int IntKind.i64 5]) else none))) else 
            (bif b.k == 6 then 
             (bif leafIn.idOk b.id then 
              (bif !S.good a then some (Value.tuple #[Value.bool false, Value.int IntKind.i64 5]) else 
               (bif !S.good b then some (Value.tuple #[Value.bool false, Value.int IntKind.i64 5]) else some (Value.tuple #[Value.bool (3 == 6 && (a.b == false && (Op.floatEq FloatKind.f64 0 0 && (ByteArray.mk #[] == ByteArray.mk #[] && (0 == b.id && true))))), Value.int IntKind.i64 0]))) else 
              (bif !S.good a then some (Value.tuple #[Value.bool false, Value.int IntKind.i64 5]) else 
               (bif !S.good b then some (Value.tuple #[Value.bool false, Value.int IntKind.i64 5]) else none))) else 
             (bif b.k == 7 then 
              (bif leafIn.idOk b.id then 
               (bif !S.good a then some (Value.tuple #[Value.bool false, Value.int IntKind.i64 5]) else 
                (bif !S.good b then some (Value.tuple #[Value.bool false, Value.int IntKind.i64 5]) else some (Value.tuple #[Value.bool (3 == 7 && (a.b == false && (Op.floatEq FloatKind.f64 0 0 && (ByteArray.mk #[] == ByteArray.mk #[] && (0 == b.id && true))))), Value.int IntKind.i64 0]))) else 
               (bif !S.good a then some (Value.tuple #[Value.bool false, Value.int IntKind.i64 5]) else 
                (bif !S.good b then some (Value.tuple #[Value.bool false, Value.int IntKind.i64 5]) else none))) else 
              (bif !S.good a then some (Value.tuple #[Value.bool false, Value.int IntKind.i64 5]) else 
               (bif !S.good b then some (Value.tuple #[Value.bool false, Value.int IntKind.i64 5]) else none))))))))) else 
       (bif a.k == 4 then 
        (bif b.k == 1 then 
         (bif !S.good a then some (Value.tuple #[Value.bool false, Value.int IntKind.i64 5]) else 
          (bif !S.good b then some (Value.tuple #[Value.bool false, Value.int IntKind.i64 5]) else some (Value.tuple #[Value.bool false, Value.int IntKind.i64 0]))) else 
         (bif b.k == 2 then 
          (bif !S.good a then some (Value.tuple #[Value.bool false, Value.int IntKind.i64 5]) else 
           (bif !S.good b then some (Value.tuple #[Value.bool false, Value.int IntKind.i64 5]) else some (Value.tuple #[Value.bool false, Value.int IntKind.i64 0]))) else 
          (bif b.k == 3 then 
           (bif !S.good a then some (Value.tuple #[Value.bool false, Value.int IntKind.i64 5]) else 
            (bif !S.good b then some (Value.tuple #[Value.bool false, Value.int IntKind.i64 5]) else some (Value.tuple #[Value.bool false, Value.int IntKind.i64 0]))) else 
           (bif b.k == 4 then 
            (bif !S.good a then some (Value.tuple #[Value.bool false, Value.int IntKind.i64 5]) else 
             (bif !S.good b then some (Value.tuple #[Value.bool false, Value.int IntKind.i64 5]) else some (Value.tuple #[Value.bool (S.numSame a.n b.n), Value.int IntKind.i64 0]))) else 
            (bif b.k == 5 then 
             (bif leafIn.strOk b.s then 
              (bif !S.good a then some (Value.tuple #[Value.bool false, Value.int IntKind.i64 5]) else 
               (bif !S.good b then some (Value.tuple #[Value.bool false, Value.int IntKind.i64 5]) else some (Value.tuple #[Value.bool false, Value.int IntKind.i64 0]))) else 
              (bif !S.good a then some (Value.tuple #[Value.bool false, Value.int IntKind.i64 5]) else 
               (bif !S.good b then some (Value.tuple #[Value.bool false, Value.int IntKind.i64 5]) else some (Value.tuple #[Value.bool false, Value.int IntKind.i64 0])))) else 
             (bif b.k == 6 then 
              (bif leafIn.idOk b.id then 
               (bif !S.good a then some (Value.tuple #[Value.bool false, Value.int IntKind.i64 5]) else 
                (bif !S.good b then some (Value.tuple #[Value.bool false, Value.int IntKind.i64 5]) else some (Value.tuple #[Value.bool false, Value.int IntKind.i64 0]))) else 
               (bif !S.good a then some (Value.tuple #[Value.bool false, Value.int IntKind.i64 5]) else 
                (bif !S.good b then some (Value.tuple #[Value.bool false, Value.int IntKind.i64 5]) else some (Value.tuple #[Value.bool false, Value.int IntKind.i64 0])))) else 
              (bif b.k == 7 then 
               (bif leafIn.idOk b.id then 
                (bif !S.good a then some (Value.tuple #[Value.bool false, Value.int IntKind.i64 5]) else 
                 (bif !S.good b then some (Value.tuple #[Value.bool false, Value.int IntKind.i64 5]) else some (Value.tuple #[Value.bool false, Value.int IntKind.i64 0]))) else 
                (bif !S.good a then some (Value.tuple #[Value.bool false, Value.int IntKind.i64 5]) else 
                 (bif !S.good b then some (Value.tuple #[Value.bool false, Value.int IntKind.i64 5]) else some (Value.tuple #[Value.bool false, Value.int IntKind.i64 0])))) else 
               (bif !S.good a then some (Value.tuple #[Value.bool false, Value.int IntKind.i64 5]) else 
                (bif !S.good b then some (Value.tuple #[Value.bool false, Value.int IntKind.i64 5]) else some (Value.tuple #[Value.bool false, Value.int IntKind.i64 0])))))))))) else 
        (bif a.k == 5 then 
         (bif leafIn.strOk a.s then 
          (bif b.k == 1 then 
           (bif !S.good a then some (Value.tuple #[Value.bool false, Value.int IntKind.i64 5]) else 
            (bif !S.good b then some (Value.tuple #[Value.bool false, Value.int IntKind.i64 5]) else some (Value.tuple #[Value.bool (5 == 1 && (false == false && (Op.floatEq FloatKind.f64 0 0 && (a.s == ByteArray.mk #[] && (0 == 0 && true))))), Value.int IntKind.i64 0]))) else 
           (bif b.k == 2 then 
            (bif !S.good a then some (Value.tuple #[Value.bool false, Value.int IntKind.i64 5]) else 
             (bif !S.good b then some (Value.tuple #[Value.bool false, Value.int IntKind.i64 5]) else some (Value.tuple #[Value.bool (5 == 2 && (false == false && (Op.floatEq FloatKind.f64 0 0 && (a.s == ByteArray.mk #[] && (0 == 0 && true))))), Value.int IntKind.i64 0]))) else 
            (bif b.k == 3 then 
             (bif !S.good a then some (Value.tuple #[Value.bool false, Value.int IntKind.i64 5]) else 
              (bif !S.good b then some (Value.tuple #[Value.bool false, Value.int IntKind.i64 5]) else some (Value.tuple #[Value.bool (5 == 3 && (false == b.b && (Op.floatEq FloatKind.f64 0 0 && (a.s == ByteArray.mk #[] && (0 == 0 && true))))), Value.int IntKind.i64 0]))) else 
             (bif b.k == 4 then 
              (bif !S.good a then some (Value.tuple #[Value.bool false, Value.int IntKind.i64 5]) else 
               (bif !S.good b then some (Value.tuple #[Value.bool false, Value.int IntKind.i64 5]) else some (Value.tuple #[Value.bool (5 == 4 && (false == false && (Op.floatEq FloatKind.f64 0 b.n && (a.s == ByteArray.mk #[] && (0 == 0 && true))))), Value.int IntKind.i64 0]))) else 
              (bif b.k == 5 then 
               (bif leafIn.strOk b.s then 
                (bif !S.good a then some (Value.tuple #[Value.bool false, Value.int IntKind.i64 5]) else 
                 (bif !S.good b then some (Value.tuple #[Value.bool false, Value.int IntKind.i64 5]) else some (Value.tuple #[Value.bool (5 == 5 && (false == false && (Op.floatEq FloatKind.f64 0 0 && (a.s == b.s && (0 == 0 && true))))), Value.int IntKind.i64 0]))) else 
                (bif !S.good a then some (Value.tuple #[Value.bool false, Value.int IntKind.i64 5]) else 
                 (bif !S.good b then some (Value.tuple #[Value.bool false, Value.int IntKind.i64 5]) else none))) else 
               (bif b.k == 6 then 
                (bif leafIn.idOk b.id then 
                 (bif !S.good a then some (Value.tuple #[Value.bool false, Value.int IntKind.i64 5]) else 
                  (bif !S.good b then some (Value.tuple #[Value.bool false, Value.int IntKind.i64 5]) else some (Value.tuple #[Value.bool (5 == 6 && (false == false && (Op.floatEq FloatKind.f64 0 0 && (a.s == ByteArray.mk #[] && (0 == b.id && true))))), Value.int IntKind.i64 0]))) else 
                 (bif !S.good a then some (Value.tuple #[Value.bool false, Value.int IntKind.i64 5]) else 
                  (bif !S.good b then some (Value.tuple #[Value.bool false, Value.int IntKind.i64 5]) else none))) else 
                (bif b.k == 7 then 
                 (bif leafIn.idOk b.id then 
                  (bif !S.good a then some (Value.tuple #[Value.bool false, Value.int IntKind.i64 5]) else 
                   (bif !S.good b then some (Value.tuple #[Value.bool false, Value.int IntKind.i64 5]) else some (Value.tuple #[Value.bool (5 == 7 && (false == false && (Op.floatEq FloatKind.f64 0 0 && (a.s == ByteArray.mk #[] && (0 == b.id && true))))), Value.int IntKind.i64 0]))) else 
                  (bif !S.good a then some (Value.tuple #[Value.bool false, Value.int IntKind.i64 5]) else 
                   (bif !S.good b then some (Value.tuple #[Value.bool false, Value.int IntKind.i64 5]) else none))) else 
                 (bif !S.good a then some (Value.tuple #[Value.bool false, Value.int IntKind.i64 5]) else 
                  (bif !S.good b then some (Value.tuple #[Value.bool false, Value.int IntKind.i64 5]) else none))))))))) else 
          (bif b.k == 1 then 
           (bif !S.good a then some (Value.tuple #[Value.bool false, Value.int IntKind.i64 5]) else 
            (bif !S.good b then some (Value.tuple #[Value.bool false, Value.int IntKind.i64 5]) else none)) else 
           (bif b.k == 2 then 
            (bif !S.good a then some (Value.tuple #[Value.bool false, Value.int IntKind.i64 5]) else 
             (bif !S.good b then some (Value.tuple #[Value.bool false, Value.int IntKind.i64 5]) else none)) else 
            (bif b.k == 3 then 
             (bif !S.good a then some (Value.tuple #[Value.bool false, Value.int IntKind.i64 5]) else 
              (bif !S.good b then some (Value.tuple #[Value.bool false, Value.int IntKind.i64 5]) else none)) else 
             (bif b.k == 4 then 
              (bif !S.good a then some (Value.tuple #[Value.bool false, Value.int IntKind.i64 5]) else 
               (bif !S.good b then some (Value.tuple #[Value.bool false, Value.int IntKind.i64 5]) else none)) else 
              (bif b.k == 5 then 
               (bif leafIn.strOk b.s then 
                (bif !S.good a then some (Value.tuple #[Value.bool false, Value.int IntKind.i64 5]) else 
                 (bif !S.good b then some (Value.tuple #[Value.bool false, Value.int IntKind.i64 5]) else none)) else 
                (bif !S.good a then some (Value.tuple #[Value.bool false, Value.int IntKind.i64 5]) else 
                 (bif !S.good b then some (Value.tuple #[Value.bool false, Value.int IntKind.i64 5]) else none))) else 
               (bif b.k == 6 then 
                (bif leafIn.idOk b.id then 
                 (bif !S.good a then some (Value.tuple #[Value.bool false, Value.int IntKind.i64 5]) else 
                  (bif !S.good b then some (Value.tuple #[Value.bool false, Value.int IntKind.i64 5]) else none)) else 
                 (bif !S.good a then some (Value.tuple #[Value.bool false, Value.int IntKind.i64 5]) else 
                  (bif !S.good b then some (Value.tuple #[Value.bool false, Value.int IntKind.i64 5]) else none))) else 
                (bif b.k == 7 then 
                 (bif leafIn.idOk b.id then 
                  (bif !S.good a then some (Value.tuple #[Value.bool false, Value.int IntKind.i64 5]) else 
                   (bif !S.good b then some (Value.tuple #[Value.bool false, Value.int IntKind.i64 5]) else none)) else 
                  (bif !S.good a then some (Value.tuple #[Value.bool false, Value.int IntKind.i64 5]) else 
                   (bif !S.good b then some (Value.tuple #[Value.bool false, Value.int IntKind.i64 5]) else none))) else 
                 (bif !S.good a then some (Value.tuple #[Value.bool false, Value.int IntKind.i64 5]) else 
                  (bif !S.good b then some (Value.tuple #[Value.bool false, Value.int IntKind.i64 5]) else none)))))))))) else 
         (bif a.k == 6 then 
          (bif leafIn.idOk a.id then 
           (bif b.k == 1 then 
            (bif !S.good a then some (Value.tuple #[Value.bool false, Value.int IntKind.i64 5]) else 
             (bif !S.good b then some (Value.tuple #[Value.bool false, Value.int IntKind.i64 5]) else some (Value.tuple #[Value.bool (6 == 1 && (false == false && (Op.floatEq FloatKind.f64 0 0 && (ByteArray.mk #[] == ByteArray.mk #[] && (a.id == 0 && true))))), Value.int IntKind.i64 0]))) else 
            (bif b.k == 2 then 
             (bif !S.good a then some (Value.tuple #[Value.bool false, Value.int IntKind.i64 5]) else 
              (bif !S.good b then some (Value.tuple #[Value.bool false, Value.int IntKind.i64 5]) else some (Value.tuple #[Value.bool (6 == 2 && (false == false && (Op.floatEq FloatKind.f64 0 0 && (ByteArray.mk #[] == ByteArray.mk #[] && (a.id == 0 && true))))), Value.int IntKind.i64 0]))) else 
             (bif b.k == 3 then 
              (bif !S.good a then some (Value.tuple #[Value.bool false, Value.int IntKind.i64 5]) else 
               (bif !S.good b then some (Value.tuple #[Value.bool false, Value.int IntKind.i64 5]) else some (Value.tuple #[Value.bool (6 == 3 && (false == b.b && (Op.floatEq FloatKind.f64 0 0 && (ByteArray.mk #[] == ByteArray.mk #[] && (a.id == 0 && true))))), Value.int IntKind.i64 0]))) else 
              (bif b.k == 4 then 
               (bif !S.good a then some (Value.tuple #[Value.bool false, Value.int IntKind.i64 5]) else 
                (bif !S.good b then some (Value.tuple #[Value.bool false, Value.int IntKind.i64 5]) else some (Value.tuple #[Value.bool (6 == 4 && (false == false && (Op.floatEq FloatKind.f64 0 b.n && (ByteArray.mk #[] == ByteArray.mk #[] && (a.id == 0 && true))))), Value.int IntKind.i64 0]))) else 
               (bif b.k == 5 then 
                (bif leafIn.strOk b.s then 
                 (bif !S.good a then some (Value.tuple #[Value.bool false, Value.int IntKind.i64 5]) else 
                  (bif !S.good b then some (Value.tuple #[Value.bool false, Value.int IntKind.i64 5]) else some (Value.tuple #[Value.bool (6 == 5 && (false == false && (Op.floatEq FloatKind.f64 0 0 && (ByteArray.mk #[] == b.s && (a.id == 0 && true))))), Value.int IntKind.i64 0]))) else 
                 (bif !S.good a then some (Value.tuple #[Value.bool false, Value.int IntKind.i64 5]) else 
                  (bif !S.good b then some (Value.tuple #[Value.bool false, Value.int IntKind.i64 5]) else none))) else 
                (bif b.k == 6 then 
                 (bif leafIn.idOk b.id then 
                  (bif !S.good a then some (Value.tuple #[Value.bool false, Value.int IntKind.i64 5]) else 
                   (bif !S.good b then some (Value.tuple #[Value.bool false, Value.int IntKind.i64 5]) else some (Value.tuple #[Value.bool (6 == 6 && (false == false && (Op.floatEq FloatKind.f64 0 0 && (ByteArray.mk #[] == ByteArray.mk #[] && (a.id == b.id && true))))), Value.int IntKind.i64 0]))) else 
                  (bif !S.good a then some (Value.tuple #[Value.bool false, Value.int IntKind.i64 5]) else 
                   (bif !S.good b then some (Value.tuple #[Value.bool false, Value.int IntKind.i64 5]) else none))) else 
                 (bif b.k == 7 then 
                  (bif leafIn.idOk b.id then 
                   (bif !S.good a then some (Value.tuple #[Value.bool false, Value.int IntKind.i64 5]) else 
                    (bif !S.good b then some (Value.tuple #[Value.bool false, Value.int IntKind.i64 5]) else some (Value.tuple #[Value.bool (6 == 7 && (false == false && (Op.floatEq FloatKind.f64 0 0 && (ByteArray.mk #[] == ByteArray.mk #[] && (a.id == b.id && true))))), Value.int IntKind.i64 0]))) else 
                   (bif !S.good a then some (Value.tuple #[Value.bool false, Value.int IntKind.i64 5]) else 
                    (bif !S.good b then some (Value.tuple #[Value.bool false, Value.int IntKind.i64 5]) else none))) else 
                  (bif !S.good a then some (Value.tuple #[Value.bool false, Value.int IntKind.i64 5]) else 
                   (bif !S.good b then some (Value.tuple #[Value.bool false, Value.int IntKind.i64 5]) else none))))))))) else 
           (bif b.k == 1 then 
            (bif !S.good a then some (Value.tuple #[Value.bool false, Value.int IntKind.i64 5]) else 
             (bif !S.good b then some (Value.tuple #[Value.bool false, Value.int IntKind.i64 5]) else none)) else 
            (bif b.k == 2 then 
             (bif !S.good a then some (Value.tuple #[Value.bool false, Value.int IntKind.i64 5]) else 
              (bif !S.good b then some (Value.tuple #[Value.bool false, Value.int IntKind.i64 5]) else none)) else 
             (bif b.k == 3 then 
              (bif !S.good a then some (Value.tuple #[Value.bool false, Value.int IntKind.i64 5]) else 
               (bif !S.good b then some (Value.tuple #[Value.bool false, Value.int IntKind.i64 5]) else none)) else 
              (bif b.k == 4 then 
               (bif !S.good a then some (Value.tuple #[Value.bool false, Value.int IntKind.i64 5]) else 
                (bif !S.good b then some (Value.tuple #[Value.bool false, Value.int IntKind.i64 5]) else none)) else 
               (bif b.k == 5 then 
                (bif leafIn.strOk b.s then 
                 (bif !S.good a then some (Value.tuple #[Value.bool false, Value.int IntKind.i64 5]) else 
                  (bif !S.good b then some (Value.tuple #[Value.bool false, Value.int IntKind.i64 5]) else none)) else 
                 (bif !S.good a then some (Value.tuple #[Value.bool false, Value.int IntKind.i64 5]) else 
                  (bif !S.good b then some (Value.tuple #[Value.bool false, Value.int IntKind.i64 5]) else none))) else 
                (bif b.k == 6 then 
                 (bif leafIn.idOk b.id then 
                  (bif !S.good a then some (Value.tuple #[Value.bool false, Value.int IntKind.i64 5]) else 
                   (bif !S.good b then some (Value.tuple #[Value.bool false, Value.int IntKind.i64 5]) else none)) else 
                  (bif !S.good a then some (Value.tuple #[Value.bool false, Value.int IntKind.i64 5]) else 
                   (bif !S.good b then some (Value.tuple #[Value.bool false, Value.int IntKind.i64 5]) else none))) else 
                 (bif b.k == 7 then 
                  (bif leafIn.idOk b.id then 
                   (bif !S.good a then some (Value.tuple #[Value.bool false, Value.int IntKind.i64 5]) else 
                    (bif !S.good b then some (Value.tuple #[Value.bool false, Value.int IntKind.i64 5]) else none)) else 
                   (bif !S.good a then some (Value.tuple #[Value.bool false, Value.int IntKind.i64 5]) else 
                    (bif !S.good b then some (Value.tuple #[Value.bool false, Value.int IntKind.i64 5]) else none))) else 
                  (bif !S.good a then some (Value.tuple #[Value.bool false, Value.int IntKind.i64 5]) else 
                   (bif !S.good b then some (Value.tuple #[Value.bool false, Value.int IntKind.i64 5]) else none)))))))))) else 
          (bif a.k == 7 then 
           (bif leafIn.idOk a.id then 
            (bif b.k == 1 then 
             (bif !S.good a then some (Value.tuple #[Value.bool false, Value.int IntKind.i64 5]) else 
              (bif !S.good b then some (Value.tuple #[Value.bool false, Value.int IntKind.i64 5]) else some (Value.tuple #[Value.bool (7 == 1 && (false == false && (Op.floatEq FloatKind.f64 0 0 && (ByteArray.mk #[] == ByteArray.mk #[] && (a.id == 0 && true))))), Value.int IntKind.i64 0]))) else 
             (bif b.k == 2 then 
              (bif !S.good a then some (Value.tuple #[Value.bool false, Value.int IntKind.i64 5]) else 
               (bif !S.good b then some (Value.tuple #[Value.bool false, Value.int IntKind.i64 5]) else some (Value.tuple #[Value.bool (7 == 2 && (false == false && (Op.floatEq FloatKind.f64 0 0 && (ByteArray.mk #[] == ByteArray.mk #[] && (a.id == 0 && true))))), Value.int IntKind.i64 0]))) else 
              (bif b.k == 3 then 
               (bif !S.good a then some (Value.tuple #[Value.bool false, Value.int IntKind.i64 5]) else 
                (bif !S.good b then some (Value.tuple #[Value.bool false, Value.int IntKind.i64 5]) else some (Value.tuple #[Value.bool (7 == 3 && (false == b.b && (Op.floatEq FloatKind.f64 0 0 && (ByteArray.mk #[] == ByteArray.mk #[] && (a.id == 0 && true))))), Value.int IntKind.i64 0]))) else 
               (bif b.k == 4 then 
                (bif !S.good a then some (Value.tuple #[Value.bool false, Value.int IntKind.i64 5]) else 
                 (bif !S.good b then some (Value.tuple #[Value.bool false, Value.int IntKind.i64 5]) else some (Value.tuple #[Value.bool (7 == 4 && (false == false && (Op.floatEq FloatKind.f64 0 b.n && (ByteArray.mk #[] == ByteArray.mk #[] && (a.id == 0 && true))))), Value.int IntKind.i64 0]))) else 
                (bif b.k == 5 then 
                 (bif leafIn.strOk b.s then 
                  (bif !S.good a then some (Value.tuple #[Value.bool false, Value.int IntKind.i64 5]) else 
                   (bif !S.good b then some (Value.tuple #[Value.bool false, Value.int IntKind.i64 5]) else some (Value.tuple #[Value.bool (7 == 5 && (false == false && (Op.floatEq FloatKind.f64 0 0 && (ByteArray.mk #[] == b.s && (a.id == 0 && true))))), Value.int IntKind.i64 0]))) else 
                  (bif !S.good a then some (Value.tuple #[Value.bool false, Value.int IntKind.i64 5]) else 
                   (bif !S.good b then some (Value.tuple #[Value.bool false, Value.int IntKind.i64 5]) else none))) else 
                 (bif b.k == 6 then 
                  (bif leafIn.idOk b.id then 
                   (bif !S.good a then some (Value.tuple #[Value.bool false, Value.int IntKind.i64 5]) else 
                    (bif !S.good b then some (Value.tuple #[Value.bool false, Value.int IntKind.i64 5]) else some (Value.tuple #[Value.bool (7 == 6 && (false == false && (Op.floatEq FloatKind.f64 0 0 && (ByteArray.mk #[] == ByteArray.mk #[] && (a.id == b.id && true))))), Value.int IntKind.i64 0]))) else 
                   (bif !S.good a then some (Value.tuple #[Value.bool false, Value.int IntKind.i64 5]) else 
                    (bif !S.good b then some (Value.tuple #[Value.bool false, Value.int IntKind.i64 5]) else none))) else 
                  (bif b.k == 7 then 
                   (bif leafIn.idOk b.id then 
                    (bif !S.good a then some (Value.tuple #[Value.bool false, Value.int IntKind.i64 5]) else 
                     (bif !S.good b then some (Value.tuple #[Value.bool false, Value.int IntKind.i64 5]) else some (Value.tuple #[Value.bool (7 == 7 && (false == false && (Op.floatEq FloatKind.f64 0 0 && (ByteArray.mk #[] == ByteArray.mk #[] && (a.id == b.id && true))))), Value.int IntKind.i64 0]))) else 
                    (bif !S.good a then some (Value.tuple #[Value.bool false, Value.int IntKind.i64 5]) else 
                     (bif !S.good b then some (Value.tuple #[Value.bool false, Value.int IntKind.i64 5]) else none))) else 
                   (bif !S.good a then some (Value.tuple #[Value.bool false, Value.int IntKind.i64 5]) else 
                    (bif !S.good b then some (Value.tuple #[Value.bool false, Value.int IntKind.i64 5]) else none))))))))) else 
            (bif b.k == 1 then 
             (bif !S.good a then some (Value.tuple #[Value.bool false, Value.int IntKind.i64 5]) else 
              (bif !S.good b then some (Value.tuple #[Value.bool false, Value.int IntKind.i64 5]) else none)) else 
             (bif b.k == 2 then 
              (bif !S.good a then some (Value.tuple #[Value.bool false, Value.int IntKind.i64 5]) else 
               (bif !S.good b then some (Value.tuple #[Value.bool false, Value.int IntKind.i64 5]) else none)) else 
              (bif b.k == 3 then 
               (bif !S.good a then some (Value.tuple #[Value.bool false, Value.int IntKind.i64 5]) else 
                (bif !S.good b then some (Value.tuple #[Value.bool false, Value.int IntKind.i64 5]) else none)) else 
               (bif b.k == 4 then 
                (bif !S.good a then some (Value.tuple #[Value.bool false, Value.int IntKind.i64 5]) else 
                 (bif !S.good b then some (Value.tuple #[Value.bool false, Value.int IntKind.i64 5]) else none)) else 
                (bif b.k == 5 then 
                 (bif leafIn.strOk b.s then 
                  (bif !S.good a then some (Value.tuple #[Value.bool false, Value.int IntKind.i64 5]) else 
                   (bif !S.good b then some (Value.tuple #[Value.bool false, Value.int IntKind.i64 5]) else none)) else 
                  (bif !S.good a then some (Value.tuple #[Value.bool false, Value.int IntKind.i64 5]) else 
                   (bif !S.good b then some (Value.tuple #[Value.bool false, Value.int IntKind.i64 5]) else none))) else 
                 (bif b.k == 6 then 
                  (bif leafIn.idOk b.id then 
                   (bif !S.good a then some (Value.tuple #[Value.bool false, Value.int IntKind.i64 5]) else 
                    (bif !S.good b then some (Value.tuple #[Value.bool false, Value.int IntKind.i64 5]) else none)) else 
                   (bif !S.good a then some (Value.tuple #[Value.bool false, Value.int IntKind.i64 5]) else 
                    (bif !S.good b then some (Value.tuple #[Value.bool false, Value.int IntKind.i64 5]) else none))) else 
                  (bif b.k == 7 then 
                   (bif leafIn.idOk b.id then 
                    (bif !S.good a then some (Value.tuple #[Value.bool false, Value.int IntKind.i64 5]) else 
                     (bif !S.good b then some (Value.tuple #[Value.bool false, Value.int IntKind.i64 5]) else none)) else 
                    (bif !S.good a then some (Value.tuple #[Value.bool false, Value.int IntKind.i64 5]) else 
                     (bif !S.good b then some (Value.tuple #[Value.bool false, Value.int IntKind.i64 5]) else none))) else 
                   (bif !S.good a then some (Value.tuple #[Value.bool false, Value.int IntKind.i64 5]) else 
                    (bif !S.good b then some (Value.tuple #[Value.bool false, Value.int IntKind.i64 5]) else none)))))))))) else 
           (bif b.k == 1 then 
            (bif !S.good a then some (Value.tuple #[Value.bool false, Value.int IntKind.i64 5]) else 
             (bif !S.good b then some (Value.tuple #[Value.bool false, Value.int IntKind.i64 5]) else none)) else 
            (bif b.k == 2 then 
             (bif !S.good a then some (Value.tuple #[Value.bool false, Value.int IntKind.i64 5]) else 
              (bif !S.good b then some (Value.tuple #[Value.bool false, Value.int IntKind.i64 5]) else none)) else 
             (bif b.k == 3 then 
              (bif !S.good a then some (Value.tuple #[Value.bool false, Value.int IntKind.i64 5]) else 
               (bif !S.good b then some (Value.tuple #[Value.bool false, Value.int IntKind.i64 5]) else none)) else 
              (bif b.k == 4 then 
               (bif !S.good a then some (Value.tuple #[Value.bool false, Value.int IntKind.i64 5]) else 
                (bif !S.good b then some (Value.tuple #[Value.bool false, Value.int IntKind.i64 5]) else none)) else 
               (bif b.k == 5 then 
                (bif leafIn.strOk b.s then 
                 (bif !S.good a then some (Value.tuple #[Value.bool false, Value.int IntKind.i64 5]) else 
                  (bif !S.good b then some (Value.tuple #[Value.bool false, Value.int IntKind.i64 5]) else none)) else 
                 (bif !S.good a then some (Value.tuple #[Value.bool false, Value.int IntKind.i64 5]) else 
                  (bif !S.good b then some (Value.tuple #[Value.bool false, Value.int IntKind.i64 5]) else none))) else 
                (bif b.k == 6 then 
                 (bif leafIn.idOk b.id then 
                  (bif !S.good a then some (Value.tuple #[Value.bool false, Value.int IntKind.i64 5]) else 
                   (bif !S.good b then some (Value.tuple #[Value.bool false, Value.int IntKind.i64 5]) else none)) else 
                  (bif !S.good a then some (Value.tuple #[Value.bool false, Value.int IntKind.i64 5]) else 
                   (bif !S.good b then some (Value.tuple #[Value.bool false, Value.int IntKind.i64 5]) else none))) else 
                 (bif b.k == 7 then 
                  (bif leafIn.idOk b.id then 
                   (bif !S.good a then some (Value.tuple #[Value.bool false, Value.int IntKind.i64 5]) else 
                    (bif !S.good b then some (Value.tuple #[Value.bool false, Value.int IntKind.i64 5]) else none)) else 
                   (bif !S.good a then some (Value.tuple #[Value.bool false, Value.int IntKind.i64 5]) else 
                    (bif !S.good b then some (Value.tuple #[Value.bool false, Value.int IntKind.i64 5]) else none))) else 
                  (bif !S.good a then some (Value.tuple #[Value.bool false, Value.int IntKind.i64 5]) else 
                   (bif !S.good b then some (Value.tuple #[Value.bool false, Value.int IntKind.i64 5]) else none))))))))))))))))) (by kernel_rfl) (by
    simp only [T.same, DT.val_node, DT.val_leaf, DT.bind, DT.val_bad]
    repeat' (first | (with_reducible refine bif_neq (fun h => ?_) (fun h => ?_)) | (with_reducible refine bif_and (fun h => ?_) (fun h => ?_)) | (with_reducible refine bif_eq (fun h => ?_) (fun h => ?_)))
    all_goals first | (simp only [*, cond_true, cond_false, Bool.and_true, Bool.true_and, Bool.and_false, Bool.false_and, Bool.not_true, Bool.not_false]; done) | (exfalso; simp_all [S.good]; done) | (simp_all [S.same, S.good, S.emp, beq_toListBytes, FloatEq.f00]; done) | (simp_all [S.same, S.good, S.emp, beq_toListBytes, FloatEq.f00]))
theorem ent_same : E (99, onVV T.same) := byEv Hents4 60 fun args t h => by
  obtain ⟨a, b, rfl, rfl⟩ := onVV_eq h
  exact ev_same a b
abbrev HL5 : Tab := (99, onVV T.same) :: HL4
theorem Hents5 : ∀ p ∈ HL5, E p := entries_cons ent_same Hents4
set_option maxHeartbeats 4000000 in
theorem ev_callable (v : V) : evFn Tryd.prog ext (tab HL5) 40 93 [v.agg] = (T.callable v).val :=
  Eq.trans (b := 
    (bif S.absent v then some (Value.bool true) else 
     (bif S.good v then 
      (bif v.k == 1 then some (Value.bool true) else some (Value.bool (v.k == 7))) else some (Value.bool false)))) (by kernel_rfl) (by
    simp only [T.callable, T.B, DT.val_node, DT.val_leaf, DT.bind, DT.val_bad]
    repeat' (first | (with_reducible refine bif_neq (fun h => ?_) (fun h => ?_)) | (with_reducible refine bif_and (fun h => ?_) (fun h => ?_)) | (with_reducible refine bif_eq (fun h => ?_) (fun h => ?_)))
    all_goals first | (simp only [*, S.callable, cond_true, cond_false, Bool.and_true, Bool.true_and, Bool.and_false, Bool.false_and, Bool.or_true, Bool.true_or, Bool.or_false, Bool.false_or, Bool.not_true, Bool.not_false, beq_self_eq_true, bne_self_eq_false, Bool.not_not]; done) | (exfalso; simp_all; done) | (simp_all [S.callable]; done) | grind [S.callable])
theorem ent_callable : E (93, onV T.callable) := byEv Hents5 40 fun args t h => by
  obtain ⟨v, rfl, rfl⟩ := onV_eq h
  exact ev_callable v
abbrev HL6 : Tab := (93, onV T.callable) :: HL5
theorem Hents6 : ∀ p ∈ HL6, E p := entries_cons ent_callable Hents5
set_option maxHeartbeats 4000000 in
theorem ev_tri (t : Int) : evFn Tryd.prog ext (tab HL6) 40 94 [.int .i64 t] = (T.tri t).val :=
  Eq.trans (b := 
    (bif decide (t ≥ 0) then some (Value.bool (decide (t ≤ 2))) else some (Value.bool false))) (by kernel_rfl) (by
    simp only [T.tri, T.B, DT.val_node, DT.val_leaf, DT.bind, DT.val_bad]
    repeat' (first | (with_reducible refine bif_neq (fun h => ?_) (fun h => ?_)) | (with_reducible refine bif_and (fun h => ?_) (fun h => ?_)) | (with_reducible refine bif_eq (fun h => ?_) (fun h => ?_)))
    all_goals first | (simp only [*, S.tri, cond_true, cond_false, Bool.and_true, Bool.true_and, Bool.and_false, Bool.false_and, Bool.or_true, Bool.true_or, Bool.or_false, Bool.false_or, Bool.not_true, Bool.not_false, beq_self_eq_true, bne_self_eq_false, Bool.not_not]; done) | (exfalso; simp_all; done) | (simp_all [S.tri]; done) | grind [S.tri])
theorem ent_tri : E (94, onI T.tri) := byEv Hents6 40 fun args t h => by
  obtain ⟨t, rfl, rfl⟩ := onI_eq h
  exact ev_tri t
abbrev HL7 : Tab := (94, onI T.tri) :: HL6
theorem Hents7 : ∀ p ∈ HL7, E p := entries_cons ent_tri Hents6
set_option maxHeartbeats 4000000 in
theorem ev_kind (d : D) : evFn Tryd.prog ext (tab HL7) 40 52 [d.agg] = (T.kind d).val :=
  Eq.trans (b := 
    (bif !S.absent d.v then 
     (bif S.good d.v then 
      (bif !S.callable d.g then some (Value.tuple #[Value.int IntKind.i64 0, Value.bool false]) else 
       (bif !S.callable d.t then some (Value.tuple #[Value.int IntKind.i64 0, Value.bool false]) else 
        (bif !S.tri d.w then some (Value.tuple #[Value.int IntKind.i64 0, Value.bool false]) else 
         (bif !S.tri d.e then some (Value.tuple #[Value.int IntKind.i64 0, Value.bool false]) else 
          (bif !S.tri d.c then some (Value.tuple #[Value.int IntKind.i64 0, Value.bool false]) else 
           (bif d.g.k != 0 then 
            (bif d.v.k != 0 then some (Value.tuple #[Value.int IntKind.i64 1, Value.bool !true]) else 
             (bif d.w != 0 then some (Value.tuple #[Value.int IntKind.i64 1, Value.bool !true]) else some (Value.tuple #[Value.int IntKind.i64 2, Value.bool true]))) else 
            (bif d.v.k != 0 then some (Value.tuple #[Value.int IntKind.i64 1, Value.bool !d.t.k != 0]) else 
             (bif d.w != 0 then some (Value.tuple #[Value.int IntKind.i64 1, Value.bool !d.t.k != 0]) else 
              (bif d.t.k != 0 then some (Value.tuple #[Value.int IntKind.i64 2, Value.bool true]) else some (Value.tuple #[Value.int IntKind.i64 0, Value.bool true])))))))))) else some (Value.tuple #[Value.int IntKind.i64 0, Value.bool false])) else 
     (bif !S.callable d.g then some (Value.tuple #[Value.int IntKind.i64 0, Value.bool false]) else 
      (bif !S.callable d.t then some (Value.tuple #[Value.int IntKind.i64 0, Value.bool false]) else 
       (bif !S.tri d.w then some (Value.tuple #[Value.int IntKind.i64 0, Value.bool false]) else 
        (bif !S.tri d.e then some (Value.tuple #[Value.int IntKind.i64 0, Value.bool false]) else 
         (bif !S.tri d.c then some (Value.tuple #[Value.int IntKind.i64 0, Value.bool false]) else 
          (bif d.g.k != 0 then 
           (bif d.v.k != 0 then some (Value.tuple #[Value.int IntKind.i64 1, Value.bool !true]) else 
            (bif d.w != 0 then some (Value.tuple #[Value.int IntKind.i64 1, Value.bool !true]) else some (Value.tuple #[Value.int IntKind.i64 2, Value.bool true]))) else 
           (bif d.v.k != 0 then some (Value.tuple #[Value.int IntKind.i64 1, Value.bool !d.t.k != 0]) else 
            (bif d.w != 0 then some (Value.tuple #[Value.int IntKind.i64 1, Value.bool !d.t.k != 0]) else 
             (bif d.t.k != 0 then some (Value.tuple #[Value.int IntKind.i64 2, Value.bool true]) else some (Value.tuple #[Value.int IntKind.i64 0, Value.bool true])))))))))))) (by kernel_rfl) (by
    simp only [T.kind, DT.val_node, DT.val_leaf, DT.bind, DT.val_bad]
    repeat' (first | (with_reducible refine bif_neq (fun h => ?_) (fun h => ?_)) | (with_reducible refine bif_and (fun h => ?_) (fun h => ?_)) | (with_reducible refine bif_eq (fun h => ?_) (fun h => ?_)))
    all_goals first | (simp only [*, S.check, S.fields, S.hasD, S.hasA, S.there, cond_true, cond_false, Bool.and_true, Bool.true_and, Bool.and_false, Bool.false_and, Bool.or_true, Bool.true_or, Bool.or_false, Bool.false_or, Bool.not_true, Bool.not_false, beq_self_eq_true, bne_self_eq_false, Bool.not_not]; done) | (exfalso; simp_all; done) | (simp_all [S.check, S.fields, S.hasD, S.hasA, S.there]; done) | grind [S.check, S.fields, S.hasD, S.hasA, S.there])
theorem ent_kind : E (52, onD T.kind) := byEv Hents7 40 fun args t h => by
  obtain ⟨d, rfl, rfl⟩ := onD_eq h
  exact ev_kind d
abbrev HL8 : Tab := (52, onD T.kind) :: HL7
theorem Hents8 : ∀ p ∈ HL8, E p := entries_cons ent_kind Hents7
set_option maxHeartbeats 4000000 in
theorem ev_check (d : D) : evFn Tryd.prog ext (tab HL8) 40 16 [d.agg] = (T.check d).val :=
  Eq.trans (b := 
    (bif S.check d then 
     (bif S.hasD d then some (Value.int IntKind.i64 0) else 
      (bif S.hasA d then some (Value.int IntKind.i64 0) else some (Value.int IntKind.i64 0))) else 
     (bif S.fields d then some (Value.int IntKind.i64 5) else some (Value.int IntKind.i64 5)))) (by kernel_rfl) (by
    simp only [T.check, T.err, DT.val_node, DT.val_leaf, DT.bind, DT.val_bad]
    repeat' (first | (with_reducible refine bif_neq (fun h => ?_) (fun h => ?_)) | (with_reducible refine bif_and (fun h => ?_) (fun h => ?_)) | (with_reducible refine bif_eq (fun h => ?_) (fun h => ?_)))
    all_goals first | (simp only [*, cond_true, cond_false, Bool.and_true, Bool.true_and, Bool.and_false, Bool.false_and, Bool.or_true, Bool.true_or, Bool.or_false, Bool.false_or, Bool.not_true, Bool.not_false, beq_self_eq_true, bne_self_eq_false, Bool.not_not]; done) | (exfalso; simp_all; done) | (simp_all []; done) | grind [])
theorem ent_check : E (16, onD T.check) := byEv Hents8 40 fun args t h => by
  obtain ⟨d, rfl, rfl⟩ := onD_eq h
  exact ev_check d
abbrev HL9 : Tab := (16, onD T.check) :: HL8
theorem Hents9 : ∀ p ∈ HL9, E p := entries_cons ent_check Hents8
set_option maxHeartbeats 4000000 in
theorem ev_isA (d : D) : evFn Tryd.prog ext (tab HL9) 40 19 [d.agg] = (T.isA d).val :=
  Eq.trans (b := 
    (bif S.check d then 
     (bif S.hasD d then some (Value.bool (1 == 2)) else 
      (bif S.hasA d then some (Value.bool (2 == 2)) else some (Value.bool (0 == 2)))) else 
     (bif S.fields d then some (Value.bool false) else some (Value.bool false)))) (by kernel_rfl) (by
    simp only [T.isA, T.B, DT.val_node, DT.val_leaf, DT.bind, DT.val_bad]
    repeat' (first | (with_reducible refine bif_neq (fun h => ?_) (fun h => ?_)) | (with_reducible refine bif_and (fun h => ?_) (fun h => ?_)) | (with_reducible refine bif_eq (fun h => ?_) (fun h => ?_)))
    all_goals first | (simp only [*, S.isA, cond_true, cond_false, Bool.and_true, Bool.true_and, Bool.and_false, Bool.false_and, Bool.or_true, Bool.true_or, Bool.or_false, Bool.false_or, Bool.not_true, Bool.not_false, beq_self_eq_true, bne_self_eq_false, Bool.not_not]; done) | (exfalso; simp_all; done) | (simp_all [S.isA]; done) | grind [S.isA])
theorem ent_isA : E (19, onD T.isA) := byEv Hents9 40 fun args t h => by
  obtain ⟨d, rfl, rfl⟩ := onD_eq h
  exact ev_isA d
abbrev HL10 : Tab := (19, onD T.isA) :: HL9
theorem Hents10 : ∀ p ∈ HL10, E p := entries_cons ent_isA Hents9
set_option maxHeartbeats 4000000 in
theorem ev_isD (d : D) : evFn Tryd.prog ext (tab HL10) 40 21 [d.agg] = (T.isD d).val :=
  Eq.trans (b := 
    (bif S.check d then 
     (bif S.hasD d then some (Value.bool (1 == 1)) else 
      (bif S.hasA d then some (Value.bool (2 == 1)) else some (Value.bool (0 == 1)))) else 
     (bif S.fields d then some (Value.bool false) else some (Value.bool false)))) (by kernel_rfl) (by
    simp only [T.isD, T.B, DT.val_node, DT.val_leaf, DT.bind, DT.val_bad]
    repeat' (first | (with_reducible refine bif_neq (fun h => ?_) (fun h => ?_)) | (with_reducible refine bif_and (fun h => ?_) (fun h => ?_)) | (with_reducible refine bif_eq (fun h => ?_) (fun h => ?_)))
    all_goals first | (simp only [*, S.isD, cond_true, cond_false, Bool.and_true, Bool.true_and, Bool.and_false, Bool.false_and, Bool.or_true, Bool.true_or, Bool.or_false, Bool.false_or, Bool.not_true, Bool.not_false, beq_self_eq_true, bne_self_eq_false, Bool.not_not]; done) | (exfalso; simp_all; done) | (simp_all [S.isD]; done) | grind [S.isD])
theorem ent_isD : E (21, onD T.isD) := byEv Hents10 40 fun args t h => by
  obtain ⟨d, rfl, rfl⟩ := onD_eq h
  exact ev_isD d
abbrev HL11 : Tab := (21, onD T.isD) :: HL10
theorem Hents11 : ∀ p ∈ HL11, E p := entries_cons ent_isD Hents10
set_option maxHeartbeats 4000000 in
theorem ev_isG (d : D) : evFn Tryd.prog ext (tab HL11) 40 23 [d.agg] = (T.isG d).val :=
  Eq.trans (b := 
    (bif S.check d then 
     (bif S.hasD d then some (Value.bool (1 == 0)) else 
      (bif S.hasA d then some (Value.bool (2 == 0)) else some (Value.bool (0 == 0)))) else 
     (bif S.fields d then some (Value.bool false) else some (Value.bool false)))) (by kernel_rfl) (by
    simp only [T.isG, T.B, DT.val_node, DT.val_leaf, DT.bind, DT.val_bad]
    repeat' (first | (with_reducible refine bif_neq (fun h => ?_) (fun h => ?_)) | (with_reducible refine bif_and (fun h => ?_) (fun h => ?_)) | (with_reducible refine bif_eq (fun h => ?_) (fun h => ?_)))
    all_goals first | (simp only [*, S.isG, cond_true, cond_false, Bool.and_true, Bool.true_and, Bool.and_false, Bool.false_and, Bool.or_true, Bool.true_or, Bool.or_false, Bool.false_or, Bool.not_true, Bool.not_false, beq_self_eq_true, bne_self_eq_false, Bool.not_not]; done) | (exfalso; simp_all; done) | (simp_all [S.isG]; done) | grind [S.isG])
theorem ent_isG : E (23, onD T.isG) := byEv Hents11 40 fun args t h => by
  obtain ⟨d, rfl, rfl⟩ := onD_eq h
  exact ev_isG d
abbrev HL12 : Tab := (23, onD T.isG) :: HL11
theorem Hents12 : ∀ p ∈ HL12, E p := entries_cons ent_isG Hents11
end Go.Proofs.YtaojjpdlfnphiaaDoor.PDescKinds
end
section
/- Contracts by evaluation: what each function of a list answers. Written by a program of this session. -/
namespace Go.Proofs.YtaojjpdlfnphiaaDoor.PDescKinds
open Go.RowKit Go.Ev
set_option linter.unusedSimpArgs false
set_option linter.unusedVariables false
set_option maxRecDepth 100000
set_option maxHeartbeats 4000000 in
theorem ev_complete (d : D) : evFn Tryd.prog ext (tab HL12) 60 12 [d.agg] = (T.complete d).val :=
  Eq.trans (b := 
    (bif S.check d then 
     (bif S.hasD d then 
      (bif !d.v.k != 0 then 
       (bif d.w == 0 then 
        (bif d.e == 0 then 
         (bif d.c == 0 then some (Value.tuple #[(D.mk (V.mk 1 false 0 (ByteArray.mk #[]) 0) d.g d.t 1 1 1).agg, Value.int IntKind.i64 0]) else some (Value.tuple #[(D.mk (V.mk 1 false 0 (ByteArray.mk #[]) 0) d.g d.t 1 1 d.c).agg, Value.int IntKind.i64 0])) else 
         (bif d.c == 0 then some (Value.tuple #[(D.mk (V.mk 1 false 0 (ByteArray.mk #[]) 0) d.g d.t 1 d.e 1).agg, Value.int IntKind.i64 0]) else some (Value.tuple #[(D.mk (V.mk 1 false 0 (ByteArray.mk #[]) 0) d.g d.t 1 d.e d.c).agg, Value.int IntKind.i64 0]))) else 
        (bif d.e == 0 then 
         (bif d.c == 0 then some (Value.tuple #[(D.mk (V.mk 1 false 0 (ByteArray.mk #[]) 0) d.g d.t d.w 1 1).agg, Value.int IntKind.i64 0]) else some (Value.tuple #[(D.mk (V.mk 1 false 0 (ByteArray.mk #[]) 0) d.g d.t d.w 1 d.c).agg, Value.int IntKind.i64 0])) else 
         (bif d.c == 0 then some (Value.tuple #[(D.mk (V.mk 1 false 0 (ByteArray.mk #[]) 0) d.g d.t d.w d.e 1).agg, Value.int IntKind.i64 0]) else some (Value.tuple #[(D.mk (V.mk 1 false 0 (ByteArray.mk #[]) 0) d.g d.t d.w d.e d.c).agg, Value.int IntKind.i64 0])))) else 
       (bif d.w == 0 then 
        (bif d.e == 0 then 
         (bif d.c == 0 then some (Value.tuple #[(D.mk d.v d.g d.t 1 1 1).agg, Value.int IntKind.i64 0]) else some (Value.tuple #[(D.mk d.v d.g d.t 1 1 d.c).agg, Value.int IntKind.i64 0])) else 
         (bif d.c == 0 then some (Value.tuple #[(D.mk d.v d.g d.t 1 d.e 1).agg, Value.int IntKind.i64 0]) else some (Value.tuple #[(D.mk d.v d.g d.t 1 d.e d.c).agg, Value.int IntKind.i64 0]))) else 
        (bif d.e == 0 then 
         (bif d.c == 0 then some (Value.tuple #[(D.mk d.v d.g d.t d.w 1 1).agg, Value.int IntKind.i64 0]) else some (Value.tuple #[(D.mk d.v d.g d.t d.w 1 d.c).agg, Value.int IntKind.i64 0])) else 
         (bif d.c == 0 then some (Value.tuple #[(D.mk d.v d.g d.t d.w d.e 1).agg, Value.int IntKind.i64 0]) else some (Value.tuple #[d.agg, Value.int IntKind.i64 0]))))) else 
      (bif S.hasA d then 
       (bif !d.g.k != 0 then 
        (bif !d.t.k != 0 then 
         (bif d.e == 0 then 
          (bif d.c == 0 then some (Value.tuple #[(D.mk d.v (V.mk 1 false 0 (ByteArray.mk #[]) 0) (V.mk 1 false 0 (ByteArray.mk #[]) 0) d.w 1 1).agg, Value.int IntKind.i64 0]) else some (Value.tuple #[(D.mk d.v (V.mk 1 false 0 (ByteArray.mk #[]) 0) (V.mk 1 false 0 (ByteArray.mk #[]) 0) d.w 1 d.c).agg, Value.int IntKind.i64 0])) else 
          (bif d.c == 0 then some (Value.tuple #[(D.mk d.v (V.mk 1 false 0 (ByteArray.mk #[]) 0) (V.mk 1 false 0 (ByteArray.mk #[]) 0) d.w d.e 1).agg, Value.int IntKind.i64 0]) else some (Value.tuple #[(D.mk d.v (V.mk 1 false 0 (ByteArray.mk #[]) 0) (V.mk 1 false 0 (ByteArray.mk #[]) 0) d.w d.e d.c).agg, Value.int IntKind.i64 0]))) else 
         (bif d.e == 0 then 
          (bif d.c == 0 then some (Value.tuple #[(D.mk d.v (V.mk 1 false 0 (ByteArray.mk #[]) 0) d.t d.w 1 1).agg, Value.int IntKind.i64 0]) else some (Value.tuple #[(D.mk d.v (V.mk 1 false 0 (ByteArray.mk #[]) 0) d.t d.w 1 d.c).agg, Value.int IntKind.i64 0])) else 
          (bif d.c == 0 then some (Value.tuple #[(D.mk d.v (V.mk 1 false 0 (ByteArray.mk #[]) 0) d.t d.w d.e 1).agg, Value.int IntKind.i64 0]) else some (Value.tuple #[(D.mk d.v (V.mk 1 false 0 (ByteArray.mk #[]) 0) d.t d.w d.e d.c).agg, Value.int IntKind.i64 0])))) else 
        (bif !d.t.k != 0 then 
         (bif d.e == 0 then 
          (bif d.c == 0 then some (Value.tuple #[(D.mk d.v d.g (V.mk 1 false 0 (ByteArray.mk #[]) 0) d.w 1 1).agg, Value.int IntKind.i64 0]) else some (Value.tuple #[(D.mk d.v d.g (V.mk 1 false 0 (ByteArray.mk #[]) 0) d.w 1 d.c).agg, Value.int IntKind.i64 0])) else 
          (bif d.c == 0 then some (Value.tuple #[(D.mk d.v d.g (V.mk 1 false 0 (ByteArray.mk #[]) 0) d.w d.e 1).agg, Value.int IntKind.i64 0]) else some (Value.tuple #[(D.mk d.v d.g (V.mk 1 false 0 (ByteArray.mk #[]) 0) d.w d.e d.c).agg, Value.int IntKind.i64 0]))) else 
         (bif d.e == 0 then 
          (bif d.c == 0 then some (Value.tuple #[(D.mk d.v d.g d.t d.w 1 1).agg, Value.int IntKind.i64 0]) else some (Value.tuple #[(D.mk d.v d.g d.t d.w 1 d.c).agg, Value.int IntKind.i64 0])) else 
          (bif d.c == 0 then some (Value.tuple #[(D.mk d.v d.g d.t d.w d.e 1).agg, Value.int IntKind.i64 0]) else some (Value.tuple #[d.agg, Value.int IntKind.i64 0]))))) else 
       (bif !d.v.k != 0 then 
        (bif d.w == 0 then 
         (bif d.e == 0 then 
          (bif d.c == 0 then some (Value.tuple #[(D.mk (V.mk 1 false 0 (ByteArray.mk #[]) 0) d.g d.t 1 1 1).agg, Value.int IntKind.i64 0]) else some (Value.tuple #[(D.mk (V.mk 1 false 0 (ByteArray.mk #[]) 0) d.g d.t 1 1 d.c).agg, Value.int IntKind.i64 0])) else 
          (bif d.c == 0 then some (Value.tuple #[(D.mk (V.mk 1 false 0 (ByteArray.mk #[]) 0) d.g d.t 1 d.e 1).agg, Value.int IntKind.i64 0]) else some (Value.tuple #[(D.mk (V.mk 1 false 0 (ByteArray.mk #[]) 0) d.g d.t 1 d.e d.c).agg, Value.int IntKind.i64 0]))) else 
         (bif d.e == 0 then 
          (bif d.c == 0 then some (Value.tuple #[(D.mk (V.mk 1 false 0 (ByteArray.mk #[]) 0) d.g d.t d.w 1 1).agg, Value.int IntKind.i64 0]) else some (Value.tuple #[(D.mk (V.mk 1 false 0 (ByteArray.mk #[]) 0) d.g d.t d.w 1 d.c).agg, Value.int IntKind.i64 0])) else 
          (bif d.c == 0 then some (Value.tuple #[(D.mk (V.mk 1 false 0 (ByteArray.mk #[]) 0) d.g d.t d.w d.e 1).agg, Value.int IntKind.i64 0]) else some (Value.tuple #[(D.mk (V.mk 1 false 0 (ByteArray.mk #[]) 0) d.g d.t d.w d.e d.c).agg, Value.int IntKind.i64 0])))) else 
        (bif d.w == 0 then 
         (bif d.e == 0 then 
          (bif d.c == 0 then some (Value.tuple #[(D.mk d.v d.g d.t 1 1 1).agg, Value.int IntKind.i64 0]) else some (Value.tuple #[(D.mk d.v d.g d.t 1 1 d.c).agg, Value.int IntKind.i64 0])) else 
          (bif d.c == 0 then some (Value.tuple #[(D.mk d.v d.g d.t 1 d.e 1).agg, Value.int IntKind.i64 0]) else some (Value.tuple #[(D.mk d.v d.g d.t 1 d.e d.c).agg, Value.int IntKind.i64 0]))) else 
         (bif d.e == 0 then 
          (bif d.c == 0 then some (Value.tuple #[(D.mk d.v d.g d.t d.w 1 1).agg, Value.int IntKind.i64 0]) else some (Value.tuple #[(D.mk d.v d.g d.t d.w 1 d.c).agg, Value.int IntKind.i64 0])) else 
          (bif d.c == 0 then some (Value.tuple #[(D.mk d.v d.g d.t d.w d.e 1).agg, Value.int IntKind.i64 0]) else some (Value.tuple #[d.agg, Value.int IntKind.i64 0]))))))) else 
     (bif S.fields d then some (Value.tuple #[(D.mk (V.mk 0 false 0 (ByteArray.mk #[]) 0) (V.mk 0 false 0 (ByteArray.mk #[]) 0) (V.mk 0 false 0 (ByteArray.mk #[]) 0) 0 0 0).agg, Value.int IntKind.i64 5]) else some (Value.tuple #[(D.mk (V.mk 0 false 0 (ByteArray.mk #[]) 0) (V.mk 0 false 0 (ByteArray.mk #[]) 0) (V.mk 0 false 0 (ByteArray.mk #[]) 0) 0 0 0).agg, Value.int IntKind.i64 5])))) (by kernel_rfl) (by
    simp only [T.complete, DT.val_node, DT.val_leaf, DT.bind, DT.val_bad]
    repeat' (first | (with_reducible refine bif_neq (fun h => ?_) (fun h => ?_)) | (with_reducible refine bif_and (fun h => ?_) (fun h => ?_)) | (with_reducible refine bif_eq (fun h => ?_) (fun h => ?_)))
    all_goals first | (simp only [*, S.complete, S.fill, S.no, S.there, S.VU, S.V0, S.D0, cond_true, cond_false, Bool.and_true, Bool.true_and, Bool.and_false, Bool.false_and, Bool.or_true, Bool.true_or, Bool.or_false, Bool.false_or, Bool.not_true, Bool.not_false, beq_self_eq_true, bne_self_eq_false, Bool.not_not]; done) | (exfalso; simp_all; done) | (simp_all [S.complete, S.fill, S.no, S.there, S.VU, S.V0, S.D0]; done) | grind [S.complete, S.fill, S.no, S.there, S.VU, S.V0, S.D0])
theorem ent_complete : E (12, onD T.complete) := byEv Hents12 60 fun args t h => by
  obtain ⟨d, rfl, rfl⟩ := onD_eq h
  exact ev_complete d
abbrev HL13 : Tab := (12, onD T.complete) :: HL12
theorem Hents13 : ∀ p ∈ HL13, E p := entries_cons ent_complete Hents12
set_option maxHeartbeats 4000000 in
theorem ev_alike (a b : V) : evFn Tryd.prog ext (tab HL13) 40 68 [a.agg, b.agg] = (T.alike a b).val :=
  Eq.trans (b := 
    (bif !a.k != 0 then some (Value.bool ((a.k != 0) == (b.k != 0))) else 
     (bif !b.k != 0 then some (Value.bool ((a.k != 0) == (b.k != 0))) else 
      (bif S.good a && S.good b then some (Value.bool (S.same a b)) else some (Value.bool false))))) (by kernel_rfl) (by
    simp only [T.alike, T.B, DT.val_node, DT.val_leaf, DT.bind, DT.val_bad]
    repeat' (first | (with_reducible refine bif_neq (fun h => ?_) (fun h => ?_)) | (with_reducible refine bif_and (fun h => ?_) (fun h => ?_)) | (with_reducible refine bif_eq (fun h => ?_) (fun h => ?_)))
    all_goals first | (simp only [*, S.alike, S.there, cond_true, cond_false, Bool.and_true, Bool.true_and, Bool.and_false, Bool.false_and, Bool.or_true, Bool.true_or, Bool.or_false, Bool.false_or, Bool.not_true, Bool.not_false, beq_self_eq_true, bne_self_eq_false, Bool.not_not]; done) | (exfalso; simp_all; done) | (simp_all [S.alike, S.there]; done) | grind [S.alike, S.there])
theorem ent_alike : E (68, onVV T.alike) := byEv Hents13 40 fun args t h => by
  obtain ⟨a, b, rfl, rfl⟩ := onVV_eq h
  exact ev_alike a b
abbrev HL14 : Tab := (68, onVV T.alike) :: HL13
theorem Hents14 : ∀ p ∈ HL14, E p := entries_cons ent_alike Hents13
set_option maxHeartbeats 4000000 in
theorem ev_equal (a b : D) : evFn Tryd.prog ext (tab HL14) 40 63 [a.agg, b.agg] = (T.equal a b).val :=
  Eq.trans (b := 
    (bif a.w == b.w then 
     (bif a.e == b.e then 
      (bif a.c == b.c then 
       (bif S.alike a.v b.v then 
        (bif S.alike a.g b.g then some (Value.bool (S.alike a.t b.t)) else some (Value.bool false)) else some (Value.bool false)) else some (Value.bool false)) else some (Value.bool false)) else some (Value.bool false))) (by kernel_rfl) (by
    simp only [T.equal, T.B, DT.val_node, DT.val_leaf, DT.bind, DT.val_bad]
    repeat' (first | (with_reducible refine bif_neq (fun h => ?_) (fun h => ?_)) | (with_reducible refine bif_and (fun h => ?_) (fun h => ?_)) | (with_reducible refine bif_eq (fun h => ?_) (fun h => ?_)))
    all_goals first | (simp only [*, S.equal, cond_true, cond_false, Bool.and_true, Bool.true_and, Bool.and_false, Bool.false_and, Bool.or_true, Bool.true_or, Bool.or_false, Bool.false_or, Bool.not_true, Bool.not_false, beq_self_eq_true, bne_self_eq_false, Bool.not_not]; done) | (exfalso; simp_all; done) | (simp_all [S.equal]; done) | grind [S.equal])
theorem ent_equal : E (63, onDD T.equal) := byEv Hents14 40 fun args t h => by
  obtain ⟨a, b, rfl, rfl⟩ := onDD_eq h
  exact ev_equal a b
abbrev HL15 : Tab := (63, onDD T.equal) :: HL14
theorem Hents15 : ∀ p ∈ HL15, E p := entries_cons ent_equal Hents14
set_option maxHeartbeats 4000000 in
theorem ev_whole (d : D) : evFn Tryd.prog ext (tab HL15) 40 25 [d.agg] = (T.whole d).val :=
  Eq.trans (b := 
    (bif S.check d then 
     (bif S.hasD d then 
      (bif S.check d then some (Value.bool (S.equal (S.complete d) d)) else some (Value.bool (S.equal S.D0 d))) else 
      (bif S.hasA d then 
       (bif S.check d then some (Value.bool (S.equal (S.complete d) d)) else some (Value.bool (S.equal S.D0 d))) else some (Value.bool false))) else 
     (bif S.fields d then some (Value.bool false) else some (Value.bool false)))) (by kernel_rfl) (by
    simp only [T.whole, T.B, DT.val_node, DT.val_leaf, DT.bind, DT.val_bad]
    repeat' (first | (with_reducible refine bif_neq (fun h => ?_) (fun h => ?_)) | (with_reducible refine bif_and (fun h => ?_) (fun h => ?_)) | (with_reducible refine bif_eq (fun h => ?_) (fun h => ?_)))
    all_goals first | (simp only [*, S.whole, cond_true, cond_false, Bool.and_true, Bool.true_and, Bool.and_false, Bool.false_and, Bool.or_true, Bool.true_or, Bool.or_false, Bool.false_or, Bool.not_true, Bool.not_false, beq_self_eq_true, bne_self_eq_false, Bool.not_not]; done) | (exfalso; simp_all; done) | (simp_all [S.whole]; done) | grind [S.whole])
theorem ent_whole : E (25, onD T.whole) := byEv Hents15 40 fun args t h => by
  obtain ⟨d, rfl, rfl⟩ := onD_eq h
  exact ev_whole d
abbrev HL16 : Tab := (25, onD T.whole) :: HL15
theorem Hents16 : ∀ p ∈ HL16, E p := entries_cons ent_whole Hents15
set_option maxHeartbeats 4000000 in
theorem ev_zero (d : D) : evFn Tryd.prog ext (tab HL16) 40 64 [d.agg] = (T.zero d).val :=
  Eq.trans (b := 
    (bif d.v.k == 0 && (d.v.b == false && (Op.floatEq FloatKind.f64 d.v.n 0 && (d.v.s == ByteArray.mk #[] && (d.v.id == 0 && true)))) && (d.g.k == 0 && (d.g.b == false && (Op.floatEq FloatKind.f64 d.g.n 0 && (d.g.s == ByteArray.mk #[] && (d.g.id == 0 && true)))) && (d.t.k == 0 && (d.t.b == false && (Op.floatEq FloatKind.f64 d.t.n 0 && (d.t.s == ByteArray.mk #[] && (d.t.id == 0 && true)))) && (d.w == 0 && (d.e == 0 && (d.c == 0 && true))))) then 
     (bif S.absent d.v then 
      (bif S.absent d.g then some (Value.bool (S.absent d.t)) else some (Value.bool false)) else some (Value.bool false)) else some (Value.bool false))) (by kernel_rfl) (by
    simp only [T.zero, T.B, DT.val_node, DT.val_leaf, DT.bind, DT.val_bad]
    repeat' (first | (with_reducible refine bif_neq (fun h => ?_) (fun h => ?_)) | (with_reducible refine bif_and (fun h => ?_) (fun h => ?_)) | (with_reducible refine bif_eq (fun h => ?_) (fun h => ?_)))
    all_goals first | (simp only [*, S.zero, S.isD0, cond_true, cond_false, Bool.and_true, Bool.true_and, Bool.and_false, Bool.false_and, Bool.or_true, Bool.true_or, Bool.or_false, Bool.false_or, Bool.not_true, Bool.not_false, beq_self_eq_true, bne_self_eq_false, Bool.not_not]; done) | (exfalso; simp_all; done) | (simp_all [S.zero, S.isD0]; done) | grind [S.zero, S.isD0])
theorem ent_zero : E (64, onD T.zero) := byEv Hents16 40 fun args t h => by
  obtain ⟨d, rfl, rfl⟩ := onD_eq h
  exact ev_zero d
abbrev HL17 : Tab := (64, onD T.zero) :: HL16
theorem Hents17 : ∀ p ∈ HL17, E p := entries_cons ent_zero Hents16
set_option maxHeartbeats 4000000 in
theorem ev_sameD (a b : D) : evFn Tryd.prog ext (tab HL17) 40 31 [a.agg, b.agg] = (T.sameD a b).val :=
  Eq.trans (b := 
    (bif S.check a then 
     (bif S.check b then some (Value.tuple #[Value.bool (S.equal a b), Value.int IntKind.i64 0]) else some (Value.tuple #[Value.bool false, Value.int IntKind.i64 5])) else some (Value.tuple #[Value.bool false, Value.int IntKind.i64 5]))) (by kernel_rfl) (by
    simp only [T.sameD, DT.val_node, DT.val_leaf, DT.bind, DT.val_bad]
    repeat' (first | (with_reducible refine bif_neq (fun h => ?_) (fun h => ?_)) | (with_reducible refine bif_and (fun h => ?_) (fun h => ?_)) | (with_reducible refine bif_eq (fun h => ?_) (fun h => ?_)))
    all_goals first | (simp only [*, cond_true, cond_false, Bool.and_true, Bool.true_and, Bool.and_false, Bool.false_and, Bool.or_true, Bool.true_or, Bool.or_false, Bool.false_or, Bool.not_true, Bool.not_false, beq_self_eq_true, bne_self_eq_false, Bool.not_not]; done) | (exfalso; simp_all; done) | (simp_all []; done) | grind [])
theorem ent_sameD : E (31, onDD T.sameD) := byEv Hents17 40 fun args t h => by
  obtain ⟨a, b, rfl, rfl⟩ := onDD_eq h
  exact ev_sameD a b
abbrev HL18 : Tab := (31, onDD T.sameD) :: HL17
theorem Hents18 : ∀ p ∈ HL18, E p := entries_cons ent_sameD Hents17
set_option maxHeartbeats 4000000 in
theorem ev_freeze (d : D) : evFn Tryd.prog ext (tab HL18) 40 13 [d.agg] = (T.freeze d).val :=
  Eq.trans (b := 
    (bif !S.whole d then some (Value.tuple #[(D.mk (V.mk 0 false 0 (ByteArray.mk #[]) 0) (V.mk 0 false 0 (ByteArray.mk #[]) 0) (V.mk 0 false 0 (ByteArray.mk #[]) 0) 0 0 0).agg, Value.int IntKind.i64 5]) else 
     (bif S.isD d then some (Value.tuple #[(D.mk (V.mk 0 false 0 (ByteArray.mk #[]) 0) (V.mk 0 false 0 (ByteArray.mk #[]) 0) (V.mk 0 false 0 (ByteArray.mk #[]) 0) 1 0 1).agg, Value.int IntKind.i64 0]) else some (Value.tuple #[(D.mk (V.mk 0 false 0 (ByteArray.mk #[]) 0) (V.mk 0 false 0 (ByteArray.mk #[]) 0) (V.mk 0 false 0 (ByteArray.mk #[]) 0) 0 0 1).agg, Value.int IntKind.i64 0])))) (by kernel_rfl) (by
    simp only [T.freeze, DT.val_node, DT.val_leaf, DT.bind, DT.val_bad]
    repeat' (first | (with_reducible refine bif_neq (fun h => ?_) (fun h => ?_)) | (with_reducible refine bif_and (fun h => ?_) (fun h => ?_)) | (with_reducible refine bif_eq (fun h => ?_) (fun h => ?_)))
    all_goals first | (simp only [*, S.V0, S.D0, cond_true, cond_false, Bool.and_true, Bool.true_and, Bool.and_false, Bool.false_and, Bool.or_true, Bool.true_or, Bool.or_false, Bool.false_or, Bool.not_true, Bool.not_false, beq_self_eq_true, bne_self_eq_false, Bool.not_not]; done) | (exfalso; simp_all; done) | (simp_all [S.V0, S.D0]; done) | grind [S.V0, S.D0])
theorem ent_freeze : E (13, onD T.freeze) := byEv Hents18 40 fun args t h => by
  obtain ⟨d, rfl, rfl⟩ := onD_eq h
  exact ev_freeze d
abbrev HL19 : Tab := (13, onD T.freeze) :: HL18
theorem Hents19 : ∀ p ∈ HL19, E p := entries_cons ent_freeze Hents18
set_option maxHeartbeats 4000000 in
theorem ev_barred (a b : D) : evFn Tryd.prog ext (tab HL19) 60 65 [a.agg, b.agg] = (T.barred a b).val :=
  Eq.trans (b := 
    (bif b.c == 2 then some (Value.bool true) else 
     (bif b.e != 0 then 
      (bif b.e != a.e then some (Value.bool true) else 
       (bif S.check b then 
        (bif S.hasD b then 
         (bif S.check a then 
          (bif S.hasD a then 
           (bif a.w == 1 then 
            (bif b.w == 2 then some (Value.bool true) else 
             (bif b.v.k != 0 then some (Value.bool !S.alike b.v a.v) else some (Value.bool false))) else some (Value.bool false)) else 
           (bif S.hasA a then some (Value.bool true) else some (Value.bool true))) else 
          (bif S.fields a then 
           (bif a.w == 1 then 
            (bif b.w == 2 then some (Value.bool true) else 
             (bif b.v.k != 0 then some (Value.bool !S.alike b.v a.v) else some (Value.bool false))) else some (Value.bool false)) else some (Value.bool true))) else 
         (bif S.hasA b then 
          (bif S.check a then 
           (bif S.hasD a then some (Value.bool true) else 
            (bif S.hasA a then 
             (bif b.g.k != 0 then 
              (bif !S.alike b.g a.g then some (Value.bool true) else 
               (bif b.t.k != 0 then some (Value.bool !S.alike b.t a.t) else some (Value.bool false))) else 
              (bif b.t.k != 0 then some (Value.bool !S.alike b.t a.t) else some (Value.bool false))) else some (Value.bool true))) else 
           (bif S.fields a then some (Value.bool true) else some (Value.bool true))) else 
          (bif S.check a then 
           (bif S.hasD a then some (Value.bool false) else 
            (bif S.hasA a then some (Value.bool false) else some (Value.bool false))) else 
           (bif S.fields a then some (Value.bool false) else some (Value.bool false))))) else 
        (bif S.fields b then 
         (bif S.check a then 
          (bif S.hasD a then 
           (bif a.w == 1 then 
            (bif b.w == 2 then some (Value.bool true) else 
             (bif b.v.k != 0 then some (Value.bool !S.alike b.v a.v) else some (Value.bool false))) else some (Value.bool false)) else 
           (bif S.hasA a then some (Value.bool true) else some (Value.bool true))) else 
          (bif S.fields a then 
           (bif a.w == 1 then 
            (bif b.w == 2 then some (Value.bool true) else 
             (bif b.v.k != 0 then some (Value.bool !S.alike b.v a.v) else some (Value.bool false))) else some (Value.bool false)) else some (Value.bool true))) else 
         (bif S.check a then 
          (bif S.hasD a then some (Value.bool false) else 
           (bif S.hasA a then some (Value.bool false) else some (Value.bool false))) else 
          (bif S.fields a then some (Value.bool false) else some (Value.bool false)))))) else 
      (bif S.check b then 
       (bif S.hasD b then 
        (bif S.check a then 
         (bif S.hasD a then 
          (bif a.w == 1 then 
           (bif b.w == 2 then some (Value.bool true) else 
            (bif b.v.k != 0 then some (Value.bool !S.alike b.v a.v) else some (Value.bool false))) else some (Value.bool false)) else 
          (bif S.hasA a then some (Value.bool true) else some (Value.bool true))) else 
         (bif S.fields a then 
          (bif a.w == 1 then 
           (bif b.w == 2 then some (Value.bool true) else 
            (bif b.v.k != 0 then some (Value.bool !S.alike b.v a.v) else some (Value.bool false))) else some (Value.bool false)) else some (Value.bool true))) else 
        (bif S.hasA b then 
         (bif S.check a then 
          (bif S.hasD a then some (Value.bool true) else 
           (bif S.hasA a then 
            (bif b.g.k != 0 then 
             (bif !S.alike b.g a.g then some (Value.bool true) else 
              (bif b.t.k != 0 then some (Value.bool !S.alike b.t a.t) else some (Value.bool false))) else 
             (bif b.t.k != 0 then some (Value.bool !S.alike b.t a.t) else some (Value.bool false))) else some (Value.bool true))) else 
          (bif S.fields a then some (Value.bool true) else some (Value.bool true))) else 
         (bif S.check a then 
          (bif S.hasD a then some (Value.bool false) else 
           (bif S.hasA a then some (Value.bool false) else some (Value.bool false))) else 
          (bif S.fields a then some (Value.bool false) else some (Value.bool false))))) else 
       (bif S.fields b then 
        (bif S.check a then 
         (bif S.hasD a then 
          (bif a.w == 1 then 
           (bif b.w == 2 then some (Value.bool true) else 
            (bif b.v.k != 0 then some (Value.bool !S.alike b.v a.v) else some (Value.bool false))) else some (Value.bool false)) else 
          (bif S.hasA a then some (Value.bool true) else some (Value.bool true))) else 
         (bif S.fields a then 
          (bif a.w == 1 then 
           (bif b.w == 2 then some (Value.bool true) else 
            (bif b.v.k != 0 then some (Value.bool !S.alike b.v a.v) else some (Value.bool false))) else some (Value.bool false)) else some (Value.bool true))) else 
        (bif S.check a then 
         (bif S.hasD a then some (Value.bool false) else 
          (bif S.hasA a then some (Value.bool false) else some (Value.bool false))) else 
         (bif S.fields a then some (Value.bool false) else some (Value.bool false)))))))) (by kernel_rfl) (by
    simp only [T.barred, T.B, DT.val_node, DT.val_leaf, DT.bind, DT.val_bad]
    repeat' (first | (with_reducible refine bif_neq (fun h => ?_) (fun h => ?_)) | (with_reducible refine bif_and (fun h => ?_) (fun h => ?_)) | (with_reducible refine bif_eq (fun h => ?_) (fun h => ?_)))
    all_goals first | (simp only [*, S.barred, S.kindN, S.there, cond_true, cond_false, Bool.and_true, Bool.true_and, Bool.and_false, Bool.false_and, Bool.or_true, Bool.true_or, Bool.or_false, Bool.false_or, Bool.not_true, Bool.not_false, beq_self_eq_true, bne_self_eq_false, Bool.not_not]; done) | (exfalso; simp_all; done) | (simp_all [S.barred, S.kindN, S.there]; done) | grind [S.barred, S.kindN, S.there])
theorem ent_barred : E (65, onDD T.barred) := byEv Hents19 60 fun args t h => by
  obtain ⟨a, b, rfl, rfl⟩ := onDD_eq h
  exact ev_barred a b
abbrev HL20 : Tab := (65, onDD T.barred) :: HL19
theorem Hents20 : ∀ p ∈ HL20, E p := entries_cons ent_barred Hents19
end Go.Proofs.YtaojjpdlfnphiaaDoor.PDescKinds
end
section
/- Contracts by evaluation: what each function of a list answers. Written by a program of this session. -/
namespace Go.Proofs.YtaojjpdlfnphiaaDoor.PDescKinds
open Go.RowKit Go.Ev
set_option linter.unusedSimpArgs false
set_option linter.unusedVariables false
set_option maxRecDepth 100000
set_option maxHeartbeats 4000000 in
theorem ev_over (a b : D) : evFn Tryd.prog ext (tab HL20) 90 66 [a.agg, b.agg] = (T.over a b).val :=
  Eq.trans (b := 
    (bif b.v.k != 0 then 
     (bif b.g.k != 0 then 
      (bif b.t.k != 0 then 
       (bif b.w != 0 then 
        (bif b.e != 0 then 
         (bif b.c != 0 then some (b.agg) else some ((D.mk b.v b.g b.t b.w b.e a.c).agg)) else 
         (bif b.c != 0 then some ((D.mk b.v b.g b.t b.w a.e b.c).agg) else some ((D.mk b.v b.g b.t b.w a.e a.c).agg))) else 
        (bif b.e != 0 then 
         (bif b.c != 0 then some ((D.mk b.v b.g b.t a.w b.e b.c).agg) else some ((D.mk b.v b.g b.t a.w b.e a.c).agg)) else 
         (bif b.c != 0 then some ((D.mk b.v b.g b.t a.w a.e b.c).agg) else some ((D.mk b.v b.g b.t a.w a.e a.c).agg)))) else 
       (bif b.w != 0 then 
        (bif b.e != 0 then 
         (bif b.c != 0 then some ((D.mk b.v b.g a.t b.w b.e b.c).agg) else some ((D.mk b.v b.g a.t b.w b.e a.c).agg)) else 
         (bif b.c != 0 then some ((D.mk b.v b.g a.t b.w a.e b.c).agg) else some ((D.mk b.v b.g a.t b.w a.e a.c).agg))) else 
        (bif b.e != 0 then 
         (bif b.c != 0 then some ((D.mk b.v b.g a.t a.w b.e b.c).agg) else some ((D.mk b.v b.g a.t a.w b.e a.c).agg)) else 
         (bif b.c != 0 then some ((D.mk b.v b.g a.t a.w a.e b.c).agg) else some ((D.mk b.v b.g a.t a.w a.e a.c).agg))))) else 
      (bif b.t.k != 0 then 
       (bif b.w != 0 then 
        (bif b.e != 0 then 
         (bif b.c != 0 then some ((D.mk b.v a.g b.t b.w b.e b.c).agg) else some ((D.mk b.v a.g b.t b.w b.e a.c).agg)) else 
         (bif b.c != 0 then some ((D.mk b.v a.g b.t b.w a.e b.c).agg) else some ((D.mk b.v a.g b.t b.w a.e a.c).agg))) else 
        (bif b.e != 0 then 
         (bif b.c != 0 then some ((D.mk b.v a.g b.t a.w b.e b.c).agg) else some ((D.mk b.v a.g b.t a.w b.e a.c).agg)) else 
         (bif b.c != 0 then some ((D.mk b.v a.g b.t a.w a.e b.c).agg) else some ((D.mk b.v a.g b.t a.w a.e a.c).agg)))) else 
       (bif b.w != 0 then 
        (bif b.e != 0 then 
         (bif b.c != 0 then some ((D.mk b.v a.g a.t b.w b.e b.c).agg) else some ((D.mk b.v a.g a.t b.w b.e a.c).agg)) else 
         (bif b.c != 0 then some ((D.mk b.v a.g a.t b.w a.e b.c).agg) else some ((D.mk b.v a.g a.t b.w a.e a.c).agg))) else 
        (bif b.e != 0 then 
         (bif b.c != 0 then some ((D.mk b.v a.g a.t a.w b.e b.c).agg) else some ((D.mk b.v a.g a.t a.w b.e a.c).agg)) else 
         (bif b.c != 0 then some ((D.mk b.v a.g a.t a.w a.e b.c).agg) else some ((D.mk b.v a.g a.t a.w a.e a.c).agg)))))) else 
     (bif b.g.k != 0 then 
      (bif b.t.k != 0 then 
       (bif b.w != 0 then 
        (bif b.e != 0 then 
         (bif b.c != 0 then some ((D.mk a.v b.g b.t b.w b.e b.c).agg) else some ((D.mk a.v b.g b.t b.w b.e a.c).agg)) else 
         (bif b.c != 0 then some ((D.mk a.v b.g b.t b.w a.e b.c).agg) else some ((D.mk a.v b.g b.t b.w a.e a.c).agg))) else 
        (bif b.e != 0 then 
         (bif b.c != 0 then some ((D.mk a.v b.g b.t a.w b.e b.c).agg) else some ((D.mk a.v b.g b.t a.w b.e a.c).agg)) else 
         (bif b.c != 0 then some ((D.mk a.v b.g b.t a.w a.e b.c).agg) else some ((D.mk a.v b.g b.t a.w a.e a.c).agg)))) else 
       (bif b.w != 0 then 
        (bif b.e != 0 then 
         (bif b.c != 0 then some ((D.mk a.v b.g a.t b.w b.e b.c).agg) else some ((D.mk a.v b.g a.t b.w b.e a.c).agg)) else 
         (bif b.c != 0 then some ((D.mk a.v b.g a.t b.w a.e b.c).agg) else some ((D.mk a.v b.g a.t b.w a.e a.c).agg))) else 
        (bif b.e != 0 then 
         (bif b.c != 0 then some ((D.mk a.v b.g a.t a.w b.e b.c).agg) else some ((D.mk a.v b.g a.t a.w b.e a.c).agg)) else 
         (bif b.c != 0 then some ((D.mk a.v b.g a.t a.w a.e b.c).agg) else some ((D.mk a.v b.g a.t a.w a.e a.c).agg))))) else 
      (bif b.t.k != 0 then 
       (bif b.w != 0 then 
        (bif b.e != 0 then 
         (bif b.c != 0 then some ((D.mk a.v a.g b.t b.w b.e b.c).agg) else some ((D.mk a.v a.g b.t b.w b.e a.c).agg)) else 
         (bif b.c != 0 then some ((D.mk a.v a.g b.t b.w a.e b.c).agg) else some ((D.mk a.v a.g b.t b.w a.e a.c).agg))) else 
        (bif b.e != 0 then 
         (bif b.c != 0 then some ((D.mk a.v a.g b.t a.w b.e b.c).agg) else some ((D.mk a.v a.g b.t a.w b.e a.c).agg)) else 
         (bif b.c != 0 then some ((D.mk a.v a.g b.t a.w a.e b.c).agg) else some ((D.mk a.v a.g b.t a.w a.e a.c).agg)))) else 
       (bif b.w != 0 then 
        (bif b.e != 0 then 
         (bif b.c != 0 then some ((D.mk a.v a.g a.t b.w b.e b.c).agg) else some ((D.mk a.v a.g a.t b.w b.e a.c).agg)) else 
         (bif b.c != 0 then some ((D.mk a.v a.g a.t b.w a.e b.c).agg) else some ((D.mk a.v a.g a.t b.w a.e a.c).agg))) else 
        (bif b.e != 0 then 
         (bif b.c != 0 then some ((D.mk a.v a.g a.t a.w b.e b.c).agg) else some ((D.mk a.v a.g a.t a.w b.e a.c).agg)) else 
         (bif b.c != 0 then some ((D.mk a.v a.g a.t a.w a.e b.c).agg) else some (a.agg)))))))) (by kernel_rfl) (by
    simp only [T.over, DT.val_node, DT.val_leaf, DT.bind, DT.val_bad]
    repeat' (first | (with_reducible refine bif_neq (fun h => ?_) (fun h => ?_)) | (with_reducible refine bif_and (fun h => ?_) (fun h => ?_)) | (with_reducible refine bif_eq (fun h => ?_) (fun h => ?_)))
    all_goals first | (simp only [*, S.over, S.orV, S.orT, S.there, cond_true, cond_false, Bool.and_true, Bool.true_and, Bool.and_false, Bool.false_and, Bool.or_true, Bool.true_or, Bool.or_false, Bool.false_or, Bool.not_true, Bool.not_false, beq_self_eq_true, bne_self_eq_false, Bool.not_not]; done) | (exfalso; simp_all; done) | (simp_all [S.over, S.orV, S.orT, S.there]; done) | grind [S.over, S.orV, S.orT, S.there])
theorem ent_over : E (66, onDD T.over) := byEv Hents20 90 fun args t h => by
  obtain ⟨a, b, rfl, rfl⟩ := onDD_eq h
  exact ev_over a b
abbrev HL21 : Tab := (66, onDD T.over) :: HL20
theorem Hents21 : ∀ p ∈ HL21, E p := entries_cons ent_over Hents20
set_option maxHeartbeats 4000000 in
theorem ev_apply (x : Bool) (a b : D) : evFn Tryd.prog ext (tab HL21) 60 28 [.bool x, a.agg, b.agg] = (T.apply x a b).val :=
  Eq.trans (b := 
    (bif S.check b then 
     (bif !S.whole a then 
      (bif !S.zero a then some (Value.tuple #[(D.mk (V.mk 0 false 0 (ByteArray.mk #[]) 0) (V.mk 0 false 0 (ByteArray.mk #[]) 0) (V.mk 0 false 0 (ByteArray.mk #[]) 0) 0 0 0).agg, Value.bool false, Value.int IntKind.i64 5]) else 
       (bif S.zero a then 
        (bif !x then some (Value.tuple #[a.agg, Value.bool false, Value.int IntKind.i64 0]) else 
         (bif S.check b then some (Value.tuple #[(S.complete b).agg, Value.bool true, Value.int IntKind.i64 0]) else some (Value.tuple #[S.D0.agg, Value.bool true, Value.int IntKind.i64 0]))) else 
        (bif a.c == 1 then 
         (bif S.barred a b then some (Value.tuple #[a.agg, Value.bool false, Value.int IntKind.i64 0]) else 
          (bif S.check b then 
           (bif S.hasD b then 
            (bif S.check a then 
             (bif S.hasD a then some (Value.tuple #[(S.over a b).agg, Value.bool true, Value.int IntKind.i64 0]) else 
              (bif S.hasA a then 
               (bif b.e == 0 then 
                (bif b.c == 0 then 
                 (bif S.check (D.mk b.v b.g b.t b.w a.e a.c) then some (Value.tuple #[(S.complete (D.mk b.v b.g b.t b.w a.e a.c)).agg, Value.bool true, Value.int IntKind.i64 0]) else some (Value.tuple #[S.D0.agg, Value.bool true, Value.int IntKind.i64 0])) else 
                 (bif S.check (D.mk b.v b.g b.t b.w a.e b.c) then some (Value.tuple #[(S.complete (D.mk b.v b.g b.t b.w a.e b.c)).agg, Value.bool true, Value.int IntKind.i64 0]) else some (Value.tuple #[S.D0.agg, Value.bool true, Value.int IntKind.i64 0]))) else 
                (bif b.c == 0 then 
                 (bif S.check (D.mk b.v b.g b.t b.w b.e a.c) then some (Value.tuple #[(S.complete (D.mk b.v b.g b.t b.w b.e a.c)).agg, Value.bool true, Value.int IntKind.i64 0]) else some (Value.tuple #[S.D0.agg, Value.bool true, Value.int IntKind.i64 0])) else 
                 (bif S.check b then some (Value.tuple #[(S.complete b).agg, Value.bool true, Value.int IntKind.i64 0]) else some (Value.tuple #[S.D0.agg, Value.bool true, Value.int IntKind.i64 0])))) else 
               (bif b.e == 0 then 
                (bif b.c == 0 then 
                 (bif S.check (D.mk b.v b.g b.t b.w a.e a.c) then some (Value.tuple #[(S.complete (D.mk b.v b.g b.t b.w a.e a.c)).agg, Value.bool true, Value.int IntKind.i64 0]) else some (Value.tuple #[S.D0.agg, Value.bool true, Value.int IntKind.i64 0])) else 
                 (bif S.check (D.mk b.v b.g b.t b.w a.e b.c) then some (Value.tuple #[(S.complete (D.mk b.v b.g b.t b.w a.e b.c)).agg, Value.bool true, Value.int IntKind.i64 0]) else some (Value.tuple #[S.D0.agg, Value.bool true, Value.int IntKind.i64 0]))) else 
                (bif b.c == 0 then 
                 (bif S.check (D.mk b.v b.g b.t b.w b.e a.c) then some (Value.tuple #[(S.complete (D.mk b.v b.g b.t b.w b.e a.c)).agg, Value.bool true, Value.int IntKind.i64 0]) else some (Value.tuple #[S.D0.agg, Value.bool true, Value.int IntKind.i64 0])) else 
                 (bif S.check b then some (Value.tuple #[(S.complete b).agg, Value.bool true, Value.int IntKind.i64 0]) else some (Value.tuple #[S.D0.agg, Value.bool true, Value.int IntKind.i64 0])))))) else 
             (bif S.fields a then some (Value.tuple #[(S.over a b).agg, Value.bool true, Value.int IntKind.i64 0]) else 
              (bif b.e == 0 then 
               (bif b.c == 0 then 
                (bif S.check (D.mk b.v b.g b.t b.w a.e a.c) then some (Value.tuple #[(S.complete (D.mk b.v b.g b.t b.w a.e a.c)).agg, Value.bool true, Value.int IntKind.i64 0]) else some (Value.tuple #[S.D0.agg, Value.bool true, Value.int IntKind.i64 0])) else 
                (bif S.check (D.mk b.v b.g b.t b.w a.e b.c) then some (Value.tuple #[(S.complete (D.mk b.v b.g b.t b.w a.e b.c)).agg, Value.bool true, Value.int IntKind.i64 0]) else some (Value.tuple #[S.D0.agg, Value.bool true, Value.int IntKind.i64 0]))) else 
               (bif b.c == 0 then 
                (bif S.check (D.mk b.v b.g b.t b.w b.e a.c) then some (Value.tuple #[(S.complete (D.mk b.v b.g b.t b.w b.e a.c)).agg, Value.bool true, Value.int IntKind.i64 0]) else some (Value.tuple #[S.D0.agg, Value.bool true, Value.int IntKind.i64 0])) else 
                (bif S.check b then some (Value.tuple #[(S.complete b).agg, Value.bool true, Value.int IntKind.i64 0]) else some (Value.tuple #[S.D0.agg, Value.bool true, Value.int IntKind.i64 0])))))) else 
            (bif S.hasA b then 
             (bif S.check a then 
              (bif S.hasD a then 
               (bif b.e == 0 then 
                (bif b.c == 0 then 
                 (bif S.check (D.mk b.v b.g b.t b.w a.e a.c) then some (Value.tuple #[(S.complete (D.mk b.v b.g b.t b.w a.e a.c)).agg, Value.bool true, Value.int IntKind.i64 0]) else some (Value.tuple #[S.D0.agg, Value.bool true, Value.int IntKind.i64 0])) else 
                 (bif S.check (D.mk b.v b.g b.t b.w a.e b.c) then some (Value.tuple #[(S.complete (D.mk b.v b.g b.t b.w a.e b.c)).agg, Value.bool true, Value.int IntKind.i64 0]) else some (Value.tuple #[S.D0.agg, Value.bool true, Value.int IntKind.i64 0]))) else 
                (bif b.c == 0 then 
                 (bif S.check (D.mk b.v b.g b.t b.w b.e a.c) then some (Value.tuple #[(S.complete (D.mk b.v b.g b.t b.w b.e a.c)).agg, Value.bool true, Value.int IntKind.i64 0]) else some (Value.tuple #[S.D0.agg, Value.bool true, Value.int IntKind.i64 0])) else 
                 (bif S.check b then some (Value.tuple #[(S.complete b).agg, Value.bool true, Value.int IntKind.i64 0]) else some (Value.tuple #[S.D0.agg, Value.bool true, Value.int IntKind.i64 0])))) else 
               (bif S.hasA a then some (Value.tuple #[(S.over a b).agg, Value.bool true, Value.int IntKind.i64 0]) else 
                (bif b.e == 0 then 
                 (bif b.c == 0 then 
                  (bif S.check (D.mk b.v b.g b.t b.w a.e a.c) then some (Value.tuple #[(S.complete (D.mk b.v b.g b.t b.w a.e a.c)).agg, Value.bool true, Value.int IntKind.i64 0]) else some (Value.tuple #[S.D0.agg, Value.bool true, Value.int IntKind.i64 0])) else 
                  (bif S.check (D.mk b.v b.g b.t b.w a.e b.c) then some (Value.tuple #[(S.complete (D.mk b.v b.g b.t b.w a.e b.c)).agg, Value.bool true, Value.int IntKind.i64 0]) else some (Value.tuple #[S.D0.agg, Value.bool true, Value.int IntKind.i64 0]))) else 
                 (bif b.c == 0 then 
                  (bif S.check (D.mk b.v b.g b.t b.w b.e a.c) then some (Value.tuple #[(S.complete (D.mk b.v b.g b.t b.w b.e a.c)).agg, Value.bool true, Value.int IntKind.i64 0]) else some (Value.tuple #[S.D0.agg, Value.bool true, Value.int IntKind.i64 0])) else 
                  (bif S.check b then some (Value.tuple #[(S.complete b).agg, Value.bool true, Value.int IntKind.i64 0]) else some (Value.tuple #[S.D0.agg, Value.bool true, Value.int IntKind.i64 0])))))) else 
              (bif S.fields a then 
               (bif b.e == 0 then 
                (bif b.c == 0 then 
                 (bif S.check (D.mk b.v b.g b.t b.w a.e a.c) then some (Value.tuple #[(S.complete (D.mk b.v b.g b.t b.w a.e a.c)).agg, Value.bool true, Value.int IntKind.i64 0]) else some (Value.tuple #[S.D0.agg, Value.bool true, Value.int IntKind.i64 0])) else 
                 (bif S.check (D.mk b.v b.g b.t b.w a.e b.c) then some (Value.tuple #[(S.complete (D.mk b.v b.g b.t b.w a.e b.c)).agg, Value.bool true, Value.int IntKind.i64 0]) else some (Value.tuple #[S.D0.agg, Value.bool true, Value.int IntKind.i64 0]))) else 
                (bif b.c == 0 then 
                 (bif S.check (D.mk b.v b.g b.t b.w b.e a.c) then some (Value.tuple #[(S.complete (D.mk b.v b.g b.t b.w b.e a.c)).agg, Value.bool true, Value.int IntKind.i64 0]) else some (Value.tuple #[S.D0.agg, Value.bool true, Value.int IntKind.i64 0])) else 
                 (bif S.check b then some (Value.tuple #[(S.complete b).agg, Value.bool true, Value.int IntKind.i64 0]) else some (Value.tuple #[S.D0.agg, Value.bool true, Value.int IntKind.i64 0])))) else 
               (bif b.e == 0 then 
                (bif b.c == 0 then 
                 (bif S.check (D.mk b.v b.g b.t b.w a.e a.c) then some (Value.tuple #[(S.complete (D.mk b.v b.g b.t b.w a.e a.c)).agg, Value.bool true, Value.int IntKind.i64 0]) else some (Value.tuple #[S.D0.agg, Value.bool true, Value.int IntKind.i64 0])) else 
                 (bif S.check (D.mk b.v b.g b.t b.w a.e b.c) then some (Value.tuple #[(S.complete (D.mk b.v b.g b.t b.w a.e b.c)).agg, Value.bool true, Value.int IntKind.i64 0]) else some (Value.tuple #[S.D0.agg, Value.bool true, Value.int IntKind.i64 0]))) else 
                (bif b.c == 0 then 
                 (bif S.check (D.mk b.v b.g b.t b.w b.e a.c) then some (Value.tuple #[(S.complete (D.mk b.v b.g b.t b.w b.e a.c)).agg, Value.bool true, Value.int IntKind.i64 0]) else some (Value.tuple #[S.D0.agg, Value.bool true, Value.int IntKind.i64 0])) else 
                 (bif S.check b then some (Value.tuple #[(S.complete b).agg, Value.bool true, Value.int IntKind.i64 0]) else some (Value.tuple #[S.D0.agg, Value.bool true, Value.int IntKind.i64 0])))))) else 
             (bif S.check a then 
              (bif S.hasD a then some (Value.tuple #[(S.over a b).agg, Value.bool true, Value.int IntKind.i64 0]) else 
               (bif S.hasA a then some (Value.tuple #[(S.over a b).agg, Value.bool true, Value.int IntKind.i64 0]) else some (Value.tuple #[(S.over a b).agg, Value.bool true, Value.int IntKind.i64 0]))) else 
              (bif S.fields a then some (Value.tuple #[(S.over a b).agg, Value.bool true, Value.int IntKind.i64 0]) else some (Value.tuple #[(S.over a b).agg, Value.bool true, Value.int IntKind.i64 0]))))) else 
           (bif S.fields b then 
            (bif S.check a then 
             (bif S.hasD a then some (Value.tuple #[(S.over a b).agg, Value.bool true, Value.int IntKind.i64 0]) else 
              (bif S.hasA a then 
               (bif b.e == 0 then 
                (bif b.c == 0 then 
                 (bif S.check (D.mk b.v b.g b.t b.w a.e a.c) then some (Value.tuple #[(S.complete (D.mk b.v b.g b.t b.w a.e a.c)).agg, Value.bool true, Value.int IntKind.i64 0]) else some (Value.tuple #[S.D0.agg, Value.bool true, Value.int IntKind.i64 0])) else 
                 (bif S.check (D.mk b.v b.g b.t b.w a.e b.c) then some (Value.tuple #[(S.complete (D.mk b.v b.g b.t b.w a.e b.c)).agg, Value.bool true, Value.int IntKind.i64 0]) else some (Value.tuple #[S.D0.agg, Value.bool true, Value.int IntKind.i64 0]))) else 
                (bif b.c == 0 then 
                 (bif S.check (D.mk b.v b.g b.t b.w b.e a.c) then some (Value.tuple #[(S.complete (D.mk b.v b.g b.t b.w b.e a.c)).agg, Value.bool true, Value.int IntKind.i64 0]) else some (Value.tuple #[S.D0.agg, Value.bool true, Value.int IntKind.i64 0])) else 
                 (bif S.check b then some (Value.tuple #[(S.complete b).agg, Value.bool true, Value.int IntKind.i64 0]) else some (Value.tuple #[S.D0.agg, Value.bool true, Value.int IntKind.i64 0])))) else 
               (bif b.e == 0 then 
                (bif b.c == 0 then 
                 (bif S.check (D.mk b.v b.g b.t b.w a.e a.c) then some (Value.tuple #[(S.complete (D.mk b.v b.g b.t b.w a.e a.c)).agg, Value.bool true, Value.int IntKind.i64 0]) else some (Value.tuple #[S.D0.agg, Value.bool true, Value.int IntKind.i64 0])) else 
                 (bif S.check (D.mk b.v b.g b.t b.w a.e b.c) then some (Value.tuple #[(S.complete (D.mk b.v b.g b.t b.w a.e b.c)).agg, Value.bool true, Value.int IntKind.i64 0]) else some (Value.tuple #[S.D0.agg, Value.bool true, Value.int IntKind.i64 0]))) else 
                (bif b.c == 0 then 
                 (bif S.check (D.mk b.v b.g b.t b.w b.e a.c) then some (Value.tuple #[(S.complete (D.mk b.v b.g b.t b.w b.e a.c)).agg, Value.bool true, Value.int IntKind.i64 0]) else some (Value.tuple #[S.D0.agg, Value.bool true, Value.int IntKind.i64 0])) else 
                 (bif S.check b then some (Value.tuple #[(S.complete b).agg, Value.bool true, Value.int IntKind.i64 0]) else some (Value.tuple #[S.D0.agg, Value.bool true, Value.int IntKind.i64 0])))))) else 
             (bif S.fields a then some (Value.tuple #[(S.over a b).agg, Value.bool true, Value.int IntKind.i64 0]) else 
              (bif b.e == 0 then 
               (bif b.c == 0 then 
                (bif S.check (D.mk b.v b.g b.t b.w a.e a.c) then some (Value.tuple #[(S.complete (D.mk b.v b.g b.t b.w a.e a.c)).agg, Value.bool true, Value.int IntKind.i64 0]) else some (Value.tuple #[S.D0.agg, Value.bool true, Value.int IntKind.i64 0])) else 
                (bif S.check (D.mk b.v b.g b.t b.w a.e b.c) then some (Value.tuple #[(S.complete (D.mk b.v b.g b.t b.w a.e b.c)).agg, Value.bool true, Value.int IntKind.i64 0]) else some (Value.tuple #[S.D0.agg, Value.bool true, Value.int IntKind.i64 0]))) else 
               (bif b.c == 0 then 
                (bif S.check (D.mk b.v b.g b.t b.w b.e a.c) then some (Value.tuple #[(S.complete (D.mk b.v b.g b.t b.w b.e a.c)).agg, Value.bool true, Value.int IntKind.i64 0]) else some (Value.tuple #[S.D0.agg, Value.bool true, Value.int IntKind.i64 0])) else 
                (bif S.check b then some (Value.tuple #[(S.complete b).agg, Value.bool true, Value.int IntKind.i64 0]) else some (Value.tuple #[S.D0.agg, Value.bool true, Value.int IntKind.i64 0])))))) else 
            (bif S.check a then 
             (bif S.hasD a then some (Value.tuple #[(S.over a b).agg, Value.bool true, Value.int IntKind.i64 0]) else 
              (bif S.hasA a then some (Value.tuple #[(S.over a b).agg, Value.bool true, Value.int IntKind.i64 0]) else some (Value.tuple #[(S.over a b).agg, Value.bool true, Value.int IntKind.i64 0]))) else 
             (bif S.fields a then some (Value.tuple #[(S.over a b).agg, Value.bool true, Value.int IntKind.i64 0]) else some (Value.tuple #[(S.over a b).agg, Value.bool true, Value.int IntKind.i64 0])))))) else 
         (bif S.check b then 
          (bif S.hasD b then 
           (bif S.check a then 
            (bif S.hasD a then some (Value.tuple #[(S.over a b).agg, Value.bool true, Value.int IntKind.i64 0]) else 
             (bif S.hasA a then 
              (bif b.e == 0 then 
               (bif b.c == 0 then 
                (bif S.check (D.mk b.v b.g b.t b.w a.e a.c) then some (Value.tuple #[(S.complete (D.mk b.v b.g b.t b.w a.e a.c)).agg, Value.bool true, Value.int IntKind.i64 0]) else some (Value.tuple #[S.D0.agg, Value.bool true, Value.int IntKind.i64 0])) else 
                (bif S.check (D.mk b.v b.g b.t b.w a.e b.c) then some (Value.tuple #[(S.complete (D.mk b.v b.g b.t b.w a.e b.c)).agg, Value.bool true, Value.int IntKind.i64 0]) else some (Value.tuple #[S.D0.agg, Value.bool true, Value.int IntKind.i64 0]))) else 
               (bif b.c == 0 then 
                (bif S.check (D.mk b.v b.g b.t b.w b.e a.c) then some (Value.tuple #[(S.complete (D.mk b.v b.g b.t b.w b.e a.c)).agg, Value.bool true, Value.int IntKind.i64 0]) else some (Value.tuple #[S.D0.agg, Value.bool true, Value.int IntKind.i64 0])) else 
                (bif S.check b then some (Value.tuple #[(S.complete b).agg, Value.bool true, Value.int IntKind.i64 0]) else some (Value.tuple #[S.D0.agg, Value.bool true, Value.int IntKind.i64 0])))) else 
              (bif b.e == 0 then 
               (bif b.c == 0 then 
                (bif S.check (D.mk b.v b.g b.t b.w a.e a.c) then some (Value.tuple #[(S.complete (D.mk b.v b.g b.t b.w a.e a.c)).agg, Value.bool true, Value.int IntKind.i64 0]) else some (Value.tuple #[S.D0.agg, Value.bool true, Value.int IntKind.i64 0])) else 
                (bif S.check (D.mk b.v b.g b.t b.w a.e b.c) then some (Value.tuple #[(S.complete (D.mk b.v b.g b.t b.w a.e b.c)).agg, Value.bool true, Value.int IntKind.i64 0]) else some (Value.tuple #[S.D0.agg, Value.bool true, Value.int IntKind.i64 0]))) else 
               (bif b.c == 0 then 
                (bif S.check (D.mk b.v b.g b.t b.w b.e a.c) then some (Value.tuple #[(S.complete (D.mk b.v b.g b.t b.w b.e a.c)).agg, Value.bool true, Value.int IntKind.i64 0]) else some (Value.tuple #[S.D0.agg, Value.bool true, Value.int IntKind.i64 0])) else 
                (bif S.check b then some (Value.tuple #[(S.complete b).agg, Value.bool true, Value.int IntKind.i64 0]) else some (Value.tuple #[S.D0.agg, Value.bool true, Value.int IntKind.i64 0])))))) else 
            (bif S.fields a then some (Value.tuple #[(S.over a b).agg, Value.bool true, Value.int IntKind.i64 0]) else 
             (bif b.e == 0 then 
              (bif b.c == 0 then 
               (bif S.check (D.mk b.v b.g b.t b.w a.e a.c) then some (Value.tuple #[(S.complete (D.mk b.v b.g b.t b.w a.e a.c)).agg, Value.bool true, Value.int IntKind.i64 0]) else some (Value.tuple #[S.D0.agg, Value.bool true, Value.int IntKind.i64 0])) else 
               (bif S.check (D.mk b.v b.g b.t b.w a.e b.c) then some (Value.tuple #[(S.complete (D.mk b.v b.g b.t b.w a.e b.c)).agg, Value.bool true, Value.int IntKind.i64 0]) else some (Value.tuple #[S.D0.agg, Value.bool true, Value.int IntKind.i64 0]))) else 
              (bif b.c == 0 then 
               (bif S.check (D.mk b.v b.g b.t b.w b.e a.c) then some (Value.tuple #[(S.complete (D.mk b.v b.g b.t b.w b.e a.c)).agg, Value.bool true, Value.int IntKind.i64 0]) else some (Value.tuple #[S.D0.agg, Value.bool true, Value.int IntKind.i64 0])) else 
               (bif S.check b then some (Value.tuple #[(S.complete b).agg, Value.bool true, Value.int IntKind.i64 0]) else some (Value.tuple #[S.D0.agg, Value.bool true, Value.int IntKind.i64 0])))))) else 
           (bif S.hasA b then 
            (bif S.check a then 
             (bif S.hasD a then 
              (bif b.e == 0 then 
               (bif b.c == 0 then 
                (bif S.check (D.mk b.v b.g b.t b.w a.e a.c) then some (Value.tuple #[(S.complete (D.mk b.v b.g b.t b.w a.e a.c)).agg, Value.bool true, Value.int IntKind.i64 0]) else some (Value.tuple #[S.D0.agg, Value.bool true, Value.int IntKind.i64 0])) else 
                (bif S.check (D.mk b.v b.g b.t b.w a.e b.c) then some (Value.tuple #[(S.complete (D.mk b.v b.g b.t b.w a.e b.c)).agg, Value.bool true, Value.int IntKind.i64 0]) else some (Value.tuple #[S.D0.agg, Value.bool true, Value.int IntKind.i64 0]))) else 
               (bif b.c == 0 then 
                (bif S.check (D.mk b.v b.g b.t b.w b.e a.c) then some (Value.tuple #[(S.complete (D.mk b.v b.g b.t b.w b.e a.c)).agg, Value.bool true, Value.int IntKind.i64 0]) else some (Value.tuple #[S.D0.agg, Value.bool true, Value.int IntKind.i64 0])) else 
                (bif S.check b then some (Value.tuple #[(S.complete b).agg, Value.bool true, Value.int IntKind.i64 0]) else some (Value.tuple #[S.D0.agg, Value.bool true, Value.int IntKind.i64 0])))) else 
              (bif S.hasA a then some (Value.tuple #[(S.over a b).agg, Value.bool true, Value.int IntKind.i64 0]) else 
               (bif b.e == 0 then 
                (bif b.c == 0 then 
                 (bif S.check (D.mk b.v b.g b.t b.w a.e a.c) then some (Value.tuple #[(S.complete (D.mk b.v b.g b.t b.w a.e a.c)).agg, Value.bool true, Value.int IntKind.i64 0]) else some (Value.tuple #[S.D0.agg, Value.bool true, Value.int IntKind.i64 0])) else 
                 (bif S.check (D.mk b.v b.g b.t b.w a.e b.c) then some (Value.tuple #[(S.complete (D.mk b.v b.g b.t b.w a.e b.c)).agg, Value.bool true, Value.int IntKind.i64 0]) else some (Value.tuple #[S.D0.agg, Value.bool true, Value.int IntKind.i64 0]))) else 
                (bif b.c == 0 then 
                 (bif S.check (D.mk b.v b.g b.t b.w b.e a.c) then some (Value.tuple #[(S.complete (D.mk b.v b.g b.t b.w b.e a.c)).agg, Value.bool true, Value.int IntKind.i64 0]) else some (Value.tuple #[S.D0.agg, Value.bool true, Value.int IntKind.i64 0])) else 
                 (bif S.check b then some (Value.tuple #[(S.complete b).agg, Value.bool true, Value.int IntKind.i64 0]) else some (Value.tuple #[S.D0.agg, Value.bool true, Value.int IntKind.i64 0])))))) else 
             (bif S.fields a then 
              (bif b.e == 0 then 
               (bif b.c == 0 then 
                (bif S.check (D.mk b.v b.g b.t b.w a.e a.c) then some (Value.tuple #[(S.complete (D.mk b.v b.g b.t b.w a.e a.c)).agg, Value.bool true, Value.int IntKind.i64 0]) else some (Value.tuple #[S.D0.agg, Value.bool true, Value.int IntKind.i64 0])) else 
                (bif S.check (D.mk b.v b.g b.t b.w a.e b.c) then some (Value.tuple #[(S.complete (D.mk b.v b.g b.t b.w a.e b.c)).agg, Value.bool true, Value.int IntKind.i64 0]) else some (Value.tuple #[S.D0.agg, Value.bool true, Value.int IntKind.i64 0]))) else 
               (bif b.c == 0 then 
                (bif S.check (D.mk b.v b.g b.t b.w b.e a.c) then some (Value.tuple #[(S.complete (D.mk b.v b.g b.t b.w b.e a.c)).agg, Value.bool true, Value.int IntKind.i64 0]) else some (Value.tuple #[S.D0.agg, Value.bool true, Value.int IntKind.i64 0])) else 
                (bif S.check b then some (Value.tuple #[(S.complete b).agg, Value.bool true, Value.int IntKind.i64 0]) else some (Value.tuple #[S.D0.agg, Value.bool true, Value.int IntKind.i64 0])))) else 
              (bif b.e == 0 then 
               (bif b.c == 0 then 
                (bif S.check (D.mk b.v b.g b.t b.w a.e a.c) then some (Value.tuple #[(S.complete (D.mk b.v b.g b.t b.w a.e a.c)).agg, Value.bool true, Value.int IntKind.i64 0]) else some (Value.tuple #[S.D0.agg, Value.bool true, Value.int IntKind.i64 0])) else 
                (bif S.check (D.mk b.v b.g b.t b.w a.e b.c) then some (Value.tuple #[(S.complete (D.mk b.v b.g b.t b.w a.e b.c)).agg, Value.bool true, Value.int IntKind.i64 0]) else some (Value.tuple #[S.D0.agg, Value.bool true, Value.int IntKind.i64 0]))) else 
               (bif b.c == 0 then 
                (bif S.check (D.mk b.v b.g b.t b.w b.e a.c) then some (Value.tuple #[(S.complete (D.mk b.v b.g b.t b.w b.e a.c)).agg, Value.bool true, Value.int IntKind.i64 0]) else some (Value.tuple #[S.D0.agg, Value.bool true, Value.int IntKind.i64 0])) else 
                (bif S.check b then some (Value.tuple #[(S.complete b).agg, Value.bool true, Value.int IntKind.i64 0]) else some (Value.tuple #[S.D0.agg, Value.bool true, Value.int IntKind.i64 0])))))) else 
            (bif S.check a then 
             (bif S.hasD a then some (Value.tuple #[(S.over a b).agg, Value.bool true, Value.int IntKind.i64 0]) else 
              (bif S.hasA a then some (Value.tuple #[(S.over a b).agg, Value.bool true, Value.int IntKind.i64 0]) else some (Value.tuple #[(S.over a b).agg, Value.bool true, Value.int IntKind.i64 0]))) else 
             (bif S.fields a then some (Value.tuple #[(S.over a b).agg, Value.bool true, Value.int IntKind.i64 0]) else some (Value.tuple #[(S.over a b).agg, Value.bool true, Value.int IntKind.i64 0]))))) else 
          (bif S.fields b then 
           (bif S.check a then 
            (bif S.hasD a then some (Value.tuple #[(S.over a b).agg, Value.bool true, Value.int IntKind.i64 0]) else 
             (bif S.hasA a then 
              (bif b.e == 0 then 
               (bif b.c == 0 then 
                (bif S.check (D.mk b.v b.g b.t b.w a.e a.c) then some (Value.tuple #[(S.complete (D.mk b.v b.g b.t b.w a.e a.c)).agg, Value.bool true, Value.int IntKind.i64 0]) else some (Value.tuple #[S.D0.agg, Value.bool true, Value.int IntKind.i64 0])) else 
                (bif S.check (D.mk b.v b.g b.t b.w a.e b.c) then some (Value.tuple #[(S.complete (D.mk b.v b.g b.t b.w a.e b.c)).agg, Value.bool true, Value.int IntKind.i64 0]) else some (Value.tuple #[S.D0.agg, Value.bool true, Value.int IntKind.i64 0]))) else 
               (bif b.c == 0 then 
                (bif S.check (D.mk b.v b.g b.t b.w b.e a.c) then some (Value.tuple #[(S.complete (D.mk b.v b.g b.t b.w b.e a.c)).agg, Value.bool true, Value.int IntKind.i64 0]) else some (Value.tuple #[S.D0.agg, Value.bool true, Value.int IntKind.i64 0])) else 
                (bif S.check b then some (Value.tuple #[(S.complete b).agg, Value.bool true, Value.int IntKind.i64 0]) else some (Value.tuple #[S.D0.agg, Value.bool true, Value.int IntKind.i64 0])))) else 
              (bif b.e == 0 then 
               (bif b.c == 0 then 
                (bif S.check (D.mk b.v b.g b.t b.w a.e a.c) then some (Value.tuple #[(S.complete (D.mk b.v b.g b.t b.w a.e a.c)).agg, Value.bool true, Value.int IntKind.i64 0]) else some (Value.tuple #[S.D0.agg, Value.bool true, Value.int IntKind.i64 0])) else 
                (bif S.check (D.mk b.v b.g b.t b.w a.e b.c) then some (Value.tuple #[(S.complete (D.mk b.v b.g b.t b.w a.e b.c)).agg, Value.bool true, Value.int IntKind.i64 0]) else some (Value.tuple #[S.D0.agg, Value.bool true, Value.int IntKind.i64 0]))) else 
               (bif b.c == 0 then 
                (bif S.check (D.mk b.v b.g b.t b.w b.e a.c) then some (Value.tuple #[(S.complete (D.mk b.v b.g b.t b.w b.e a.c)).agg, Value.bool true, Value.int IntKind.i64 0]) else some (Value.tuple #[S.D0.agg, Value.bool true, Value.int IntKind.i64 0])) else 
                (bif S.check b then some (Value.tuple #[(S.complete b).agg, Value.bool true, Value.int IntKind.i64 0]) else some (Value.tuple #[S.D0.agg, Value.bool true, Value.int IntKind.i64 0])))))) else 
            (bif S.fields a then some (Value.tuple #[(S.over a b).agg, Value.bool true, Value.int IntKind.i64 0]) else 
             (bif b.e == 0 then 
              (bif b.c == 0 then 
               (bif S.check (D.mk b.v b.g b.t b.w a.e a.c) then some (Value.tuple #[(S.complete (D.mk b.v b.g b.t b.w a.e a.c)).agg, Value.bool true, Value.int IntKind.i64 0]) else some (Value.tuple #[S.D0.agg, Value.bool true, Value.int IntKind.i64 0])) else 
               (bif S.check (D.mk b.v b.g b.t b.w a.e b.c) then some (Value.tuple #[(S.complete (D.mk b.v b.g b.t b.w a.e b.c)).agg, Value.bool true, Value.int IntKind.i64 0]) else some (Value.tuple #[S.D0.agg, Value.bool true, Value.int IntKind.i64 0]))) else 
              (bif b.c == 0 then 
               (bif S.check (D.mk b.v b.g b.t b.w b.e a.c) then some (Value.tuple #[(S.complete (D.mk b.v b.g b.t b.w b.e a.c)).agg, Value.bool true, Value.int IntKind.i64 0]) else some (Value.tuple #[S.D0.agg, Value.bool true, Value.int IntKind.i64 0])) else 
               (bif S.check b then some (Value.tuple #[(S.complete b).agg, Value.bool true, Value.int IntKind.i64 0]) else some (Value.tuple #[S.D0.agg, Value.bool true, Value.int IntKind.i64 0])))))) else 
           (bif S.check a then 
            (bif S.hasD a then some (Value.tuple #[(S.over a b).agg, Value.bool true, Value.int IntKind.i64 0]) else 
             (bif S.hasA a then some (Value.tuple #[(S.over a b).agg, Value.bool true, Value.int IntKind.i64 0]) else some (Value.tuple #[(S.over a b).agg, Value.bool true, Value.int IntKind.i64 0]))) else 
            (bif S.fields a then some (Value.tuple #[(S.over a b).agg, Value.bool true, Value.int IntKind.i64 0]) else some (Value.tuple #[(S.over a b).agg, Value.bool true, Value.int IntKind.i64 0])))))))) else 
      (bif S.zero a then 
       (bif !x then some (Value.tuple #[a.agg, Value.bool false, Value.int IntKind.i64 0]) else 
        (bif S.check b then some (Value.tuple #[(S.complete b).agg, Value.bool true, Value.int IntKind.i64 0]) else some (Value.tuple #[S.D0.agg, Value.bool true, Value.int IntKind.i64 0]))) else 
       (bif a.c == 1 then 
        (bif S.barred a b then some (Value.tuple #[a.agg, Value.bool false, Value.int IntKind.i64 0]) else 
         (bif S.check b then 
          (bif S.hasD b then 
           (bif S.check a then 
            (bif S.hasD a then some (Value.tuple #[(S.over a b).agg, Value.bool true, Value.int IntKind.i64 0]) else 
             (bif S.hasA a then 
              (bif b.e == 0 then 
               (bif b.c == 0 then 
                (bif S.check (D.mk b.v b.g b.t b.w a.e a.c) then some (Value.tuple #[(S.complete (D.mk b.v b.g b.t b.w a.e a.c)).agg, Value.bool true, Value.int IntKind.i64 0]) else some (Value.tuple #[S.D0.agg, Value.bool true, Value.int IntKind.i64 0])) else 
                (bif S.check (D.mk b.v b.g b.t b.w a.e b.c) then some (Value.tuple #[(S.complete (D.mk b.v b.g b.t b.w a.e b.c)).agg, Value.bool true, Value.int IntKind.i64 0]) else some (Value.tuple #[S.D0.agg, Value.bool true, Value.int IntKind.i64 0]))) else 
               (bif b.c == 0 then 
                (bif S.check (D.mk b.v b.g b.t b.w b.e a.c) then some (Value.tuple #[(S.complete (D.mk b.v b.g b.t b.w b.e a.c)).agg, Value.bool true, Value.int IntKind.i64 0]) else some (Value.tuple #[S.D0.agg, Value.bool true, Value.int IntKind.i64 0])) else 
                (bif S.check b then some (Value.tuple #[(S.complete b).agg, Value.bool true, Value.int IntKind.i64 0]) else some (Value.tuple #[S.D0.agg, Value.bool true, Value.int IntKind.i64 0])))) else 
              (bif b.e == 0 then 
               (bif b.c == 0 then 
                (bif S.check (D.mk b.v b.g b.t b.w a.e a.c) then some (Value.tuple #[(S.complete (D.mk b.v b.g b.t b.w a.e a.c)).agg, Value.bool true, Value.int IntKind.i64 0]) else some (Value.tuple #[S.D0.agg, Value.bool true, Value.int IntKind.i64 0])) else 
                (bif S.check (D.mk b.v b.g b.t b.w a.e b.c) then some (Value.tuple #[(S.complete (D.mk b.v b.g b.t b.w a.e b.c)).agg, Value.bool true, Value.int IntKind.i64 0]) else some (Value.tuple #[S.D0.agg, Value.bool true, Value.int IntKind.i64 0]))) else 
               (bif b.c == 0 then 
                (bif S.check (D.mk b.v b.g b.t b.w b.e a.c) then some (Value.tuple #[(S.complete (D.mk b.v b.g b.t b.w b.e a.c)).agg, Value.bool true, Value.int IntKind.i64 0]) else some (Value.tuple #[S.D0.agg, Value.bool true, Value.int IntKind.i64 0])) else 
                (bif S.check b then some (Value.tuple #[(S.complete b).agg, Value.bool true, Value.int IntKind.i64 0]) else some (Value.tuple #[S.D0.agg, Value.bool true, Value.int IntKind.i64 0])))))) else 
            (bif S.fields a then some (Value.tuple #[(S.over a b).agg, Value.bool true, Value.int IntKind.i64 0]) else 
             (bif b.e == 0 then 
              (bif b.c == 0 then 
               (bif S.check (D.mk b.v b.g b.t b.w a.e a.c) then some (Value.tuple #[(S.complete (D.mk b.v b.g b.t b.w a.e a.c)).agg, Value.bool true, Value.int IntKind.i64 0]) else some (Value.tuple #[S.D0.agg, Value.bool true, Value.int IntKind.i64 0])) else 
               (bif S.check (D.mk b.v b.g b.t b.w a.e b.c) then some (Value.tuple #[(S.complete (D.mk b.v b.g b.t b.w a.e b.c)).agg, Value.bool true, Value.int IntKind.i64 0]) else some (Value.tuple #[S.D0.agg, Value.bool true, Value.int IntKind.i64 0]))) else 
              (bif b.c == 0 then 
               (bif S.check (D.mk b.v b.g b.t b.w b.e a.c) then some (Value.tuple #[(S.complete (D.mk b.v b.g b.t b.w b.e a.c)).agg, Value.bool true, Value.int IntKind.i64 0]) else some (Value.tuple #[S.D0.agg, Value.bool true, Value.int IntKind.i64 0])) else 
               (bif S.check b then some (Value.tuple #[(S.complete b).agg, Value.bool true, Value.int IntKind.i64 0]) else some (Value.tuple #[S.D0.agg, Value.bool true, Value.int IntKind.i64 0])))))) else 
           (bif S.hasA b then 
            (bif S.check a then 
             (bif S.hasD a then 
              (bif b.e == 0 then 
               (bif b.c == 0 then 
                (bif S.check (D.mk b.v b.g b.t b.w a.e a.c) then some (Value.tuple #[(S.complete (D.mk b.v b.g b.t b.w a.e a.c)).agg, Value.bool true, Value.int IntKind.i64 0]) else some (Value.tuple #[S.D0.agg, Value.bool true, Value.int IntKind.i64 0])) else 
                (bif S.check (D.mk b.v b.g b.t b.w a.e b.c) then some (Value.tuple #[(S.complete (D.mk b.v b.g b.t b.w a.e b.c)).agg, Value.bool true, Value.int IntKind.i64 0]) else some (Value.tuple #[S.D0.agg, Value.bool true, Value.int IntKind.i64 0]))) else 
               (bif b.c == 0 then 
                (bif S.check (D.mk b.v b.g b.t b.w b.e a.c) then some (Value.tuple #[(S.complete (D.mk b.v b.g b.t b.w b.e a.c)).agg, Value.bool true, Value.int IntKind.i64 0]) else some (Value.tuple #[S.D0.agg, Value.bool true, Value.int IntKind.i64 0])) else 
                (bif S.check b then some (Value.tuple #[(S.complete b).agg, Value.bool true, Value.int IntKind.i64 0]) else some (Value.tuple #[S.D0.agg, Value.bool true, Value.int IntKind.i64 0])))) else 
              (bif S.hasA a then some (Value.tuple #[(S.over a b).agg, Value.bool true, Value.int IntKind.i64 0]) else 
               (bif b.e == 0 then 
                (bif b.c == 0 then 
                 (bif S.check (D.mk b.v b.g b.t b.w a.e a.c) then some (Value.tuple #[(S.complete (D.mk b.v b.g b.t b.w a.e a.c)).agg, Value.bool true, Value.int IntKind.i64 0]) else some (Value.tuple #[S.D0.agg, Value.bool true, Value.int IntKind.i64 0])) else 
                 (bif S.check (D.mk b.v b.g b.t b.w a.e b.c) then some (Value.tuple #[(S.complete (D.mk b.v b.g b.t b.w a.e b.c)).agg, Value.bool true, Value.int IntKind.i64 0]) else some (Value.tuple #[S.D0.agg, Value.bool true, Value.int IntKind.i64 0]))) else 
                (bif b.c == 0 then 
                 (bif S.check (D.mk b.v b.g b.t b.w b.e a.c) then some (Value.tuple #[(S.complete (D.mk b.v b.g b.t b.w b.e a.c)).agg, Value.bool true, Value.int IntKind.i64 0]) else some (Value.tuple #[S.D0.agg, Value.bool true, Value.int IntKind.i64 0])) else 
                 (bif S.check b then some (Value.tuple #[(S.complete b).agg, Value.bool true, Value.int IntKind.i64 0]) else some (Value.tuple #[S.D0.agg, Value.bool true, Value.int IntKind.i64 0])))))) else 
             (bif S.fields a then 
              (bif b.e == 0 then 
               (bif b.c == 0 then 
                (bif S.check (D.mk b.v b.g b.t b.w a.e a.c) then some (Value.tuple #[(S.complete (D.mk b.v b.g b.t b.w a.e a.c)).agg, Value.bool true, Value.int IntKind.i64 0]) else some (Value.tuple #[S.D0.agg, Value.bool true, Value.int IntKind.i64 0])) else 
                (bif S.check (D.mk b.v b.g b.t b.w a.e b.c) then some (Value.tuple #[(S.complete (D.mk b.v b.g b.t b.w a.e b.c)).agg, Value.bool true, Value.int IntKind.i64 0]) else some (Value.tuple #[S.D0.agg, Value.bool true, Value.int IntKind.i64 0]))) else 
               (bif b.c == 0 then 
                (bif S.check (D.mk b.v b.g b.t b.w b.e a.c) then some (Value.tuple #[(S.complete (D.mk b.v b.g b.t b.w b.e a.c)).agg, Value.bool true, Value.int IntKind.i64 0]) else some (Value.tuple #[S.D0.agg, Value.bool true, Value.int IntKind.i64 0])) else 
                (bif S.check b then some (Value.tuple #[(S.complete b).agg, Value.bool true, Value.int IntKind.i64 0]) else some (Value.tuple #[S.D0.agg, Value.bool true, Value.int IntKind.i64 0])))) else 
              (bif b.e == 0 then 
               (bif b.c == 0 then 
                (bif S.check (D.mk b.v b.g b.t b.w a.e a.c) then some (Value.tuple #[(S.complete (D.mk b.v b.g b.t b.w a.e a.c)).agg, Value.bool true, Value.int IntKind.i64 0]) else some (Value.tuple #[S.D0.agg, Value.bool true, Value.int IntKind.i64 0])) else 
                (bif S.check (D.mk b.v b.g b.t b.w a.e b.c) then some (Value.tuple #[(S.complete (D.mk b.v b.g b.t b.w a.e b.c)).agg, Value.bool true, Value.int IntKind.i64 0]) else some (Value.tuple #[S.D0.agg, Value.bool true, Value.int IntKind.i64 0]))) else 
               (bif b.c == 0 then 
                (bif S.check (D.mk b.v b.g b.t b.w b.e a.c) then some (Value.tuple #[(S.complete (D.mk b.v b.g b.t b.w b.e a.c)).agg, Value.bool true, Value.int IntKind.i64 0]) else some (Value.tuple #[S.D0.agg, Value.bool true, Value.int IntKind.i64 0])) else 
                (bif S.check b then some (Value.tuple #[(S.complete b).agg, Value.bool true, Value.int IntKind.i64 0]) else some (Value.tuple #[S.D0.agg, Value.bool true, Value.int IntKind.i64 0])))))) else 
            (bif S.check a then 
             (bif S.hasD a then some (Value.tuple #[(S.over a b).agg, Value.bool true, Value.int IntKind.i64 0]) else 
              (bif S.hasA a then some (Value.tuple #[(S.over a b).agg, Value.bool true, Value.int IntKind.i64 0]) else some (Value.tuple #[(S.over a b).agg, Value.bool true, Value.int IntKind.i64 0]))) else 
             (bif S.fields a then some (Value.tuple #[(S.over a b).agg, Value.bool true, Value.int IntKind.i64 0]) else some (Value.tuple #[(S.over a b).agg, Value.bool true, Value.int IntKind.i64 0]))))) else 
          (bif S.fields b then 
           (bif S.check a then 
            (bif S.hasD a then some (Value.tuple #[(S.over a b).agg, Value.bool true, Value.int IntKind.i64 0]) else 
             (bif S.hasA a then 
              (bif b.e == 0 then 
               (bif b.c == 0 then 
                (bif S.check (D.mk b.v b.g b.t b.w a.e a.c) then some (Value.tuple #[(S.complete (D.mk b.v b.g b.t b.w a.e a.c)).agg, Value.bool true, Value.int IntKind.i64 0]) else some (Value.tuple #[S.D0.agg, Value.bool true, Value.int IntKind.i64 0])) else 
                (bif S.check (D.mk b.v b.g b.t b.w a.e b.c) then some (Value.tuple #[(S.complete (D.mk b.v b.g b.t b.w a.e b.c)).agg, Value.bool true, Value.int IntKind.i64 0]) else some (Value.tuple #[S.D0.agg, Value.bool true, Value.int IntKind.i64 0]))) else 
               (bif b.c == 0 then 
                (bif S.check (D.mk b.v b.g b.t b.w b.e a.c) then some (Value.tuple #[(S.complete (D.mk b.v b.g b.t b.w b.e a.c)).agg, Value.bool true, Value.int IntKind.i64 0]) else some (Value.tuple #[S.D0.agg, Value.bool true, Value.int IntKind.i64 0])) else 
                (bif S.check b then some (Value.tuple #[(S.complete b).agg, Value.bool true, Value.int IntKind.i64 0]) else some (Value.tuple #[S.D0.agg, Value.bool true, Value.int IntKind.i64 0])))) else 
              (bif b.e == 0 then 
               (bif b.c == 0 then 
                (bif S.check (D.mk b.v b.g b.t b.w a.e a.c) then some (Value.tuple #[(S.complete (D.mk b.v b.g b.t b.w a.e a.c)).agg, Value.bool true, Value.int IntKind.i64 0]) else some (Value.tuple #[S.D0.agg, Value.bool true, Value.int IntKind.i64 0])) else 
                (bif S.check (D.mk b.v b.g b.t b.w a.e b.c) then some (Value.tuple #[(S.complete (D.mk b.v b.g b.t b.w a.e b.c)).agg, Value.bool true, Value.int IntKind.i64 0]) else some (Value.tuple #[S.D0.agg, Value.bool true, Value.int IntKind.i64 0]))) else 
               (bif b.c == 0 then 
                (bif S.check (D.mk b.v b.g b.t b.w b.e a.c) then some (Value.tuple #[(S.complete (D.mk b.v b.g b.t b.w b.e a.c)).agg, Value.bool true, Value.int IntKind.i64 0]) else some (Value.tuple #[S.D0.agg, Value.bool true, Value.int IntKind.i64 0])) else 
                (bif S.check b then some (Value.tuple #[(S.complete b).agg, Value.bool true, Value.int IntKind.i64 0]) else some (Value.tuple #[S.D0.agg, Value.bool true, Value.int IntKind.i64 0])))))) else 
            (bif S.fields a then some (Value.tuple #[(S.over a b).agg, Value.bool true, Value.int IntKind.i64 0]) else 
             (bif b.e == 0 then 
              (bif b.c == 0 then 
               (bif S.check (D.mk b.v b.g b.t b.w a.e a.c) then some (Value.tuple #[(S.complete (D.mk b.v b.g b.t b.w a.e a.c)).agg, Value.bool true, Value.int IntKind.i64 0]) else some (Value.tuple #[S.D0.agg, Value.bool true, Value.int IntKind.i64 0])) else 
               (bif S.check (D.mk b.v b.g b.t b.w a.e b.c) then some (Value.tuple #[(S.complete (D.mk b.v b.g b.t b.w a.e b.c)).agg, Value.bool true, Value.int IntKind.i64 0]) else some (Value.tuple #[S.D0.agg, Value.bool true, Value.int IntKind.i64 0]))) else 
              (bif b.c == 0 then 
               (bif S.check (D.mk b.v b.g b.t b.w b.e a.c) then some (Value.tuple #[(S.complete (D.mk b.v b.g b.t b.w b.e a.c)).agg, Value.bool true, Value.int IntKind.i64 0]) else some (Value.tuple #[S.D0.agg, Value.bool true, Value.int IntKind.i64 0])) else 
               (bif S.check b then some (Value.tuple #[(S.complete b).agg, Value.bool true, Value.int IntKind.i64 0]) else some (Value.tuple #[S.D0.agg, Value.bool true, Value.int IntKind.i64 0])))))) else 
           (bif S.check a then 
            (bif S.hasD a then some (Value.tuple #[(S.over a b).agg, Value.bool true, Value.int IntKind.i64 0]) else 
             (bif S.hasA a then some (Value.tuple #[(S.over a b).agg, Value.bool true, Value.int IntKind.i64 0]) else some (Value.tuple #[(S.over a b).agg, Value.bool true, Value.int IntKind.i64 0]))) else 
            (bif S.fields a then some (Value.tuple #[(S.over a b).agg, Value.bool true, Value.int IntKind.i64 0]) else some (Value.tuple #[(S.over a b).agg, Value.bool true, Value.int IntKind.i64 0])))))) else 
        (bif S.check b then 
         (bif S.hasD b then 
          (bif S.check a then 
           (bif S.hasD a then some (Value.tuple #[(S.over a b).agg, Value.bool true, Value.int IntKind.i64 0]) else 
            (bif S.hasA a then 
             (bif b.e == 0 then 
              (bif b.c == 0 then 
               (bif S.check (D.mk b.v b.g b.t b.w a.e a.c) then some (Value.tuple #[(S.complete (D.mk b.v b.g b.t b.w a.e a.c)).agg, Value.bool true, Value.int IntKind.i64 0]) else some (Value.tuple #[S.D0.agg, Value.bool true, Value.int IntKind.i64 0])) else 
               (bif S.check (D.mk b.v b.g b.t b.w a.e b.c) then some (Value.tuple #[(S.complete (D.mk b.v b.g b.t b.w a.e b.c)).agg, Value.bool true, Value.int IntKind.i64 0]) else some (Value.tuple #[S.D0.agg, Value.bool true, Value.int IntKind.i64 0]))) else 
              (bif b.c == 0 then 
               (bif S.check (D.mk b.v b.g b.t b.w b.e a.c) then some (Value.tuple #[(S.complete (D.mk b.v b.g b.t b.w b.e a.c)).agg, Value.bool true, Value.int IntKind.i64 0]) else some (Value.tuple #[S.D0.agg, Value.bool true, Value.int IntKind.i64 0])) else 
               (bif S.check b then some (Value.tuple #[(S.complete b).agg, Value.bool true, Value.int IntKind.i64 0]) else some (Value.tuple #[S.D0.agg, Value.bool true, Value.int IntKind.i64 0])))) else 
             (bif b.e == 0 then 
              (bif b.c == 0 then 
               (bif S.check (D.mk b.v b.g b.t b.w a.e a.c) then some (Value.tuple #[(S.complete (D.mk b.v b.g b.t b.w a.e a.c)).agg, Value.bool true, Value.int IntKind.i64 0]) else some (Value.tuple #[S.D0.agg, Value.bool true, Value.int IntKind.i64 0])) else 
               (bif S.check (D.mk b.v b.g b.t b.w a.e b.c) then some (Value.tuple #[(S.complete (D.mk b.v b.g b.t b.w a.e b.c)).agg, Value.bool true, Value.int IntKind.i64 0]) else some (Value.tuple #[S.D0.agg, Value.bool true, Value.int IntKind.i64 0]))) else 
              (bif b.c == 0 then 
               (bif S.check (D.mk b.v b.g b.t b.w b.e a.c) then some (Value.tuple #[(S.complete (D.mk b.v b.g b.t b.w b.e a.c)).agg, Value.bool true, Value.int IntKind.i64 0]) else some (Value.tuple #[S.D0.agg, Value.bool true, Value.int IntKind.i64 0])) else 
               (bif S.check b then some (Value.tuple #[(S.complete b).agg, Value.bool true, Value.int IntKind.i64 0]) else some (Value.tuple #[S.D0.agg, Value.bool true, Value.int IntKind.i64 0])))))) else 
           (bif S.fields a then some (Value.tuple #[(S.over a b).agg, Value.bool true, Value.int IntKind.i64 0]) else 
            (bif b.e == 0 then 
             (bif b.c == 0 then 
              (bif S.check (D.mk b.v b.g b.t b.w a.e a.c) then some (Value.tuple #[(S.complete (D.mk b.v b.g b.t b.w a.e a.c)).agg, Value.bool true, Value.int IntKind.i64 0]) else some (Value.tuple #[S.D0.agg, Value.bool true, Value.int IntKind.i64 0])) else 
              (bif S.check (D.mk b.v b.g b.t b.w a.e b.c) then some (Value.tuple #[(S.complete (D.mk b.v b.g b.t b.w a.e b.c)).agg, Value.bool true, Value.int IntKind.i64 0]) else some (Value.tuple #[S.D0.agg, Value.bool true, Value.int IntKind.i64 0]))) else 
             (bif b.c == 0 then 
              (bif S.check (D.mk b.v b.g b.t b.w b.e a.c) then some (Value.tuple #[(S.complete (D.mk b.v b.g b.t b.w b.e a.c)).agg, Value.bool true, Value.int IntKind.i64 0]) else some (Value.tuple #[S.D0.agg, Value.bool true, Value.int IntKind.i64 0])) else 
              (bif S.check b then some (Value.tuple #[(S.complete b).agg, Value.bool true, Value.int IntKind.i64 0]) else some (Value.tuple #[S.D0.agg, Value.bool true, Value.int IntKind.i64 0])))))) else 
          (bif S.hasA b then 
           (bif S.check a then 
            (bif S.hasD a then 
             (bif b.e == 0 then 
              (bif b.c == 0 then 
               (bif S.check (D.mk b.v b.g b.t b.w a.e a.c) then some (Value.tuple #[(S.complete (D.mk b.v b.g b.t b.w a.e a.c)).agg, Value.bool true, Value.int IntKind.i64 0]) else some (Value.tuple #[S.D0.agg, Value.bool true, Value.int IntKind.i64 0])) else 
               (bif S.check (D.mk b.v b.g b.t b.w a.e b.c) then some (Value.tuple #[(S.complete (D.mk b.v b.g b.t b.w a.e b.c)).agg, Value.bool true, Value.int IntKind.i64 0]) else some (Value.tuple #[S.D0.agg, Value.bool true, Value.int IntKind.i64 0]))) else 
              (bif b.c == 0 then 
               (bif S.check (D.mk b.v b.g b.t b.w b.e a.c) then some (Value.tuple #[(S.complete (D.mk b.v b.g b.t b.w b.e a.c)).agg, Value.bool true, Value.int IntKind.i64 0]) else some (Value.tuple #[S.D0.agg, Value.bool true, Value.int IntKind.i64 0])) else 
               (bif S.check b then some (Value.tuple #[(S.complete b).agg, Value.bool true, Value.int IntKind.i64 0]) else some (Value.tuple #[S.D0.agg, Value.bool true, Value.int IntKind.i64 0])))) else 
             (bif S.hasA a then some (Value.tuple #[(S.over a b).agg, Value.bool true, Value.int IntKind.i64 0]) else 
              (bif b.e == 0 then 
               (bif b.c == 0 then 
                (bif S.check (D.mk b.v b.g b.t b.w a.e a.c) then some (Value.tuple #[(S.complete (D.mk b.v b.g b.t b.w a.e a.c)).agg, Value.bool true, Value.int IntKind.i64 0]) else some (Value.tuple #[S.D0.agg, Value.bool true, Value.int IntKind.i64 0])) else 
                (bif S.check (D.mk b.v b.g b.t b.w a.e b.c) then some (Value.tuple #[(S.complete (D.mk b.v b.g b.t b.w a.e b.c)).agg, Value.bool true, Value.int IntKind.i64 0]) else some (Value.tuple #[S.D0.agg, Value.bool true, Value.int IntKind.i64 0]))) else 
               (bif b.c == 0 then 
                (bif S.check (D.mk b.v b.g b.t b.w b.e a.c) then some (Value.tuple #[(S.complete (D.mk b.v b.g b.t b.w b.e a.c)).agg, Value.bool true, Value.int IntKind.i64 0]) else some (Value.tuple #[S.D0.agg, Value.bool true, Value.int IntKind.i64 0])) else 
                (bif S.check b then some (Value.tuple #[(S.complete b).agg, Value.bool true, Value.int IntKind.i64 0]) else some (Value.tuple #[S.D0.agg, Value.bool true, Value.int IntKind.i64 0])))))) else 
            (bif S.fields a then 
             (bif b.e == 0 then 
              (bif b.c == 0 then 
               (bif S.check (D.mk b.v b.g b.t b.w a.e a.c) then some (Value.tuple #[(S.complete (D.mk b.v b.g b.t b.w a.e a.c)).agg, Value.bool true, Value.int IntKind.i64 0]) else some (Value.tuple #[S.D0.agg, Value.bool true, Value.int IntKind.i64 0])) else 
               (bif S.check (D.mk b.v b.g b.t b.w a.e b.c) then some (Value.tuple #[(S.complete (D.mk b.v b.g b.t b.w a.e b.c)).agg, Value.bool true, Value.int IntKind.i64 0]) else some (Value.tuple #[S.D0.agg, Value.bool true, Value.int IntKind.i64 0]))) else 
              (bif b.c == 0 then 
               (bif S.check (D.mk b.v b.g b.t b.w b.e a.c) then some (Value.tuple #[(S.complete (D.mk b.v b.g b.t b.w b.e a.c)).agg, Value.bool true, Value.int IntKind.i64 0]) else some (Value.tuple #[S.D0.agg, Value.bool true, Value.int IntKind.i64 0])) else 
               (bif S.check b then some (Value.tuple #[(S.complete b).agg, Value.bool true, Value.int IntKind.i64 0]) else some (Value.tuple #[S.D0.agg, Value.bool true, Value.int IntKind.i64 0])))) else 
             (bif b.e == 0 then 
              (bif b.c == 0 then 
               (bif S.check (D.mk b.v b.g b.t b.w a.e a.c) then some (Value.tuple #[(S.complete (D.mk b.v b.g b.t b.w a.e a.c)).agg, Value.bool true, Value.int IntKind.i64 0]) else some (Value.tuple #[S.D0.agg, Value.bool true, Value.int IntKind.i64 0])) else 
               (bif S.check (D.mk b.v b.g b.t b.w a.e b.c) then some (Value.tuple #[(S.complete (D.mk b.v b.g b.t b.w a.e b.c)).agg, Value.bool true, Value.int IntKind.i64 0]) else some (Value.tuple #[S.D0.agg, Value.bool true, Value.int IntKind.i64 0]))) else 
              (bif b.c == 0 then 
               (bif S.check (D.mk b.v b.g b.t b.w b.e a.c) then some (Value.tuple #[(S.complete (D.mk b.v b.g b.t b.w b.e a.c)).agg, Value.bool true, Value.int IntKind.i64 0]) else some (Value.tuple #[S.D0.agg, Value.bool true, Value.int IntKind.i64 0])) else 
               (bif S.check b then some (Value.tuple #[(S.complete b).agg, Value.bool true, Value.int IntKind.i64 0]) else some (Value.tuple #[S.D0.agg, Value.bool true, Value.int IntKind.i64 0])))))) else 
           (bif S.check a then 
            (bif S.hasD a then some (Value.tuple #[(S.over a b).agg, Value.bool true, Value.int IntKind.i64 0]) else 
             (bif S.hasA a then some (Value.tuple #[(S.over a b).agg, Value.bool true, Value.int IntKind.i64 0]) else some (Value.tuple #[(S.over a b).agg, Value.bool true, Value.int IntKind.i64 0]))) else 
            (bif S.fields a then some (Value.tuple #[(S.over a b).agg, Value.bool true, Value.int IntKind.i64 0]) else some (Value.tuple #[(S.over a b).agg, Value.bool true, Value.int IntKind.i64 0]))))) else 
         (bif S.fields b then 
          (bif S.check a then 
           (bif S.hasD a then some (Value.tuple #[(S.over a b).agg, Value.bool true, Value.int IntKind.i64 0]) else 
            (bif S.hasA a then 
             (bif b.e == 0 then 
              (bif b.c == 0 then 
               (bif S.check (D.mk b.v b.g b.t b.w a.e a.c) then some (Value.tuple #[(S.complete (D.mk b.v b.g b.t b.w a.e a.c)).agg, Value.bool true, Value.int IntKind.i64 0]) else some (Value.tuple #[S.D0.agg, Value.bool true, Value.int IntKind.i64 0])) else 
               (bif S.check (D.mk b.v b.g b.t b.w a.e b.c) then some (Value.tuple #[(S.complete (D.mk b.v b.g b.t b.w a.e b.c)).agg, Value.bool true, Value.int IntKind.i64 0]) else some (Value.tuple #[S.D0.agg, Value.bool true, Value.int IntKind.i64 0]))) else 
              (bif b.c == 0 then 
               (bif S.check (D.mk b.v b.g b.t b.w b.e a.c) then some (Value.tuple #[(S.complete (D.mk b.v b.g b.t b.w b.e a.c)).agg, Value.bool true, Value.int IntKind.i64 0]) else some (Value.tuple #[S.D0.agg, Value.bool true, Value.int IntKind.i64 0])) else 
               (bif S.check b then some (Value.tuple #[(S.complete b).agg, Value.bool true, Value.int IntKind.i64 0]) else some (Value.tuple #[S.D0.agg, Value.bool true, Value.int IntKind.i64 0])))) else 
             (bif b.e == 0 then 
              (bif b.c == 0 then 
               (bif S.check (D.mk b.v b.g b.t b.w a.e a.c) then some (Value.tuple #[(S.complete (D.mk b.v b.g b.t b.w a.e a.c)).agg, Value.bool true, Value.int IntKind.i64 0]) else some (Value.tuple #[S.D0.agg, Value.bool true, Value.int IntKind.i64 0])) else 
               (bif S.check (D.mk b.v b.g b.t b.w a.e b.c) then some (Value.tuple #[(S.complete (D.mk b.v b.g b.t b.w a.e b.c)).agg, Value.bool true, Value.int IntKind.i64 0]) else some (Value.tuple #[S.D0.agg, Value.bool true, Value.int IntKind.i64 0]))) else 
              (bif b.c == 0 then 
               (bif S.check (D.mk b.v b.g b.t b.w b.e a.c) then some (Value.tuple #[(S.complete (D.mk b.v b.g b.t b.w b.e a.c)).agg, Value.bool true, Value.int IntKind.i64 0]) else some (Value.tuple #[S.D0.agg, Value.bool true, Value.int IntKind.i64 0])) else 
               (bif S.check b then some (Value.tuple #[(S.complete b).agg, Value.bool true, Value.int IntKind.i64 0]) else some (Value.tuple #[S.D0.agg, Value.bool true, Value.int IntKind.i64 0])))))) else 
           (bif S.fields a then some (Value.tuple #[(S.over a b).agg, Value.bool true, Value.int IntKind.i64 0]) else 
            (bif b.e == 0 then 
             (bif b.c == 0 then 
              (bif S.check (D.mk b.v b.g b.t b.w a.e a.c) then some (Value.tuple #[(S.complete (D.mk b.v b.g b.t b.w a.e a.c)).agg, Value.bool true, Value.int IntKind.i64 0]) else some (Value.tuple #[S.D0.agg, Value.bool true, Value.int IntKind.i64 0])) else 
              (bif S.check (D.mk b.v b.g b.t b.w a.e b.c) then some (Value.tuple #[(S.complete (D.mk b.v b.g b.t b.w a.e b.c)).agg, Value.bool true, Value.int IntKind.i64 0]) else some (Value.tuple #[S.D0.agg, Value.bool true, Value.int IntKind.i64 0]))) else 
             (bif b.c == 0 then 
              (bif S.check (D.mk b.v b.g b.t b.w b.e a.c) then some (Value.tuple #[(S.complete (D.mk b.v b.g b.t b.w b.e a.c)).agg, Value.bool true, Value.int IntKind.i64 0]) else some (Value.tuple #[S.D0.agg, Value.bool true, Value.int IntKind.i64 0])) else 
              (bif S.check b then some (Value.tuple #[(S.complete b).agg, Value.bool true, Value.int IntKind.i64 0]) else some (Value.tuple #[S.D0.agg, Value.bool true, Value.int IntKind.i64 0])))))) else 
          (bif S.check a then 
           (bif S.hasD a then some (Value.tuple #[(S.over a b).agg, Value.bool true, Value.int IntKind.i64 0]) else 
            (bif S.hasA a then some (Value.tuple #[(S.over a b).agg, Value.bool true, Value.int IntKind.i64 0]) else some (Value.tuple #[(S.over a b).agg, Value.bool true, Value.int IntKind.i64 0]))) else 
           (bif S.fields a then some (Value.tuple #[(S.over a b).agg, Value.bool true, Value.int IntKind.i64 0]) else some (Value.tuple #[(S.over a b).agg, Value.bool true, Value.int IntKind.i64 0])))))))) else some (Value.tuple #[(D.mk (V.mk 0 false 0 (ByteArray.mk #[]) 0) (V.mk 0 false 0 (ByteArray.mk #[]) 0) (V.mk 0 false 0 (ByteArray.mk #[]) 0) 0 0 0).agg, Value.bool false, Value.int IntKind.i64 5]))) (by kernel_rfl) (by
    obtain ⟨bv, bg, bt, bw, be, bc⟩ := b
    simp only [T.apply, DT.val_node, DT.val_leaf, DT.bind, DT.val_bad]
    repeat' (first | (with_reducible refine bif_neq (fun h => ?_) (fun h => ?_)) | (with_reducible refine bif_and (fun h => ?_) (fun h => ?_)) | (with_reducible refine bif_eq (fun h => ?_) (fun h => ?_)))
    all_goals first | (simp only [*, S.apply, S.okA, S.kindN, S.compl, S.turn, S.no, S.V0, S.D0, D.eta, cond_true, cond_false, Bool.and_true, Bool.true_and, Bool.and_false, Bool.false_and, Bool.or_true, Bool.true_or, Bool.or_false, Bool.false_or, Bool.not_true, Bool.not_false, beq_self_eq_true, bne_self_eq_false, Bool.not_not]; done) | (exfalso; simp_all; done) | (simp_all [S.apply, S.okA, S.kindN, S.compl, S.turn, S.no, S.V0, S.D0, D.eta]; done) | grind [S.apply, S.okA, S.kindN, S.compl, S.turn, S.no, S.V0, S.D0, D.eta])
theorem ent_apply : E (28, onBDD T.apply) := byEv Hents21 60 fun args t h => by
  obtain ⟨x, a, b, rfl, rfl⟩ := onBDD_eq h
  exact ev_apply x a b
abbrev HL22 : Tab := (28, onBDD T.apply) :: HL21
theorem Hents22 : ∀ p ∈ HL22, E p := entries_cons ent_apply Hents21
set_option maxHeartbeats 4000000 in
theorem ev_keeps (a b : D) : evFn Tryd.prog ext (tab HL22) 60 30 [a.agg, b.agg] = (T.keeps a b).val :=
  Eq.trans (b := 
    (bif !S.whole a then 
     (bif !S.zero a then some (Value.tuple #[Value.bool false, Value.int IntKind.i64 5]) else 
      (bif !S.whole b then 
       (bif !S.zero b then some (Value.tuple #[Value.bool false, Value.int IntKind.i64 5]) else 
        (bif S.zero a then some (Value.tuple #[Value.bool true, Value.int IntKind.i64 0]) else 
         (bif a.c == 2 then some (Value.tuple #[Value.bool true, Value.int IntKind.i64 0]) else 
          (bif S.zero b then some (Value.tuple #[Value.bool false, Value.int IntKind.i64 0]) else 
           (bif b.c != 1 then some (Value.tuple #[Value.bool false, Value.int IntKind.i64 0]) else 
            (bif b.e != a.e then some (Value.tuple #[Value.bool false, Value.int IntKind.i64 0]) else 
             (bif !S.isA a == S.isA b then some (Value.tuple #[Value.bool false, Value.int IntKind.i64 0]) else 
              (bif S.isA a then 
               (bif S.alike a.g b.g then some (Value.tuple #[Value.bool (S.alike a.t b.t), Value.int IntKind.i64 0]) else some (Value.tuple #[Value.bool false, Value.int IntKind.i64 0])) else 
               (bif a.w == 2 then some (Value.tuple #[Value.bool true, Value.int IntKind.i64 0]) else 
                (bif b.w == 1 then some (Value.tuple #[Value.bool (S.alike a.v b.v), Value.int IntKind.i64 0]) else some (Value.tuple #[Value.bool false, Value.int IntKind.i64 0]))))))))))) else 
       (bif S.zero a then some (Value.tuple #[Value.bool true, Value.int IntKind.i64 0]) else 
        (bif a.c == 2 then some (Value.tuple #[Value.bool true, Value.int IntKind.i64 0]) else 
         (bif S.zero b then some (Value.tuple #[Value.bool false, Value.int IntKind.i64 0]) else 
          (bif b.c != 1 then some (Value.tuple #[Value.bool false, Value.int IntKind.i64 0]) else 
           (bif b.e != a.e then some (Value.tuple #[Value.bool false, Value.int IntKind.i64 0]) else 
            (bif !S.isA a == S.isA b then some (Value.tuple #[Value.bool false, Value.int IntKind.i64 0]) else 
             (bif S.isA a then 
              (bif S.alike a.g b.g then some (Value.tuple #[Value.bool (S.alike a.t b.t), Value.int IntKind.i64 0]) else some (Value.tuple #[Value.bool false, Value.int IntKind.i64 0])) else 
              (bif a.w == 2 then some (Value.tuple #[Value.bool true, Value.int IntKind.i64 0]) else 
               (bif b.w == 1 then some (Value.tuple #[Value.bool (S.alike a.v b.v), Value.int IntKind.i64 0]) else some (Value.tuple #[Value.bool false, Value.int IntKind.i64 0])))))))))))) else 
     (bif !S.whole b then 
      (bif !S.zero b then some (Value.tuple #[Value.bool false, Value.int IntKind.i64 5]) else 
       (bif S.zero a then some (Value.tuple #[Value.bool true, Value.int IntKind.i64 0]) else 
        (bif a.c == 2 then some (Value.tuple #[Value.bool true, Value.int IntKind.i64 0]) else 
         (bif S.zero b then some (Value.tuple #[Value.bool false, Value.int IntKind.i64 0]) else 
          (bif b.c != 1 then some (Value.tuple #[Value.bool false, Value.int IntKind.i64 0]) else 
           (bif b.e != a.e then some (Value.tuple #[Value.bool false, Value.int IntKind.i64 0]) else 
            (bif !S.isA a == S.isA b then some (Value.tuple #[Value.bool false, Value.int IntKind.i64 0]) else 
             (bif S.isA a then 
              (bif S.alike a.g b.g then some (Value.tuple #[Value.bool (S.alike a.t b.t), Value.int IntKind.i64 0]) else some (Value.tuple #[Value.bool false, Value.int IntKind.i64 0])) else 
              (bif a.w == 2 then some (Value.tuple #[Value.bool true, Value.int IntKind.i64 0]) else 
               (bif b.w == 1 then some (Value.tuple #[Value.bool (S.alike a.v b.v), Value.int IntKind.i64 0]) else some (Value.tuple #[Value.bool false, Value.int IntKind.i64 0]))))))))))) else 
      (bif S.zero a then some (Value.tuple #[Value.bool true, Value.int IntKind.i64 0]) else 
       (bif a.c == 2 then some (Value.tuple #[Value.bool true, Value.int IntKind.i64 0]) else 
        (bif S.zero b then some (Value.tuple #[Value.bool false, Value.int IntKind.i64 0]) else 
         (bif b.c != 1 then some (Value.tuple #[Value.bool false, Value.int IntKind.i64 0]) else 
          (bif b.e != a.e then some (Value.tuple #[Value.bool false, Value.int IntKind.i64 0]) else 
           (bif !S.isA a == S.isA b then some (Value.tuple #[Value.bool false, Value.int IntKind.i64 0]) else 
            (bif S.isA a then 
             (bif S.alike a.g b.g then some (Value.tuple #[Value.bool (S.alike a.t b.t), Value.int IntKind.i64 0]) else some (Value.tuple #[Value.bool false, Value.int IntKind.i64 0])) else 
             (bif a.w == 2 then some (Value.tuple #[Value.bool true, Value.int IntKind.i64 0]) else 
              (bif b.w == 1 then some (Value.tuple #[Value.bool (S.alike a.v b.v), Value.int IntKind.i64 0]) else some (Value.tuple #[Value.bool false, Value.int IntKind.i64 0]))))))))))))) (by kernel_rfl) (by
    simp only [T.keeps, DT.val_node, DT.val_leaf, DT.bind, DT.val_bad]
    repeat' (first | (with_reducible refine bif_neq (fun h => ?_) (fun h => ?_)) | (with_reducible refine bif_and (fun h => ?_) (fun h => ?_)) | (with_reducible refine bif_eq (fun h => ?_) (fun h => ?_)))
    all_goals first | (simp only [*, S.keeps, S.okK, cond_true, cond_false, Bool.and_true, Bool.true_and, Bool.and_false, Bool.false_and, Bool.or_true, Bool.true_or, Bool.or_false, Bool.false_or, Bool.not_true, Bool.not_false, beq_self_eq_true, bne_self_eq_false, Bool.not_not]; done) | (exfalso; simp_all; done) | (simp_all [S.keeps, S.okK]; done) | grind [S.keeps, S.okK])
theorem ent_keeps : E (30, onDD T.keeps) := byEv Hents22 60 fun args t h => by
  obtain ⟨a, b, rfl, rfl⟩ := onDD_eq h
  exact ev_keeps a b
abbrev HL23 : Tab := (30, onDD T.keeps) :: HL22
theorem Hents23 : ∀ p ∈ HL23, E p := entries_cons ent_keeps Hents22
set_option maxHeartbeats 4000000 in
theorem ev_eqV (a b : V) : evFn Tryd.prog ext (tab HL23) 40 29 [a.agg, b.agg] = (T.eqV a b).val :=
  Eq.trans (b := 
    (bif (↑a.n : Int) == (↑b.n : Int) then 
     (bif a.k == b.k then 
      (bif a.b == b.b then 
       (bif a.s.toList == b.s.toList then some (Value.bool (a.id == b.id)) else some (Value.bool false)) else some (Value.bool false)) else some (Value.bool false)) else 
     (bif FloatKind.f64.format.order a.n a.n != some Ordering.eq then 
      (bif FloatKind.f64.format.order b.n b.n != some Ordering.eq then 
       (bif a.k == b.k then 
        (bif a.b == b.b then 
         (bif a.s.toList == b.s.toList then some (Value.bool (a.id == b.id)) else some (Value.bool false)) else some (Value.bool false)) else some (Value.bool false)) else some (Value.bool false)) else some (Value.bool false)))) (by kernel_rfl) (by
    simp only [T.eqV, T.B, DT.val_node, DT.val_leaf, DT.bind, DT.val_bad]
    repeat' (first | (with_reducible refine bif_neq (fun h => ?_) (fun h => ?_)) | (with_reducible refine bif_and (fun h => ?_) (fun h => ?_)) | (with_reducible refine bif_eq (fun h => ?_) (fun h => ?_)))
    all_goals first | (simp only [*, S.eqV, S.nan, cond_true, cond_false, Bool.and_true, Bool.true_and, Bool.and_false, Bool.false_and, Bool.or_true, Bool.true_or, Bool.or_false, Bool.false_or, Bool.not_true, Bool.not_false, beq_self_eq_true, bne_self_eq_false, Bool.not_not]; done) | (exfalso; simp_all; done) | (simp_all [S.eqV, S.nan]; done) | grind [S.eqV, S.nan])
theorem ent_eqV : E (29, onVV T.eqV) := byEv Hents23 40 fun args t h => by
  obtain ⟨a, b, rfl, rfl⟩ := onVV_eq h
  exact ev_eqV a b
abbrev HL24 : Tab := (29, onVV T.eqV) :: HL23
theorem Hents24 : ∀ p ∈ HL24, E p := entries_cons ent_eqV Hents23
set_option maxHeartbeats 4000000 in
theorem ev_eqD (a b : D) : evFn Tryd.prog ext (tab HL24) 40 17 [a.agg, b.agg] = (T.eqD a b).val :=
  Eq.trans (b := 
    (bif S.eqV a.v b.v then 
     (bif S.eqV a.g b.g then 
      (bif S.eqV a.t b.t then 
       (bif a.w == b.w then 
        (bif a.e == b.e then some (Value.bool (a.c == b.c)) else some (Value.bool false)) else some (Value.bool false)) else some (Value.bool false)) else some (Value.bool false)) else some (Value.bool false))) (by kernel_rfl) (by
    simp only [T.eqD, T.B, DT.val_node, DT.val_leaf, DT.bind, DT.val_bad]
    repeat' (first | (with_reducible refine bif_neq (fun h => ?_) (fun h => ?_)) | (with_reducible refine bif_and (fun h => ?_) (fun h => ?_)) | (with_reducible refine bif_eq (fun h => ?_) (fun h => ?_)))
    all_goals first | (simp only [*, S.eqD, cond_true, cond_false, Bool.and_true, Bool.true_and, Bool.and_false, Bool.false_and, Bool.or_true, Bool.true_or, Bool.or_false, Bool.false_or, Bool.not_true, Bool.not_false, beq_self_eq_true, bne_self_eq_false, Bool.not_not]; done) | (exfalso; simp_all; done) | (simp_all [S.eqD]; done) | grind [S.eqD])
theorem ent_eqD : E (17, onDD T.eqD) := byEv Hents24 40 fun args t h => by
  obtain ⟨a, b, rfl, rfl⟩ := onDD_eq h
  exact ev_eqD a b
abbrev HL25 : Tab := (17, onDD T.eqD) :: HL24
theorem Hents25 : ∀ p ∈ HL25, E p := entries_cons ent_eqD Hents24
end Go.Proofs.YtaojjpdlfnphiaaDoor.PDescKinds
end
section
/- Contracts by evaluation: what each function of a list answers. Written by a program of this session. -/
namespace Go.Proofs.YtaojjpdlfnphiaaDoor.PDescKinds
open Go.RowKit Go.Ev
set_option linter.unusedSimpArgs false
set_option linter.unusedVariables false
set_option maxRecDepth 100000
set_option maxHeartbeats 4000000 in
theorem ev_awake : evFn Tryd.prog ext (tab HL25) 80 27 [] = ((T.B true)).val :=
  Eq.trans (b := some (Value.bool true)) (by kernel_rfl) (by
    rfl)
theorem ent_awake : E (27, on0 (T.B true)) := byEv Hents25 80 fun args t h => by
  obtain ⟨rfl, rfl⟩ := on0_eq h
  exact ev_awake 
abbrev HL26 : Tab := (27, on0 (T.B true)) :: HL25
theorem Hents26 : ∀ p ∈ HL26, E p := entries_cons ent_awake Hents25
set_option maxHeartbeats 4000000 in
theorem ev_takes (x : Bool) (a b : D) : evFn Tryd.prog ext (tab HL26) 80 4 [.bool x, a.agg, b.agg] = ((fun _ _ _ => T.B true) x a b).val :=
  Eq.trans (b := 
    (bif S.okA a b then 
     (bif !(S.apply x a b).snd then some (Value.bool (S.eqD (S.apply x a b).fst a)) else 
      (bif S.okA (S.apply x a b).fst b then 
       (bif !S.whole (S.apply x a b).fst then some (Value.bool false) else 
        (bif !(S.apply x (S.apply x a b).fst b).snd then some (Value.bool false) else 
         (bif !S.eqD (S.apply x (S.apply x a b).fst b).fst (S.apply x a b).fst then some (Value.bool false) else 
          (bif b.v.k != 0 then 
           (bif !S.eqV (S.apply x a b).fst.v b.v then some (Value.bool false) else 
            (bif b.g.k != 0 then 
             (bif !S.eqV (S.apply x a b).fst.g b.g then some (Value.bool false) else 
              (bif b.t.k != 0 then 
               (bif !S.eqV (S.apply x a b).fst.t b.t then some (Value.bool false) else 
                (bif b.w == 0 then 
                 (bif b.e == 0 then 
                  (bif b.c == 0 then some (Value.bool true) else some (Value.bool ((S.apply x a b).fst.c == b.c))) else 
                  (bif (S.apply x a b).fst.e == b.e then 
                   (bif b.c == 0 then some (Value.bool true) else some (Value.bool ((S.apply x a b).fst.c == b.c))) else some (Value.bool false))) else 
                 (bif (S.apply x a b).fst.w == b.w then 
                  (bif b.e == 0 then 
                   (bif b.c == 0 then some (Value.bool true) else some (Value.bool ((S.apply x a b).fst.c == b.c))) else 
                   (bif (S.apply x a b).fst.e == b.e then 
                    (bif b.c == 0 then some (Value.bool true) else some (Value.bool ((S.apply x a b).fst.c == b.c))) else some (Value.bool false))) else some (Value.bool false)))) else 
               (bif b.w == 0 then 
                (bif b.e == 0 then 
                 (bif b.c == 0 then some (Value.bool true) else some (Value.bool ((S.apply x a b).fst.c == b.c))) else 
                 (bif (S.apply x a b).fst.e == b.e then 
                  (bif b.c == 0 then some (Value.bool true) else some (Value.bool ((S.apply x a b).fst.c == b.c))) else some (Value.bool false))) else 
                (bif (S.apply x a b).fst.w == b.w then 
                 (bif b.e == 0 then 
                  (bif b.c == 0 then some (Value.bool true) else some (Value.bool ((S.apply x a b).fst.c == b.c))) else 
                  (bif (S.apply x a b).fst.e == b.e then 
                   (bif b.c == 0 then some (Value.bool true) else some (Value.bool ((S.apply x a b).fst.c == b.c))) else some (Value.bool false))) else some (Value.bool false))))) else 
             (bif b.t.k != 0 then 
              (bif !S.eqV (S.apply x a b).fst.t b.t then some (Value.bool false) else 
               (bif b.w == 0 then 
                (bif b.e == 0 then 
                 (bif b.c == 0 then some (Value.bool true) else some (Value.bool ((S.apply x a b).fst.c == b.c))) else 
                 (bif (S.apply x a b).fst.e == b.e then 
                  (bif b.c == 0 then some (Value.bool true) else some (Value.bool ((S.apply x a b).fst.c == b.c))) else some (Value.bool false))) else 
                (bif (S.apply x a b).fst.w == b.w then 
                 (bif b.e == 0 then 
                  (bif b.c == 0 then some (Value.bool true) else some (Value.bool ((S.apply x a b).fst.c == b.c))) else 
                  (bif (S.apply x a b).fst.e == b.e then 
                   (bif b.c == 0 then some (Value.bool true) else some (Value.bool ((S.apply x a b).fst.c == b.c))) else some (Value.bool false))) else some (Value.bool false)))) else 
              (bif b.w == 0 then 
               (bif b.e == 0 then 
                (bif b.c == 0 then some (Value.bool true) else some (Value.bool ((S.apply x a b).fst.c == b.c))) else 
                (bif (S.apply x a b).fst.e == b.e then 
                 (bif b.c == 0 then some (Value.bool true) else some (Value.bool ((S.apply x a b).fst.c == b.c))) else some (Value.bool false))) else 
               (bif (S.apply x a b).fst.w == b.w then 
                (bif b.e == 0 then 
                 (bif b.c == 0 then some (Value.bool true) else some (Value.bool ((S.apply x a b).fst.c == b.c))) else 
                 (bif (S.apply x a b).fst.e == b.e then 
                  (bif b.c == 0 then some (Value.bool true) else some (Value.bool ((S.apply x a b).fst.c == b.c))) else some (Value.bool false))) else some (Value.bool false)))))) else 
           (bif b.g.k != 0 then 
            (bif !S.eqV (S.apply x a b).fst.g b.g then some (Value.bool false) else 
             (bif b.t.k != 0 then 
              (bif !S.eqV (S.apply x a b).fst.t b.t then some (Value.bool false) else 
               (bif b.w == 0 then 
                (bif b.e == 0 then 
                 (bif b.c == 0 then some (Value.bool true) else some (Value.bool ((S.apply x a b).fst.c == b.c))) else 
                 (bif (S.apply x a b).fst.e == b.e then 
                  (bif b.c == 0 then some (Value.bool true) else some (Value.bool ((S.apply x a b).fst.c == b.c))) else some (Value.bool false))) else 
                (bif (S.apply x a b).fst.w == b.w then 
                 (bif b.e == 0 then 
                  (bif b.c == 0 then some (Value.bool true) else some (Value.bool ((S.apply x a b).fst.c == b.c))) else 
                  (bif (S.apply x a b).fst.e == b.e then 
                   (bif b.c == 0 then some (Value.bool true) else some (Value.bool ((S.apply x a b).fst.c == b.c))) else some (Value.bool false))) else some (Value.bool false)))) else 
              (bif b.w == 0 then 
               (bif b.e == 0 then 
                (bif b.c == 0 then some (Value.bool true) else some (Value.bool ((S.apply x a b).fst.c == b.c))) else 
                (bif (S.apply x a b).fst.e == b.e then 
                 (bif b.c == 0 then some (Value.bool true) else some (Value.bool ((S.apply x a b).fst.c == b.c))) else some (Value.bool false))) else 
               (bif (S.apply x a b).fst.w == b.w then 
                (bif b.e == 0 then 
                 (bif b.c == 0 then some (Value.bool true) else some (Value.bool ((S.apply x a b).fst.c == b.c))) else 
                 (bif (S.apply x a b).fst.e == b.e then 
                  (bif b.c == 0 then some (Value.bool true) else some (Value.bool ((S.apply x a b).fst.c == b.c))) else some (Value.bool false))) else some (Value.bool false))))) else 
            (bif b.t.k != 0 then 
             (bif !S.eqV (S.apply x a b).fst.t b.t then some (Value.bool false) else 
              (bif b.w == 0 then 
               (bif b.e == 0 then 
                (bif b.c == 0 then some (Value.bool true) else some (Value.bool ((S.apply x a b).fst.c == b.c))) else 
                (bif (S.apply x a b).fst.e == b.e then 
                 (bif b.c == 0 then some (Value.bool true) else some (Value.bool ((S.apply x a b).fst.c == b.c))) else some (Value.bool false))) else 
               (bif (S.apply x a b).fst.w == b.w then 
                (bif b.e == 0 then 
                 (bif b.c == 0 then some (Value.bool true) else some (Value.bool ((S.apply x a b).fst.c == b.c))) else 
                 (bif (S.apply x a b).fst.e == b.e then 
                  (bif b.c == 0 then some (Value.bool true) else some (Value.bool ((S.apply x a b).fst.c == b.c))) else some (Value.bool false))) else some (Value.bool false)))) else 
             (bif b.w == 0 then 
              (bif b.e == 0 then 
               (bif b.c == 0 then some (Value.bool true) else some (Value.bool ((S.apply x a b).fst.c == b.c))) else 
               (bif (S.apply x a b).fst.e == b.e then 
                (bif b.c == 0 then some (Value.bool true) else some (Value.bool ((S.apply x a b).fst.c == b.c))) else some (Value.bool false))) else 
              (bif (S.apply x a b).fst.w == b.w then 
               (bif b.e == 0 then 
                (bif b.c == 0 then some (Value.bool true) else some (Value.bool ((S.apply x a b).fst.c == b.c))) else 
                (bif (S.apply x a b).fst.e == b.e then 
                 (bif b.c == 0 then some (Value.bool true) else some (Value.bool ((S.apply x a b).fst.c == b.c))) else some (Value.bool false))) else some (Value.bool false))))))))) else 
       (bif !S.whole (S.apply x a b).fst then some (Value.bool false) else some (Value.bool false)))) else some (Value.bool (S.eqD S.D0 (D.mk (V.mk 0 false 0 (ByteArray.mk #[]) 0) (V.mk 0 false 0 (ByteArray.mk #[]) 0) (V.mk 0 false 0 (ByteArray.mk #[]) 0) 0 0 0))))) (by kernel_rfl) (by
    simp only [T.B, DT.val_leaf]
    cases ho : S.okA a b
    · simp only [cond_false, cond_true, Bool.not_true, Bool.not_false]
      exact congrArg (fun z => some (Value.bool z)) (S.eqD_refl S.D0)
    · cases h2 : (S.apply x a b).2
      · simp only [cond_true, cond_false, Bool.not_false, S.takes_no ho h2]
      · obtain ⟨k1, k2, k3, k4, k5, k6, k7, k8, k9, k10⟩ := S.takes_yes ho h2
        simp only [cond_true, cond_false, Bool.not_true, k1, k2, k3, k4]
        repeat' (first | (with_reducible refine bif_neq (fun h => ?_) (fun h => ?_)) | (with_reducible refine bif_and (fun h => ?_) (fun h => ?_)) | (with_reducible refine bif_eq (fun h => ?_) (fun h => ?_)))
        all_goals simp_all)
theorem ent_takes : E (4, onBDD (fun _ _ _ => T.B true)) := byEv Hents26 80 fun args t h => by
  obtain ⟨x, a, b, rfl, rfl⟩ := onBDD_eq h
  exact ev_takes x a b
abbrev HL27 : Tab := (4, onBDD (fun _ _ _ => T.B true)) :: HL26
theorem Hents27 : ∀ p ∈ HL27, E p := entries_cons ent_takes Hents26
end Go.Proofs.YtaojjpdlfnphiaaDoor.PDescKinds
end
section
/- Plain laws: what is frozen stays. -/
set_option linter.unusedSimpArgs false
set_option linter.unusedVariables false
set_option linter.unusedSectionVars false
namespace Go.Proofs.YtaojjpdlfnphiaaDoor.PDescKinds.S
open Ieee FloatEq
theorem cmp_symm (x y : Int) : (compare x y == Ordering.eq) = (compare y x == Ordering.eq) := by
  rw [compare_eq_int, compare_eq_int]
  exact decide_eq_decide.2 eq_comm
theorem order_symm (x y : Datum) : (Datum.order x y == some Ordering.eq) = (Datum.order y x == some Ordering.eq) := by
  cases x <;> cases y <;> simp only [Datum.order]
  case number.number s m i t n j =>
    rw [Int.min_comm j i]
    exact cmp_symm _ _
  case number.infinity => split <;> rfl
  case infinity.number => split <;> rfl
  case infinity.infinity s t => cases s <;> cases t <;> rfl
theorem feq_symm (a b : Nat) : feq a b = feq b a := order_symm _ _
theorem numSame_symm (a b : Nat) : numSame a b = numSame b a := by
  unfold numSame
  rw [feq_symm a b, Bool.or_comm, Bool.and_comm (nan a), Bool.beq_comm (a := neg a)]
theorem same_symm (a b : V) : same a b = same b a := by
  unfold same
  have h1 : (a.k == b.k) = (b.k == a.k) := BEq.comm
  have h2 : (a.b == b.b) = (b.b == a.b) := BEq.comm
  have h3 : (a.s.toList == b.s.toList) = (b.s.toList == a.s.toList) := BEq.comm
  have h4 : (a.id == b.id) = (b.id == a.id) := BEq.comm
  rw [numSame_symm a.n b.n, Bool.and_comm (a.k == 4), h1, h2, h3, h4]
theorem alike_symm (a b : V) : alike a b = alike b a := by
  unfold alike
  rw [same_symm a b, Bool.and_comm (there a), Bool.and_comm (good a), Bool.beq_comm (a := there a)]
structure Ice (a : D) : Prop where
  whole : whole a = true
  c : a.c = 1
  w : hasD a = true → a.w = 1
theorem equal_refl {a : D} (h : check a = true) : equal a a = true := by
  obtain ⟨kv, kg, kt⟩ := okv_of h
  simp [equal, alike_refl kv, alike_refl kg, alike_refl kt]
theorem tri_cases {t : Int} (h : tri t = true) (h2 : (t == 2) = false) : t = 0 ∨ t = 1 := by
  unfold tri at h
  simp only [Bool.and_eq_true, decide_eq_true_eq] at h
  rw [beq_eq_false_iff_ne] at h2
  omega
/-- What is frozen stays. -/
theorem Ice.step {a d : D} (x : Bool) (h : Ice a) (ho : okA a d = true) : check (apply x a d).1 = true ∧ equal a (apply x a d).1 = true ∧ Ice (apply x a d).1 := by
  have hca := check_whole h.whole
  rcases apply_cases x ho with e | ⟨h2, hf⟩
  · rw [e]
    exact ⟨hca, equal_refl hca, h⟩
  · refine ⟨check_whole hf.whole, ?_⟩
    obtain ⟨hcd, _⟩ := okA_of ho
    have hz := whole_zero h.whole
    unfold S.apply at h2 hf ⊢
    rw [hz] at h2 hf ⊢
    simp only [cond_false] at h2 hf ⊢
    have hc1 : (a.c == 1) = true := by simp [h.c]
    rw [hc1] at h2 hf ⊢
    simp only [Bool.true_and] at h2 hf ⊢
    cases hb : barred a d
    case true => rw [hb] at h2; cases h2
    rw [hb] at h2 hf
    simp only [cond_false] at h2 hf ⊢
    unfold barred at hb
    cases h3 : (d.c == 2 || (d.e != 0 && d.e != a.e))
    case true => rw [h3] at hb; cases hb
    rw [h3] at hb
    simp only [cond_false] at hb
    rw [Bool.or_eq_false_iff] at h3
    obtain ⟨hc2, he2⟩ := h3
    have htri := hcd
    rw [check_eq] at htri
    simp only [Bool.and_eq_true] at htri
    obtain ⟨⟨kv, kg, kt, kw, ke, kc⟩, kx⟩ := htri
    obtain ⟨av, ag, at_⟩ := okv_of hca
    have ekind : (kindN d != 0 && kindN d != kindN a) = false := by
      cases hk : kindN d == 0
      · rw [hk] at hb
        simp only [cond_false] at hb
        cases hk2 : kindN d != kindN a
        · simp
        · rw [hk2] at hb; cases hb
      · simp only [beq_iff_eq] at hk
        simp [hk]
    rw [ekind] at hf ⊢
    simp only [cond_false] at hf ⊢
    have eE : orT a.e d.e = a.e := orT_same fun hn => by
      by_cases h4 : d.e = a.e
      · exact h4.symm
      · simp [hn, h4] at he2
    have eC : orT a.c d.c = a.c := orT_same fun hn => by
      rcases tri_cases kc hc2 with h4 | h4
      · exact absurd h4 hn
      · rw [h4, h.c]
    -- the kinds
    have hkA := kindN_whole h.whole
    have hkD := kindN_of hcd
    have parts : orT a.w d.w = a.w ∧ (there d.v = true → alike d.v a.v = true) ∧ (there d.g = true → alike d.g a.g = true) ∧ (there d.t = true → alike d.t a.t = true) ∧ (hasD d = true → hasD a = true) := by
      cases hk : kindN d == 0
      · rw [hk] at hb
        simp only [cond_false] at hb
        have hk2 : kindN d = kindN a := by
          have h5 : (kindN d != 0) = true := by simpa using hk
          rw [h5, Bool.true_and] at ekind
          simpa using ekind
        have e0 : (kindN d != kindN a) = false := by simp [hk2]
        rw [e0] at hb
        simp only [cond_false] at hb
        cases hD : hasD a
        · rw [hD] at hkA
          simp only [cond_false] at hkA
          have hd2 : kindN d = 2 := hk2.trans hkA
          have hnd : hasD d = false := by
            cases hq : hasD d
            · rfl
            · rw [hkD, hq] at hd2; simp at hd2
          rw [hd2] at hb
          simp only [beq_self_eq_true, cond_true, Bool.or_eq_false_iff] at hb
          unfold hasD at hnd
          rw [Bool.or_eq_false_iff] at hnd
          refine ⟨orT_same fun hn => ?_, fun hv => ?_, fun hg => ?_, fun ht => ?_, fun hq => ?_⟩
          · have := hnd.2; simp [hn] at this
          · rw [hnd.1] at hv; cases hv
          · have := hb.1; rw [hg] at this; simpa using this
          · have := hb.2; rw [ht] at this; simpa using this
          · unfold hasD at hq; rw [hnd.1, hnd.2] at hq; cases hq
        · rw [hD] at hkA
          simp only [cond_true] at hkA
          have hd2 : kindN d = 1 := hk2.trans hkA
          rw [hd2] at hb
          have e2 : ((1 : Int) == 2) = false := rfl
          rw [e2, h.w hD] at hb
          simp only [cond_false, beq_self_eq_true, Bool.true_and, Bool.or_eq_false_iff] at hb
          have hD1 : hasD d = true := by
            cases hq : hasD d
            · exfalso
              rw [hkD, hq] at hd2
              revert hd2
              cases hasA d <;> decide
            · rfl
          have hnA : hasA d = false := by
            rw [hD1] at kx; simpa using kx
          unfold hasA at hnA
          rw [Bool.or_eq_false_iff] at hnA
          refine ⟨orT_same fun hn => ?_, fun hv => ?_, fun hg => ?_, fun ht => ?_, fun _ => rfl⟩
          · rcases tri_cases kw hb.1 with h4 | h4
            · exact absurd h4 hn
            · rw [h4, h.w hD]
          · have := hb.2; rw [hv] at this; simpa using this
          · rw [hnA.1] at hg; cases hg
          · rw [hnA.2] at ht; cases ht
      · have hz2 := kind_zero hcd
        rw [hk] at hz2
        have hz3 := hz2.symm
        rw [Bool.and_eq_true, Bool.not_eq_true', Bool.not_eq_true'] at hz3
        obtain ⟨hnd, hna⟩ := hz3
        have hnd' := hnd
        unfold hasD at hnd
        unfold hasA at hna
        rw [Bool.or_eq_false_iff] at hnd hna
        refine ⟨orT_same fun hn => ?_, fun hv => ?_, fun hg => ?_, fun ht => ?_, fun hq => ?_⟩
        · have := hnd.2; simp [hn] at this
        · rw [hnd.1] at hv; cases hv
        · rw [hna.1] at hg; cases hg
        · rw [hna.2] at ht; cases ht
        · rw [hnd'] at hq; cases hq
    obtain ⟨eW, pv, pg, pt, pD⟩ := parts
    have hor : ∀ {x y : V}, okv x = true → (there y = true → alike y x = true) → alike x (orV x y) = true := by
      intro x y hx hy
      unfold orV
      cases ht : there y
      · exact alike_refl hx
      · simp only [cond_true]
        rw [alike_symm]
        exact hy ht
    have eover : over a d = ⟨orV a.v d.v, orV a.g d.g, orV a.t d.t, a.w, a.e, a.c⟩ := by unfold over; rw [eW, eE, eC]
    refine ⟨?_, hf.whole, ?_, ?_⟩
    · rw [eover]
      unfold equal
      simp only [beq_self_eq_true, Bool.true_and]
      rw [hor av pv, hor ag pg, hor at_ pt]
      rfl
    · rw [eover]; exact h.c
    · intro hD
      rw [hasD_over] at hD
      rw [eover]
      refine h.w ?_
      rw [Bool.or_eq_true] at hD
      rcases hD with hD | hD
      · exact hD
      · exact pD hD
end Go.Proofs.YtaojjpdlfnphiaaDoor.PDescKinds.S
end
section
/- Laws with loops: the rows that come in, the pieces of the laws' code. -/
set_option linter.unusedSimpArgs false
set_option linter.unusedVariables false
set_option linter.unusedSectionVars false
namespace Go.Proofs.YtaojjpdlfnphiaaDoor.PDescKinds
open Go.RowKit Go.Ev
/-- A descriptor's cells. -/
def D.cells (d : D) : List SV := [.val (.int .i64 d.v.k), .val (.bool d.v.b), .val (.float .f64 d.v.n), .val (.string d.v.s), .val (.int .i64 d.v.id),
  .val (.int .i64 d.g.k), .val (.bool d.g.b), .val (.float .f64 d.g.n), .val (.string d.g.s), .val (.int .i64 d.g.id), .val (.int .i64 d.t.k), .val (.bool d.t.b), .val (.float .f64 d.t.n), .val (.string d.t.s), .val (.int .i64 d.t.id), .val (.int .i64 d.w), .val (.int .i64 d.e), .val (.int .i64 d.c)]
/-- One row of descriptors. -/
@[instance_reducible] def rowD (A : Option Addr) (n c : Nat) (g : Nat → D) : XEnv := ⟨fun _ => ⟨A, 18, n, c, fun j => (g j).cells⟩⟩
theorem onD_val {f : Nat} {g g' : D → DT Value} (h : E (f, onD g)) (e : ∀ d, (g' d).val = (g d).val) : E (f, onD g') := by
  intro args t v ht hv
  obtain ⟨d, rfl, rfl⟩ := onD_eq ht
  rw [e d] at hv
  exact h [d.agg] (g d) v rfl hv
namespace S
def err (b : Bool) : Int := bif b then 0 else 5
def freezeD (d : D) : D := ⟨V0, V0, V0, bif whole d && isD d then 1 else 0, 0, bif whole d then 1 else 0⟩
end S
namespace T
def freeze1 (d : D) : DT Value := .leaf (.tuple #[(S.freezeD d).agg, .int .i64 (S.err (S.whole d))])
end T
theorem ent_freeze1 : E (13, onD T.freeze1) := onD_val ent_freeze fun d => by
  simp only [T.freeze1, T.freeze, DT.val_node, DT.val_leaf, S.err, S.freezeD]
  cases S.whole d <;> cases S.isD d <;> rfl
abbrev FL : Tab := (13, onD T.freeze1) :: HL27
theorem entsFL : ∀ p ∈ FL, E p := entries_cons ent_freeze1 Hents27
/-! DescFrozen's code -/
namespace Frozen
noncomputable def code : List Code := flat (Tryd.f6.body.getD .skip)
noncomputable def pre : List Code := code.take 10
noncomputable def post : List Code := code.drop 11
def inLoop : Code → Code
  | .block _ (.loop c) => c
  | c => c
noncomputable def round : Code := inLoop (code.getD 10 .skip)
theorem split : code = pre ++ Code.block 0 (.loop round) :: post := by kernel_rfl
/-- The loop's head. -/
def hd (a : D) (i : Int) : Cut := ⟨[(1, .xs [0]), (7, .ptr 2 0), (9, .val (.int .i64 i))], [(2, ⟨27, a.cells⟩)]⟩
end Frozen
end Go.Proofs.YtaojjpdlfnphiaaDoor.PDescKinds
end
section
/- DescFrozen: what is frozen stays. -/
set_option linter.unusedSimpArgs false
set_option linter.unusedVariables false
set_option linter.unusedSectionVars false
namespace Go.Proofs.YtaojjpdlfnphiaaDoor.PDescKinds
open Go.RowKit Go.Ev
namespace S
theorem freeze_ok {z : D} (h : whole z = true) : okA z (freezeD z) = true ∧ (apply true z (freezeD z)).2 = true ∧ Ice (apply true z (freezeD z)).1 := by
  have hcz := check_whole h
  have e0 : (bif whole z then (1 : Int) else 0) = 1 := by rw [h]; rfl
  have a0 : absent V0 = true := by decide +kernel
  have t0 : there V0 = false := rfl
  have cal0 : callable V0 = true := by unfold callable; rw [a0]; rfl
  have okv0 : okv V0 = true := okv_callable cal0
  have hisD : isD z = hasD z := by unfold isD; rw [hcz]; rfl
  have ef : freezeD z = ⟨V0, V0, V0, bif hasD z then 1 else 0, 0, 1⟩ := by unfold freezeD; rw [h, hisD]; rfl
  rw [ef]
  have hcf : check ⟨V0, V0, V0, bif hasD z then 1 else 0, 0, 1⟩ = true := by
    rw [check_eq]
    simp only [okv0, cal0, hasA, t0]
    cases hasD z <;> decide +kernel
  have hDf : hasD (⟨V0, V0, V0, bif hasD z then 1 else 0, 0, 1⟩ : D) = hasD z := by
    show (there V0 || (bif hasD z then (1 : Int) else 0) != 0) = hasD z
    cases hasD z <;> rfl
  have hAf : hasA (⟨V0, V0, V0, bif hasD z then 1 else 0, 0, 1⟩ : D) = false := rfl
  have hkf := kindN_of hcf
  rw [hDf, hAf] at hkf
  have hkz := kindN_whole h
  have hk : kindN (⟨V0, V0, V0, bif hasD z then 1 else 0, 0, 1⟩ : D) = 0 ∨ kindN (⟨V0, V0, V0, bif hasD z then 1 else 0, 0, 1⟩ : D) = kindN z := by
    rw [hkf, hkz]
    cases hasD z
    · exact .inl rfl
    · exact .inr rfl
  have hok : okA z ⟨V0, V0, V0, bif hasD z then 1 else 0, 0, 1⟩ = true := by unfold okA; rw [hcf, h]; rfl
  have hb : barred z ⟨V0, V0, V0, bif hasD z then 1 else 0, 0, 1⟩ = false := by
    unfold barred
    rw [hkf, hkz]
    simp only [t0]
    cases hasD z <;> simp
  have hap : apply true z ⟨V0, V0, V0, bif hasD z then 1 else 0, 0, 1⟩ = (over z ⟨V0, V0, V0, bif hasD z then 1 else 0, 0, 1⟩, true) := by
    unfold apply
    rw [whole_zero h, hb]
    simp only [cond_false, Bool.and_false]
    have : (kindN (⟨V0, V0, V0, bif hasD z then 1 else 0, 0, 1⟩ : D) != 0 && kindN (⟨V0, V0, V0, bif hasD z then 1 else 0, 0, 1⟩ : D) != kindN z) = false := by
      rcases hk with e | e <;> simp [e]
    rw [this]
    rfl
  refine ⟨hok, by rw [hap], ?_⟩
  rw [hap]
  refine ⟨over_whole h hcf hk, rfl, fun hD => ?_⟩
  rw [hasD_over, hDf, Bool.or_self] at hD
  show orT z.w (bif hasD z then 1 else 0) = 1
  rw [hD]
  rfl
end S
namespace Frozen
section
variable (A : Option Addr) (n c : Nat) (g : Nat → D)
set_option maxRecDepth 100000 in
theorem pre_ev (z : D) : letI := rowD A n c g
    evK Tryd.prog ext (tab FL) 90 74 (seqL Frozen.pre) ⟨argS [.val z.agg, .xs [0]], fun _ => none, 0⟩ (grab Tryd.prog Tryd.f6 [1,7,9] [2] 3) =
    (bif S.err (S.whole z) != 0 then some (Res.ret (SV.val (Value.bool !S.whole z))) else
     (bif S.okA z (S.freezeD z) then
      (bif !(S.apply true z (S.freezeD z)).snd then some (Res.ret (SV.val (Value.bool false))) else some (Res.cut Ex.normal (hd (S.apply true z (S.freezeD z)).fst 0))) else some (Res.ret (SV.val (Value.bool false))))) := by kernel_rfl
set_option maxRecDepth 100000 in
theorem round_ev (a : D) (i : Int) : letI := rowD A n c g
    evK Tryd.prog ext (tab FL) 90 74 (seqL (flat Frozen.round)) ((Frozen.hd a i).st 3) (grab Tryd.prog Tryd.f6 [1,7,9] [2] 3) =
    (bif decide (i < (n : Int)) then
     (bif decide (0 ≤ i) && decide (i < (n : Int)) then
      (bif S.okA a (g i.toNat) then
       (bif S.check a && S.check (S.apply (i.tmod 2 == 0) a (g i.toNat)).fst then
        (bif !S.equal a (S.apply (i.tmod 2 == 0) a (g i.toNat)).fst then some (Res.ret (SV.val (Value.bool false))) else some (Res.cut Ex.normal (hd (S.apply (i.tmod 2 == 0) a (g i.toNat)).fst (IntKind.i64.wrap (i + 1))))) else some (Res.ret (SV.val (Value.bool false)))) else some (Res.cut Ex.normal (hd a (IntKind.i64.wrap (i + 1))))) else none) else some (Res.cut (Ex.exit 0) (hd a i))) := by kernel_rfl
set_option maxRecDepth 100000 in
theorem post_ev (a : D) (i : Int) : letI := rowD A n c g
    evK Tryd.prog ext (tab FL) 90 74 (seqL Frozen.post) ((Frozen.hd a i).st 3) (grab Tryd.prog Tryd.f6 [1,7,9] [2] 3) = some (Res.ret (SV.val (Value.bool true))) := by kernel_rfl
/-- What stands while the law runs. -/
def Inv (w : World) : Prop := Tabs w ∧ @XOk (rowD A n c g) w
theorem inv_stable : Stable (Inv A n c g) := fun w w' h hb => ⟨tabs_stable _ _ h.1 hb, @XOk.below (rowD A n c g) _ _ h.2 hb⟩
theorem given : @GivenSound (rowD A n c g) Tryd.prog (Inv A n c g) (tab FL) := letI := rowD A n c g; tab_sound fun p hp => (entsFL p hp).mono (J := Inv A n c g) fun w h => h.1
def Post (w0 : World) : Ending → World → Prop := fun e w' => e = .returned (.bool true) ∧ Below w0.heap.size w0 w'
theorem calls (hn : (n : Int) ≤ 9223372036854775807) (z : D) (w : World) (ht : Tabs w) (hx : @XOk (rowD A n c g) w) :
    Calls Tryd.prog 6 #[z.agg, .slice A n c] w (Post w) := by
  letI := rowD A n c g
  have hI : Inv A n c g w := ⟨ht, hx⟩
  have hs := inv_stable A n c g
  have hXO : ∀ w, Inv A n c g w → XOk w := fun _ h => h.2
  have hG := given A n c g
  refine calls_of_wp Tryd.func6 (c := Tryd.f6.body.getD .skip) (by kernel_rfl) ?_
  refine wpL_flat _ ?_
  show wpL Tryd.prog Frozen.code _ _ _
  rw [Frozen.split, wpL_app]
  have hst := start_sound (fn := Tryd.f6) [.val z.agg, .xs [0]] (fun x hx => by
    simp only [List.mem_cons, List.not_mem_nil, or_false] at hx
    rcases hx with rfl | rfl
    · exact ok_val _ _
    · exact ok_xs) w (fun _ => 0)
  have hret : ∀ (b : Bool), b = true → ∀ (m' : Nat → Nat) (a' : Act) (w' : World), a'.defers = [] → (results Tryd.f6 a'.tmps).run Tryd.prog w' = .ok ((SV.val (.bool b)).den m') w' → Below w.heap.size w w' → bodyPost Tryd.prog Tryd.f6 (Post w) .ret a' w' := by
    intro b hb m' a' w' h1 h2 h3
    subst hb
    rw [den_val] at h2
    exact ⟨h1, _, h2, rfl, h3⟩
  -- the loop
  have loop : ∀ (k : Nat) (i : Int) (a : D), 0 ≤ i → i ≤ n → (n : Int) - i < k → S.Ice a → ∀ (m : Nat → Nat) (act : Act) (w' : World), SR w 74 m ((hd a i).st 3) act w' →
      Code.rounds Tryd.prog Frozen.round (Exit.inBlock 0 (Exit.then (wpL Tryd.prog Frozen.post (bodyPost Tryd.prog Tryd.f6 (Post w))) (bodyPost Tryd.prog Tryd.f6 (Post w)))) k act w' := by
    intro k
    induction k with
    | zero => intro i a h0 h1 h2; exfalso; omega
    | succ k ih =>
      intro i a h0 h1 h2 hice m act w' hr
      rw [rounds_succ]
      refine wpL_flat _ ?_
      have hev := round_ev A n c g a i
      by_cases hlt : i < n
      · have e1 : decide (i < (n : Int)) = true := decide_eq_true hlt
        have e2 : decide (0 ≤ i) = true := decide_eq_true h0
        have hw : IntKind.i64.wrap (i + 1) = i + 1 := by rw [IntKind.wrap_i64]; omega
        rw [e1, e2, hw] at hev
        simp only [cond_true, Bool.and_self] at hev
        cases ho : S.okA a (g i.toNat) with
        | false =>
          rw [ho] at hev
          refine piece mixed ext_sound hs hXO hG hev hI hr (fun v hv => by cases hv) ?_
          intro ex d hd m' a' w'' hr'
          cases hd
          exact ih (i + 1) a (by omega) (by omega) (by omega) hice m' a' w'' hr'
        | true =>
          obtain ⟨hc, heq, hice'⟩ := hice.step (i.tmod 2 == 0) ho
          rw [ho, S.check_whole hice.whole, hc, heq] at hev
          refine piece mixed ext_sound hs hXO hG hev hI hr (fun v hv => by cases hv) ?_
          intro ex d hd m' a' w'' hr'
          cases hd
          exact ih (i + 1) _ (by omega) (by omega) (by omega) hice' m' a' w'' hr'
      · have e1 : decide (i < (n : Int)) = false := decide_eq_false hlt
        rw [e1] at hev
        refine piece mixed ext_sound hs hXO hG hev hI hr (fun v hv => by cases hv) ?_
        intro ex d hd m' a' w'' hr'
        cases hd
        simp only [Ex.out, Exit.then, Exit.inBlock, if_true]
        refine piece mixed ext_sound hs hXO hG (post_ev A n c g a i) hI hr' (fun v hv => ?_) (fun ex d hd => by cases hd)
        cases hv
        exact hret true rfl
  have hev := pre_ev A n c g z
  cases hwz : S.whole z with
  | false =>
    rw [hwz] at hev
    refine piece mixed ext_sound hs hXO hG hev hI hst (fun v hv => ?_) (fun ex d hd => by cases hd)
    cases hv
    exact hret _ rfl
  | true =>
    obtain ⟨ho, h2, hice⟩ := S.freeze_ok hwz
    rw [hwz, ho, h2] at hev
    refine piece mixed ext_sound hs hXO hG hev hI hst (fun v hv => by cases hv) ?_
    intro ex d hd m' a' w' hr'
    cases hd
    show wpL Tryd.prog (Code.block 0 (.loop Frozen.round) :: Frozen.post) _ a' w'
    simp only [wpL]
    refine wp_block (wp_loop_rounds (n + 1) ?_)
    exact loop (n + 1) 0 _ (by omega) (by omega) (by omega) hice m' a' w' hr'
end
end Frozen
end Go.Proofs.YtaojjpdlfnphiaaDoor.PDescKinds
end
section
/- What the rows' arguments read as: descriptors as plain data; what the rows' tables give. -/
set_option linter.unusedSimpArgs false
set_option linter.unusedVariables false
set_option linter.unusedSectionVars false
namespace Go.Proofs.YtaojjpdlfnphiaaDoor.PDescKinds
open Go.ChangeShapes Go.WideShapes Go.ChangeAt Go.RowKit Go.Lib
section
variable {H : Type} {enc : TypeId × Value → H} {P : Program} {w : World} {base : Nat} {spare : Nat → Bool} {held : Bool} {fuel : Nat} {t : TypeId} {cs : List Value} {x : DataW H × List MemPlace}
theorem read_int {k : IntKind} (ht : P.underlying t = some (.int k)) (h : DataW.trod enc P w base spare held fuel t cs = some x) : ∃ n, cs = [.int k n] := by
  obtain ⟨n, h, _⟩ := DataW.trod_int ht h
  exact ⟨n, h⟩
theorem read_bool (ht : P.underlying t = some .bool) (h : DataW.trod enc P w base spare held fuel t cs = some x) : ∃ b, cs = [.bool b] := by
  cases fuel with
  | zero => simp [DataW.trod] at h
  | succ n =>
    rw [DataW.trod.eq_def] at h
    simp only [ht] at h
    split at h <;> first | (simp_all; done) | exact ⟨_, rfl⟩
theorem read_f64 (ht : P.underlying t = some (.float .f64)) (h : DataW.trod enc P w base spare held fuel t cs = some x) : ∃ b, cs = [.float .f64 b] := by
  cases fuel with
  | zero => simp [DataW.trod] at h
  | succ n =>
    rw [DataW.trod.eq_def] at h
    simp only [ht] at h
    split at h <;> first | (simp_all; done) | skip
theorem read_string (ht : P.underlying t = some .string) (h : DataW.trod enc P w base spare held fuel t cs = some x) : ∃ s, cs = [.string s] ∧ s.size ≤ maxLen := by
  cases fuel with
  | zero => simp [DataW.trod] at h
  | succ n =>
    rw [DataW.trod.eq_def] at h
    simp only [ht] at h
    split at h <;> first | (simp_all; done) | skip
end
def V.list (v : V) : List Value := [.int .i64 v.k, .bool v.b, .float .f64 v.n, .string v.s, .int .i64 v.id]
def D.list (d : D) : List Value := d.v.list ++ (d.g.list ++ (d.t.list ++ [.int .i64 d.w, .int .i64 d.e, .int .i64 d.c]))
theorem D.agg_list (d : D) : d.agg = .agg d.list.toArray := rfl
section
variable {H : Type} {enc : TypeId × Value → H} {w : World} {base : Nat} {spare : Nat → Bool} {held : Bool} {fuel : Nat} {cs : List Value} {x : DataW H × List MemPlace}
theorem cells3 : Tryd.prog.cellsOf 3 = 1 := by kernel_rfl
theorem cells4 : Tryd.prog.cellsOf 4 = 1 := by kernel_rfl
theorem cells9 : Tryd.prog.cellsOf 9 = 1 := by kernel_rfl
theorem cells22 : Tryd.prog.cellsOf 22 = 1 := by kernel_rfl
theorem cells24 : Tryd.prog.cellsOf 24 = 5 := by kernel_rfl
theorem cells25 : Tryd.prog.cellsOf 25 = 1 := by kernel_rfl
theorem cells27 : Tryd.prog.cellsOf 27 = 18 := by kernel_rfl
set_option maxRecDepth 100000 in
theorem read_V (h : DataW.trod enc Tryd.prog w base spare held fuel 24 cs = some x) : ∃ v : V, cs = v.list := by
  obtain ⟨xs, n, _, _, hl, hn, hf⟩ := DataW.trod_struct Tryd.underlying24 h
  rw [cells24] at hl
  match cs, hl, xs, hn with
  | [c0, c1, c2, c3, c4], _, [y0, y1, y2, y3, y4], _ =>
    have h0 := hf 0 ⟨"Kind", 3, 0, false, "", "", 0⟩ rfl
    have h1 := hf 1 ⟨"Bool", 4, 1, false, "", "", 8⟩ rfl
    have h2 := hf 2 ⟨"Num", 22, 2, false, "", "", 16⟩ rfl
    have h3 := hf 3 ⟨"Str", 9, 3, false, "", "", 24⟩ rfl
    have h4 := hf 4 ⟨"Id", 3, 4, false, "", "", 40⟩ rfl
    simp only [cells3, cells4, cells9, cells22, List.drop_succ_cons, List.drop_zero, List.take_succ_cons, List.take_zero] at h0 h1 h2 h3 h4
    obtain ⟨v0, e0⟩ := read_int Tryd.underlying3 h0
    obtain ⟨v1, e1⟩ := read_bool Tryd.underlying4 h1
    obtain ⟨v2, e2⟩ := read_f64 Tryd.underlying22 h2
    obtain ⟨v3, e3, _⟩ := read_string Tryd.underlying9 h3
    obtain ⟨v4, e4⟩ := read_int Tryd.underlying3 h4
    cases e0; cases e1; cases e2; cases e3; cases e4
    exact ⟨⟨v0, v1, v2, v3, v4⟩, rfl⟩
set_option maxRecDepth 100000 in
theorem read_D (h : DataW.trod enc Tryd.prog w base spare held fuel 27 cs = some x) : ∃ d : D, cs = d.list := by
  obtain ⟨xs, n, _, _, hl, hn, hf⟩ := DataW.trod_struct Tryd.underlying27 h
  rw [cells27] at hl
  match cs, hl, xs, hn with
  | [c0, c1, c2, c3, c4, c5, c6, c7, c8, c9, c10, c11, c12, c13, c14, c15, c16, c17], _, [y0, y1, y2, y3, y4, y5], _ =>
    have h0 := hf 0 ⟨"Value", 24, 0, false, "", "", 0⟩ rfl
    have h1 := hf 1 ⟨"Get", 24, 5, false, "", "", 48⟩ rfl
    have h2 := hf 2 ⟨"Set", 24, 10, false, "", "", 96⟩ rfl
    have h3 := hf 3 ⟨"Writable", 25, 15, false, "", "", 144⟩ rfl
    have h4 := hf 4 ⟨"Enumerable", 25, 16, false, "", "", 152⟩ rfl
    have h5 := hf 5 ⟨"Configurable", 25, 17, false, "", "", 160⟩ rfl
    simp only [cells24, cells25, List.drop_succ_cons, List.drop_zero, List.take_succ_cons, List.take_zero] at h0 h1 h2 h3 h4 h5
    obtain ⟨v0, e0⟩ := read_V h0
    obtain ⟨v1, e1⟩ := read_V h1
    obtain ⟨v2, e2⟩ := read_V h2
    obtain ⟨v3, e3⟩ := read_int Tryd.underlying25 h3
    obtain ⟨v4, e4⟩ := read_int Tryd.underlying25 h4
    obtain ⟨v5, e5⟩ := read_int Tryd.underlying25 h5
    unfold V.list at e0 e1 e2
    cases e0; cases e1; cases e2; cases e3; cases e4; cases e5
    exact ⟨⟨v0, v1, v2, v3, v4, v5⟩, rfl⟩
set_option maxRecDepth 100000 in
/-- A descriptor that came in. -/
theorem open_D {v : Value} {base' : Nat} {d : DataW H} {p : List MemPlace} (hv : Value.okWide Tryd.prog w .any base' 27 v) (h : DataW.Trod enc Tryd.prog w base spare held 27 v d p) : ∃ z : D, v = z.agg := by
  obtain ⟨arr, rfl, _⟩ := okWide_struct Tryd.underlying27 hv
  obtain ⟨f, hf⟩ := h
  obtain ⟨z, hz⟩ := read_D hf
  refine ⟨z, ?_⟩
  rw [D.agg_list, ← hz]
  rfl
end
/-- A row of descriptors, as the world has it. -/
def RawRow (w : World) (A : Option Addr) (n : Nat) (g : Nat → D) : Prop := ∀ j, j < n → ∃ a, A = some a ∧ a.block < w.heap.size ∧ ∀ k v, (g j).list[k]? = some v → w.cell? (a.add (j * 18 + k)) = some v
theorem xrow_of [Go.Ev.XEnv] {w : World} {A : Option Addr} {n c : Nat} {g : Nat → D} (h : RawRow w A n g) : Go.Ev.XRow w ⟨A, 18, n, c, fun j => (g j).cells⟩ := fun j hj => by
  obtain ⟨a, h1, h2, h3⟩ := h j hj
  refine ⟨rfl, fun s hs mem => ?_, a, h1, h2, fun k s hk m => ?_⟩
  · have e : (g j).cells = (g j).list.map Go.Ev.SV.val := rfl
    have hs : s ∈ (g j).cells := hs
    rw [e, List.mem_map] at hs
    obtain ⟨v, _, rfl⟩ := hs
    exact Go.Ev.ok_val _ _
  · have e : (g j).cells = (g j).list.map Go.Ev.SV.val := rfl
    have hk : (g j).cells[k]? = some s := hk
    rw [e, List.getElem?_map, Option.map_eq_some_iff] at hk
    obtain ⟨v, hv, rfl⟩ := hk
    rw [Go.Ev.den_val]
    exact h3 k v hv
section
variable {H : Type} {enc : TypeId × Value → H} {w : World} {base : Nat} {spare : Nat → Bool} {held : Bool}
set_option maxRecDepth 100000 in
/-- A row of descriptors that came in. -/
theorem open_raw {v : Value} {base' : Nat} {d : DataW H} {p : List MemPlace} (hv : Value.okWide Tryd.prog w .any base' 42 v) (h : DataW.Trod enc Tryd.prog w base spare held 42 v d p) :
    ∃ (A : Option Addr) (n c : Nat) (g : Nat → D), v = .slice A n c ∧ (n : Int) ≤ 9223372036854775807 ∧ RawRow w A n g := by
  obtain ⟨a, len, cap, rfl⟩ := okWide_slice Tryd.underlying42 hv
  obtain ⟨f, hf⟩ := h
  rcases DataW.trod_slice Tryd.underlying42 hf with ⟨hc, _⟩ | ⟨a', len', cap', elems, rest, n, rfl, hc, _, hb, hlc, hcm, hel, hall, _, _⟩
  · simp only [Value.cells, List.cons.injEq, Value.slice.injEq, and_true] at hc
    obtain ⟨rfl, rfl, rfl⟩ := hc
    exact ⟨none, 0, 0, fun _ => S.D0, rfl, by omega, fun j hj => absurd hj (Nat.not_lt_zero _)⟩
  · simp only [Value.cells, List.cons.injEq, Value.slice.injEq, and_true] at hc
    obtain ⟨rfl, rfl, rfl⟩ := hc
    have hm : maxLen ≤ 9223372036854775807 := by decide +kernel
    have key : ∀ j, ∃ z : D, j < len → a'.block < w.heap.size ∧ ∀ k v, z.list[k]? = some v → w.cell? (a'.add (j * 18 + k)) = some v := by
      intro j
      by_cases hj : j < len
      · have h1 := hall j hj
        have hj' : j < elems.length := by rw [hel]; exact hj
        obtain ⟨e, he⟩ : ∃ e, elems[j]? = some e := ⟨elems[j]'hj', List.getElem?_eq_getElem hj'⟩
        rw [he, cells27] at h1
        obtain ⟨cs, hcs, htr⟩ := Option.bind_eq_some_iff.1 h1
        obtain ⟨z, rfl⟩ := read_D htr
        have hbk : (a'.add (j * 18)).block = a'.block := by unfold Addr.add; split <;> rfl
        refine ⟨z, fun _ => ⟨hbk ▸ World.cells?_block hcs (Nat.zero_lt_succ 17), fun k v hk => ?_⟩⟩
        obtain ⟨_, hl, hce⟩ := World.cells?_some hcs
        have hk18 : k < 18 := by
          rw [← hl]
          exact (List.getElem?_eq_some_iff.1 hk).1
        have := hce k hk18
        rw [hk, Go.Ev.add_add] at this
        exact this
      · exact ⟨S.D0, fun h => absurd h hj⟩
    obtain ⟨g, hg⟩ := Classical.axiomOfChoice key
    refine ⟨some a', len, cap, g, rfl, by omega, fun j hj => ?_⟩
    obtain ⟨hbl, hgc⟩ := hg j hj
    exact ⟨a', rfl, hbl, hgc⟩
set_option maxRecDepth 100000 in
theorem open_rowD {v : Value} {base' : Nat} {d : DataW H} {p : List MemPlace} (hv : Value.okWide Tryd.prog w .any base' 42 v) (h : DataW.Trod enc Tryd.prog w base spare held 42 v d p) :
    ∃ (A : Option Addr) (n c : Nat) (g : Nat → D), v = .slice A n c ∧ (n : Int) ≤ 9223372036854775807 ∧ @Go.Ev.XOk (rowD A n c g) w := by
  obtain ⟨A, n, c, g, h1, h2, h3⟩ := open_raw hv h
  exact ⟨A, n, c, g, h1, h2, fun _ => @xrow_of (rowD A n c g) _ _ _ _ _ h3⟩
end
theorem own : ownKnob Tryd.prog.godebug = none := by kernel_rfl
theorem laidOut : laidOutB Tryd.prog = true := by kernel_rfl
theorem accept_eq : Rows.laid_unicode_utf8_acceptRanges = Lib.acceptData := by kernel_rfl
theorem first_eq : Rows.laid_unicode_utf8_first = Lib.firstData := by kernel_rfl
theorem u8extra : U8Extra Tryd.prog Tryd.lays260_ren := ⟨by kernel_rfl, by kernel_rfl, by kernel_rfl, by kernel_rfl, by kernel_rfl, by kernel_rfl, by kernel_rfl⟩
/-- What the rows' list gives. -/
theorem tabs_of {W : World} (h : laidMetH Tryd.prog [("unicode/utf8.acceptRanges", Rows.laid_unicode_utf8_acceptRanges), ("unicode/utf8.first", Rows.laid_unicode_utf8_first)] W) : Tabs W := by
  rw [accept_eq, first_eq] at h
  exact utf8Tabs_of_readsT (U8Types.of260 Tryd.lays260) u8extra (Lib.laidMet.reads h (.tail _ (.head _))) (Lib.laidMet.reads h (.head _))
/-- A world in which both tables hold what their initialisers lay. -/
noncomputable def laidWorld (os : Os) : World :=
  let w0 := World.holding Tryd.prog os ⟨#[], #[], []⟩
  let put (h : Array Obj) (g : Nat) (cs : Array Value) : Array Obj := h.modify g fun
    | .cells _ t frozen => .cells cs t frozen
    | o => o
  let h1 := put w0.heap 1 (Lib.firstTab.map fun z => Value.int .u8 z).toArray
  let h2 := put h1 2 ((List.range 16).flatMap fun i => [Value.int .u8 (Lib.accLo i), Value.int .u8 (Lib.accHi i)]).toArray
  { w0 with heap := h2 }
theorem laid_met (os : Os) (args : Array Value) : laidMet Tryd.prog [("unicode/utf8.acceptRanges", Rows.laid_unicode_utf8_acceptRanges), ("unicode/utf8.first", Rows.laid_unicode_utf8_first)] ((laidWorld os).forCall (fun _ _ => 0) ⟨#[], args, []⟩).memory := by
  rw [accept_eq, first_eq]
  exact (LaidIn.of_run (l := [("unicode/utf8.acceptRanges", Lib.acceptData), ("unicode/utf8.first", Lib.firstData)]) [2, 1] 8 (by kernel_rfl) (by kernel_rfl) (by kernel_rfl) (by kernel_rfl)).met
end Go.Proofs.YtaojjpdlfnphiaaDoor.PDescKinds
end
