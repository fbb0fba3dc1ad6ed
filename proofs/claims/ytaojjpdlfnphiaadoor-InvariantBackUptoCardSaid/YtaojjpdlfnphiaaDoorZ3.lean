/- Parts of the proof, joined (3). -/
import Derived.Lib.DecodeN
import Derived.Lib.Bytes
import Derived.Test.YtaojjpdlfnphiaaDoorZ2
section
/- Parts of the proof, joined (3). -/
section
/- Contracts by evaluation: what each function of a list answers. Written by a program of this session. -/
namespace Go.Proofs.YtaojjpdlfnphiaaDoor.PDescKinds
open Go.RowKit Go.Ev
set_option linter.unusedSimpArgs false
set_option linter.unusedVariables false
set_option maxRecDepth 100000
abbrev HL0 : Tab := [(123, onV T.inn)]
theorem Hents0 : ∀ p ∈ HL0, E p := entries_cons (ent_inn) (entries_nil)
set_option maxHeartbeats 4000000 in
theorem ev_good (v : V) : evFn Tryd.prog ext (tab HL0) 40 114 [v.agg] = (T.goods v).val :=
  Eq.trans (b := 
    (bif v.k == 1 then 
     (bif v.b == false then 
      (bif v.s.toList == (ByteArray.mk #[]).toList then 
       (bif v.id == 0 then 
        (bif v.k == 4 then some (Value.tuple #[Value.iface 124 (Value.agg #[]), Value.bool true]) else some (Value.tuple #[Value.iface 124 (Value.agg #[]), Value.bool ((↑v.n : Int) == 0)])) else some (Value.tuple #[Value.iface 124 (Value.agg #[]), Value.bool false])) else some (Value.tuple #[Value.iface 124 (Value.agg #[]), Value.bool false])) else some (Value.tuple #[Value.iface 124 (Value.agg #[]), Value.bool false])) else 
     (bif v.k == 2 then 
      (bif v.b == false then 
       (bif v.s.toList == (ByteArray.mk #[]).toList then 
        (bif v.id == 0 then 
         (bif v.k == 4 then some (Value.tuple #[Value.iface 141 (Value.agg #[]), Value.bool true]) else some (Value.tuple #[Value.iface 141 (Value.agg #[]), Value.bool ((↑v.n : Int) == 0)])) else some (Value.tuple #[Value.iface 141 (Value.agg #[]), Value.bool false])) else some (Value.tuple #[Value.iface 141 (Value.agg #[]), Value.bool false])) else some (Value.tuple #[Value.iface 141 (Value.agg #[]), Value.bool false])) else 
      (bif v.k == 3 then 
       (bif v.b == v.b then 
        (bif v.s.toList == (ByteArray.mk #[]).toList then 
         (bif v.id == 0 then 
          (bif v.k == 4 then some (Value.tuple #[Value.iface 142 (Value.bool v.b), Value.bool true]) else some (Value.tuple #[Value.iface 142 (Value.bool v.b), Value.bool ((↑v.n : Int) == 0)])) else some (Value.tuple #[Value.iface 142 (Value.bool v.b), Value.bool false])) else some (Value.tuple #[Value.iface 142 (Value.bool v.b), Value.bool false])) else some (Value.tuple #[Value.iface 142 (Value.bool v.b), Value.bool false])) else 
       (bif v.k == 4 then 
        (bif v.b == false then 
         (bif v.s.toList == (ByteArray.mk #[]).toList then 
          (bif v.id == 0 then 
           (bif v.k == 4 then some (Value.tuple #[Value.iface 139 (Value.float FloatKind.f64 v.n), Value.bool true]) else some (Value.tuple #[Value.iface 139 (Value.float FloatKind.f64 v.n), Value.bool ((↑v.n : Int) == 0)])) else some (Value.tuple #[Value.iface 139 (Value.float FloatKind.f64 v.n), Value.bool false])) else some (Value.tuple #[Value.iface 139 (Value.float FloatKind.f64 v.n), Value.bool false])) else some (Value.tuple #[Value.iface 139 (Value.float FloatKind.f64 v.n), Value.bool false])) else 
        (bif v.k == 5 then 
         (bif leafIn.strOk v.s then 
          (bif v.b == false then 
           (bif v.s.toList == v.s.toList then 
            (bif v.id == 0 then 
             (bif v.k == 4 then some (Value.tuple #[Value.iface 143 (Value.string v.s), Value.bool true]) else some (Value.tuple #[Value.iface 143 (Value.string v.s), Value.bool ((↑v.n : Int) == 0)])) else some (Value.tuple #[Value.iface 143 (Value.string v.s), Value.bool false])) else some (Value.tuple #[Value.iface 143 (Value.string v.s), Value.bool false])) else some (Value.tuple #[Value.iface 143 (Value.string v.s), Value.bool false])) else some (Value.tuple #[Value.nilIface, Value.bool false])) else 
         (bif v.k == 6 then 
          (bif leafIn.idOk v.id then 
           (bif v.b == false then 
            (bif v.s.toList == (ByteArray.mk #[]).toList then 
             (bif v.id == v.id then 
              (bif v.k == 4 then some (Value.tuple #[Value.iface 144 (Value.int IntKind.i64 v.id), Value.bool true]) else some (Value.tuple #[Value.iface 144 (Value.int IntKind.i64 v.id), Value.bool ((↑v.n : Int) == 0)])) else some (Value.tuple #[Value.iface 144 (Value.int IntKind.i64 v.id), Value.bool false])) else some (Value.tuple #[Value.iface 144 (Value.int IntKind.i64 v.id), Value.bool false])) else some (Value.tuple #[Value.iface 144 (Value.int IntKind.i64 v.id), Value.bool false])) else some (Value.tuple #[Value.nilIface, Value.bool false])) else 
          (bif v.k == 7 then 
           (bif leafIn.idOk v.id then 
            (bif v.b == false then 
             (bif v.s.toList == (ByteArray.mk #[]).toList then 
              (bif v.id == v.id then 
               (bif v.k == 4 then some (Value.tuple #[Value.iface 145 (Value.int IntKind.i64 v.id), Value.bool true]) else some (Value.tuple #[Value.iface 145 (Value.int IntKind.i64 v.id), Value.bool ((↑v.n : Int) == 0)])) else some (Value.tuple #[Value.iface 145 (Value.int IntKind.i64 v.id), Value.bool false])) else some (Value.tuple #[Value.iface 145 (Value.int IntKind.i64 v.id), Value.bool false])) else some (Value.tuple #[Value.iface 145 (Value.int IntKind.i64 v.id), Value.bool false])) else some (Value.tuple #[Value.nilIface, Value.bool false])) else some (Value.tuple #[Value.nilIface, Value.bool false]))))))))) (by kernel_rfl) (by
    simp only [T.goods, T.inn, DT.val_node, DT.val_leaf, DT.bind, DT.val_bad]
    repeat' (first | (with_reducible refine bif_neq (fun h => ?_) (fun h => ?_)) | (with_reducible refine bif_and (fun h => ?_) (fun h => ?_)) | (with_reducible refine bif_eq (fun h => ?_) (fun h => ?_)))
    all_goals first | (simp only [*, S.good, S.emp, cond_true, cond_false, Bool.and_true, Bool.true_and, Bool.and_false, Bool.false_and, Bool.or_true, Bool.true_or, Bool.or_false, Bool.false_or, Bool.not_true, Bool.not_false, beq_self_eq_true, bne_self_eq_false, Bool.not_not]; done) | (exfalso; simp_all; done) | (simp_all [S.good, S.emp]; done) | grind [S.good, S.emp])
theorem ent_good : E (114, onV T.goods) := byEv Hents0 40 fun args t h => by
  obtain ⟨v, rfl, rfl⟩ := onV_eq h
  exact ev_good v
abbrev HL1 : Tab := (114, onV T.goods) :: HL0
theorem Hents1 : ∀ p ∈ HL1, E p := entries_cons ent_good Hents0
set_option maxHeartbeats 4000000 in
theorem ev_check92 (v : V) : evFn Tryd.prog ext (tab HL1) 40 92 [v.agg] = (T.good v).val :=
  Eq.trans (b := 
    (bif v.k == 1 then 
     (bif !S.good v then some (Value.int IntKind.i64 5) else some (Value.int IntKind.i64 0)) else 
     (bif v.k == 2 then 
      (bif !S.good v then some (Value.int IntKind.i64 5) else some (Value.int IntKind.i64 0)) else 
      (bif v.k == 3 then 
       (bif !S.good v then some (Value.int IntKind.i64 5) else some (Value.int IntKind.i64 0)) else 
       (bif v.k == 4 then 
        (bif !S.good v then some (Value.int IntKind.i64 5) else some (Value.int IntKind.i64 0)) else 
        (bif v.k == 5 then 
         (bif leafIn.strOk v.s then 
          (bif !S.good v then some (Value.int IntKind.i64 5) else some (Value.int IntKind.i64 0)) else 
          (bif !S.good v then some (Value.int IntKind.i64 5) else some (Value.int IntKind.i64 0))) else 
         (bif v.k == 6 then 
          (bif leafIn.idOk v.id then 
           (bif !S.good v then some (Value.int IntKind.i64 5) else some (Value.int IntKind.i64 0)) else 
           (bif !S.good v then some (Value.int IntKind.i64 5) else some (Value.int IntKind.i64 0))) else 
          (bif v.k == 7 then 
           (bif leafIn.idOk v.id then 
            (bif !S.good v then some (Value.int IntKind.i64 5) else some (Value.int IntKind.i64 0)) else 
            (bif !S.good v then some (Value.int IntKind.i64 5) else some (Value.int IntKind.i64 0))) else 
           (bif !S.good v then some (Value.int IntKind.i64 5) else some (Value.int IntKind.i64 0)))))))))) (by kernel_rfl) (by
    simp only [T.good, T.err, DT.val_node, DT.val_leaf, DT.bind, DT.val_bad]
    repeat' (first | (with_reducible refine bif_neq (fun h => ?_) (fun h => ?_)) | (with_reducible refine bif_and (fun h => ?_) (fun h => ?_)) | (with_reducible refine bif_eq (fun h => ?_) (fun h => ?_)))
    all_goals first | (simp only [*, S.good, cond_true, cond_false, Bool.and_true, Bool.true_and, Bool.and_false, Bool.false_and, Bool.or_true, Bool.true_or, Bool.or_false, Bool.false_or, Bool.not_true, Bool.not_false, beq_self_eq_true, bne_self_eq_false, Bool.not_not]; done) | (exfalso; simp_all; done) | (simp_all [S.good]; done) | grind [S.good])
theorem ent_check92 : E (92, onV T.good) := byEv Hents1 40 fun args t h => by
  obtain ⟨v, rfl, rfl⟩ := onV_eq h
  exact ev_check92 v
abbrev HL2 : Tab := (92, onV T.good) :: HL1
theorem Hents2 : ∀ p ∈ HL2, E p := entries_cons ent_check92 Hents1
set_option maxHeartbeats 4000000 in
theorem ev_numSame (a b : Nat) : evFn Tryd.prog ext (tab HL2) 40 108 [.float .f64 a, .float .f64 b] = (T.numSame a b).val :=
  Eq.trans (b := 
    (bif FloatKind.f64.format.order a a != some Ordering.eq then 
     (bif FloatKind.f64.format.order a a != some Ordering.eq then some (Value.bool (FloatKind.f64.format.order b b != some Ordering.eq)) else some (Value.bool false)) else 
     (bif FloatKind.f64.format.order b b != some Ordering.eq then 
      (bif FloatKind.f64.format.order a a != some Ordering.eq then some (Value.bool (FloatKind.f64.format.order b b != some Ordering.eq)) else some (Value.bool false)) else 
      (bif FloatKind.f64.format.order a b == some Ordering.eq then some (Value.bool (decide (IntKind.i64.wrap (↑a : Int) < 0) == decide (IntKind.i64.wrap (↑b : Int) < 0))) else some (Value.bool false))))) (by kernel_rfl) (by
    simp only [T.numSame, T.B, DT.val_node, DT.val_leaf, DT.bind, DT.val_bad]
    repeat' (first | (with_reducible refine bif_neq (fun h => ?_) (fun h => ?_)) | (with_reducible refine bif_and (fun h => ?_) (fun h => ?_)) | (with_reducible refine bif_eq (fun h => ?_) (fun h => ?_)))
    all_goals first | (simp only [*, S.numSame, S.nan, S.feq, S.neg, cond_true, cond_false, Bool.and_true, Bool.true_and, Bool.and_false, Bool.false_and, Bool.or_true, Bool.true_or, Bool.or_false, Bool.false_or, Bool.not_true, Bool.not_false, beq_self_eq_true, bne_self_eq_false, Bool.not_not]; done) | (exfalso; simp_all; done) | (simp_all [S.numSame, S.nan, S.feq, S.neg]; done) | grind [S.numSame, S.nan, S.feq, S.neg])
theorem ent_numSame : E (108, onFF T.numSame) := byEv Hents2 40 fun args t h => by
  obtain ⟨a, b, rfl, rfl⟩ := onFF_eq h
  exact ev_numSame a b
abbrev HL3 : Tab := (108, onFF T.numSame) :: HL2
theorem Hents3 : ∀ p ∈ HL3, E p := entries_cons ent_numSame Hents2
set_option maxHeartbeats 4000000 in
theorem ev_absent (v : V) : evFn Tryd.prog ext (tab HL3) 40 91 [v.agg] = (T.absent v).val :=
  Eq.trans (b := 
    (bif v.k == 0 && (v.b == false && (Op.floatEq FloatKind.f64 v.n 0 && (v.s == ByteArray.mk #[] && (v.id == 0 && true)))) then 
     (bif (Ieee.double.div 4607182418800017408 v.n).isSome then some (Value.bool (FloatKind.f64.format.order ((Ieee.double.div 4607182418800017408 v.n).getD 0) 0 == some Ordering.gt)) else none) else some (Value.bool false))) (by kernel_rfl) (by
    simp only [T.absent, T.B, DT.val_leaf]
    refine bif_eq (fun h => ?_) (fun h => ?_)
    · have hd := FloatEq.div_isSome (n := v.n) (by simp only [Bool.and_eq_true] at h; exact h.2.2.1)
      refine bif_eq (fun _ => ?_) (fun h2 => absurd (hd.symm.trans h2) (by simp))
      show _ = some (Value.bool (S.isV0 v && S.pos v.n))
      rw [show S.isV0 v = true from h]
      rfl
    · show _ = some (Value.bool (S.isV0 v && S.pos v.n))
      rw [show S.isV0 v = false from h]
      rfl)
theorem ent_absent : E (91, onV T.absent) := byEv Hents3 40 fun args t h => by
  obtain ⟨v, rfl, rfl⟩ := onV_eq h
  exact ev_absent v
abbrev HL4 : Tab := (91, onV T.absent) :: HL3
theorem Hents4 : ∀ p ∈ HL4, E p := entries_cons ent_absent Hents3
set_option maxHeartbeats 4000000 in
theorem ev_same (a b : V) : evFn Tryd.prog ext (tab HL4) 60 99 [a.agg, b.agg] = (T.same a b).val :=
  Eq.trans (b := 
    (bif a.k == 1 then 
     (bif b.k == 1 then 
      (bif !S.good a then some (Value.tuple #[Value.bool false, Value.int IntKind.i64 5]) else 
       (bif !S.good b then some (Value.tuple #[Value.bool false, Value.int IntKind.i64 5]) else some (Value.tuple #[Value.bool (1 == 1 && (false == false && (Op.floatEq FloatKind.f64 0 0 && (ByteArray.mk #[] == ByteArray.mk #[] && (0 == 0 && true))))), Value.int IntKind.i64 0]))) else 
      (bif b.k == 2 then 
       (bif !S.good a then some (Value.tuple #[Value.bool false, Value.int IntKind.i64 5]) else 
        (bif !S.good b then some (Value.tuple #[Value.bool false, Value.int IntKind.i64 5]) else some (Value.tuple #[Value.bool (1 == 2 && (false == false && (Op.floatEq FloatKind.f64 0 0 && (ByteArray.mk #[] == ByteArray.mk #[] && (0 == 0 && true))))), Value.int IntKind.i64 0]))) else 
       (bif b.k == 3 then 
        (bif !S.good a then some (Value.tuple #[Value.bool false, Value.int IntKind.i64 5]) else 
         (bif !S.good b then some (Value.tuple #[Value.bool false, Value.int IntKind.i64 5]) else some (Value.tuple #[Value.bool (1 == 3 && (false == b.b && (Op.floatEq FloatKind.f64 0 0 && (ByteArray.mk #[] == ByteArray.mk #[] && (0 == 0 && true))))), Value.int IntKind.i64 0]))) else 
        (bif b.k == 4 then 
         (bif !S.good a then some (Value.tuple #[Value.bool false, Value.int IntKind.i64 5]) else 
          (bif !S.good b then some (Value.tuple #[Value.bool false, Value.int IntKind.i64 5]) else some (Value.tuple #[Value.bool (1 == 4 && (false == false && (Op.floatEq FloatKind.f64 0 b.n && (ByteArray.mk #[] == ByteArray.mk #[] && (0 == 0 && true))))), Value.int IntKind.i64 0]))) else 
         (bif b.k == 5 then 
          (bif leafIn.strOk b.s then 
           (bif !S.good a then some (Value.tuple #[Value.bool false, Value.int IntKind.i64 5]) else 
            (bif !S.good b then some (Value.tuple #[Value.bool false, Value.int IntKind.i64 5]) else some (Value.tuple #[Value.bool (1 == 5 && (false == false && (Op.floatEq FloatKind.f64 0 0 && (ByteArray.mk #[] == b.s && (0 == 0 && true))))), Value.int IntKind.i64 0]))) else 
           (bif !S.good a then some (Value.tuple #[Value.bool false, Value.int IntKind.i64 5]) else 
            (bif !S.good b then some (Value.tuple #[Value.bool false, Value.int IntKind.i64 5]) else none))) else 
          (bif b.k == 6 then 
           (bif leafIn.idOk b.id then 
            (bif !S.good a then some (Value.tuple #[Value.bool false, Value.int IntKind.i64 5]) else 
             (bif !S.good b then some (Value.tuple #[Value.bool false, Value.int IntKind.i64 5]) else some (Value.tuple #[Value.bool (1 == 6 && (false == false && (Op.floatEq FloatKind.f64 0 0 && (ByteArray.mk #[] == ByteArray.mk #[] && (0 == b.id && true))))), Value.int IntKind.i64 0]))) else 
            (bif !S.good a then some (Value.tuple #[Value.bool false, Value.int IntKind.i64 5]) else 
             (bif !S.good b then some (Value.tuple #[Value.bool false, Value.int IntKind.i64 5]) else none))) else 
           (bif b.k == 7 then 
            (bif leafIn.idOk b.id then 
             (bif !S.good a then some (Value.tuple #[Value.bool false, Value.int IntKind.i64 5]) else 
              (bif !S.good b then some (Value.tuple #[Value.bool false, Value.int IntKind.i64 5]) else some (Value.tuple #[Value.bool (1 == 7 && (false == false && (Op.floatEq FloatKind.f64 0 0 && (ByteArray.mk #[] == ByteArray.mk #[] && (0 == b.id && true))))), Value.int IntKind.i64 0]))) else 
             (bif !S.good a then some (Value.tuple #[Value.bool false, Value.int IntKind.i64 5]) else 
              (bif !S.good b then some (Value.tuple #[Value.bool false, Value.int IntKind.i64 5]) else none))) else 
            (bif !S.good a then some (Value.tuple #[Value.bool false, Value.int IntKind.i64 5]) else 
             (bif !S.good b then some (Value.tuple #[Value.bool false, Value.int IntKind.i64 5]) else none))))))))) else 
     (bif a.k == 2 then 
      (bif b.k == 1 then 
       (bif !S.good a then some (Value.tuple #[Value.bool false, Value.int IntKind.i64 5]) else 
        (bif !S.good b then some (Value.tuple #[Value.bool false, Value.int IntKind.i64 5]) else some (Value.tuple #[Value.bool (2 == 1 && (false == false && (Op.floatEq FloatKind.f64 0 0 && (ByteArray.mk #[] == ByteArray.mk #[] && (0 == 0 && true))))), Value.int IntKind.i64 0]))) else 
       (bif b.k == 2 then 
        (bif !S.good a then some (Value.tuple #[Value.bool false, Value.int IntKind.i64 5]) else 
         (bif !S.good b then some (Value.tuple #[Value.bool false, Value.int IntKind.i64 5]) else some (Value.tuple #[Value.bool (2 == 2 && (false == false && (Op.floatEq FloatKind.f64 0 0 && (ByteArray.mk #[] == ByteArray.mk #[] && (0 == 0 && true))))), Value.int IntKind.i64 0]))) else 
        (bif b.k == 3 then 
         (bif !S.good a then some (Value.tuple #[Value.bool false, Value.int IntKind.i64 5]) else 
          (bif !S.good b then some (Value.tuple #[Value.bool false, Value.int IntKind.i64 5]) else some (Value.tuple #[Value.bool (2 == 3 && (false == b.b && (Op.floatEq FloatKind.f64 0 0 && (ByteArray.mk #[] == ByteArray.mk #[] && (0 == 0 && true))))), Value.int IntKind.i64 0]))) else 
         (bif b.k == 4 then 
          (bif !S.good a then some (Value.tuple #[Value.bool false, Value.int IntKind.i64 5]) else 
           (bif !S.good b then some (Value.tuple #[Value.bool false, Value.int IntKind.i64 5]) else some (Value.tuple #[Value.bool (2 == 4 && (false == false && (Op.floatEq FloatKind.f64 0 b.n && (ByteArray.mk #[] == ByteArray.mk #[] && (0 == 0 && true))))), Value.int IntKind.i64 0]))) else 
          (bif b.k == 5 then 
           (bif leafIn.strOk b.s then 
            (bif !S.good a then some (Value.tuple #[Value.bool false, Value.int IntKind.i64 5]) else 
             (bif !S.good b then some (Value.tuple #[Value.bool false, Value.int IntKind.i64 5]) else some (Value.tuple #[Value.bool (2 == 5 && (false == false && (Op.floatEq FloatKind.f64 0 0 && (ByteArray.mk #[] == b.s && (0 == 0 && true))))), Value.int IntKind.i64 0]))) else 
            (bif !S.good a then some (Value.tuple #[Value.bool false, Value.int IntKind.i64 5]) else 
             (bif !S.good b then some (Value.tuple #[Value.bool false, Value.int IntKind.i64 5]) else none))) else 
           (bif b.k == 6 then 
            (bif leafIn.idOk b.id then 
             (bif !S.good a then some (Value.tuple #[Value.bool false, Value.int IntKind.i64 5]) else 
              (bif !S.good b then some (Value.tuple #[Value.bool false, Value.int IntKind.i64 5]) else some (Value.tuple #[Value.bool (2 == 6 && (false == false && (Op.floatEq FloatKind.f64 0 0 && (ByteArray.mk #[] == ByteArray.mk #[] && (0 == b.id && true))))), Value.int IntKind.i64 0]))) else 
             (bif !S.good a then some (Value.tuple #[Value.bool false, Value.int IntKind.i64 5]) else 
              (bif !S.good b then some (Value.tuple #[Value.bool false, Value.int IntKind.i64 5]) else none))) else 
            (bif b.k == 7 then 
             (bif leafIn.idOk b.id then 
              (bif !S.good a then some (Value.tuple #[Value.bool false, Value.int IntKind.i64 5]) else 
               (bif !S.good b then some (Value.tuple #[Value.bool false, Value.int IntKind.i64 5]) else some (Value.tuple #[Value.bool (2 == 7 && (false == false && (Op.floatEq FloatKind.f64 0 0 && (ByteArray.mk #[] == ByteArray.mk #[] && (0 == b.id && true))))), Value.int IntKind.i64 0]))) else 
              (bif !S.good a then some (Value.tuple #[Value.bool false, Value.int IntKind.i64 5]) else 
               (bif !S.good b then some (Value.tuple #[Value.bool false, Value.int IntKind.i64 5]) else none))) else 
             (bif !S.good a then some (Value.tuple #[Value.bool false, Value.int IntKind.i64 5]) else 
              (bif !S.good b then some (Value.tuple #[Value.bool false, Value.int IntKind.i64 5]) else none))))))))) else 
      (bif a.k == 3 then 
       (bif b.k == 1 then 
        (bif !S.good a then some (Value.tuple #[Value.bool false, Value.int IntKind.i64 5]) else 
         (bif !S.good b then some (Value.tuple #[Value.bool false, Value.int IntKind.i64 5]) else some (Value.tuple #[Value.bool (3 == 1 && (a.b == false && (Op.floatEq FloatKind.f64 0 0 && (ByteArray.mk #[] == ByteArray.mk #[] && (0 == 0 && true))))), Value.int IntKind.i64 0]))) else 
        (bif b.k == 2 then 
         (bif !S.good a then some (Value.tuple #[Value.bool false, Value.int IntKind.i64 5]) else 
          (bif !S.good b then some (Value.tuple #[Value.bool false, Value.int IntKind.i64 5]) else some (Value.tuple #[Value.bool (3 == 2 && (a.b == false && (Op.floatEq FloatKind.f64 0 0 && (ByteArray.mk #[] == ByteArray.mk #[] && (0 == 0 && true))))), Value.int IntKind.i64 0]))) else 
         (bif b.k == 3 then 
          (bif !S.good a then some (Value.tuple #[Value.bool false, Value.int IntKind.i64 5]) else 
           (bif !S.good b then some (Value.tuple #[Value.bool false, Value.int IntKind.i64 5]) else some (Value.tuple #[Value.bool (3 == 3 && (a.b == b.b && (Op.floatEq FloatKind.f64 0 0 && (ByteArray.mk #[] == ByteArray.mk #[] && (0 == 0 && true))))), Value.int IntKind.i64 0]))) else 
          (bif b.k == 4 then 
           (bif !S.good a then some (Value.tuple #[Value.bool false, Value.int IntKind.i64 5]) else 
            (bif !S.good b then some (Value.tuple #[Value.bool false, Value.int IntKind.i64 5]) else some (Value.tuple #[Value.bool (3 == 4 && (a.b == false && (Op.floatEq FloatKind.f64 0 b.n && (ByteArray.mk #[] == ByteArray.mk #[] && (0 == 0 && true))))), Value.int IntKind.i64 0]))) else 
           (bif b.k == 5 then 
            (bif leafIn.strOk b.s then 
             (bif !S.good a then some (Value.tuple #[Value.bool false, Value.int IntKind.i64 5]) else 
              (bif !S.good b then some (Value.tuple #[Value.bool false, Value.int IntKind.i64 5]) else some (Value.tuple #[Value.bool (3 == 5 && (a.b == false && (Op.floatEq FloatKind.f64 0 0 && (ByteArray.mk #[] == b.s && (0 == 0 && true))))), Value.int IntKind.i64 0]))) else 
             (bif !S.good a then some (Value.tuple #[Value.bool false, Value.int IntKind.i64 5]) else 
              (bif !S.good b then some (Value.tuple #[Value.bool false, Value.int IntKind.i64 5]) else none))) else 
            (bif b.k == 6 then 
             (bif leafIn.idOk b.id then 
              (bif !S.good a then some (Value.tuple #[Value.bool false, Value.int IntKind.i64 5]) else 
               (bif !S.good b then some (Value.tuple #[Value.bool false, Value.int IntKind.i64 5]) else some (Value.tuple #[Value.bool (3 == 6 && (a.b == false && (Op.floatEq FloatKind.f64 0 0 && (ByteArray.mk #[] == ByteArray.mk #[] && (0 == b.id && true))))), Value.int IntKind.i64 0]))) else 
              (bif !S.good a then some (Value.tuple #[Value.bool false, Value.int IntKind.i64 5]) else 
               (bif !S.good b then some (Value.tuple #[Value.bool false, Value.int IntKind.i64 5]) else none))) else 
             (bif b.k == 7 then 
              (bif leafIn.idOk b.id then 
               (bif !S.good a then some (Value.tuple #[Value.bool false, Value.int IntKind.i64 5]) else 
                (bif !S.good b then some (Value.tuple #[Value.bool false, Value.int IntKind.i64 5]) else some (Value.tuple #[Value.bool (3 == 7 && (a.b == false && (Op.floatEq FloatKind.f64 0 0 && (ByteArray.mk #[] == ByteArray.mk #[] && (0 == b.id && true))))), Value.int IntKind.i64 0]))) else 
               (bif !S.good a then some (Value.tuple #[Value.bool false, Value.int IntKind.i64 5]) else 
                (bif !S.good b then some (Value.tuple #[Value.bool false, Value.int IntKind.i64 5]) else none))) else 
              (bif !S.good a then some (Value.tuple #[Value.bool false, Value.int IntKind.i64 5]) else 
               (bif !S.good b then some (Value.tuple #[Value.bool false, Value.int IntKind.i64 5]) else none))))))))) else 
       (bif a.k == 4 then 
        (bif b.k == 1 then 
         (bif !S.good a then some (Value.tuple #[Value.bool false, Value.int IntKind.i64 5]) else 
          (bif !S.good b then some (Value.tuple #[Value.bool false, Value.int IntKind.i64 5]) else some (Value.tuple #[Value.bool false, Value.int IntKind.i64 0]))) else 
         (bif b.k == 2 then 
          (bif !S.good a then some (Value.tuple #[Value.bool false, Value.int IntKind.i64 5]) else 
           (bif !S.good b then some (Value.tuple #[Value.bool false, Value.int IntKind.i64 5]) else some (Value.tuple #[Value.bool false, Value.int IntKind.i64 0]))) else 
          (bif b.k == 3 then 
           (bif !S.good a then some (Value.tuple #[Value.bool false, Value.int IntKind.i64 5]) else 
            (bif !S.good b then some (Value.tuple #[Value.bool false, Value.int IntKind.i64 5]) else some (Value.tuple #[Value.bool false, Value.int IntKind.i64 0]))) else 
           (bif b.k == 4 then 
            (bif !S.good a then some (Value.tuple #[Value.bool false, Value.int IntKind.i64 5]) else 
             (bif !S.good b then some (Value.tuple #[Value.bool false, Value.int IntKind.i64 5]) else some (Value.tuple #[Value.bool (S.numSame a.n b.n), Value.int IntKind.i64 0]))) else 
            (bif b.k == 5 then 
             (bif leafIn.strOk b.s then 
              (bif !S.good a then some (Value.tuple #[Value.bool false, Value.int IntKind.i64 5]) else 
               (bif !S.good b then some (Value.tuple #[Value.bool false, Value.int IntKind.i64 5]) else some (Value.tuple #[Value.bool false, Value.int IntKind.i64 0]))) else 
              (bif !S.good a then some (Value.tuple #[Value.bool false, Value.int IntKind.i64 5]) else 
               (bif !S.good b then some (Value.tuple #[Value.bool false, Value.int IntKind.i64 5]) else some (Value.tuple #[Value.bool false, Value.int IntKind.i64 0])))) else 
             (bif b.k == 6 then 
              (bif leafIn.idOk b.id then 
               (bif !S.good a then some (Value.tuple #[Value.bool false, Value.int IntKind.i64 5]) else 
                (bif !S.good b then some (Value.tuple #[Value.bool false, Value.int IntKind.i64 5]) else some (Value.tuple #[Value.bool false, Value.int IntKind.i64 0]))) else 
               (bif !S.good a then some (Value.tuple #[Value.bool false, Value.int IntKind.i64 5]) else 
                (bif !S.good b then some (Value.tuple #[Value.bool false, Value.int IntKind.i64 5]) else some (Value.tuple #[Value.bool false, Value.int IntKind.i64 0])))) else 
              (bif b.k == 7 then 
               (bif leafIn.idOk b.id then 
                (bif !S.good a then some (Value.tuple #[Value.bool false, Value.int IntKind.i64 5]) else 
                 (bif !S.good b then some (Value.tuple #[Value.bool false, Value.int IntKind.i64 5]) else some (Value.tuple #[Value.bool false, Value.int IntKind.i64 0]))) else 
                (bif !S.good a then some (Value.tuple #[Value.bool false, Value.int IntKind.i64 5]) else 
                 (bif !S.good b then some (Value.tuple #[Value.bool false, Value.int IntKind.i64 5]) else some (Value.tuple #[Value.bool false, Value.int IntKind.i64 0])))) else 
               (bif !S.good a then some (Value.tuple #[Value.bool false, Value.int IntKind.i64 5]) else 
                (bif !S.good b then some (Value.tuple #[Value.bool false, Value.int IntKind.i64 5]) else some (Value.tuple #[Value.bool false, Value.int IntKind.i64 0])))))))))) else 
        (bif a.k == 5 then 
         (bif leafIn.strOk a.s then 
          (bif b.k == 1 then 
           (bif !S.good a then some (Value.tuple #[Value.bool false, Value.int IntKind.i64 5]) else 
            (bif !S.good b then some (Value.tuple #[Value.bool false, Value.int IntKind.i64 5]) else some (Value.tuple #[Value.bool (5 == 1 && (false == false && (Op.floatEq FloatKind.f64 0 0 && (a.s == ByteArray.mk #[] && (0 == 0 && true))))), Value.int IntKind.i64 0]))) else 
           (bif b.k == 2 then 
            (bif !S.good a then some (Value.tuple #[Value.bool false, Value.int IntKind.i64 5]) else 
             (bif !S.good b then some (Value.tuple #[Value.bool false, Value.int IntKind.i64 5]) else some (Value.tuple #[Value.bool (5 == 2 && (false == false && (Op.floatEq FloatKind.f64 0 0 && (a.s == ByteArray.mk #[] && (0 == 0 && true))))), Value.int IntKind.i64 0]))) else 
            (bif b.k == 3 then 
             (bif !S.good a then some (Value.tuple #[Value.bool false, Value.int IntKind.i64 5]) else 
              (bif !S.good b then some (Value.tuple #[Value.bool false, Value.int IntKind.i64 5]) else some (Value.tuple #[Value.bool (5 == 3 && (false == b.b && (Op.floatEq FloatKind.f64 0 0 && (a.s == ByteArray.mk #[] && (0 == 0 && true))))), Value.int IntKind.i64 0]))) else 
             (bif b.k == 4 then 
              (bif !S.good a then some (Value.tuple #[Value.bool false, Value.int IntKind.i64 5]) else 
               (bif !S.good b then some (Value.tuple #[Value.bool false, Value.int IntKind.i64 5]) else some (Value.tuple #[Value.bool (5 == 4 && (false == false && (Op.floatEq FloatKind.f64 0 b.n && (a.s == ByteArray.mk #[] && (0 == 0 && true))))), Value.int IntKind.i64 0]))) else 
              (bif b.k == 5 then 
               (bif leafIn.strOk b.s then 
                (bif !S.good a then some (Value.tuple #[Value.bool false, Value.int IntKind.i64 5]) else 
                 (bif !S.good b then some (Value.tuple #[Value.bool false, Value.int IntKind.i64 5]) else some (Value.tuple #[Value.bool (5 == 5 && (false == false && (Op.floatEq FloatKind.f64 0 0 && (a.s == b.s && (0 == 0 && true))))), Value.int IntKind.i64 0]))) else 
                (bif !S.good a then some (Value.tuple #[Value.bool false, Value.int IntKind.i64 5]) else 
                 (bif !S.good b then some (Value.tuple #[Value.bool false, Value.int IntKind.i64 5]) else none))) else 
               (bif b.k == 6 then 
                (bif leafIn.idOk b.id then 
                 (bif !S.good a then some (Value.tuple #[Value.bool false, Value.int IntKind.i64 5]) else 
                  (bif !S.good b then some (Value.tuple #[Value.bool false, Value.int IntKind.i64 5]) else some (Value.tuple #[Value.bool (5 == 6 && (false == false && (Op.floatEq FloatKind.f64 0 0 && (a.s == ByteArray.mk #[] && (0 == b.id && true))))), Value.int IntKind.i64 0]))) else 
                 (bif !S.good a then some (Value.tuple #[Value.bool false, Value.int IntKind.i64 5]) else 
                  (bif !S.good b then some (Value.tuple #[Value.bool false, Value.int IntKind.i64 5]) else none))) else 
                (bif b.k == 7 then 
                 (bif leafIn.idOk b.id then 
                  (bif !S.good a then some (Value.tuple #[Value.bool false, Value.int IntKind.i64 5]) else 
                   (bif !S.good b then some (Value.tuple #[Value.bool false, Value.int IntKind.i64 5]) else some (Value.tuple #[Value.bool (5 == 7 && (false == false && (Op.floatEq FloatKind.f64 0 0 && (a.s == ByteArray.mk #[] && (0 == b.id && true))))), Value.int IntKind.i64 0]))) else 
                  (bif !S.good a then some (Value.tuple #[Value.bool false, Value.int IntKind.i64 5]) else 
                   (bif !S.good b then some (Value.tuple #[Value.bool false, Value.int IntKind.i64 5]) else none))) else 
                 (bif !S.good a then some (Value.tuple #[Value.bool false, Value.int IntKind.i64 5]) else 
                  (bif !S.good b then some (Value.tuple #[Value.bool false, Value.int IntKind.i64 5]) else none))))))))) else 
          (bif b.k == 1 then 
           (bif !S.good a then some (Value.tuple #[Value.bool false, Value.int IntKind.i64 5]) else 
            (bif !S.good b then some (Value.tuple #[Value.bool false, Value.int IntKind.i64 5]) else none)) else 
           (bif b.k == 2 then 
            (bif !S.good a then some (Value.tuple #[Value.bool false, Value.int IntKind.i64 5]) else 
             (bif !S.good b then some (Value.tuple #[Value.bool false, Value.int IntKind.i64 5]) else none)) else 
            (bif b.k == 3 then 
             (bif !S.good a then some (Value.tuple #[Value.bool false, Value.int IntKind.i64 5]) else 
              (bif !S.good b then some (Value.tuple #[Value.bool false, Value.int IntKind.i64 5]) else none)) else 
             (bif b.k == 4 then 
              (bif !S.good a then some (Value.tuple #[Value.bool false, Value.int IntKind.i64 5]) else 
               (bif !S.good b then some (Value.tuple #[Value.bool false, Value.int IntKind.i64 5]) else none)) else 
              (bif b.k == 5 then 
               (bif leafIn.strOk b.s then 
                (bif !S.good a then some (Value.tuple #[Value.bool false, Value.int IntKind.i64 5]) else 
                 (bif !S.good b then some (Value.tuple #[Value.bool false, Value.int IntKind.i64 5]) else none)) else 
                (bif !S.good a then some (Value.tuple #[Value.bool false, Value.int IntKind.i64 5]) else 
                 (bif !S.good b then some (Value.tuple #[Value.bool false, Value.int IntKind.i64 5]) else none))) else 
               (bif b.k == 6 then 
                (bif leafIn.idOk b.id then 
                 (bif !S.good a then some (Value.tuple #[Value.bool false, Value.int IntKind.i64 5]) else 
                  (bif !S.good b then some (Value.tuple #[Value.bool false, Value.int IntKind.i64 5]) else none)) else 
                 (bif !S.good a then some (Value.tuple #[Value.bool false, Value.int IntKind.i64 5]) else 
                  (bif !S.good b then some (Value.tuple #[Value.bool false, Value.int IntKind.i64 5]) else none))) else 
                (bif b.k == 7 then 
                 (bif leafIn.idOk b.id then 
                  (bif !S.good a then some (Value.tuple #[Value.bool false, Value.int IntKind.i64 5]) else 
                   (bif !S.good b then some (Value.tuple #[Value.bool false, Value.int IntKind.i64 5]) else none)) else 
                  (bif !S.good a then some (Value.tuple #[Value.bool false, Value.int IntKind.i64 5]) else 
                   (bif !S.good b then some (Value.tuple #[Value.bool false, Value.int IntKind.i64 5]) else none))) else 
                 (bif !S.good a then some (Value.tuple #[Value.bool false, Value.int IntKind.i64 5]) else 
                  (bif !S.good b then some (Value.tuple #[Value.bool false, Value.int IntKind.i64 5]) else none)))))))))) else 
         (bif a.k == 6 then 
          (bif leafIn.idOk a.id then 
           (bif b.k == 1 then 
            (bif !S.good a then some (Value.tuple #[Value.bool false, Value.int IntKind.i64 5]) else 
             (bif !S.good b then some (Value.tuple #[Value.bool false, Value.int IntKind.i64 5]) else some (Value.tuple #[Value.bool (6 == 1 && (false == false && (Op.floatEq FloatKind.f64 0 0 && (ByteArray.mk #[] == ByteArray.mk #[] && (a.id == 0 && true))))), Value.int IntKind.i64 0]))) else 
            (bif b.k == 2 then 
             (bif !S.good a then some (Value.tuple #[Value.bool false, Value.int IntKind.i64 5]) else 
              (bif !S.good b then some (Value.tuple #[Value.bool false, Value.int IntKind.i64 5]) else some (Value.tuple #[Value.bool (6 == 2 && (false == false && (Op.floatEq FloatKind.f64 0 0 && (ByteArray.mk #[] == ByteArray.mk #[] && (a.id == 0 && true))))), Value.int IntKind.i64 0]))) else 
             (bif b.k == 3 then 
              (bif !S.good a then some (Value.tuple #[Value.bool false, Value.int IntKind.i64 5]) else 
               (bif !S.good b then some (Value.tuple #[Value.bool false, Value.int IntKind.i64 5]) else some (Value.tuple #[Value.bool (6 == 3 && (false == b.b && (Op.floatEq FloatKind.f64 0 0 && (ByteArray.mk #[] == ByteArray.mk #[] && (a.id == 0 && true))))), Value.int IntKind.i64 0]))) else 
              (bif b.k == 4 then 
               (bif !S.good a then some (Value.tuple #[Value.bool false, Value.int IntKind.i64 5]) else 
                (bif !S.good b then some (Value.tuple #[Value.bool false, Value.int IntKind.i64 5]) else some (Value.tuple #[Value.bool (6 == 4 && (false == false && (Op.floatEq FloatKind.f64 0 b.n && (ByteArray.mk #[] == ByteArray.mk #[] && (a.id == 0 && true))))), Value.int IntKind.i64 0]))) else 
               (bif b.k == 5 then 
                (bif leafIn.strOk b.s then 
                 (bif !S.good a then some (Value.tuple #[Value.bool false, Value.int IntKind.i64 5]) else 
                  (bif !S.good b then some (Value.tuple #[Value.bool false, Value.int IntKind.i64 5]) else some (Value.tuple #[Value.bool (6 == 5 && (false == false && (Op.floatEq FloatKind.f64 0 0 && (ByteArray.mk #[] == b.s && (a.id == 0 && true))))), Value.int IntKind.i64 0]))) else 
                 (bif !S.good a then some (Value.tuple #[Value.bool false, Value.int IntKind.i64 5]) else 
                  (bif !S.good b then some (Value.tuple #[Value.bool false, Value.int IntKind.i64 5]) else none))) else 
                (bif b.k == 6 then 
                 (bif leafIn.idOk b.id then 
                  (bif !S.good a then some (Value.tuple #[Value.bool false, Value.int IntKind.i64 5]) else 
                   (bif !S.good b then some (Value.tuple #[Value.bool false, Value.int IntKind.i64 5]) else some (Value.tuple #[Value.bool (6 == 6 && (false == false && (Op.floatEq FloatKind.f64 0 0 && (ByteArray.mk #[] == ByteArray.mk #[] && (a.id == b.id && true))))), Value.int IntKind.i64 0]))) else 
                  (bif !S.good a then some (Value.tuple #[Value.bool false, Value.int IntKind.i64 5]) else 
                   (bif !S.good b then some (Value.tuple #[Value.bool false, Value.int IntKind.i64 5]) else none))) else 
                 (bif b.k == 7 then 
                  (bif leafIn.idOk b.id then 
                   (bif !S.good a then some (Value.tuple #[Value.bool false, Value.int IntKind.i64 5]) else 
                    (bif !S.good b then some (Value.tuple #[Value.bool false, Value.int IntKind.i64 5]) else some (Value.tuple #[Value.bool (6 == 7 && (false == false && (Op.floatEq FloatKind.f64 0 0 && (ByteArray.mk #[] == ByteArray.mk #[] && (a.id == b.id && true))))), Value.int IntKind.i64 0]))) else 
                   (bif !S.good a then some (Value.tuple #[Value.bool false, Value.int IntKind.i64 5]) else 
                    (bif !S.good b then some (Value.tuple #[Value.bool false, Value.int IntKind.i64 5]) else none))) else 
                  (bif !S.good a then some (Value.tuple #[Value.bool false, Value.int IntKind.i64 5]) else 
                   (bif !S.good b then some (Value.tuple #[Value.bool false, Value.int IntKind.i64 5]) else none))))))))) else 
           (bif b.k == 1 then 
            (bif !S.good a then some (Value.tuple #[Value.bool false, Value.int IntKind.i64 5]) else 
             (bif !S.good b then some (Value.tuple #[Value.bool false, Value.int IntKind.i64 5]) else none)) else 
            (bif b.k == 2 then 
             (bif !S.good a then some (Value.tuple #[Value.bool false, Value.int IntKind.i64 5]) else 
              (bif !S.good b then some (Value.tuple #[Value.bool false, Value.int IntKind.i64 5]) else none)) else 
             (bif b.k == 3 then 
              (bif !S.good a then some (Value.tuple #[Value.bool false, Value.int IntKind.i64 5]) else 
               (bif !S.good b then some (Value.tuple #[Value.bool false, Value.int IntKind.i64 5]) else none)) else 
              (bif b.k == 4 then 
               (bif !S.good a then some (Value.tuple #[Value.bool false, Value.int IntKind.i64 5]) else 
                (bif !S.good b then some (Value.tuple #[Value.bool false, Value.int IntKind.i64 5]) else none)) else 
               (bif b.k == 5 then 
                (bif leafIn.strOk b.s then 
                 (bif !S.good a then some (Value.tuple #[Value.bool false, Value.int IntKind.i64 5]) else 
                  (bif !S.good b then some (Value.tuple #[Value.bool false, Value.int IntKind.i64 5]) else none)) else 
                 (bif !S.good a then some (Value.tuple #[Value.bool false, Value.int IntKind.i64 5]) else 
                  (bif !S.good b then some (Value.tuple #[Value.bool false, Value.int IntKind.i64 5]) else none))) else 
                (bif b.k == 6 then 
                 (bif leafIn.idOk b.id then 
                  (bif !S.good a then some (Value.tuple #[Value.bool false, Value.int IntKind.i64 5]) else 
                   (bif !S.good b then some (Value.tuple #[Value.bool false, Value.int IntKind.i64 5]) else none)) else 
                  (bif !S.good a then some (Value.tuple #[Value.bool false, Value.int IntKind.i64 5]) else 
                   (bif !S.good b then some (Value.tuple #[Value.bool false, Value.int IntKind.i64 5]) else none))) else 
                 (bif b.k == 7 then 
                  (bif leafIn.idOk b.id then 
                   (bif !S.good a then some (Value.tuple #[Value.bool false, Value.int IntKind.i64 5]) else 
                    (bif !S.good b then some (Value.tuple #[Value.bool false, Value.int IntKind.i64 5]) else none)) else 
                   (bif !S.good a then some (Value.tuple #[Value.bool false, Value.int IntKind.i64 5]) else 
                    (bif !S.good b then some (Value.tuple #[Value.bool false, Value.int IntKind.i64 5]) else none))) else 
                  (bif !S.good a then some (Value.tuple #[Value.bool false, Value.int IntKind.i64 5]) else 
                   (bif !S.good b then some (Value.tuple #[Value.bool false, Value.int IntKind.i64 5]) else none)))))))))) else 
          (bif a.k == 7 then 
           (bif leafIn.idOk a.id then 
            (bif b.k == 1 then 
             (bif !S.good a then some (Value.tuple #[Value.bool false, Value.int IntKind.i64 5]) else 
              (bif !S.good b then some (Value.tuple #[Value.bool false, Value.int IntKind.i64 5]) else some (Value.tuple #[Value.bool (7 == 1 && (false == false && (Op.floatEq FloatKind.f64 0 0 && (ByteArray.mk #[] == ByteArray.mk #[] && (a.id == 0 && true))))), Value.int IntKind.i64 0]))) else 
             (bif b.k == 2 then 
              (bif !S.good a then some (Value.tuple #[Value.bool false, Value.int IntKind.i64 5]) else 
               (bif !S.good b then some (Value.tuple #[Value.bool false, Value.int IntKind.i64 5]) else some (Value.tuple #[Value.bool (7 == 2 && (false == false && (Op.floatEq FloatKind.f64 0 0 && (ByteArray.mk #[] == ByteArray.mk #[] && (a.id == 0 && true))))), Value.int IntKind.i64 0]))) else 
              (bif b.k == 3 then 
               (bif !S.good a then some (Value.tuple #[Value.bool false, Value.int IntKind.i64 5]) else 
                (bif !S.good b then some (Value.tuple #[Value.bool false, Value.int IntKind.i64 5]) else some (Value.tuple #[Value.bool (7 == 3 && (false == b.b && (Op.floatEq FloatKind.f64 0 0 && (ByteArray.mk #[] == ByteArray.mk #[] && (a.id == 0 && true))))), Value.int IntKind.i64 0]))) else 
               (bif b.k == 4 then 
                (bif !S.good a then some (Value.tuple #[Value.bool false, Value.int IntKind.i64 5]) else 
                 (bif !S.good b then some (Value.tuple #[Value.bool false, Value.int IntKind.i64 5]) else some (Value.tuple #[Value.bool (7 == 4 && (false == false && (Op.floatEq FloatKind.f64 0 b.n && (ByteArray.mk #[] == ByteArray.mk #[] && (a.id == 0 && true))))), Value.int IntKind.i64 0]))) else 
                (bif b.k == 5 then 
                 (bif leafIn.strOk b.s then 
                  (bif !S.good a then some (Value.tuple #[Value.bool false, Value.int IntKind.i64 5]) else 
                   (bif !S.good b then some (Value.tuple #[Value.bool false, Value.int IntKind.i64 5]) else some (Value.tuple #[Value.bool (7 == 5 && (false == false && (Op.floatEq FloatKind.f64 0 0 && (ByteArray.mk #[] == b.s && (a.id == 0 && true))))), Value.int IntKind.i64 0]))) else 
                  (bif !S.good a then some (Value.tuple #[Value.bool false, Value.int IntKind.i64 5]) else 
                   (bif !S.good b then some (Value.tuple #[Value.bool false, Value.int IntKind.i64 5]) else none))) else 
                 (bif b.k == 6 then 
                  (bif leafIn.idOk b.id then 
                   (bif !S.good a then some (Value.tuple #[Value.bool false, Value.int IntKind.i64 5]) else 
                    (bif !S.good b then some (Value.tuple #[Value.bool false, Value.int IntKind.i64 5]) else some (Value.tuple #[Value.bool (7 == 6 && (false == false && (Op.floatEq FloatKind.f64 0 0 && (ByteArray.mk #[] == ByteArray.mk #[] && (a.id == b.id && true))))), Value.int IntKind.i64 0]))) else 
                   (bif !S.good a then some (Value.tuple #[Value.bool false, Value.int IntKind.i64 5]) else 
                    (bif !S.good b then some (Value.tuple #[Value.bool false, Value.int IntKind.i64 5]) else none))) else 
                  (bif b.k == 7 then 
                   (bif leafIn.idOk b.id then 
                    (bif !S.good a then some (Value.tuple #[Value.bool false, Value.int IntKind.i64 5]) else 
                     (bif !S.good b then some (Value.tuple #[Value.bool false, Value.int IntKind.i64 5]) else some (Value.tuple #[Value.bool (7 == 7 && (false == false && (Op.floatEq FloatKind.f64 0 0 && (ByteArray.mk #[] == ByteArray.mk #[] && (a.id == b.id && true))))), Value.int IntKind.i64 0]))) else 
                    (bif !S.good a then some (Value.tuple #[Value.bool false, Value.int IntKind.i64 5]) else 
                     (bif !S.good b then some (Value.tuple #[Value.bool false, Value.int IntKind.i64 5]) else none))) else 
                   (bif !S.good a then some (Value.tuple #[Value.bool false, Value.int IntKind.i64 5]) else 
                    (bif !S.good b then some (Value.tuple #[Value.bool false, Value.int IntKind.i64 5]) else none))))))))) else 
            (bif b.k == 1 then 
             (bif !S.good a then some (Value.tuple #[Value.bool false, Value.int IntKind.i64 5]) else 
              (bif !S.good b then some (Value.tuple #[Value.bool false, Value.int IntKind.i64 5]) else none)) else 
             (bif b.k == 2 then 
              (bif !S.good a then some (Value.tuple #[Value.bool false, Value.int IntKind.i64 5]) else 
               (bif !S.good b then some (Value.tuple #[Value.bool false, Value.int IntKind.i64 5]) else none)) else 
              (bif b.k == 3 then 
               (bif !S.good a then some (Value.tuple #[Value.bool false, Value.int IntKind.i64 5]) else 
                (bif !S.good b then some (Value.tuple #[Value.bool false, Value.int IntKind.i64 5]) else none)) else 
               (bif b.k == 4 then 
                (bif !S.good a then some (Value.tuple #[Value.bool false, Value.int IntKind.i64 5]) else 
                 (bif !S.good b then some (Value.tuple #[Value.bool false, Value.int IntKind.i64 5]) else none)) else 
                (bif b.k == 5 then 
                 (bif leafIn.strOk b.s then 
                  (bif !S.good a then some (Value.tuple #[Value.bool false, Value.int IntKind.i64 5]) else 
                   (bif !S.good b then some (Value.tuple #[Value.bool false, Value.int IntKind.i64 5]) else none)) else 
                  (bif !S.good a then some (Value.tuple #[Value.bool false, Value.int IntKind.i64 5]) else 
                   (bif !S.good b then some (Value.tuple #[Value.bool false, Value.int IntKind.i64 5]) else none))) else 
                 (bif b.k == 6 then 
                  (bif leafIn.idOk b.id then 
                   (bif !S.good a then some (Value.tuple #[Value.bool false, Value.int IntKind.i64 5]) else 
                    (bif !S.good b then some (Value.tuple #[Value.bool false, Value.int IntKind.i64 5]) else none)) else 
                   (bif !S.good a then some (Value.tuple #[Value.bool false, Value.int IntKind.i64 5]) else 
                    (bif !S.good b then some (Value.tuple #[Value.bool false, Value.int IntKind.i64 5]) else none))) else 
                  (bif b.k == 7 then 
                   (bif leafIn.idOk b.id then 
                    (bif !S.good a then some (Value.tuple #[Value.bool false, Value.int IntKind.i64 5]) else 
                     (bif !S.good b then some (Value.tuple #[Value.bool false, Value.int IntKind.i64 5]) else none)) else 
                    (bif !S.good a then some (Value.tuple #[Value.bool false, Value.int IntKind.i64 5]) else 
                     (bif !S.good b then some (Value.tuple #[Value.bool false, Value.int IntKind.i64 5]) else none))) else 
                   (bif !S.good a then some (Value.tuple #[Value.bool false, Value.int IntKind.i64 5]) else 
                    (bif !S.good b then some (Value.tuple #[Value.bool false, Value.int IntKind.i64 5]) else none)))))))))) else 
           (bif b.k == 1 then 
            (bif !S.good a then some (Value.tuple #[Value.bool false, Value.int IntKind.i64 5]) else 
             (bif !S.good b then some (Value.tuple #[Value.bool false, Value.int IntKind.i64 5]) else none)) else 
            (bif b.k == 2 then 
             (bif !S.good a then some (Value.tuple #[Value.bool false, Value.int IntKind.i64 5]) else 
              (bif !S.good b then some (Value.tuple #[Value.bool false, Value.int IntKind.i64 5]) else none)) else 
             (bif b.k == 3 then 
              (bif !S.good a then some (Value.tuple #[Value.bool false, Value.int IntKind.i64 5]) else 
               (bif !S.good b then some (Value.tuple #[Value.bool false, Value.int IntKind.i64 5]) else none)) else 
              (bif b.k == 4 then 
               (bif !S.good a then some (Value.tuple #[Value.bool false, Value.int IntKind.i64 5]) else 
                (bif !S.good b then some (Value.tuple #[Value.bool false, Value.int IntKind.i64 5]) else none)) else 
               (bif b.k == 5 then 
                (bif leafIn.strOk b.s then 
                 (bif !S.good a then some (Value.tuple #[Value.bool false, Value.int IntKind.i64 5]) else 
                  (bif !S.good b then some (Value.tuple #[Value.bool false, Value.int IntKind.i64 5]) else none)) else 
                 (bif !S.good a then some (Value.tuple #[Value.bool false, Value.int IntKind.i64 5]) else 
                  (bif !S.good b then some (Value.tuple #[Value.bool false, Value.int IntKind.i64 5]) else none))) else 
                (bif b.k == 6 then 
                 (bif leafIn.idOk b.id then 
                  (bif !S.good a then some (Value.tuple #[Value.bool false, Value.int IntKind.i64 5]) else 
                   (bif !S.good b then some (Value.tuple #[Value.bool false, Value.int IntKind.i64 5]) else none)) else 
                  (bif !S.good a then some (Value.tuple #[Value.bool false, Value.int IntKind.i64 5]) else 
                   (bif !S.good b then some (Value.tuple #[Value.bool false, Value.int IntKind.i64 5]) else none))) else 
                 (bif b.k == 7 then 
                  (bif leafIn.idOk b.id then 
                   (bif !S.good a then some (Value.tuple #[Value.bool false, Value.int IntKind.i64 5]) else 
                    (bif !S.good b then some (Value.tuple #[Value.bool false, Value.int IntKind.i64 5]) else none)) else 
                   (bif !S.good a then some (Value.tuple #[Value.bool false, Value.int IntKind.i64 5]) else 
                    (bif !S.good b then some (Value.tuple #[Value.bool false, Value.int IntKind.i64 5]) else none))) else 
                  (bif !S.good a then some (Value.tuple #[Value.bool false, Value.int IntKind.i64 5]) else 
                   (bif !S.good b then some (Value.tuple #[Value.bool false, Value.int IntKind.i64 5]) else none))))))))))))))))) (by kernel_rfl) (by
    simp only [T.same, DT.val_node, DT.val_leaf, DT.bind, DT.val_bad]
    repeat' (first | (with_reducible refine bif_neq (fun h => ?_) (fun h => ?_)) | (with_reducible refine bif_and (fun h => ?_) (fun h => ?_)) | (with_reducible refine bif_eq (fun h => ?_) (fun h => ?_)))
    all_goals first | (simp only [*, cond_true, cond_false, Bool.and_true, Bool.true_and, Bool.and_false, Bool.false_and, Bool.not_true, Bool.not_false]; done) | (exfalso; simp_all [S.good]; done) | (simp_all [S.same, S.good, S.emp, beq_toListBytes, FloatEq.f00]; done) | (simp_all [S.same, S.good, S.emp, beq_toListBytes, FloatEq.f00]))
theorem ent_same : E (99, onVV T.same) := byEv Hents4 60 fun args t h => by
  obtain ⟨a, b, rfl, rfl⟩ := onVV_eq h
  exact ev_same a b
abbrev HL5 : Tab := (99, onVV T.same) :: HL4
theorem Hents5 : ∀ p ∈ HL5, E p := entries_cons ent_same Hents4
set_option maxHeartbeats 4000000 in
theorem ev_callable (v : V) : evFn Tryd.prog ext (tab HL5) 40 93 [v.agg] = (T.callable v).val :=
  Eq.trans (b := 
    (bif S.absent v then some (Value.bool true) else 
     (bif S.good v then 
      (bif v.k == 1 then some (Value.bool true) else some (Value.bool (v.k == 7))) else some (Value.bool false)))) (by kernel_rfl) (by
    simp only [T.callable, T.B, DT.val_node, DT.val_leaf, DT.bind, DT.val_bad]
    repeat' (first | (with_reducible refine bif_neq (fun h => ?_) (fun h => ?_)) | (with_reducible refine bif_and (fun h => ?_) (fun h => ?_)) | (with_reducible refine bif_eq (fun h => ?_) (fun h => ?_)))
    all_goals first | (simp only [*, S.callable, cond_true, cond_false, Bool.and_true, Bool.true_and, Bool.and_false, Bool.false_and, Bool.or_true, Bool.true_or, Bool.or_false, Bool.false_or, Bool.not_true, Bool.not_false, beq_self_eq_true, bne_self_eq_false, Bool.not_not]; done) | (exfalso; simp_all; done) | (simp_all [S.callable]; done) | grind [S.callable])
theorem ent_callable : E (93, onV T.callable) := byEv Hents5 40 fun args t h => by
  obtain ⟨v, rfl, rfl⟩ := onV_eq h
  exact ev_callable v
abbrev HL6 : Tab := (93, onV T.callable) :: HL5
theorem Hents6 : ∀ p ∈ HL6, E p := entries_cons ent_callable Hents5
set_option maxHeartbeats 4000000 in
theorem ev_tri (t : Int) : evFn Tryd.prog ext (tab HL6) 40 94 [.int .i64 t] = (T.tri t).val :=
  Eq.trans (b := 
    (bif decide (t ≥ 0) then some (Value.bool (decide (t ≤ 2))) else some (Value.bool false))) (by kernel_rfl) (by
    simp only [T.tri, T.B, DT.val_node, DT.val_leaf, DT.bind, DT.val_bad]
    repeat' (first | (with_reducible refine bif_neq (fun h => ?_) (fun h => ?_)) | (with_reducible refine bif_and (fun h => ?_) (fun h => ?_)) | (with_reducible refine bif_eq (fun h => ?_) (fun h => ?_)))
    all_goals first | (simp only [*, S.tri, cond_true, cond_false, Bool.and_true, Bool.true_and, Bool.and_false, Bool.false_and, Bool.or_true, Bool.true_or, Bool.or_false, Bool.false_or, Bool.not_true, Bool.not_false, beq_self_eq_true, bne_self_eq_false, Bool.not_not]; done) | (exfalso; simp_all; done) | (simp_all [S.tri]; done) | grind [S.tri])
theorem ent_tri : E (94, onI T.tri) := byEv Hents6 40 fun args t h => by
  obtain ⟨t, rfl, rfl⟩ := onI_eq h
  exact ev_tri t
abbrev HL7 : Tab := (94, onI T.tri) :: HL6
theorem Hents7 : ∀ p ∈ HL7, E p := entries_cons ent_tri Hents6
set_option maxHeartbeats 4000000 in
theorem ev_kind (d : D) : evFn Tryd.prog ext (tab HL7) 40 52 [d.agg] = (T.kind d).val :=
  Eq.trans (b := 
    (bif !S.absent d.v then 
     (bif S.good d.v then 
      (bif !S.callable d.g then some (Value.tuple #[Value.int IntKind.i64 0, Value.bool false]) else 
       (bif !S.callable d.t then some (Value.tuple #[Value.int IntKind.i64 0, Value.bool false]) else 
        (bif !S.tri d.w then some (Value.tuple #[Value.int IntKind.i64 0, Value.bool false]) else 
         (bif !S.tri d.e then some (Value.tuple #[Value.int IntKind.i64 0, Value.bool false]) else 
          (bif !S.tri d.c then some (Value.tuple #[Value.int IntKind.i64 0, Value.bool false]) else 
           (bif d.g.k != 0 then 
            (bif d.v.k != 0 then some (Value.tuple #[Value.int IntKind.i64 1, Value.bool !true]) else 
             (bif d.w != 0 then some (Value.tuple #[Value.int IntKind.i64 1, Value.bool !true]) else some (Value.tuple #[Value.int IntKind.i64 2, Value.bool true]))) else 
            (bif d.v.k != 0 then some (Value.tuple #[Value.int IntKind.i64 1, Value.bool !d.t.k != 0]) else 
             (bif d.w != 0 then some (Value.tuple #[Value.int IntKind.i64 1, Value.bool !d.t.k != 0]) else 
              (bif d.t.k != 0 then some (Value.tuple #[Value.int IntKind.i64 2, Value.bool true]) else some (Value.tuple #[Value.int IntKind.i64 0, Value.bool true])))))))))) else some (Value.tuple #[Value.int IntKind.i64 0, Value.bool false])) else 
     (bif !S.callable d.g then some (Value.tuple #[Value.int IntKind.i64 0, Value.bool false]) else 
      (bif !S.callable d.t then some (Value.tuple #[Value.int IntKind.i64 0, Value.bool false]) else 
       (bif !S.tri d.w then some (Value.tuple #[Value.int IntKind.i64 0, Value.bool false]) else 
        (bif !S.tri d.e then some (Value.tuple #[Value.int IntKind.i64 0, Value.bool false]) else 
         (bif !S.tri d.c then some (Value.tuple #[Value.int IntKind.i64 0, Value.bool false]) else 
          (bif d.g.k != 0 then 
           (bif d.v.k != 0 then some (Value.tuple #[Value.int IntKind.i64 1, Value.bool !true]) else 
            (bif d.w != 0 then some (Value.tuple #[Value.int IntKind.i64 1, Value.bool !true]) else some (Value.tuple #[Value.int IntKind.i64 2, Value.bool true]))) else 
           (bif d.v.k != 0 then some (Value.tuple #[Value.int IntKind.i64 1, Value.bool !d.t.k != 0]) else 
            (bif d.w != 0 then some (Value.tuple #[Value.int IntKind.i64 1, Value.bool !d.t.k != 0]) else 
             (bif d.t.k != 0 then some (Value.tuple #[Value.int IntKind.i64 2, Value.bool true]) else some (Value.tuple #[Value.int IntKind.i64 0, Value.bool true])))))))))))) (by kernel_rfl) (by
    simp only [T.kind, DT.val_node, DT.val_leaf, DT.bind, DT.val_bad]
    repeat' (first | (with_reducible refine bif_neq (fun h => ?_) (fun h => ?_)) | (with_reducible refine bif_and (fun h => ?_) (fun h => ?_)) | (with_reducible refine bif_eq (fun h => ?_) (fun h => ?_)))
    all_goals first | (simp only [*, S.check, S.fields, S.hasD, S.hasA, S.there, cond_true, cond_false, Bool.and_true, Bool.true_and, Bool.and_false, Bool.false_and, Bool.or_true, Bool.true_or, Bool.or_false, Bool.false_or, Bool.not_true, Bool.not_false, beq_self_eq_true, bne_self_eq_false, Bool.not_not]; done) | (exfalso; simp_all; done) | (simp_all [S.check, S.fields, S.hasD, S.hasA, S.there]; done) | grind [S.check, S.fields, S.hasD, S.hasA, S.there])
theorem ent_kind : E (52, onD T.kind) := byEv Hents7 40 fun args t h => by
  obtain ⟨d, rfl, rfl⟩ := onD_eq h
  exact ev_kind d
abbrev HL8 : Tab := (52, onD T.kind) :: HL7
theorem Hents8 : ∀ p ∈ HL8, E p := entries_cons ent_kind Hents7
set_option maxHeartbeats 4000000 in
theorem ev_check (d : D) : evFn Tryd.prog ext (tab HL8) 40 16 [d.agg] = (T.check d).val :=
  Eq.trans (b := 
    (bif S.check d then 
     (bif S.hasD d then some (Value.int IntKind.i64 0) else 
      (bif S.hasA d then some (Value.int IntKind.i64 0) else some (Value.int IntKind.i64 0))) else 
     (bif S.fields d then some (Value.int IntKind.i64 5) else some (Value.int IntKind.i64 5)))) (by kernel_rfl) (by
    simp only [T.check, T.err, DT.val_node, DT.val_leaf, DT.bind, DT.val_bad]
    repeat' (first | (with_reducible refine bif_neq (fun h => ?_) (fun h => ?_)) | (with_reducible refine bif_and (fun h => ?_) (fun h => ?_)) | (with_reducible refine bif_eq (fun h => ?_) (fun h => ?_)))
    all_goals first | (simp only [*, cond_true, cond_false, Bool.and_true, Bool.true_and, Bool.and_false, Bool.false_and, Bool.or_true, Bool.true_or, Bool.or_false, Bool.false_or, Bool.not_true, Bool.not_false, beq_self_eq_true, bne_self_eq_false, Bool.not_not]; done) | (exfalso; simp_all; done) | (simp_all []; done) | grind [])
theorem ent_check : E (16, onD T.check) := byEv Hents8 40 fun args t h => by
  obtain ⟨d, rfl, rfl⟩ := onD_eq h
  exact ev_check d
abbrev HL9 : Tab := (16, onD T.check) :: HL8
theorem Hents9 : ∀ p ∈ HL9, E p := entries_cons ent_check Hents8
set_option maxHeartbeats 4000000 in
theorem ev_isA (d : D) : evFn Tryd.prog ext (tab HL9) 40 19 [d.agg] = (T.isA d).val :=
  Eq.trans (b := 
    (bif S.check d then 
     (bif S.hasD d then some (Value.bool (1 == 2)) else 
      (bif S.hasA d then some (Value.bool (2 == 2)) else some (Value.bool (0 == 2)))) else 
     (bif S.fields d then some (Value.bool false) else some (Value.bool false)))) (by kernel_rfl) (by
    simp only [T.isA, T.B, DT.val_node, DT.val_leaf, DT.bind, DT.val_bad]
    repeat' (first | (with_reducible refine bif_neq (fun h => ?_) (fun h => ?_)) | (with_reducible refine bif_and (fun h => ?_) (fun h => ?_)) | (with_reducible refine bif_eq (fun h => ?_) (fun h => ?_)))
    all_goals first | (simp only [*, S.isA, cond_true, cond_false, Bool.and_true, Bool.true_and, Bool.and_false, Bool.false_and, Bool.or_true, Bool.true_or, Bool.or_false, Bool.false_or, Bool.not_true, Bool.not_false, beq_self_eq_true, bne_self_eq_false, Bool.not_not]; done) | (exfalso; simp_all; done) | (simp_all [S.isA]; done) | grind [S.isA])
theorem ent_isA : E (19, onD T.isA) := byEv Hents9 40 fun args t h => by
  obtain ⟨d, rfl, rfl⟩ := onD_eq h
  exact ev_isA d
abbrev HL10 : Tab := (19, onD T.isA) :: HL9
theorem Hents10 : ∀ p ∈ HL10, E p := entries_cons ent_isA Hents9
set_option maxHeartbeats 4000000 in
theorem ev_isD (d : D) : evFn Tryd.prog ext (tab HL10) 40 21 [d.agg] = (T.isD d).val :=
  Eq.trans (b := 
    (bif S.check d then 
     (bif S.hasD d then some (Value.bool (1 == 1)) else 
      (bif S.hasA d then some (Value.bool (2 == 1)) else some (Value.bool (0 == 1)))) else 
     (bif S.fields d then some (Value.bool false) else some (Value.bool false)))) (by kernel_rfl) (by
    simp only [T.isD, T.B, DT.val_node, DT.val_leaf, DT.bind, DT.val_bad]
    repeat' (first | (with_reducible refine bif_neq (fun h => ?_) (fun h => ?_)) | (with_reducible refine bif_and (fun h => ?_) (fun h => ?_)) | (with_reducible refine bif_eq (fun h => ?_) (fun h => ?_)))
    all_goals first | (simp only [*, S.isD, cond_true, cond_false, Bool.and_true, Bool.true_and, Bool.and_false, Bool.false_and, Bool.or_true, Bool.true_or, Bool.or_false, Bool.false_or, Bool.not_true, Bool.not_false, beq_self_eq_true, bne_self_eq_false, Bool.not_not]; done) | (exfalso; simp_all; done) | (simp_all [S.isD]; done) | grind [S.isD])
theorem ent_isD : E (21, onD T.isD) := byEv Hents10 40 fun args t h => by
  obtain ⟨d, rfl, rfl⟩ := onD_eq h
  exact ev_isD d
abbrev HL11 : Tab := (21, onD T.isD) :: HL10
theorem Hents11 : ∀ p ∈ HL11, E p := entries_cons ent_isD Hents10
set_option maxHeartbeats 4000000 in
theorem ev_isG (d : D) : evFn Tryd.prog ext (tab HL11) 40 23 [d.agg] = (T.isG d).val :=
  Eq.trans (b := 
    (bif S.check d then 
     (bif S.hasD d then some (Value.bool (1 == 0)) else 
      (bif S.hasA d then some (Value.bool (2 == 0)) else some (Value.bool (0 == 0)))) else 
     (bif S.fields d then some (Value.bool false) else some (Value.bool false)))) (by kernel_rfl) (by
    simp only [T.isG, T.B, DT.val_node, DT.val_leaf, DT.bind, DT.val_bad]
    repeat' (first | (with_reducible refine bif_neq (fun h => ?_) (fun h => ?_)) | (with_reducible refine bif_and (fun h => ?_) (fun h => ?_)) | (with_reducible refine bif_eq (fun h => ?_) (fun h => ?_)))
    all_goals first | (simp only [*, S.isG, cond_true, cond_false, Bool.and_true, Bool.true_and, Bool.and_false, Bool.false_and, Bool.or_true, Bool.true_or, Bool.or_false, Bool.false_or, Bool.not_true, Bool.not_false, beq_self_eq_true, bne_self_eq_false, Bool.not_not]; done) | (exfalso; simp_all; done) | (simp_all [S.isG]; done) | grind [S.isG])
theorem ent_isG : E (23, onD T.isG) := byEv Hents11 40 fun args t h => by
  obtain ⟨d, rfl, rfl⟩ := onD_eq h
  exact ev_isG d
abbrev HL12 : Tab := (23, onD T.isG) :: HL11
theorem Hents12 : ∀ p ∈ HL12, E p := entries_cons ent_isG Hents11
end Go.Proofs.YtaojjpdlfnphiaaDoor.PDescKinds
end
section
/- Contracts by evaluation: what each function of a list answers. Written by a program of this session. -/
namespace Go.Proofs.YtaojjpdlfnphiaaDoor.PDescKinds
open Go.RowKit Go.Ev
set_option linter.unusedSimpArgs false
set_option linter.unusedVariables false
set_option maxRecDepth 100000
set_option maxHeartbeats 4000000 in
theorem ev_complete (d : D) : evFn Tryd.prog ext (tab HL12) 60 12 [d.agg] = (T.complete d).val :=
  Eq.trans (b := 
    (bif S.check d then 
     (bif S.hasD d then 
      (bif !d.v.k != 0 then 
       (bif d.w == 0 then 
        (bif d.e == 0 then 
         (bif d.c == 0 then some (Value.tuple #[(D.mk (V.mk 1 false 0 (ByteArray.mk #[]) 0) d.g d.t 1 1 1).agg, Value.int IntKind.i64 0]) else some (Value.tuple #[(D.mk (V.mk 1 false 0 (ByteArray.mk #[]) 0) d.g d.t 1 1 d.c).agg, Value.int IntKind.i64 0])) else 
         (bif d.c == 0 then some (Value.tuple #[(D.mk (V.mk 1 false 0 (ByteArray.mk #[]) 0) d.g d.t 1 d.e 1).agg, Value.int IntKind.i64 0]) else some (Value.tuple #[(D.mk (V.mk 1 false 0 (ByteArray.mk #[]) 0) d.g d.t 1 d.e d.c).agg, Value.int IntKind.i64 0]))) else 
        (bif d.e == 0 then 
         (bif d.c == 0 then some (Value.tuple #[(D.mk (V.mk 1 false 0 (ByteArray.mk #[]) 0) d.g d.t d.w 1 1).agg, Value.int IntKind.i64 0]) else some (Value.tuple #[(D.mk (V.mk 1 false 0 (ByteArray.mk #[]) 0) d.g d.t d.w 1 d.c).agg, Value.int IntKind.i64 0])) else 
         (bif d.c == 0 then some (Value.tuple #[(D.mk (V.mk 1 false 0 (ByteArray.mk #[]) 0) d.g d.t d.w d.e 1).agg, Value.int IntKind.i64 0]) else some (Value.tuple #[(D.mk (V.mk 1 false 0 (ByteArray.mk #[]) 0) d.g d.t d.w d.e d.c).agg, Value.int IntKind.i64 0])))) else 
       (bif d.w == 0 then 
        (bif d.e == 0 then 
         (bif d.c == 0 then some (Value.tuple #[(D.mk d.v d.g d.t 1 1 1).agg, Value.int IntKind.i64 0]) else some (Value.tuple #[(D.mk d.v d.g d.t 1 1 d.c).agg, Value.int IntKind.i64 0])) else 
         (bif d.c == 0 then some (Value.tuple #[(D.mk d.v d.g d.t 1 d.e 1).agg, Value.int IntKind.i64 0]) else some (Value.tuple #[(D.mk d.v d.g d.t 1 d.e d.c).agg, Value.int IntKind.i64 0]))) else 
        (bif d.e == 0 then 
         (bif d.c == 0 then some (Value.tuple #[(D.mk d.v d.g d.t d.w 1 1).agg, Value.int IntKind.i64 0]) else some (Value.tuple #[(D.mk d.v d.g d.t d.w 1 d.c).agg, Value.int IntKind.i64 0])) else 
         (bif d.c == 0 then some (Value.tuple #[(D.mk d.v d.g d.t d.w d.e 1).agg, Value.int IntKind.i64 0]) else some (Value.tuple #[d.agg, Value.int IntKind.i64 0]))))) else 
      (bif S.hasA d then 
       (bif !d.g.k != 0 then 
        (bif !d.t.k != 0 then 
         (bif d.e == 0 then 
          (bif d.c == 0 then some (Value.tuple #[(D.mk d.v (V.mk 1 false 0 (ByteArray.mk #[]) 0) (V.mk 1 false 0 (ByteArray.mk #[]) 0) d.w 1 1).agg, Value.int IntKind.i64 0]) else some (Value.tuple #[(D.mk d.v (V.mk 1 false 0 (ByteArray.mk #[]) 0) (V.mk 1 false 0 (ByteArray.mk #[]) 0) d.w 1 d.c).agg, Value.int IntKind.i64 0])) else 
          (bif d.c == 0 then some (Value.tuple #[(D.mk d.v (V.mk 1 false 0 (ByteArray.mk #[]) 0) (V.mk 1 false 0 (ByteArray.mk #[]) 0) d.w d.e 1).agg, Value.int IntKind.i64 0]) else some (Value.tuple #[(D.mk d.v (V.mk 1 false 0 (ByteArray.mk #[]) 0) (V.mk 1 false 0 (ByteArray.mk #[]) 0) d.w d.e d.c).agg, Value.int IntKind.i64 0]))) else 
         (bif d.e == 0 then 
          (bif d.c == 0 then some (Value.tuple #[(D.mk d.v (V.mk 1 false 0 (ByteArray.mk #[]) 0) d.t d.w 1 1).agg, Value.int IntKind.i64 0]) else some (Value.tuple #[(D.mk d.v (V.mk 1 false 0 (ByteArray.mk #[]) 0) d.t d.w 1 d.c).agg, Value.int IntKind.i64 0])) else 
          (bif d.c == 0 then some (Value.tuple #[(D.mk d.v (V.mk 1 false 0 (ByteArray.mk #[]) 0) d.t d.w d.e 1).agg, Value.int IntKind.i64 0]) else some (Value.tuple #[(D.mk d.v (V.mk 1 false 0 (ByteArray.mk #[]) 0) d.t d.w d.e d.c).agg, Value.int IntKind.i64 0])))) else 
        (bif !d.t.k != 0 then 
         (bif d.e == 0 then 
          (bif d.c == 0 then some (Value.tuple #[(D.mk d.v d.g (V.mk 1 false 0 (ByteArray.mk #[]) 0) d.w 1 1).agg, Value.int IntKind.i64 0]) else some (Value.tuple #[(D.mk d.v d.g (V.mk 1 false 0 (ByteArray.mk #[]) 0) d.w 1 d.c).agg, Value.int IntKind.i64 0])) else 
          (bif d.c == 0 then some (Value.tuple #[(D.mk d.v d.g (V.mk 1 false 0 (ByteArray.mk #[]) 0) d.w d.e 1).agg, Value.int IntKind.i64 0]) else some (Value.tuple #[(D.mk d.v d.g (V.mk 1 false 0 (ByteArray.mk #[]) 0) d.w d.e d.c).agg, Value.int IntKind.i64 0]))) else 
         (bif d.e == 0 then 
          (bif d.c == 0 then some (Value.tuple #[(D.mk d.v d.g d.t d.w 1 1).agg, Value.int IntKind.i64 0]) else some (Value.tuple #[(D.mk d.v d.g d.t d.w 1 d.c).agg, Value.int IntKind.i64 0])) else 
          (bif d.c == 0 then some (Value.tuple #[(D.mk d.v d.g d.t d.w d.e 1).agg, Value.int IntKind.i64 0]) else some (Value.tuple #[d.agg, Value.int IntKind.i64 0]))))) else 
       (bif !d.v.k != 0 then 
        (bif d.w == 0 then 
         (bif d.e == 0 then 
          (bif d.c == 0 then some (Value.tuple #[(D.mk (V.mk 1 false 0 (ByteArray.mk #[]) 0) d.g d.t 1 1 1).agg, Value.int IntKind.i64 0]) else some (Value.tuple #[(D.mk (V.mk 1 false 0 (ByteArray.mk #[]) 0) d.g d.t 1 1 d.c).agg, Value.int IntKind.i64 0])) else 
          (bif d.c == 0 then some (Value.tuple #[(D.mk (V.mk 1 false 0 (ByteArray.mk #[]) 0) d.g d.t 1 d.e 1).agg, Value.int IntKind.i64 0]) else some (Value.tuple #[(D.mk (V.mk 1 false 0 (ByteArray.mk #[]) 0) d.g d.t 1 d.e d.c).agg, Value.int IntKind.i64 0]))) else 
         (bif d.e == 0 then 
          (bif d.c == 0 then some (Value.tuple #[(D.mk (V.mk 1 false 0 (ByteArray.mk #[]) 0) d.g d.t d.w 1 1).agg, Value.int IntKind.i64 0]) else some (Value.tuple #[(D.mk (V.mk 1 false 0 (ByteArray.mk #[]) 0) d.g d.t d.w 1 d.c).agg, Value.int IntKind.i64 0])) else 
          (bif d.c == 0 then some (Value.tuple #[(D.mk (V.mk 1 false 0 (ByteArray.mk #[]) 0) d.g d.t d.w d.e 1).agg, Value.int IntKind.i64 0]) else some (Value.tuple #[(D.mk (V.mk 1 false 0 (ByteArray.mk #[]) 0) d.g d.t d.w d.e d.c).agg, Value.int IntKind.i64 0])))) else 
        (bif d.w == 0 then 
         (bif d.e == 0 then 
          (bif d.c == 0 then some (Value.tuple #[(D.mk d.v d.g d.t 1 1 1).agg, Value.int IntKind.i64 0]) else some (Value.tuple #[(D.mk d.v d.g d.t 1 1 d.c).agg, Value.int IntKind.i64 0])) else 
          (bif d.c == 0 then some (Value.tuple #[(D.mk d.v d.g d.t 1 d.e 1).agg, Value.int IntKind.i64 0]) else some (Value.tuple #[(D.mk d.v d.g d.t 1 d.e d.c).agg, Value.int IntKind.i64 0]))) else 
         (bif d.e == 0 then 
          (bif d.c == 0 then some (Value.tuple #[(D.mk d.v d.g d.t d.w 1 1).agg, Value.int IntKind.i64 0]) else some (Value.tuple #[(D.mk d.v d.g d.t d.w 1 d.c).agg, Value.int IntKind.i64 0])) else 
          (bif d.c == 0 then some (Value.tuple #[(D.mk d.v d.g d.t d.w d.e 1).agg, Value.int IntKind.i64 0]) else some (Value.tuple #[d.agg, Value.int IntKind.i64 0]))))))) else 
     (bif S.fields d then some (Value.tuple #[(D.mk (V.mk 0 false 0 (ByteArray.mk #[]) 0) (V.mk 0 false 0 (ByteArray.mk #[]) 0) (V.mk 0 false 0 (ByteArray.mk #[]) 0) 0 0 0).agg, Value.int IntKind.i64 5]) else some (Value.tuple #[(D.mk (V.mk 0 false 0 (ByteArray.mk #[]) 0) (V.mk 0 false 0 (ByteArray.mk #[]) 0) (V.mk 0 false 0 (ByteArray.mk #[]) 0) 0 0 0).agg, Value.int IntKind.i64 5])))) (by kernel_rfl) (by
    simp only [T.complete, DT.val_node, DT.val_leaf, DT.bind, DT.val_bad]
    repeat' (first | (with_reducible refine bif_neq (fun h => ?_) (fun h => ?_)) | (with_reducible refine bif_and (fun h => ?_) (fun h => ?_)) | (with_reducible refine bif_eq (fun h => ?_) (fun h => ?_)))
    all_goals first | (simp only [*, S.complete, S.fill, S.no, S.there, S.VU, S.V0, S.D0, cond_true, cond_false, Bool.and_true, Bool.true_and, Bool.and_false, Bool.false_and, Bool.or_true, Bool.true_or, Bool.or_false, Bool.false_or, Bool.not_true, Bool.not_false, beq_self_eq_true, bne_self_eq_false, Bool.not_not]; done) | (exfalso; simp_all; done) | (simp_all [S.complete, S.fill, S.no, S.there, S.VU, S.V0, S.D0]; done) | grind [S.complete, S.fill, S.no, S.there, S.VU, S.V0, S.D0])
theorem ent_complete : E (12, onD T.complete) := byEv Hents12 60 fun args t h => by
  obtain ⟨d, rfl, rfl⟩ := onD_eq h
  exact ev_complete d
abbrev HL13 : Tab := (12, onD T.complete) :: HL12
theorem Hents13 : ∀ p ∈ HL13, E p := entries_cons ent_complete Hents12
set_option maxHeartbeats 4000000 in
theorem ev_alike (a b : V) : evFn Tryd.prog ext (tab HL13) 40 68 [a.agg, b.agg] = (T.alike a b).val :=
  Eq.trans (b := 
    (bif !a.k != 0 then some (Value.bool ((a.k != 0) == (b.k != 0))) else 
     (bif !b.k != 0 then some (Value.bool ((a.k != 0) == (b.k != 0))) else 
      (bif S.good a && S.good b then some (Value.bool (S.same a b)) else some (Value.bool false))))) (by kernel_rfl) (by
    simp only [T.alike, T.B, DT.val_node, DT.val_leaf, DT.bind, DT.val_bad]
    repeat' (first | (with_reducible refine bif_neq (fun h => ?_) (fun h => ?_)) | (with_reducible refine bif_and (fun h => ?_) (fun h => ?_)) | (with_reducible refine bif_eq (fun h => ?_) (fun h => ?_)))
    all_goals first | (simp only [*, S.alike, S.there, cond_true, cond_false, Bool.and_true, Bool.true_and, Bool.and_false, Bool.false_and, Bool.or_true, Bool.true_or, Bool.or_false, Bool.false_or, Bool.not_true, Bool.not_false, beq_self_eq_true, bne_self_eq_false, Bool.not_not]; done) | (exfalso; simp_all; done) | (simp_all [S.alike, S.there]; done) | grind [S.alike, S.there])
theorem ent_alike : E (68, onVV T.alike) := byEv Hents13 40 fun args t h => by
  obtain ⟨a, b, rfl, rfl⟩ := onVV_eq h
  exact ev_alike a b
abbrev HL14 : Tab := (68, onVV T.alike) :: HL13
theorem Hents14 : ∀ p ∈ HL14, E p := entries_cons ent_alike Hents13
set_option maxHeartbeats 4000000 in
theorem ev_equal (a b : D) : evFn Tryd.prog ext (tab HL14) 40 63 [a.agg, b.agg] = (T.equal a b).val :=
  Eq.trans (b := 
    (bif a.w == b.w then 
     (bif a.e == b.e then 
      (bif a.c == b.c then 
       (bif S.alike a.v b.v then 
        (bif S.alike a.g b.g then some (Value.bool (S.alike a.t b.t)) else some (Value.bool false)) else some (Value.bool false)) else some (Value.bool false)) else some (Value.bool false)) else some (Value.bool false))) (by kernel_rfl) (by
    simp only [T.equal, T.B, DT.val_node, DT.val_leaf, DT.bind, DT.val_bad]
    repeat' (first | (with_reducible refine bif_neq (fun h => ?_) (fun h => ?_)) | (with_reducible refine bif_and (fun h => ?_) (fun h => ?_)) | (with_reducible refine bif_eq (fun h => ?_) (fun h => ?_)))
    all_goals first | (simp only [*, S.equal, cond_true, cond_false, Bool.and_true, Bool.true_and, Bool.and_false, Bool.false_and, Bool.or_true, Bool.true_or, Bool.or_false, Bool.false_or, Bool.not_true, Bool.not_false, beq_self_eq_true, bne_self_eq_false, Bool.not_not]; done) | (exfalso; simp_all; done) | (simp_all [S.equal]; done) | grind [S.equal])
theorem ent_equal : E (63, onDD T.equal) := byEv Hents14 40 fun args t h => by
  obtain ⟨a, b, rfl, rfl⟩ := onDD_eq h
  exact ev_equal a b
abbrev HL15 : Tab := (63, onDD T.equal) :: HL14
theorem Hents15 : ∀ p ∈ HL15, E p := entries_cons ent_equal Hents14
set_option maxHeartbeats 4000000 in
theorem ev_whole (d : D) : evFn Tryd.prog ext (tab HL15) 40 25 [d.agg] = (T.whole d).val :=
  Eq.trans (b := 
    (bif S.check d then 
     (bif S.hasD d then 
      (bif S.check d then some (Value.bool (S.equal (S.complete d) d)) else some (Value.bool (S.equal S.D0 d))) else 
      (bif S.hasA d then 
       (bif S.check d then some (Value.bool (S.equal (S.complete d) d)) else some (Value.bool (S.equal S.D0 d))) else some (Value.bool false))) else 
     (bif S.fields d then some (Value.bool false) else some (Value.bool false)))) (by kernel_rfl) (by
    simp only [T.whole, T.B, DT.val_node, DT.val_leaf, DT.bind, DT.val_bad]
    repeat' (first | (with_reducible refine bif_neq (fun h => ?_) (fun h => ?_)) | (with_reducible refine bif_and (fun h => ?_) (fun h => ?_)) | (with_reducible refine bif_eq (fun h => ?_) (fun h => ?_)))
    all_goals first | (simp only [*, S.whole, cond_true, cond_false, Bool.and_true, Bool.true_and, Bool.and_false, Bool.false_and, Bool.or_true, Bool.true_or, Bool.or_false, Bool.false_or, Bool.not_true, Bool.not_false, beq_self_eq_true, bne_self_eq_false, Bool.not_not]; done) | (exfalso; simp_all; done) | (simp_all [S.whole]; done) | grind [S.whole])
theorem ent_whole : E (25, onD T.whole) := byEv Hents15 40 fun args t h => by
  obtain ⟨d, rfl, rfl⟩ := onD_eq h
  exact ev_whole d
abbrev HL16 : Tab := (25, onD T.whole) :: HL15
theorem Hents16 : ∀ p ∈ HL16, E p := entries_cons ent_whole Hents15
set_option maxHeartbeats 4000000 in
theorem ev_zero (d : D) : evFn Tryd.prog ext (tab HL16) 40 64 [d.agg] = (T.zero d).val :=
  Eq.trans (b := 
    (bif d.v.k == 0 && (d.v.b == false && (Op.floatEq FloatKind.f64 d.v.n 0 && (d.v.s == ByteArray.mk #[] && (d.v.id == 0 && true)))) && (d.g.k == 0 && (d.g.b == false && (Op.floatEq FloatKind.f64 d.g.n 0 && (d.g.s == ByteArray.mk #[] && (d.g.id == 0 && true)))) && (d.t.k == 0 && (d.t.b == false && (Op.floatEq FloatKind.f64 d.t.n 0 && (d.t.s == ByteArray.mk #[] && (d.t.id == 0 && true)))) && (d.w == 0 && (d.e == 0 && (d.c == 0 && true))))) then 
     (bif S.absent d.v then 
      (bif S.absent d.g then some (Value.bool (S.absent d.t)) else some (Value.bool false)) else some (Value.bool false)) else some (Value.bool false))) (by kernel_rfl) (by
    simp only [T.zero, T.B, DT.val_node, DT.val_leaf, DT.bind, DT.val_bad]
    repeat' (first | (with_reducible refine bif_neq (fun h => ?_) (fun h => ?_)) | (with_reducible refine bif_and (fun h => ?_) (fun h => ?_)) | (with_reducible refine bif_eq (fun h => ?_) (fun h => ?_)))
    all_goals first | (simp only [*, S.zero, S.isD0, cond_true, cond_false, Bool.and_true, Bool.true_and, Bool.and_false, Bool.false_and, Bool.or_true, Bool.true_or, Bool.or_false, Bool.false_or, Bool.not_true, Bool.not_false, beq_self_eq_true, bne_self_eq_false, Bool.not_not]; done) | (exfalso; simp_all; done) | (simp_all [S.zero, S.isD0]; done) | grind [S.zero, S.isD0])
theorem ent_zero : E (64, onD T.zero) := byEv Hents16 40 fun args t h => by
  obtain ⟨d, rfl, rfl⟩ := onD_eq h
  exact ev_zero d
abbrev HL17 : Tab := (64, onD T.zero) :: HL16
theorem Hents17 : ∀ p ∈ HL17, E p := entries_cons ent_zero Hents16
set_option maxHeartbeats 4000000 in
theorem ev_sameD (a b : D) : evFn Tryd.prog ext (tab HL17) 40 31 [a.agg, b.agg] = (T.sameD a b).val :=
  Eq.trans (b := 
    (bif S.check a then 
     (bif S.check b then some (Value.tuple #[Value.bool (S.equal a b), Value.int IntKind.i64 0]) else some (Value.tuple #[Value.bool false, Value.int IntKind.i64 5])) else some (Value.tuple #[Value.bool false, Value.int IntKind.i64 5]))) (by kernel_rfl) (by
    simp only [T.sameD, DT.val_node, DT.val_leaf, DT.bind, DT.val_bad]
    repeat' (first | (with_reducible refine bif_neq (fun h => ?_) (fun h => ?_)) | (with_reducible refine bif_and (fun h => ?_) (fun h => ?_)) | (with_reducible refine bif_eq (fun h => ?_) (fun h => ?_)))
    all_goals first | (simp only [*, cond_true, cond_false, Bool.and_true, Bool.true_and, Bool.and_false, Bool.false_and, Bool.or_true, Bool.true_or, Bool.or_false, Bool.false_or, Bool.not_true, Bool.not_false, beq_self_eq_true, bne_self_eq_false, Bool.not_not]; done) | (exfalso; simp_all; done) | (simp_all []; done) | grind [])
theorem ent_sameD : E (31, onDD T.sameD) := byEv Hents17 40 fun args t h => by
  obtain ⟨a, b, rfl, rfl⟩ := onDD_eq h
  exact ev_sameD a b
abbrev HL18 : Tab := (31, onDD T.sameD) :: HL17
theorem Hents18 : ∀ p ∈ HL18, E p := entries_cons ent_sameD Hents17
set_option maxHeartbeats 4000000 in
theorem ev_freeze (d : D) : evFn Tryd.prog ext (tab HL18) 40 13 [d.agg] = (T.freeze d).val :=
  Eq.trans (b := 
    (bif !S.whole d then some (Value.tuple #[(D.mk (V.mk 0 false 0 (ByteArray.mk #[]) 0) (V.mk 0 false 0 (ByteArray.mk #[]) 0) (V.mk 0 false 0 (ByteArray.mk #[]) 0) 0 0 0).agg, Value.int IntKind.i64 5]) else 
     (bif S.isD d then some (Value.tuple #[(D.mk (V.mk 0 false 0 (ByteArray.mk #[]) 0) (V.mk 0 false 0 (ByteArray.mk #[]) 0) (V.mk 0 false 0 (ByteArray.mk #[]) 0) 1 0 1).agg, Value.int IntKind.i64 0]) else some (Value.tuple #[(D.mk (V.mk 0 false 0 (ByteArray.mk #[]) 0) (V.mk 0 false 0 (ByteArray.mk #[]) 0) (V.mk 0 false 0 (ByteArray.mk #[]) 0) 0 0 1).agg, Value.int IntKind.i64 0])))) (by kernel_rfl) (by
    simp only [T.freeze, DT.val_node, DT.val_leaf, DT.bind, DT.val_bad]
    repeat' (first | (with_reducible refine bif_neq (fun h => ?_) (fun h => ?_)) | (with_reducible refine bif_and (fun h => ?_) (fun h => ?_)) | (with_reducible refine bif_eq (fun h => ?_) (fun h => ?_)))
    all_goals first | (simp only [*, S.V0, S.D0, cond_true, cond_false, Bool.and_true, Bool.true_and, Bool.and_false, Bool.false_and, Bool.or_true, Bool.true_or, Bool.or_false, Bool.false_or, Bool.not_true, Bool.not_false, beq_self_eq_true, bne_self_eq_false, Bool.not_not]; done) | (exfalso; simp_all; done) | (simp_all [S.V0, S.D0]; done) | grind [S.V0, S.D0])
theorem ent_freeze : E (13, onD T.freeze) := byEv Hents18 40 fun args t h => by
  obtain ⟨d, rfl, rfl⟩ := onD_eq h
  exact ev_freeze d
abbrev HL19 : Tab := (13, onD T.freeze) :: HL18
theorem Hents19 : ∀ p ∈ HL19, E p := entries_cons ent_freeze Hents18
set_option maxHeartbeats 4000000 in
theorem ev_barred (a b : D) : evFn Tryd.prog ext (tab HL19) 60 65 [a.agg, b.agg] = (T.barred a b).val :=
  Eq.trans (b := 
    (bif b.c == 2 then some (Value.bool true) else 
     (bif b.e != 0 then 
      (bif b.e != a.e then some (Value.bool true) else 
       (bif S.check b then 
        (bif S.hasD b then 
         (bif S.check a then 
          (bif S.hasD a then 
           (bif a.w == 1 then 
            (bif b.w == 2 then some (Value.bool true) else 
             (bif b.v.k != 0 then some (Value.bool !S.alike b.v a.v) else some (Value.bool false))) else some (Value.bool false)) else 
           (bif S.hasA a then some (Value.bool true) else some (Value.bool true))) else 
          (bif S.fields a then 
           (bif a.w == 1 then 
            (bif b.w == 2 then some (Value.bool true) else 
             (bif b.v.k != 0 then some (Value.bool !S.alike b.v a.v) else some (Value.bool false))) else some (Value.bool false)) else some (Value.bool true))) else 
         (bif S.hasA b then 
          (bif S.check a then 
           (bif S.hasD a then some (Value.bool true) else 
            (bif S.hasA a then 
             (bif b.g.k != 0 then 
              (bif !S.alike b.g a.g then some (Value.bool true) else 
               (bif b.t.k != 0 then some (Value.bool !S.alike b.t a.t) else some (Value.bool false))) else 
              (bif b.t.k != 0 then some (Value.bool !S.alike b.t a.t) else some (Value.bool false))) else some (Value.bool true))) else 
           (bif S.fields a then some (Value.bool true) else some (Value.bool true))) else 
          (bif S.check a then 
           (bif S.hasD a then some (Value.bool false) else 
            (bif S.hasA a then some (Value.bool false) else some (Value.bool false))) else 
           (bif S.fields a then some (Value.bool false) else some (Value.bool false))))) else 
        (bif S.fields b then 
         (bif S.check a then 
          (bif S.hasD a then 
           (bif a.w == 1 then 
            (bif b.w == 2 then some (Value.bool true) else 
             (bif b.v.k != 0 then some (Value.bool !S.alike b.v a.v) else some (Value.bool false))) else some (Value.bool false)) else 
           (bif S.hasA a then some (Value.bool true) else some (Value.bool true))) else 
          (bif S.fields a then 
           (bif a.w == 1 then 
            (bif b.w == 2 then some (Value.bool true) else 
             (bif b.v.k != 0 then some (Value.bool !S.alike b.v a.v) else some (Value.bool false))) else some (Value.bool false)) else some (Value.bool true))) else 
         (bif S.check a then 
          (bif S.hasD a then some (Value.bool false) else 
           (bif S.hasA a then some (Value.bool false) else some (Value.bool false))) else 
          (bif S.fields a then some (Value.bool false) else some (Value.bool false)))))) else 
      (bif S.check b then 
       (bif S.hasD b then 
        (bif S.check a then 
         (bif S.hasD a then 
          (bif a.w == 1 then 
           (bif b.w == 2 then some (Value.bool true) else 
            (bif b.v.k != 0 then some (Value.bool !S.alike b.v a.v) else some (Value.bool false))) else some (Value.bool false)) else 
          (bif S.hasA a then some (Value.bool true) else some (Value.bool true))) else 
         (bif S.fields a then 
          (bif a.w == 1 then 
           (bif b.w == 2 then some (Value.bool true) else 
            (bif b.v.k != 0 then some (Value.bool !S.alike b.v a.v) else some (Value.bool false))) else some (Value.bool false)) else some (Value.bool true))) else 
        (bif S.hasA b then 
         (bif S.check a then 
          (bif S.hasD a then some (Value.bool true) else 
           (bif S.hasA a then 
            (bif b.g.k != 0 then 
             (bif !S.alike b.g a.g then some (Value.bool true) else 
              (bif b.t.k != 0 then some (Value.bool !S.alike b.t a.t) else some (Value.bool false))) else 
             (bif b.t.k != 0 then some (Value.bool !S.alike b.t a.t) else some (Value.bool false))) else some (Value.bool true))) else 
          (bif S.fields a then some (Value.bool true) else some (Value.bool true))) else 
         (bif S.check a then 
          (bif S.hasD a then some (Value.bool false) else 
           (bif S.hasA a then some (Value.bool false) else some (Value.bool false))) else 
          (bif S.fields a then some (Value.bool false) else some (Value.bool false))))) else 
       (bif S.fields b then 
        (bif S.check a then 
         (bif S.hasD a then 
          (bif a.w == 1 then 
           (bif b.w == 2 then some (Value.bool true) else 
            (bif b.v.k != 0 then some (Value.bool !S.alike b.v a.v) else some (Value.bool false))) else some (Value.bool false)) else 
          (bif S.hasA a then some (Value.bool true) else some (Value.bool true))) else 
         (bif S.fields a then 
          (bif a.w == 1 then 
           (bif b.w == 2 then some (Value.bool true) else 
            (bif b.v.k != 0 then some (Value.bool !S.alike b.v a.v) else some (Value.bool false))) else some (Value.bool false)) else some (Value.bool true))) else 
        (bif S.check a then 
         (bif S.hasD a then some (Value.bool false) else 
          (bif S.hasA a then some (Value.bool false) else some (Value.bool false))) else 
         (bif S.fields a then some (Value.bool false) else some (Value.bool false)))))))) (by kernel_rfl) (by
    simp only [T.barred, T.B, DT.val_node, DT.val_leaf, DT.bind, DT.val_bad]
    repeat' (first | (with_reducible refine bif_neq (fun h => ?_) (fun h => ?_)) | (with_reducible refine bif_and (fun h => ?_) (fun h => ?_)) | (with_reducible refine bif_eq (fun h => ?_) (fun h => ?_)))
    all_goals first | (simp only [*, S.barred, S.kindN, S.there, cond_true, cond_false, Bool.and_true, Bool.true_and, Bool.and_false, Bool.false_and, Bool.or_true, Bool.true_or, Bool.or_false, Bool.false_or, Bool.not_true, Bool.not_false, beq_self_eq_true, bne_self_eq_false, Bool.not_not]; done) | (exfalso; simp_all; done) | (simp_all [S.barred, S.kindN, S.there]; done) | grind [S.barred, S.kindN, S.there])
theorem ent_barred : E (65, onDD T.barred) := byEv Hents19 60 fun args t h => by
  obtain ⟨a, b, rfl, rfl⟩ := onDD_eq h
  exact ev_barred a b
abbrev HL20 : Tab := (65, onDD T.barred) :: HL19
theorem Hents20 : ∀ p ∈ HL20, E p := entries_cons ent_barred Hents19
end Go.Proofs.YtaojjpdlfnphiaaDoor.PDescKinds
end
section
/- Contracts by evaluation: what each function of a list answers. Written by a program of this session. -/
namespace Go.Proofs.YtaojjpdlfnphiaaDoor.PDescKinds
open Go.RowKit Go.Ev
set_option linter.unusedSimpArgs false
set_option linter.unusedVariables false
set_option maxRecDepth 100000
set_option maxHeartbeats 4000000 in
theorem ev_over (a b : D) : evFn Tryd.prog ext (tab HL20) 90 66 [a.agg, b.agg] = (T.over a b).val :=
  Eq.trans (b := 
    (bif b.v.k != 0 then 
     (bif b.g.k != 0 then 
      (bif b.t.k != 0 then 
       (bif b.w != 0 then 
        (bif b.e != 0 then 
         (bif b.c != 0 then some (b.agg) else some ((D.mk b.v b.g b.t b.w b.e a.c).agg)) else 
         (bif b.c != 0 then some ((D.mk b.v b.g b.t b.w a.e b.c).agg) else some ((D.mk b.v b.g b.t b.w a.e a.c).agg))) else 
        (bif b.e != 0 then 
         (bif b.c != 0 then some ((D.mk b.v b.g b.t a.w b.e b.c).agg) else some ((D.mk b.v b.g b.t a.w b.e a.c).agg)) else 
         (bif b.c != 0 then some ((D.mk b.v b.g b.t a.w a.e b.c).agg) else some ((D.mk b.v b.g b.t a.w a.e a.c).agg)))) else 
       (bif b.w != 0 then 
        (bif b.e != 0 then 
         (bif b.c != 0 then some ((D.mk b.v b.g a.t b.w b.e b.c).agg) else some ((D.mk b.v b.g a.t b.w b.e a.c).agg)) else 
         (bif b.c != 0 then some ((D.mk b.v b.g a.t b.w a.e b.c).agg) else some ((D.mk b.v b.g a.t b.w a.e a.c).agg))) else 
        (bif b.e != 0 then 
         (bif b.c != 0 then some ((D.mk b.v b.g a.t a.w b.e b.c).agg) else some ((D.mk b.v b.g a.t a.w b.e a.c).agg)) else 
         (bif b.c != 0 then some ((D.mk b.v b.g a.t a.w a.e b.c).agg) else some ((D.mk b.v b.g a.t a.w a.e a.c).agg))))) else 
      (bif b.t.k != 0 then 
       (bif b.w != 0 then 
        (bif b.e != 0 then 
         (bif b.c != 0 then some ((D.mk b.v a.g b.t b.w b.e b.c).agg) else some ((D.mk b.v a.g b.t b.w b.e a.c).agg)) else 
         (bif b.c != 0 then some ((D.mk b.v a.g b.t b.w a.e b.c).agg) else some ((D.mk b.v a.g b.t b.w a.e a.c).agg))) else 
        (bif b.e != 0 then 
         (bif b.c != 0 then some ((D.mk b.v a.g b.t a.w b.e b.c).agg) else some ((D.mk b.v a.g b.t a.w b.e a.c).agg)) else 
         (bif b.c != 0 then some ((D.mk b.v a.g b.t a.w a.e b.c).agg) else some ((D.mk b.v a.g b.t a.w a.e a.c).agg)))) else 
       (bif b.w != 0 then 
        (bif b.e != 0 then 
         (bif b.c != 0 then some ((D.mk b.v a.g a.t b.w b.e b.c).agg) else some ((D.mk b.v a.g a.t b.w b.e a.c).agg)) else 
         (bif b.c != 0 then some ((D.mk b.v a.g a.t b.w a.e b.c).agg) else some ((D.mk b.v a.g a.t b.w a.e a.c).agg))) else 
        (bif b.e != 0 then 
         (bif b.c != 0 then some ((D.mk b.v a.g a.t a.w b.e b.c).agg) else some ((D.mk b.v a.g a.t a.w b.e a.c).agg)) else 
         (bif b.c != 0 then some ((D.mk b.v a.g a.t a.w a.e b.c).agg) else some ((D.mk b.v a.g a.t a.w a.e a.c).agg)))))) else 
     (bif b.g.k != 0 then 
      (bif b.t.k != 0 then 
       (bif b.w != 0 then 
        (bif b.e != 0 then 
         (bif b.c != 0 then some ((D.mk a.v b.g b.t b.w b.e b.c).agg) else some ((D.mk a.v b.g b.t b.w b.e a.c).agg)) else 
         (bif b.c != 0 then some ((D.mk a.v b.g b.t b.w a.e b.c).agg) else some ((D.mk a.v b.g b.t b.w a.e a.c).agg))) else 
        (bif b.e != 0 then 
         (bif b.c != 0 then some ((D.mk a.v b.g b.t a.w b.e b.c).agg) else some ((D.mk a.v b.g b.t a.w b.e a.c).agg)) else 
         (bif b.c != 0 then some ((D.mk a.v b.g b.t a.w a.e b.c).agg) else some ((D.mk a.v b.g b.t a.w a.e a.c).agg)))) else 
       (bif b.w != 0 then 
        (bif b.e != 0 then 
         (bif b.c != 0 then some ((D.mk a.v b.g a.t b.w b.e b.c).agg) else some ((D.mk a.v b.g a.t b.w b.e a.c).agg)) else 
         (bif b.c != 0 then some ((D.mk a.v b.g a.t b.w a.e b.c).agg) else some ((D.mk a.v b.g a.t b.w a.e a.c).agg))) else 
        (bif b.e != 0 then 
         (bif b.c != 0 then some ((D.mk a.v b.g a.t a.w b.e b.c).agg) else some ((D.mk a.v b.g a.t a.w b.e a.c).agg)) else 
         (bif b.c != 0 then some ((D.mk a.v b.g a.t a.w a.e b.c).agg) else some ((D.mk a.v b.g a.t a.w a.e a.c).agg))))) else 
      (bif b.t.k != 0 then 
       (bif b.w != 0 then 
        (bif b.e != 0 then 
         (bif b.c != 0 then some ((D.mk a.v a.g b.t b.w b.e b.c).agg) else some ((D.mk a.v a.g b.t b.w b.e a.c).agg)) else 
         (bif b.c != 0 then some ((D.mk a.v a.g b.t b.w a.e b.c).agg) else some ((D.mk a.v a.g b.t b.w a.e a.c).agg))) else 
        (bif b.e != 0 then 
         (bif b.c != 0 then some ((D.mk a.v a.g b.t a.w b.e b.c).agg) else some ((D.mk a.v a.g b.t a.w b.e a.c).agg)) else 
         (bif b.c != 0 then some ((D.mk a.v a.g b.t a.w a.e b.c).agg) else some ((D.mk a.v a.g b.t a.w a.e a.c).agg)))) else 
       (bif b.w != 0 then 
        (bif b.e != 0 then 
         (bif b.c != 0 then some ((D.mk a.v a.g a.t b.w b.e b.c).agg) else some ((D.mk a.v a.g a.t b.w b.e a.c).agg)) else 
         (bif b.c != 0 then some ((D.mk a.v a.g a.t b.w a.e b.c).agg) else some ((D.mk a.v a.g a.t b.w a.e a.c).agg))) else 
        (bif b.e != 0 then 
         (bif b.c != 0 then some ((D.mk a.v a.g a.t a.w b.e b.c).agg) else some ((D.mk a.v a.g a.t a.w b.e a.c).agg)) else 
         (bif b.c != 0 then some ((D.mk a.v a.g a.t a.w a.e b.c).agg) else some (a.agg)))))))) (by kernel_rfl) (by
    simp only [T.over, DT.val_node, DT.val_leaf, DT.bind, DT.val_bad]
    repeat' (first | (with_reducible refine bif_neq (fun h => ?_) (fun h => ?_)) | (with_reducible refine bif_and (fun h => ?_) (fun h => ?_)) | (with_reducible refine bif_eq (fun h => ?_) (fun h => ?_)))
    all_goals first | (simp only [*, S.over, S.orV, S.orT, S.there, cond_true, cond_false, Bool.and_true, Bool.true_and, Bool.and_false, Bool.false_and, Bool.or_true, Bool.true_or, Bool.or_false, Bool.false_or, Bool.not_true, Bool.not_false, beq_self_eq_true, bne_self_eq_false, Bool.not_not]; done) | (exfalso; simp_all; done) | (simp_all [S.over, S.orV, S.orT, S.there]; done) | grind [S.over, S.orV, S.orT, S.there])
theorem ent_over : E (66, onDD T.over) := byEv Hents20 90 fun args t h => by
  obtain ⟨a, b, rfl, rfl⟩ := onDD_eq h
  exact ev_over a b
abbrev HL21 : Tab := (66, onDD T.over) :: HL20
theorem Hents21 : ∀ p ∈ HL21, E p := entries_cons ent_over Hents20
set_option maxHeartbeats 4000000 in
theorem ev_apply (x : Bool) (a b : D) : evFn Tryd.prog ext (tab HL21) 60 28 [.bool x, a.agg, b.agg] = (T.apply x a b).val :=
  Eq.trans (b := 
    (bif S.check b then 
     (bif !S.whole a then 
      (bif !S.zero a then some (Value.tuple #[(D.mk (V.mk 0 false 0 (ByteArray.mk #[]) 0) (V.mk 0 false 0 (ByteArray.mk #[]) 0) (V.mk 0 false 0 (ByteArray.mk #[]) 0) 0 0 0).agg, Value.bool false, Value.int IntKind.i64 5]) else 
       (bif S.zero a then 
        (bif !x then some (Value.tuple #[a.agg, Value.bool false, Value.int IntKind.i64 0]) else 
         (bif S.check b then some (Value.tuple #[(S.complete b).agg, Value.bool true, Value.int IntKind.i64 0]) else some (Value.tuple #[S.D0.agg, Value.bool true, Value.int IntKind.i64 0]))) else 
        (bif a.c == 1 then 
         (bif S.barred a b then some (Value.tuple #[a.agg, Value.bool false, Value.int IntKind.i64 0]) else 
          (bif S.check b then 
           (bif S.hasD b then 
            (bif S.check a then 
             (bif S.hasD a then some (Value.tuple #[(S.over a b).agg, Value.bool true, Value.int IntKind.i64 0]) else 
              (bif S.hasA a then 
               (bif b.e == 0 then 
                (bif b.c == 0 then 
                 (bif S.check (D.mk b.v b.g b.t b.w a.e a.c) then some (Value.tuple #[(S.complete (D.mk b.v b.g b.t b.w a.e a.c)).agg, Value.bool true, Value.int IntKind.i64 0]) else some (Value.tuple #[S.D0.agg, Value.bool true, Value.int IntKind.i64 0])) else 
                 (bif S.check (D.mk b.v b.g b.t b.w a.e b.c) then some (Value.tuple #[(S.complete (D.mk b.v b.g b.t b.w a.e b.c)).agg, Value.bool true, Value.int IntKind.i64 0]) else some (Value.tuple #[S.D0.agg, Value.bool true, Value.int IntKind.i64 0]))) else 
                (bif b.c == 0 then 
                 (bif S.check (D.mk b.v b.g b.t b.w b.e a.c) then some (Value.tuple #[(S.complete (D.mk b.v b.g b.t b.w b.e a.c)).agg, Value.bool true, Value.int IntKind.i64 0]) else some (Value.tuple #[S.D0.agg, Value.bool true, Value.int IntKind.i64 0])) else 
                 (bif S.check b then some (Value.tuple #[(S.complete b).agg, Value.bool true, Value.int IntKind.i64 0]) else some (Value.tuple #[S.D0.agg, Value.bool true, Value.int IntKind.i64 0])))) else 
               (bif b.e == 0 then 
                (bif b.c == 0 then 
                 (bif S.check (D.mk b.v b.g b.t b.w a.e a.c) then some (Value.tuple #[(S.complete (D.mk b.v b.g b.t b.w a.e a.c)).agg, Value.bool true, Value.int IntKind.i64 0]) else some (Value.tuple #[S.D0.agg, Value.bool true, Value.int IntKind.i64 0])) else 
                 (bif S.check (D.mk b.v b.g b.t b.w a.e b.c) then some (Value.tuple #[(S.complete (D.mk b.v b.g b.t b.w a.e b.c)).agg, Value.bool true, Value.int IntKind.i64 0]) else some (Value.tuple #[S.D0.agg, Value.bool true, Value.int IntKind.i64 0]))) else 
                (bif b.c == 0 then 
                 (bif S.check (D.mk b.v b.g b.t b.w b.e a.c) then some (Value.tuple #[(S.complete (D.mk b.v b.g b.t b.w b.e a.c)).agg, Value.bool true, Value.int IntKind.i64 0]) else some (Value.tuple #[S.D0.agg, Value.bool true, Value.int IntKind.i64 0])) else 
                 (bif S.check b then some (Value.tuple #[(S.complete b).agg, Value.bool true, Value.int IntKind.i64 0]) else some (Value.tuple #[S.D0.agg, Value.bool true, Value.int IntKind.i64 0])))))) else 
             (bif S.fields a then some (Value.tuple #[(S.over a b).agg, Value.bool true, Value.int IntKind.i64 0]) else 
              (bif b.e == 0 then 
               (bif b.c == 0 then 
                (bif S.check (D.mk b.v b.g b.t b.w a.e a.c) then some (Value.tuple #[(S.complete (D.mk b.v b.g b.t b.w a.e a.c)).agg, Value.bool true, Value.int IntKind.i64 0]) else some (Value.tuple #[S.D0.agg, Value.bool true, Value.int IntKind.i64 0])) else 
                (bif S.check (D.mk b.v b.g b.t b.w a.e b.c) then some (Value.tuple #[(S.complete (D.mk b.v b.g b.t b.w a.e b.c)).agg, Value.bool true, Value.int IntKind.i64 0]) else some (Value.tuple #[S.D0.agg, Value.bool true, Value.int IntKind.i64 0]))) else 
               (bif b.c == 0 then 
                (bif S.check (D.mk b.v b.g b.t b.w b.e a.c) then some (Value.tuple #[(S.complete (D.mk b.v b.g b.t b.w b.e a.c)).agg, Value.bool true, Value.int IntKind.i64 0]) else some (Value.tuple #[S.D0.agg, Value.bool true, Value.int IntKind.i64 0])) else 
                (bif S.check b then some (Value.tuple #[(S.complete b).agg, Value.bool true, Value.int IntKind.i64 0]) else some (Value.tuple #[S.D0.agg, Value.bool true, Value.int IntKind.i64 0])))))) else 
            (bif S.hasA b then 
             (bif S.check a then 
              (bif S.hasD a then 
               (bif b.e == 0 then 
                (bif b.c == 0 then 
                 (bif S.check (D.mk b.v b.g b.t b.w a.e a.c) then some (Value.tuple #[(S.complete (D.mk b.v b.g b.t b.w a.e a.c)).agg, Value.bool true, Value.int IntKind.i64 0]) else some (Value.tuple #[S.D0.agg, Value.bool true, Value.int IntKind.i64 0])) else 
                 (bif S.check (D.mk b.v b.g b.t b.w a.e b.c) then some (Value.tuple #[(S.complete (D.mk b.v b.g b.t b.w a.e b.c)).agg, Value.bool true, Value.int IntKind.i64 0]) else some (Value.tuple #[S.D0.agg, Value.bool true, Value.int IntKind.i64 0]))) else 
                (bif b.c == 0 then 
                 (bif S.check (D.mk b.v b.g b.t b.w b.e a.c) then some (Value.tuple #[(S.complete (D.mk b.v b.g b.t b.w b.e a.c)).agg, Value.bool true, Value.int IntKind.i64 0]) else some (Value.tuple #[S.D0.agg, Value.bool true, Value.int IntKind.i64 0])) else 
                 (bif S.check b then some (Value.tuple #[(S.complete b).agg, Value.bool true, Value.int IntKind.i64 0]) else some (Value.tuple #[S.D0.agg, Value.bool true, Value.int IntKind.i64 0])))) else 
               (bif S.hasA a then some (Value.tuple #[(S.over a b).agg, Value.bool true, Value.int IntKind.i64 0]) else 
                (bif b.e == 0 then 
                 (bif b.c == 0 then 
                  (bif S.check (D.mk b.v b.g b.t b.w a.e a.c) then some (Value.tuple #[(S.complete (D.mk b.v b.g b.t b.w a.e a.c)).agg, Value.bool true, Value.int IntKind.i64 0]) else some (Value.tuple #[S.D0.agg, Value.bool true, Value.int IntKind.i64 0])) else 
                  (bif S.check (D.mk b.v b.g b.t b.w a.e b.c) then some (Value.tuple #[(S.complete (D.mk b.v b.g b.t b.w a.e b.c)).agg, Value.bool true, Value.int IntKind.i64 0]) else some (Value.tuple #[S.D0.agg, Value.bool true, Value.int IntKind.i64 0]))) else 
                 (bif b.c == 0 then 
                  (bif S.check (D.mk b.v b.g b.t b.w b.e a.c) then some (Value.tuple #[(S.complete (D.mk b.v b.g b.t b.w b.e a.c)).agg, Value.bool true, Value.int IntKind.i64 0]) else some (Value.tuple #[S.D0.agg, Value.bool true, Value.int IntKind.i64 0])) else 
                  (bif S.check b then some (Value.tuple #[(S.complete b).agg, Value.bool true, Value.int IntKind.i64 0]) else some (Value.tuple #[S.D0.agg, Value.bool true, Value.int IntKind.i64 0])))))) else 
              (bif S.fields a then 
               (bif b.e == 0 then 
                (bif b.c == 0 then 
                 (bif S.check (D.mk b.v b.g b.t b.w a.e a.c) then some (Value.tuple #[(S.complete (D.mk b.v b.g b.t b.w a.e a.c)).agg, Value.bool true, Value.int IntKind.i64 0]) else some (Value.tuple #[S.D0.agg, Value.bool true, Value.int IntKind.i64 0])) else 
                 (bif S.check (D.mk b.v b.g b.t b.w a.e b.c) then some (Value.tuple #[(S.complete (D.mk b.v b.g b.t b.w a.e b.c)).agg, Value.bool true, Value.int IntKind.i64 0]) else some (Value.tuple #[S.D0.agg, Value.bool true, Value.int IntKind.i64 0]))) else 
                (bif b.c == 0 then 
                 (bif S.check (D.mk b.v b.g b.t b.w b.e a.c) then some (Value.tuple #[(S.complete (D.mk b.v b.g b.t b.w b.e a.c)).agg, Value.bool true, Value.int IntKind.i64 0]) else some (Value.tuple #[S.D0.agg, Value.bool true, Value.int IntKind.i64 0])) else 
                 (bif S.check b then some (Value.tuple #[(S.complete b).agg, Value.bool true, Value.int IntKind.i64 0]) else some (Value.tuple #[S.D0.agg, Value.bool true, Value.int IntKind.i64 0])))) else 
               (bif b.e == 0 then 
                (bif b.c == 0 then 
                 (bif S.check (D.mk b.v b.g b.t b.w a.e a.c) then some (Value.tuple #[(S.complete (D.mk b.v b.g b.t b.w a.e a.c)).agg, Value.bool true, Value.int IntKind.i64 0]) else some (Value.tuple #[S.D0.agg, Value.bool true, Value.int IntKind.i64 0])) else 
                 (bif S.check (D.mk b.v b.g b.t b.w a.e b.c) then some (Value.tuple #[(S.complete (D.mk b.v b.g b.t b.w a.e b.c)).agg, Value.bool true, Value.int IntKind.i64 0]) else some (Value.tuple #[S.D0.agg, Value.bool true, Value.int IntKind.i64 0]))) else 
                (bif b.c == 0 then 
                 (bif S.check (D.mk b.v b.g b.t b.w b.e a.c) then some (Value.tuple #[(S.complete (D.mk b.v b.g b.t b.w b.e a.c)).agg, Value.bool true, Value.int IntKind.i64 0]) else some (Value.tuple #[S.D0.agg, Value.bool true, Value.int IntKind.i64 0])) else 
                 (bif S.check b then some (Value.tuple #[(S.complete b).agg, Value.bool true, Value.int IntKind.i64 0]) else some (Value.tuple #[S.D0.agg, Value.bool true, Value.int IntKind.i64 0])))))) else 
             (bif S.check a then 
              (bif S.hasD a then some (Value.tuple #[(S.over a b).agg, Value.bool true, Value.int IntKind.i64 0]) else 
               (bif S.hasA a then some (Value.tuple #[(S.over a b).agg, Value.bool true, Value.int IntKind.i64 0]) else some (Value.tuple #[(S.over a b).agg, Value.bool true, Value.int IntKind.i64 0]))) else 
              (bif S.fields a then some (Value.tuple #[(S.over a b).agg, Value.bool true, Value.int IntKind.i64 0]) else some (Value.tuple #[(S.over a b).agg, Value.bool true, Value.int IntKind.i64 0]))))) else 
           (bif S.fields b then 
            (bif S.check a then 
             (bif S.hasD a then some (Value.tuple #[(S.over a b).agg, Value.bool true, Value.int IntKind.i64 0]) else 
              (bif S.hasA a then 
               (bif b.e == 0 then 
                (bif b.c == 0 then 
                 (bif S.check (D.mk b.v b.g b.t b.w a.e a.c) then some (Value.tuple #[(S.complete (D.mk b.v b.g b.t b.w a.e a.c)).agg, Value.bool true, Value.int IntKind.i64 0]) else some (Value.tuple #[S.D0.agg, Value.bool true, Value.int IntKind.i64 0])) else 
                 (bif S.check (D.mk b.v b.g b.t b.w a.e b.c) then some (Value.tuple #[(S.complete (D.mk b.v b.g b.t b.w a.e b.c)).agg, Value.bool true, Value.int IntKind.i64 0]) else some (Value.tuple #[S.D0.agg, Value.bool true, Value.int IntKind.i64 0]))) else 
                (bif b.c == 0 then 
                 (bif S.check (D.mk b.v b.g b.t b.w b.e a.c) then some (Value.tuple #[(S.complete (D.mk b.v b.g b.t b.w b.e a.c)).agg, Value.bool true, Value.int IntKind.i64 0]) else some (Value.tuple #[S.D0.agg, Value.bool true, Value.int IntKind.i64 0])) else 
                 (bif S.check b then some (Value.tuple #[(S.complete b).agg, Value.bool true, Value.int IntKind.i64 0]) else some (Value.tuple #[S.D0.agg, Value.bool true, Value.int IntKind.i64 0])))) else 
               (bif b.e == 0 then 
                (bif b.c == 0 then 
                 (bif S.check (D.mk b.v b.g b.t b.w a.e a.c) then some (Value.tuple #[(S.complete (D.mk b.v b.g b.t b.w a.e a.c)).agg, Value.bool true, Value.int IntKind.i64 0]) else some (Value.tuple #[S.D0.agg, Value.bool true, Value.int IntKind.i64 0])) else 
                 (bif S.check (D.mk b.v b.g b.t b.w a.e b.c) then some (Value.tuple #[(S.complete (D.mk b.v b.g b.t b.w a.e b.c)).agg, Value.bool true, Value.int IntKind.i64 0]) else some (Value.tuple #[S.D0.agg, Value.bool true, Value.int IntKind.i64 0]))) else 
                (bif b.c == 0 then 
                 (bif S.check (D.mk b.v b.g b.t b.w b.e a.c) then some (Value.tuple #[(S.complete (D.mk b.v b.g b.t b.w b.e a.c)).agg, Value.bool true, Value.int IntKind.i64 0]) else some (Value.tuple #[S.D0.agg, Value.bool true, Value.int IntKind.i64 0])) else 
                 (bif S.check b then some (Value.tuple #[(S.complete b).agg, Value.bool true, Value.int IntKind.i64 0]) else some (Value.tuple #[S.D0.agg, Value.bool true, Value.int IntKind.i64 0])))))) else 
             (bif S.fields a then some (Value.tuple #[(S.over a b).agg, Value.bool true, Value.int IntKind.i64 0]) else 
              (bif b.e == 0 then 
               (bif b.c == 0 then 
                (bif S.check (D.mk b.v b.g b.t b.w a.e a.c) then some (Value.tuple #[(S.complete (D.mk b.v b.g b.t b.w a.e a.c)).agg, Value.bool true, Value.int IntKind.i64 0]) else some (Value.tuple #[S.D0.agg, Value.bool true, Value.int IntKind.i64 0])) else 
                (bif S.check (D.mk b.v b.g b.t b.w a.e b.c) then some (Value.tuple #[(S.complete (D.mk b.v b.g b.t b.w a.e b.c)).agg, Value.bool true, Value.int IntKind.i64 0]) else some (Value.tuple #[S.D0.agg, Value.bool true, Value.int IntKind.i64 0]))) else 
               (bif b.c == 0 then 
                (bif S.check (D.mk b.v b.g b.t b.w b.e a.c) then some (Value.tuple #[(S.complete (D.mk b.v b.g b.t b.w b.e a.c)).agg, Value.bool true, Value.int IntKind.i64 0]) else some (Value.tuple #[S.D0.agg, Value.bool true, Value.int IntKind.i64 0])) else 
                (bif S.check b then some (Value.tuple #[(S.complete b).agg, Value.bool true, Value.int IntKind.i64 0]) else some (Value.tuple #[S.D0.agg, Value.bool true, Value.int IntKind.i64 0])))))) else 
            (bif S.check a then 
             (bif S.hasD a then some (Value.tuple #[(S.over a b).agg, Value.bool true, Value.int IntKind.i64 0]) else 
              (bif S.hasA a then some (Value.tuple #[(S.over a b).agg, Value.bool true, Value.int IntKind.i64 0]) else some (Value.tuple #[(S.over a b).agg, Value.bool true, Value.int IntKind.i64 0]))) else 
             (bif S.fields a then some (Value.tuple #[(S.over a b).agg, Value.bool true, Value.int IntKind.i64 0]) else some (Value.tuple #[(S.over a b).agg, Value.bool true, Value.int IntKind.i64 0])))))) else 
         (bif S.check b then 
          (bif S.hasD b then 
           (bif S.check a then 
            (bif S.hasD a then some (Value.tuple #[(S.over a b).agg, Value.bool true, Value.int IntKind.i64 0]) else 
             (bif S.hasA a then 
              (bif b.e == 0 then 
               (bif b.c == 0 then 
                (bif S.check (D.mk b.v b.g b.t b.w a.e a.c) then some (Value.tuple #[(S.complete (D.mk b.v b.g b.t b.w a.e a.c)).agg, Value.bool true, Value.int IntKind.i64 0]) else some (Value.tuple #[S.D0.agg, Value.bool true, Value.int IntKind.i64 0])) else 
                (bif S.check (D.mk b.v b.g b.t b.w a.e b.c) then some (Value.tuple #[(S.complete (D.mk b.v b.g b.t b.w a.e b.c)).agg, Value.bool true, Value.int IntKind.i64 0]) else some (Value.tuple #[S.D0.agg, Value.bool true, Value.int IntKind.i64 0]))) else 
               (bif b.c == 0 then 
                (bif S.check (D.mk b.v b.g b.t b.w b.e a.c) then some (Value.tuple #[(S.complete (D.mk b.v b.g b.t b.w b.e a.c)).agg, Value.bool true, Value.int IntKind.i64 0]) else some (Value.tuple #[S.D0.agg, Value.bool true, Value.int IntKind.i64 0])) else 
                (bif S.check b then some (Value.tuple #[(S.complete b).agg, Value.bool true, Value.int IntKind.i64 0]) else some (Value.tuple #[S.D0.agg, Value.bool true, Value.int IntKind.i64 0])))) else 
              (bif b.e == 0 then 
               (bif b.c == 0 then 
                (bif S.check (D.mk b.v b.g b.t b.w a.e a.c) then some (Value.tuple #[(S.complete (D.mk b.v b.g b.t b.w a.e a.c)).agg, Value.bool true, Value.int IntKind.i64 0]) else some (Value.tuple #[S.D0.agg, Value.bool true, Value.int IntKind.i64 0])) else 
                (bif S.check (D.mk b.v b.g b.t b.w a.e b.c) then some (Value.tuple #[(S.complete (D.mk b.v b.g b.t b.w a.e b.c)).agg, Value.bool true, Value.int IntKind.i64 0]) else some (Value.tuple #[S.D0.agg, Value.bool true, Value.int IntKind.i64 0]))) else 
               (bif b.c == 0 then 
                (bif S.check (D.mk b.v b.g b.t b.w b.e a.c) then some (Value.tuple #[(S.complete (D.mk b.v b.g b.t b.w b.e a.c)).agg, Value.bool true, Value.int IntKind.i64 0]) else some (Value.tuple #[S.D0.agg, Value.bool true, Value.int IntKind.i64 0])) else 
                (bif S.check b then some (Value.tuple #[(S.complete b).agg, Value.bool true, Value.int IntKind.i64 0]) else some (Value.tuple #[S.D0.agg, Value.bool true, Value.int IntKind.i64 0])))))) else 
            (bif S.fields a then some (Value.tuple #[(S.over a b).agg, Value.bool true, Value.int IntKind.i64 0]) else 
             (bif b.e == 0 then 
              (bif b.c == 0 then 
               (bif S.check (D.mk b.v b.g b.t b.w a.e a.c) then some (Value.tuple #[(S.complete (D.mk b.v b.g b.t b.w a.e a.c)).agg, Value.bool true, Value.int IntKind.i64 0]) else some (Value.tuple #[S.D0.agg, Value.bool true, Value.int IntKind.i64 0])) else 
               (bif S.check (D.mk b.v b.g b.t b.w a.e b.c) then some (Value.tuple #[(S.complete (D.mk b.v b.g b.t b.w a.e b.c)).agg, Value.bool true, Value.int IntKind.i64 0]) else some (Value.tuple #[S.D0.agg, Value.bool true, Value.int IntKind.i64 0]))) else 
              (bif b.c == 0 then 
               (bif S.check (D.mk b.v b.g b.t b.w b.e a.c) then some (Value.tuple #[(S.complete (D.mk b.v b.g b.t b.w b.e a.c)).agg, Value.bool true, Value.int IntKind.i64 0]) else some (Value.tuple #[S.D0.agg, Value.bool true, Value.int IntKind.i64 0])) else 
               (bif S.check b then some (Value.tuple #[(S.complete b).agg, Value.bool true, Value.int IntKind.i64 0]) else some (Value.tuple #[S.D0.agg, Value.bool true, Value.int IntKind.i64 0])))))) else 
           (bif S.hasA b then 
            (bif S.check a then 
             (bif S.hasD a then 
              (bif b.e == 0 then 
               (bif b.c == 0 then 
                (bif S.check (D.mk b.v b.g b.t b.w a.e a.c) then some (Value.tuple #[(S.complete (D.mk b.v b.g b.t b.w a.e a.c)).agg, Value.bool true, Value.int IntKind.i64 0]) else some (Value.tuple #[S.D0.agg, Value.bool true, Value.int IntKind.i64 0])) else 
                (bif S.check (D.mk b.v b.g b.t b.w a.e b.c) then some (Value.tuple #[(S.complete (D.mk b.v b.g b.t b.w a.e b.c)).agg, Value.bool true, Value.int IntKind.i64 0]) else some (Value.tuple #[S.D0.agg, Value.bool true, Value.int IntKind.i64 0]))) else 
               (bif b.c == 0 then 
                (bif S.check (D.mk b.v b.g b.t b.w b.e a.c) then some (Value.tuple #[(S.complete (D.mk b.v b.g b.t b.w b.e a.c)).agg, Value.bool true, Value.int IntKind.i64 0]) else some (Value.tuple #[S.D0.agg, Value.bool true, Value.int IntKind.i64 0])) else 
                (bif S.check b then some (Value.tuple #[(S.complete b).agg, Value.bool true, Value.int IntKind.i64 0]) else some (Value.tuple #[S.D0.agg, Value.bool true, Value.int IntKind.i64 0])))) else 
              (bif S.hasA a then some (Value.tuple #[(S.over a b).agg, Value.bool true, Value.int IntKind.i64 0]) else 
               (bif b.e == 0 then 
                (bif b.c == 0 then 
                 (bif S.check (D.mk b.v b.g b.t b.w a.e a.c) then some (Value.tuple #[(S.complete (D.mk b.v b.g b.t b.w a.e a.c)).agg, Value.bool true, Value.int IntKind.i64 0]) else some (Value.tuple #[S.D0.agg, Value.bool true, Value.int IntKind.i64 0])) else 
                 (bif S.check (D.mk b.v b.g b.t b.w a.e b.c) then some (Value.tuple #[(S.complete (D.mk b.v b.g b.t b.w a.e b.c)).agg, Value.bool true, Value.int IntKind.i64 0]) else some (Value.tuple #[S.D0.agg, Value.bool true, Value.int IntKind.i64 0]))) else 
                (bif b.c == 0 then 
                 (bif S.check (D.mk b.v b.g b.t b.w b.e a.c) then some (Value.tuple #[(S.complete (D.mk b.v b.g b.t b.w b.e a.c)).agg, Value.bool true, Value.int IntKind.i64 0]) else some (Value.tuple #[S.D0.agg, Value.bool true, Value.int IntKind.i64 0])) else 
                 (bif S.check b then some (Value.tuple #[(S.complete b).agg, Value.bool true, Value.int IntKind.i64 0]) else some (Value.tuple #[S.D0.agg, Value.bool true, Value.int IntKind.i64 0])))))) else 
             (bif S.fields a then 
              (bif b.e == 0 then 
               (bif b.c == 0 then 
                (bif S.check (D.mk b.v b.g b.t b.w a.e a.c) then some (Value.tuple #[(S.complete (D.mk b.v b.g b.t b.w a.e a.c)).agg, Value.bool true, Value.int IntKind.i64 0]) else some (Value.tuple #[S.D0.agg, Value.bool true, Value.int IntKind.i64 0])) else 
                (bif S.check (D.mk b.v b.g b.t b.w a.e b.c) then some (Value.tuple #[(S.complete (D.mk b.v b.g b.t b.w a.e b.c)).agg, Value.bool true, Value.int IntKind.i64 0]) else some (Value.tuple #[S.D0.agg, Value.bool true, Value.int IntKind.i64 0]))) else 
               (bif b.c == 0 then 
                (bif S.check (D.mk b.v b.g b.t b.w b.e a.c) then some (Value.tuple #[(S.complete (D.mk b.v b.g b.t b.w b.e a.c)).agg, Value.bool true, Value.int IntKind.i64 0]) else some (Value.tuple #[S.D0.agg, Value.bool true, Value.int IntKind.i64 0])) else 
                (bif S.check b then some (Value.tuple #[(S.complete b).agg, Value.bool true, Value.int IntKind.i64 0]) else some (Value.tuple #[S.D0.agg, Value.bool true, Value.int IntKind.i64 0])))) else 
              (bif b.e == 0 then 
               (bif b.c == 0 then 
                (bif S.check (D.mk b.v b.g b.t b.w a.e a.c) then some (Value.tuple #[(S.complete (D.mk b.v b.g b.t b.w a.e a.c)).agg, Value.bool true, Value.int IntKind.i64 0]) else some (Value.tuple #[S.D0.agg, Value.bool true, Value.int IntKind.i64 0])) else 
                (bif S.check (D.mk b.v b.g b.t b.w a.e b.c) then some (Value.tuple #[(S.complete (D.mk b.v b.g b.t b.w a.e b.c)).agg, Value.bool true, Value.int IntKind.i64 0]) else some (Value.tuple #[S.D0.agg, Value.bool true, Value.int IntKind.i64 0]))) else 
               (bif b.c == 0 then 
                (bif S.check (D.mk b.v b.g b.t b.w b.e a.c) then some (Value.tuple #[(S.complete (D.mk b.v b.g b.t b.w b.e a.c)).agg, Value.bool true, Value.int IntKind.i64 0]) else some (Value.tuple #[S.D0.agg, Value.bool true, Value.int IntKind.i64 0])) else 
                (bif S.check b then some (Value.tuple #[(S.complete b).agg, Value.bool true, Value.int IntKind.i64 0]) else some (Value.tuple #[S.D0.agg, Value.bool true, Value.int IntKind.i64 0])))))) else 
            (bif S.check a then 
             (bif S.hasD a then some (Value.tuple #[(S.over a b).agg, Value.bool true, Value.int IntKind.i64 0]) else 
              (bif S.hasA a then some (Value.tuple #[(S.over a b).agg, Value.bool true, Value.int IntKind.i64 0]) else some (Value.tuple #[(S.over a b).agg, Value.bool true, Value.int IntKind.i64 0]))) else 
             (bif S.fields a then some (Value.tuple #[(S.over a b).agg, Value.bool true, Value.int IntKind.i64 0]) else some (Value.tuple #[(S.over a b).agg, Value.bool true, Value.int IntKind.i64 0]))))) else 
          (bif S.fields b then 
           (bif S.check a then 
            (bif S.hasD a then some (Value.tuple #[(S.over a b).agg, Value.bool true, Value.int IntKind.i64 0]) else 
             (bif S.hasA a then 
              (bif b.e == 0 then 
               (bif b.c == 0 then 
                (bif S.check (D.mk b.v b.g b.t b.w a.e a.c) then some (Value.tuple #[(S.complete (D.mk b.v b.g b.t b.w a.e a.c)).agg, Value.bool true, Value.int IntKind.i64 0]) else some (Value.tuple #[S.D0.agg, Value.bool true, Value.int IntKind.i64 0])) else 
                (bif S.check (D.mk b.v b.g b.t b.w a.e b.c) then some (Value.tuple #[(S.complete (D.mk b.v b.g b.t b.w a.e b.c)).agg, Value.bool true, Value.int IntKind.i64 0]) else some (Value.tuple #[S.D0.agg, Value.bool true, Value.int IntKind.i64 0]))) else 
               (bif b.c == 0 then 
                (bif S.check (D.mk b.v b.g b.t b.w b.e a.c) then some (Value.tuple #[(S.complete (D.mk b.v b.g b.t b.w b.e a.c)).agg, Value.bool true, Value.int IntKind.i64 0]) else some (Value.tuple #[S.D0.agg, Value.bool true, Value.int IntKind.i64 0])) else 
                (bif S.check b then some (Value.tuple #[(S.complete b).agg, Value.bool true, Value.int IntKind.i64 0]) else some (Value.tuple #[S.D0.agg, Value.bool true, Value.int IntKind.i64 0])))) else 
              (bif b.e == 0 then 
               (bif b.c == 0 then 
                (bif S.check (D.mk b.v b.g b.t b.w a.e a.c) then some (Value.tuple #[(S.complete (D.mk b.v b.g b.t b.w a.e a.c)).agg, Value.bool true, Value.int IntKind.i64 0]) else some (Value.tuple #[S.D0.agg, Value.bool true, Value.int IntKind.i64 0])) else 
                (bif S.check (D.mk b.v b.g b.t b.w a.e b.c) then some (Value.tuple #[(S.complete (D.mk b.v b.g b.t b.w a.e b.c)).agg, Value.bool true, Value.int IntKind.i64 0]) else some (Value.tuple #[S.D0.agg, Value.bool true, Value.int IntKind.i64 0]))) else 
               (bif b.c == 0 then 
                (bif S.check (D.mk b.v b.g b.t b.w b.e a.c) then some (Value.tuple #[(S.complete (D.mk b.v b.g b.t b.w b.e a.c)).agg, Value.bool true, Value.int IntKind.i64 0]) else some (Value.tuple #[S.D0.agg, Value.bool true, Value.int IntKind.i64 0])) else 
                (bif S.check b then some (Value.tuple #[(S.complete b).agg, Value.bool true, Value.int IntKind.i64 0]) else some (Value.tuple #[S.D0.agg, Value.bool true, Value.int IntKind.i64 0])))))) else 
            (bif S.fields a then some (Value.tuple #[(S.over a b).agg, Value.bool true, Value.int IntKind.i64 0]) else 
             (bif b.e == 0 then 
              (bif b.c == 0 then 
               (bif S.check (D.mk b.v b.g b.t b.w a.e a.c) then some (Value.tuple #[(S.complete (D.mk b.v b.g b.t b.w a.e a.c)).agg, Value.bool true, Value.int IntKind.i64 0]) else some (Value.tuple #[S.D0.agg, Value.bool true, Value.int IntKind.i64 0])) else 
               (bif S.check (D.mk b.v b.g b.t b.w a.e b.c) then some (Value.tuple #[(S.complete (D.mk b.v b.g b.t b.w a.e b.c)).agg, Value.bool true, Value.int IntKind.i64 0]) else some (Value.tuple #[S.D0.agg, Value.bool true, Value.int IntKind.i64 0]))) else 
              (bif b.c == 0 then 
               (bif S.check (D.mk b.v b.g b.t b.w b.e a.c) then some (Value.tuple #[(S.complete (D.mk b.v b.g b.t b.w b.e a.c)).agg, Value.bool true, Value.int IntKind.i64 0]) else some (Value.tuple #[S.D0.agg, Value.bool true, Value.int IntKind.i64 0])) else 
               (bif S.check b then some (Value.tuple #[(S.complete b).agg, Value.bool true, Value.int IntKind.i64 0]) else some (Value.tuple #[S.D0.agg, Value.bool true, Value.int IntKind.i64 0])))))) else 
           (bif S.check a then 
            (bif S.hasD a then some (Value.tuple #[(S.over a b).agg, Value.bool true, Value.int IntKind.i64 0]) else 
             (bif S.hasA a then some (Value.tuple #[(S.over a b).agg, Value.bool true, Value.int IntKind.i64 0]) else some (Value.tuple #[(S.over a b).agg, Value.bool true, Value.int IntKind.i64 0]))) else 
            (bif S.fields a then some (Value.tuple #[(S.over a b).agg, Value.bool true, Value.int IntKind.i64 0]) else some (Value.tuple #[(S.over a b).agg, Value.bool true, Value.int IntKind.i64 0])))))))) else 
      (bif S.zero a then 
       (bif !x then some (Value.tuple #[a.agg, Value.bool false, Value.int IntKind.i64 0]) else 
        (bif S.check b then some (Value.tuple #[(S.complete b).agg, Value.bool true, Value.int IntKind.i64 0]) else some (Value.tuple #[S.D0.agg, Value.bool true, Value.int IntKind.i64 0]))) else 
       (bif a.c == 1 then 
        (bif S.barred a b then some (Value.tuple #[a.agg, Value.bool false, Value.int IntKind.i64 0]) else 
         (bif S.check b then 
          (bif S.hasD b then 
           (bif S.check a then 
            (bif S.hasD a then some (Value.tuple #[(S.over a b).agg, Value.bool true, Value.int IntKind.i64 0]) else 
             (bif S.hasA a then 
              (bif b.e == 0 then 
               (bif b.c == 0 then 
                (bif S.check (D.mk b.v b.g b.t b.w a.e a.c) then some (Value.tuple #[(S.complete (D.mk b.v b.g b.t b.w a.e a.c)).agg, Value.bool true, Value.int IntKind.i64 0]) else some (Value.tuple #[S.D0.agg, Value.bool true, Value.int IntKind.i64 0])) else 
                (bif S.check (D.mk b.v b.g b.t b.w a.e b.c) then some (Value.tuple #[(S.complete (D.mk b.v b.g b.t b.w a.e b.c)).agg, Value.bool true, Value.int IntKind.i64 0]) else some (Value.tuple #[S.D0.agg, Value.bool true, Value.int IntKind.i64 0]))) else 
               (bif b.c == 0 then 
                (bif S.check (D.mk b.v b.g b.t b.w b.e a.c) then some (Value.tuple #[(S.complete (D.mk b.v b.g b.t b.w b.e a.c)).agg, Value.bool true, Value.int IntKind.i64 0]) else some (Value.tuple #[S.D0.agg, Value.bool true, Value.int IntKind.i64 0])) else 
                (bif S.check b then some (Value.tuple #[(S.complete b).agg, Value.bool true, Value.int IntKind.i64 0]) else some (Value.tuple #[S.D0.agg, Value.bool true, Value.int IntKind.i64 0])))) else 
              (bif b.e == 0 then 
               (bif b.c == 0 then 
                (bif S.check (D.mk b.v b.g b.t b.w a.e a.c) then some (Value.tuple #[(S.complete (D.mk b.v b.g b.t b.w a.e a.c)).agg, Value.bool true, Value.int IntKind.i64 0]) else some (Value.tuple #[S.D0.agg, Value.bool true, Value.int IntKind.i64 0])) else 
                (bif S.check (D.mk b.v b.g b.t b.w a.e b.c) then some (Value.tuple #[(S.complete (D.mk b.v b.g b.t b.w a.e b.c)).agg, Value.bool true, Value.int IntKind.i64 0]) else some (Value.tuple #[S.D0.agg, Value.bool true, Value.int IntKind.i64 0]))) else 
               (bif b.c == 0 then 
                (bif S.check (D.mk b.v b.g b.t b.w b.e a.c) then some (Value.tuple #[(S.complete (D.mk b.v b.g b.t b.w b.e a.c)).agg, Value.bool true, Value.int IntKind.i64 0]) else some (Value.tuple #[S.D0.agg, Value.bool true, Value.int IntKind.i64 0])) else 
                (bif S.check b then some (Value.tuple #[(S.complete b).agg, Value.bool true, Value.int IntKind.i64 0]) else some (Value.tuple #[S.D0.agg, Value.bool true, Value.int IntKind.i64 0])))))) else 
            (bif S.fields a then some (Value.tuple #[(S.over a b).agg, Value.bool true, Value.int IntKind.i64 0]) else 
             (bif b.e == 0 then 
              (bif b.c == 0 then 
               (bif S.check (D.mk b.v b.g b.t b.w a.e a.c) then some (Value.tuple #[(S.complete (D.mk b.v b.g b.t b.w a.e a.c)).agg, Value.bool true, Value.int IntKind.i64 0]) else some (Value.tuple #[S.D0.agg, Value.bool true, Value.int IntKind.i64 0])) else 
               (bif S.check (D.mk b.v b.g b.t b.w a.e b.c) then some (Value.tuple #[(S.complete (D.mk b.v b.g b.t b.w a.e b.c)).agg, Value.bool true, Value.int IntKind.i64 0]) else some (Value.tuple #[S.D0.agg, Value.bool true, Value.int IntKind.i64 0]))) else 
              (bif b.c == 0 then 
               (bif S.check (D.mk b.v b.g b.t b.w b.e a.c) then some (Value.tuple #[(S.complete (D.mk b.v b.g b.t b.w b.e a.c)).agg, Value.bool true, Value.int IntKind.i64 0]) else some (Value.tuple #[S.D0.agg, Value.bool true, Value.int IntKind.i64 0])) else 
               (bif S.check b then some (Value.tuple #[(S.complete b).agg, Value.bool true, Value.int IntKind.i64 0]) else some (Value.tuple #[S.D0.agg, Value.bool true, Value.int IntKind.i64 0])))))) else 
           (bif S.hasA b then 
            (bif S.check a then 
             (bif S.hasD a then 
              (bif b.e == 0 then 
               (bif b.c == 0 then 
                (bif S.check (D.mk b.v b.g b.t b.w a.e a.c) then some (Value.tuple #[(S.complete (D.mk b.v b.g b.t b.w a.e a.c)).agg, Value.bool true, Value.int IntKind.i64 0]) else some (Value.tuple #[S.D0.agg, Value.bool true, Value.int IntKind.i64 0])) else 
                (bif S.check (D.mk b.v b.g b.t b.w a.e b.c) then some (Value.tuple #[(S.complete (D.mk b.v b.g b.t b.w a.e b.c)).agg, Value.bool true, Value.int IntKind.i64 0]) else some (Value.tuple #[S.D0.agg, Value.bool true, Value.int IntKind.i64 0]))) else 
               (bif b.c == 0 then 
                (bif S.check (D.mk b.v b.g b.t b.w b.e a.c) then some (Value.tuple #[(S.complete (D.mk b.v b.g b.t b.w b.e a.c)).agg, Value.bool true, Value.int IntKind.i64 0]) else some (Value.tuple #[S.D0.agg, Value.bool true, Value.int IntKind.i64 0])) else 
                (bif S.check b then some (Value.tuple #[(S.complete b).agg, Value.bool true, Value.int IntKind.i64 0]) else some (Value.tuple #[S.D0.agg, Value.bool true, Value.int IntKind.i64 0])))) else 
              (bif S.hasA a then some (Value.tuple #[(S.over a b).agg, Value.bool true, Value.int IntKind.i64 0]) else 
               (bif b.e == 0 then 
                (bif b.c == 0 then 
                 (bif S.check (D.mk b.v b.g b.t b.w a.e a.c) then some (Value.tuple #[(S.complete (D.mk b.v b.g b.t b.w a.e a.c)).agg, Value.bool true, Value.int IntKind.i64 0]) else some (Value.tuple #[S.D0.agg, Value.bool true, Value.int IntKind.i64 0])) else 
                 (bif S.check (D.mk b.v b.g b.t b.w a.e b.c) then some (Value.tuple #[(S.complete (D.mk b.v b.g b.t b.w a.e b.c)).agg, Value.bool true, Value.int IntKind.i64 0]) else some (Value.tuple #[S.D0.agg, Value.bool true, Value.int IntKind.i64 0]))) else 
                (bif b.c == 0 then 
                 (bif S.check (D.mk b.v b.g b.t b.w b.e a.c) then some (Value.tuple #[(S.complete (D.mk b.v b.g b.t b.w b.e a.c)).agg, Value.bool true, Value.int IntKind.i64 0]) else some (Value.tuple #[S.D0.agg, Value.bool true, Value.int IntKind.i64 0])) else 
                 (bif S.check b then some (Value.tuple #[(S.complete b).agg, Value.bool true, Value.int IntKind.i64 0]) else some (Value.tuple #[S.D0.agg, Value.bool true, Value.int IntKind.i64 0])))))) else 
             (bif S.fields a then 
              (bif b.e == 0 then 
               (bif b.c == 0 then 
                (bif S.check (D.mk b.v b.g b.t b.w a.e a.c) then some (Value.tuple #[(S.complete (D.mk b.v b.g b.t b.w a.e a.c)).agg, Value.bool true, Value.int IntKind.i64 0]) else some (Value.tuple #[S.D0.agg, Value.bool true, Value.int IntKind.i64 0])) else 
                (bif S.check (D.mk b.v b.g b.t b.w a.e b.c) then some (Value.tuple #[(S.complete (D.mk b.v b.g b.t b.w a.e b.c)).agg, Value.bool true, Value.int IntKind.i64 0]) else some (Value.tuple #[S.D0.agg, Value.bool true, Value.int IntKind.i64 0]))) else 
               (bif b.c == 0 then 
                (bif S.check (D.mk b.v b.g b.t b.w b.e a.c) then some (Value.tuple #[(S.complete (D.mk b.v b.g b.t b.w b.e a.c)).agg, Value.bool true, Value.int IntKind.i64 0]) else some (Value.tuple #[S.D0.agg, Value.bool true, Value.int IntKind.i64 0])) else 
                (bif S.check b then some (Value.tuple #[(S.complete b).agg, Value.bool true, Value.int IntKind.i64 0]) else some (Value.tuple #[S.D0.agg, Value.bool true, Value.int IntKind.i64 0])))) else 
              (bif b.e == 0 then 
               (bif b.c == 0 then 
                (bif S.check (D.mk b.v b.g b.t b.w a.e a.c) then some (Value.tuple #[(S.complete (D.mk b.v b.g b.t b.w a.e a.c)).agg, Value.bool true, Value.int IntKind.i64 0]) else some (Value.tuple #[S.D0.agg, Value.bool true, Value.int IntKind.i64 0])) else 
                (bif S.check (D.mk b.v b.g b.t b.w a.e b.c) then some (Value.tuple #[(S.complete (D.mk b.v b.g b.t b.w a.e b.c)).agg, Value.bool true, Value.int IntKind.i64 0]) else some (Value.tuple #[S.D0.agg, Value.bool true, Value.int IntKind.i64 0]))) else 
               (bif b.c == 0 then 
                (bif S.check (D.mk b.v b.g b.t b.w b.e a.c) then some (Value.tuple #[(S.complete (D.mk b.v b.g b.t b.w b.e a.c)).agg, Value.bool true, Value.int IntKind.i64 0]) else some (Value.tuple #[S.D0.agg, Value.bool true, Value.int IntKind.i64 0])) else 
                (bif S.check b then some (Value.tuple #[(S.complete b).agg, Value.bool true, Value.int IntKind.i64 0]) else some (Value.tuple #[S.D0.agg, Value.bool true, Value.int IntKind.i64 0])))))) else 
            (bif S.check a then 
             (bif S.hasD a then some (Value.tuple #[(S.over a b).agg, Value.bool true, Value.int IntKind.i64 0]) else 
              (bif S.hasA a then some (Value.tuple #[(S.over a b).agg, Value.bool true, Value.int IntKind.i64 0]) else some (Value.tuple #[(S.over a b).agg, Value.bool true, Value.int IntKind.i64 0]))) else 
             (bif S.fields a then some (Value.tuple #[(S.over a b).agg, Value.bool true, Value.int IntKind.i64 0]) else some (Value.tuple #[(S.over a b).agg, Value.bool true, Value.int IntKind.i64 0]))))) else 
          (bif S.fields b then 
           (bif S.check a then 
            (bif S.hasD a then some (Value.tuple #[(S.over a b).agg, Value.bool true, Value.int IntKind.i64 0]) else 
             (bif S.hasA a then 
              (bif b.e == 0 then 
               (bif b.c == 0 then 
                (bif S.check (D.mk b.v b.g b.t b.w a.e a.c) then some (Value.tuple #[(S.complete (D.mk b.v b.g b.t b.w a.e a.c)).agg, Value.bool true, Value.int IntKind.i64 0]) else some (Value.tuple #[S.D0.agg, Value.bool true, Value.int IntKind.i64 0])) else 
                (bif S.check (D.mk b.v b.g b.t b.w a.e b.c) then some (Value.tuple #[(S.complete (D.mk b.v b.g b.t b.w a.e b.c)).agg, Value.bool true, Value.int IntKind.i64 0]) else some (Value.tuple #[S.D0.agg, Value.bool true, Value.int IntKind.i64 0]))) else 
               (bif b.c == 0 then 
                (bif S.check (D.mk b.v b.g b.t b.w b.e a.c) then some (Value.tuple #[(S.complete (D.mk b.v b.g b.t b.w b.e a.c)).agg, Value.bool true, Value.int IntKind.i64 0]) else some (Value.tuple #[S.D0.agg, Value.bool true, Value.int IntKind.i64 0])) else 
                (bif S.check b then some (Value.tuple #[(S.complete b).agg, Value.bool true, Value.int IntKind.i64 0]) else some (Value.tuple #[S.D0.agg, Value.bool true, Value.int IntKind.i64 0])))) else 
              (bif b.e == 0 then 
               (bif b.c == 0 then 
                (bif S.check (D.mk b.v b.g b.t b.w a.e a.c) then some (Value.tuple #[(S.complete (D.mk b.v b.g b.t b.w a.e a.c)).agg, Value.bool true, Value.int IntKind.i64 0]) else some (Value.tuple #[S.D0.agg, Value.bool true, Value.int IntKind.i64 0])) else 
                (bif S.check (D.mk b.v b.g b.t b.w a.e b.c) then some (Value.tuple #[(S.complete (D.mk b.v b.g b.t b.w a.e b.c)).agg, Value.bool true, Value.int IntKind.i64 0]) else some (Value.tuple #[S.D0.agg, Value.bool true, Value.int IntKind.i64 0]))) else 
               (bif b.c == 0 then 
                (bif S.check (D.mk b.v b.g b.t b.w b.e a.c) then some (Value.tuple #[(S.complete (D.mk b.v b.g b.t b.w b.e a.c)).agg, Value.bool true, Value.int IntKind.i64 0]) else some (Value.tuple #[S.D0.agg, Value.bool true, Value.int IntKind.i64 0])) else 
                (bif S.check b then some (Value.tuple #[(S.complete b).agg, Value.bool true, Value.int IntKind.i64 0]) else some (Value.tuple #[S.D0.agg, Value.bool true, Value.int IntKind.i64 0])))))) else 
            (bif S.fields a then some (Value.tuple #[(S.over a b).agg, Value.bool true, Value.int IntKind.i64 0]) else 
             (bif b.e == 0 then 
              (bif b.c == 0 then 
               (bif S.check (D.mk b.v b.g b.t b.w a.e a.c) then some (Value.tuple #[(S.complete (D.mk b.v b.g b.t b.w a.e a.c)).agg, Value.bool true, Value.int IntKind.i64 0]) else some (Value.tuple #[S.D0.agg, Value.bool true, Value.int IntKind.i64 0])) else 
               (bif S.check (D.mk b.v b.g b.t b.w a.e b.c) then some (Value.tuple #[(S.complete (D.mk b.v b.g b.t b.w a.e b.c)).agg, Value.bool true, Value.int IntKind.i64 0]) else some (Value.tuple #[S.D0.agg, Value.bool true, Value.int IntKind.i64 0]))) else 
              (bif b.c == 0 then 
               (bif S.check (D.mk b.v b.g b.t b.w b.e a.c) then some (Value.tuple #[(S.complete (D.mk b.v b.g b.t b.w b.e a.c)).agg, Value.bool true, Value.int IntKind.i64 0]) else some (Value.tuple #[S.D0.agg, Value.bool true, Value.int IntKind.i64 0])) else 
               (bif S.check b then some (Value.tuple #[(S.complete b).agg, Value.bool true, Value.int IntKind.i64 0]) else some (Value.tuple #[S.D0.agg, Value.bool true, Value.int IntKind.i64 0])))))) else 
           (bif S.check a then 
            (bif S.hasD a then some (Value.tuple #[(S.over a b).agg, Value.bool true, Value.int IntKind.i64 0]) else 
             (bif S.hasA a then some (Value.tuple #[(S.over a b).agg, Value.bool true, Value.int IntKind.i64 0]) else some (Value.tuple #[(S.over a b).agg, Value.bool true, Value.int IntKind.i64 0]))) else 
            (bif S.fields a then some (Value.tuple #[(S.over a b).agg, Value.bool true, Value.int IntKind.i64 0]) else some (Value.tuple #[(S.over a b).agg, Value.bool true, Value.int IntKind.i64 0])))))) else 
        (bif S.check b then 
         (bif S.hasD b then 
          (bif S.check a then 
           (bif S.hasD a then some (Value.tuple #[(S.over a b).agg, Value.bool true, Value.int IntKind.i64 0]) else 
            (bif S.hasA a then 
             (bif b.e == 0 then 
              (bif b.c == 0 then 
               (bif S.check (D.mk b.v b.g b.t b.w a.e a.c) then some (Value.tuple #[(S.complete (D.mk b.v b.g b.t b.w a.e a.c)).agg, Value.bool true, Value.int IntKind.i64 0]) else some (Value.tuple #[S.D0.agg, Value.bool true, Value.int IntKind.i64 0])) else 
               (bif S.check (D.mk b.v b.g b.t b.w a.e b.c) then some (Value.tuple #[(S.complete (D.mk b.v b.g b.t b.w a.e b.c)).agg, Value.bool true, Value.int IntKind.i64 0]) else some (Value.tuple #[S.D0.agg, Value.bool true, Value.int IntKind.i64 0]))) else 
              (bif b.c == 0 then 
               (bif S.check (D.mk b.v b.g b.t b.w b.e a.c) then some (Value.tuple #[(S.complete (D.mk b.v b.g b.t b.w b.e a.c)).agg, Value.bool true, Value.int IntKind.i64 0]) else some (Value.tuple #[S.D0.agg, Value.bool true, Value.int IntKind.i64 0])) else 
               (bif S.check b then some (Value.tuple #[(S.complete b).agg, Value.bool true, Value.int IntKind.i64 0]) else some (Value.tuple #[S.D0.agg, Value.bool true, Value.int IntKind.i64 0])))) else 
             (bif b.e == 0 then 
              (bif b.c == 0 then 
               (bif S.check (D.mk b.v b.g b.t b.w a.e a.c) then some (Value.tuple #[(S.complete (D.mk b.v b.g b.t b.w a.e a.c)).agg, Value.bool true, Value.int IntKind.i64 0]) else some (Value.tuple #[S.D0.agg, Value.bool true, Value.int IntKind.i64 0])) else 
               (bif S.check (D.mk b.v b.g b.t b.w a.e b.c) then some (Value.tuple #[(S.complete (D.mk b.v b.g b.t b.w a.e b.c)).agg, Value.bool true, Value.int IntKind.i64 0]) else some (Value.tuple #[S.D0.agg, Value.bool true, Value.int IntKind.i64 0]))) else 
              (bif b.c == 0 then 
               (bif S.check (D.mk b.v b.g b.t b.w b.e a.c) then some (Value.tuple #[(S.complete (D.mk b.v b.g b.t b.w b.e a.c)).agg, Value.bool true, Value.int IntKind.i64 0]) else some (Value.tuple #[S.D0.agg, Value.bool true, Value.int IntKind.i64 0])) else 
               (bif S.check b then some (Value.tuple #[(S.complete b).agg, Value.bool true, Value.int IntKind.i64 0]) else some (Value.tuple #[S.D0.agg, Value.bool true, Value.int IntKind.i64 0])))))) else 
           (bif S.fields a then some (Value.tuple #[(S.over a b).agg, Value.bool true, Value.int IntKind.i64 0]) else 
            (bif b.e == 0 then 
             (bif b.c == 0 then 
              (bif S.check (D.mk b.v b.g b.t b.w a.e a.c) then some (Value.tuple #[(S.complete (D.mk b.v b.g b.t b.w a.e a.c)).agg, Value.bool true, Value.int IntKind.i64 0]) else some (Value.tuple #[S.D0.agg, Value.bool true, Value.int IntKind.i64 0])) else 
              (bif S.check (D.mk b.v b.g b.t b.w a.e b.c) then some (Value.tuple #[(S.complete (D.mk b.v b.g b.t b.w a.e b.c)).agg, Value.bool true, Value.int IntKind.i64 0]) else some (Value.tuple #[S.D0.agg, Value.bool true, Value.int IntKind.i64 0]))) else 
             (bif b.c == 0 then 
              (bif S.check (D.mk b.v b.g b.t b.w b.e a.c) then some (Value.tuple #[(S.complete (D.mk b.v b.g b.t b.w b.e a.c)).agg, Value.bool true, Value.int IntKind.i64 0]) else some (Value.tuple #[S.D0.agg, Value.bool true, Value.int IntKind.i64 0])) else 
              (bif S.check b then some (Value.tuple #[(S.complete b).agg, Value.bool true, Value.int IntKind.i64 0]) else some (Value.tuple #[S.D0.agg, Value.bool true, Value.int IntKind.i64 0])))))) else 
          (bif S.hasA b then 
           (bif S.check a then 
            (bif S.hasD a then 
             (bif b.e == 0 then 
              (bif b.c == 0 then 
               (bif S.check (D.mk b.v b.g b.t b.w a.e a.c) then some (Value.tuple #[(S.complete (D.mk b.v b.g b.t b.w a.e a.c)).agg, Value.bool true, Value.int IntKind.i64 0]) else some (Value.tuple #[S.D0.agg, Value.bool true, Value.int IntKind.i64 0])) else 
               (bif S.check (D.mk b.v b.g b.t b.w a.e b.c) then some (Value.tuple #[(S.complete (D.mk b.v b.g b.t b.w a.e b.c)).agg, Value.bool true, Value.int IntKind.i64 0]) else some (Value.tuple #[S.D0.agg, Value.bool true, Value.int IntKind.i64 0]))) else 
              (bif b.c == 0 then 
               (bif S.check (D.mk b.v b.g b.t b.w b.e a.c) then some (Value.tuple #[(S.complete (D.mk b.v b.g b.t b.w b.e a.c)).agg, Value.bool true, Value.int IntKind.i64 0]) else some (Value.tuple #[S.D0.agg, Value.bool true, Value.int IntKind.i64 0])) else 
               (bif S.check b then some (Value.tuple #[(S.complete b).agg, Value.bool true, Value.int IntKind.i64 0]) else some (Value.tuple #[S.D0.agg, Value.bool true, Value.int IntKind.i64 0])))) else 
             (bif S.hasA a then some (Value.tuple #[(S.over a b).agg, Value.bool true, Value.int IntKind.i64 0]) else 
              (bif b.e == 0 then 
               (bif b.c == 0 then 
                (bif S.check (D.mk b.v b.g b.t b.w a.e a.c) then some (Value.tuple #[(S.complete (D.mk b.v b.g b.t b.w a.e a.c)).agg, Value.bool true, Value.int IntKind.i64 0]) else some (Value.tuple #[S.D0.agg, Value.bool true, Value.int IntKind.i64 0])) else 
                (bif S.check (D.mk b.v b.g b.t b.w a.e b.c) then some (Value.tuple #[(S.complete (D.mk b.v b.g b.t b.w a.e b.c)).agg, Value.bool true, Value.int IntKind.i64 0]) else some (Value.tuple #[S.D0.agg, Value.bool true, Value.int IntKind.i64 0]))) else 
               (bif b.c == 0 then 
                (bif S.check (D.mk b.v b.g b.t b.w b.e a.c) then some (Value.tuple #[(S.complete (D.mk b.v b.g b.t b.w b.e a.c)).agg, Value.bool true, Value.int IntKind.i64 0]) else some (Value.tuple #[S.D0.agg, Value.bool true, Value.int IntKind.i64 0])) else 
                (bif S.check b then some (Value.tuple #[(S.complete b).agg, Value.bool true, Value.int IntKind.i64 0]) else some (Value.tuple #[S.D0.agg, Value.bool true, Value.int IntKind.i64 0])))))) else 
            (bif S.fields a then 
             (bif b.e == 0 then 
              (bif b.c == 0 then 
               (bif S.check (D.mk b.v b.g b.t b.w a.e a.c) then some (Value.tuple #[(S.complete (D.mk b.v b.g b.t b.w a.e a.c)).agg, Value.bool true, Value.int IntKind.i64 0]) else some (Value.tuple #[S.D0.agg, Value.bool true, Value.int IntKind.i64 0])) else 
               (bif S.check (D.mk b.v b.g b.t b.w a.e b.c) then some (Value.tuple #[(S.complete (D.mk b.v b.g b.t b.w a.e b.c)).agg, Value.bool true, Value.int IntKind.i64 0]) else some (Value.tuple #[S.D0.agg, Value.bool true, Value.int IntKind.i64 0]))) else 
              (bif b.c == 0 then 
               (bif S.check (D.mk b.v b.g b.t b.w b.e a.c) then some (Value.tuple #[(S.complete (D.mk b.v b.g b.t b.w b.e a.c)).agg, Value.bool true, Value.int IntKind.i64 0]) else some (Value.tuple #[S.D0.agg, Value.bool true, Value.int IntKind.i64 0])) else 
               (bif S.check b then some (Value.tuple #[(S.complete b).agg, Value.bool true, Value.int IntKind.i64 0]) else some (Value.tuple #[S.D0.agg, Value.bool true, Value.int IntKind.i64 0])))) else 
             (bif b.e == 0 then 
              (bif b.c == 0 then 
               (bif S.check (D.mk b.v b.g b.t b.w a.e a.c) then some (Value.tuple #[(S.complete (D.mk b.v b.g b.t b.w a.e a.c)).agg, Value.bool true, Value.int IntKind.i64 0]) else some (Value.tuple #[S.D0.agg, Value.bool true, Value.int IntKind.i64 0])) else 
               (bif S.check (D.mk b.v b.g b.t b.w a.e b.c) then some (Value.tuple #[(S.complete (D.mk b.v b.g b.t b.w a.e b.c)).agg, Value.bool true, Value.int IntKind.i64 0]) else some (Value.tuple #[S.D0.agg, Value.bool true, Value.int IntKind.i64 0]))) else 
              (bif b.c == 0 then 
               (bif S.check (D.mk b.v b.g b.t b.w b.e a.c) then some (Value.tuple #[(S.complete (D.mk b.v b.g b.t b.w b.e a.c)).agg, Value.bool true, Value.int IntKind.i64 0]) else some (Value.tuple #[S.D0.agg, Value.bool true, Value.int IntKind.i64 0])) else 
               (bif S.check b then some (Value.tuple #[(S.complete b).agg, Value.bool true, Value.int IntKind.i64 0]) else some (Value.tuple #[S.D0.agg, Value.bool true, Value.int IntKind.i64 0])))))) else 
           (bif S.check a then 
            (bif S.hasD a then some (Value.tuple #[(S.over a b).agg, Value.bool true, Value.int IntKind.i64 0]) else 
             (bif S.hasA a then some (Value.tuple #[(S.over a b).agg, Value.bool true, Value.int IntKind.i64 0]) else some (Value.tuple #[(S.over a b).agg, Value.bool true, Value.int IntKind.i64 0]))) else 
            (bif S.fields a then some (Value.tuple #[(S.over a b).agg, Value.bool true, Value.int IntKind.i64 0]) else some (Value.tuple #[(S.over a b).agg, Value.bool true, Value.int IntKind.i64 0]))))) else 
         (bif S.fields b then 
          (bif S.check a then 
           (bif S.hasD a then some (Value.tuple #[(S.over a b).agg, Value.bool true, Value.int IntKind.i64 0]) else 
            (bif S.hasA a then 
             (bif b.e == 0 then 
              (bif b.c == 0 then 
               (bif S.check (D.mk b.v b.g b.t b.w a.e a.c) then some (Value.tuple #[(S.complete (D.mk b.v b.g b.t b.w a.e a.c)).agg, Value.bool true, Value.int IntKind.i64 0]) else some (Value.tuple #[S.D0.agg, Value.bool true, Value.int IntKind.i64 0])) else 
               (bif S.check (D.mk b.v b.g b.t b.w a.e b.c) then some (Value.tuple #[(S.complete (D.mk b.v b.g b.t b.w a.e b.c)).agg, Value.bool true, Value.int IntKind.i64 0]) else some (Value.tuple #[S.D0.agg, Value.bool true, Value.int IntKind.i64 0]))) else 
              (bif b.c == 0 then 
               (bif S.check (D.mk b.v b.g b.t b.w b.e a.c) then some (Value.tuple #[(S.complete (D.mk b.v b.g b.t b.w b.e a.c)).agg, Value.bool true, Value.int IntKind.i64 0]) else some (Value.tuple #[S.D0.agg, Value.bool true, Value.int IntKind.i64 0])) else 
               (bif S.check b then some (Value.tuple #[(S.complete b).agg, Value.bool true, Value.int IntKind.i64 0]) else some (Value.tuple #[S.D0.agg, Value.bool true, Value.int IntKind.i64 0])))) else 
             (bif b.e == 0 then 
              (bif b.c == 0 then 
               (bif S.check (D.mk b.v b.g b.t b.w a.e a.c) then some (Value.tuple #[(S.complete (D.mk b.v b.g b.t b.w a.e a.c)).agg, Value.bool true, Value.int IntKind.i64 0]) else some (Value.tuple #[S.D0.agg, Value.bool true, Value.int IntKind.i64 0])) else 
               (bif S.check (D.mk b.v b.g b.t b.w a.e b.c) then some (Value.tuple #[(S.complete (D.mk b.v b.g b.t b.w a.e b.c)).agg, Value.bool true, Value.int IntKind.i64 0]) else some (Value.tuple #[S.D0.agg, Value.bool true, Value.int IntKind.i64 0]))) else 
              (bif b.c == 0 then 
               (bif S.check (D.mk b.v b.g b.t b.w b.e a.c) then some (Value.tuple #[(S.complete (D.mk b.v b.g b.t b.w b.e a.c)).agg, Value.bool true, Value.int IntKind.i64 0]) else some (Value.tuple #[S.D0.agg, Value.bool true, Value.int IntKind.i64 0])) else 
               (bif S.check b then some (Value.tuple #[(S.complete b).agg, Value.bool true, Value.int IntKind.i64 0]) else some (Value.tuple #[S.D0.agg, Value.bool true, Value.int IntKind.i64 0])))))) else 
           (bif S.fields a then some (Value.tuple #[(S.over a b).agg, Value.bool true, Value.int IntKind.i64 0]) else 
            (bif b.e == 0 then 
             (bif b.c == 0 then 
              (bif S.check (D.mk b.v b.g b.t b.w a.e a.c) then some (Value.tuple #[(S.complete (D.mk b.v b.g b.t b.w a.e a.c)).agg, Value.bool true, Value.int IntKind.i64 0]) else some (Value.tuple #[S.D0.agg, Value.bool true, Value.int IntKind.i64 0])) else 
              (bif S.check (D.mk b.v b.g b.t b.w a.e b.c) then some (Value.tuple #[(S.complete (D.mk b.v b.g b.t b.w a.e b.c)).agg, Value.bool true, Value.int IntKind.i64 0]) else some (Value.tuple #[S.D0.agg, Value.bool true, Value.int IntKind.i64 0]))) else 
             (bif b.c == 0 then 
              (bif S.check (D.mk b.v b.g b.t b.w b.e a.c) then some (Value.tuple #[(S.complete (D.mk b.v b.g b.t b.w b.e a.c)).agg, Value.bool true, Value.int IntKind.i64 0]) else some (Value.tuple #[S.D0.agg, Value.bool true, Value.int IntKind.i64 0])) else 
              (bif S.check b then some (Value.tuple #[(S.complete b).agg, Value.bool true, Value.int IntKind.i64 0]) else some (Value.tuple #[S.D0.agg, Value.bool true, Value.int IntKind.i64 0])))))) else 
          (bif S.check a then 
           (bif S.hasD a then some (Value.tuple #[(S.over a b).agg, Value.bool true, Value.int IntKind.i64 0]) else 
            (bif S.hasA a then some (Value.tuple #[(S.over a b).agg, Value.bool true, Value.int IntKind.i64 0]) else some (Value.tuple #[(S.over a b).agg, Value.bool true, Value.int IntKind.i64 0]))) else 
           (bif S.fields a then some (Value.tuple #[(S.over a b).agg, Value.bool true, Value.int IntKind.i64 0]) else some (Value.tuple #[(S.over a b).agg, Value.bool true, Value.int IntKind.i64 0])))))))) else some (Value.tuple #[(D.mk (V.mk 0 false 0 (ByteArray.mk #[]) 0) (V.mk 0 false 0 (ByteArray.mk #[]) 0) (V.mk 0 false 0 (ByteArray.mk #[]) 0) 0 0 0).agg, Value.bool false, Value.int IntKind.i64 5]))) (by kernel_rfl) (by
    obtain ⟨bv, bg, bt, bw, be, bc⟩ := b
    simp only [T.apply, DT.val_node, DT.val_leaf, DT.bind, DT.val_bad]
    repeat' (first | (with_reducible refine bif_neq (fun h => ?_) (fun h => ?_)) | (with_reducible refine bif_and (fun h => ?_) (fun h => ?_)) | (with_reducible refine bif_eq (fun h => ?_) (fun h => ?_)))
    all_goals first | (simp only [*, S.apply, S.okA, S.kindN, S.compl, S.turn, S.no, S.V0, S.D0, D.eta, cond_true, cond_false, Bool.and_true, Bool.true_and, Bool.and_false, Bool.false_and, Bool.or_true, Bool.true_or, Bool.or_false, Bool.false_or, Bool.not_true, Bool.not_false, beq_self_eq_true, bne_self_eq_false, Bool.not_not]; done) | (exfalso; simp_all; done) | (simp_all [S.apply, S.okA, S.kindN, S.compl, S.turn, S.no, S.V0, S.D0, D.eta]; done) | grind [S.apply, S.okA, S.kindN, S.compl, S.turn, S.no, S.V0, S.D0, D.eta])
theorem ent_apply : E (28, onBDD T.apply) := byEv Hents21 60 fun args t h => by
  obtain ⟨x, a, b, rfl, rfl⟩ := onBDD_eq h
  exact ev_apply x a b
abbrev HL22 : Tab := (28, onBDD T.apply) :: HL21
theorem Hents22 : ∀ p ∈ HL22, E p := entries_cons ent_apply Hents21
set_option maxHeartbeats 4000000 in
theorem ev_keeps (a b : D) : evFn Tryd.prog ext (tab HL22) 60 30 [a.agg, b.agg] = (T.keeps a b).val :=
  Eq.trans (b := 
    (bif !S.whole a then 
     (bif !S.zero a then some (Value.tuple #[Value.bool false, Value.int IntKind.i64 5]) else 
      (bif !S.whole b then 
       (bif !S.zero b then some (Value.tuple #[Value.bool false, Value.int IntKind.i64 5]) else 
        (bif S.zero a then some (Value.tuple #[Value.bool true, Value.int IntKind.i64 0]) else 
         (bif a.c == 2 then some (Value.tuple #[Value.bool true, Value.int IntKind.i64 0]) else 
          (bif S.zero b then some (Value.tuple #[Value.bool false, Value.int IntKind.i64 0]) else 
           (bif b.c != 1 then some (Value.tuple #[Value.bool false, Value.int IntKind.i64 0]) else 
            (bif b.e != a.e then some (Value.tuple #[Value.bool false, Value.int IntKind.i64 0]) else 
             (bif !S.isA a == S.isA b then some (Value.tuple #[Value.bool false, Value.int IntKind.i64 0]) else 
              (bif S.isA a then 
               (bif S.alike a.g b.g then some (Value.tuple #[Value.bool (S.alike a.t b.t), Value.int IntKind.i64 0]) else some (Value.tuple #[Value.bool false, Value.int IntKind.i64 0])) else 
               (bif a.w == 2 then some (Value.tuple #[Value.bool true, Value.int IntKind.i64 0]) else 
                (bif b.w == 1 then some (Value.tuple #[Value.bool (S.alike a.v b.v), Value.int IntKind.i64 0]) else some (Value.tuple #[Value.bool false, Value.int IntKind.i64 0]))))))))))) else 
       (bif S.zero a then some (Value.tuple #[Value.bool true, Value.int IntKind.i64 0]) else 
        (bif a.c == 2 then some (Value.tuple #[Value.bool true, Value.int IntKind.i64 0]) else 
         (bif S.zero b then some (Value.tuple #[Value.bool false, Value.int IntKind.i64 0]) else 
          (bif b.c != 1 then some (Value.tuple #[Value.bool false, Value.int IntKind.i64 0]) else 
           (bif b.e != a.e then some (Value.tuple #[Value.bool false, Value.int IntKind.i64 0]) else 
            (bif !S.isA a == S.isA b then some (Value.tuple #[Value.bool false, Value.int IntKind.i64 0]) else 
             (bif S.isA a then 
              (bif S.alike a.g b.g then some (Value.tuple #[Value.bool (S.alike a.t b.t), Value.int IntKind.i64 0]) else some (Value.tuple #[Value.bool false, Value.int IntKind.i64 0])) else 
              (bif a.w == 2 then some (Value.tuple #[Value.bool true, Value.int IntKind.i64 0]) else 
               (bif b.w == 1 then some (Value.tuple #[Value.bool (S.alike a.v b.v), Value.int IntKind.i64 0]) else some (Value.tuple #[Value.bool false, Value.int IntKind.i64 0])))))))))))) else 
     (bif !S.whole b then 
      (bif !S.zero b then some (Value.tuple #[Value.bool false, Value.int IntKind.i64 5]) else 
       (bif S.zero a then some (Value.tuple #[Value.bool true, Value.int IntKind.i64 0]) else 
        (bif a.c == 2 then some (Value.tuple #[Value.bool true, Value.int IntKind.i64 0]) else 
         (bif S.zero b then some (Value.tuple #[Value.bool false, Value.int IntKind.i64 0]) else 
          (bif b.c != 1 then some (Value.tuple #[Value.bool false, Value.int IntKind.i64 0]) else 
           (bif b.e != a.e then some (Value.tuple #[Value.bool false, Value.int IntKind.i64 0]) else 
            (bif !S.isA a == S.isA b then some (Value.tuple #[Value.bool false, Value.int IntKind.i64 0]) else 
             (bif S.isA a then 
              (bif S.alike a.g b.g then some (Value.tuple #[Value.bool (S.alike a.t b.t), Value.int IntKind.i64 0]) else some (Value.tuple #[Value.bool false, Value.int IntKind.i64 0])) else 
              (bif a.w == 2 then some (Value.tuple #[Value.bool true, Value.int IntKind.i64 0]) else 
               (bif b.w == 1 then some (Value.tuple #[Value.bool (S.alike a.v b.v), Value.int IntKind.i64 0]) else some (Value.tuple #[Value.bool false, Value.int IntKind.i64 0]))))))))))) else 
      (bif S.zero a then some (Value.tuple #[Value.bool true, Value.int IntKind.i64 0]) else 
       (bif a.c == 2 then some (Value.tuple #[Value.bool true, Value.int IntKind.i64 0]) else 
        (bif S.zero b then some (Value.tuple #[Value.bool false, Value.int IntKind.i64 0]) else 
         (bif b.c != 1 then some (Value.tuple #[Value.bool false, Value.int IntKind.i64 0]) else 
          (bif b.e != a.e then some (Value.tuple #[Value.bool false, Value.int IntKind.i64 0]) else 
           (bif !S.isA a == S.isA b then some (Value.tuple #[Value.bool false, Value.int IntKind.i64 0]) else 
            (bif S.isA a then 
             (bif S.alike a.g b.g then some (Value.tuple #[Value.bool (S.alike a.t b.t), Value.int IntKind.i64 0]) else some (Value.tuple #[Value.bool false, Value.int IntKind.i64 0])) else 
             (bif a.w == 2 then some (Value.tuple #[Value.bool true, Value.int IntKind.i64 0]) else 
              (bif b.w == 1 then some (Value.tuple #[Value.bool (S.alike a.v b.v), Value.int IntKind.i64 0]) else some (Value.tuple #[Value.bool false, Value.int IntKind.i64 0]))))))))))))) (by kernel_rfl) (by
    simp only [T.keeps, DT.val_node, DT.val_leaf, DT.bind, DT.val_bad]
    repeat' (first | (with_reducible refine bif_neq (fun h => ?_) (fun h => ?_)) | (with_reducible refine bif_and (fun h => ?_) (fun h => ?_)) | (with_reducible refine bif_eq (fun h => ?_) (fun h => ?_)))
    all_goals first | (simp only [*, S.keeps, S.okK, cond_true, cond_false, Bool.and_true, Bool.true_and, Bool.and_false, Bool.false_and, Bool.or_true, Bool.true_or, Bool.or_false, Bool.false_or, Bool.not_true, Bool.not_false, beq_self_eq_true, bne_self_eq_false, Bool.not_not]; done) | (exfalso; simp_all; done) | (simp_all [S.keeps, S.okK]; done) | grind [S.keeps, S.okK])
theorem ent_keeps : E (30, onDD T.keeps) := byEv Hents22 60 fun args t h => by
  obtain ⟨a, b, rfl, rfl⟩ := onDD_eq h
  exact ev_keeps a b
abbrev HL23 : Tab := (30, onDD T.keeps) :: HL22
theorem Hents23 : ∀ p ∈ HL23, E p := entries_cons ent_keeps Hents22
set_option maxHeartbeats 4000000 in
theorem ev_eqV (a b : V) : evFn Tryd.prog ext (tab HL23) 40 29 [a.agg, b.agg] = (T.eqV a b).val :=
  Eq.trans (b := 
    (bif (↑a.n : Int) == (↑b.n : Int) then 
     (bif a.k == b.k then 
      (bif a.b == b.b then 
       (bif a.s.toList == b.s.toList then some (Value.bool (a.id == b.id)) else some (Value.bool false)) else some (Value.bool false)) else some (Value.bool false)) else 
     (bif FloatKind.f64.format.order a.n a.n != some Ordering.eq then 
      (bif FloatKind.f64.format.order b.n b.n != some Ordering.eq then 
       (bif a.k == b.k then 
        (bif a.b == b.b then 
         (bif a.s.toList == b.s.toList then some (Value.bool (a.id == b.id)) else some (Value.bool false)) else some (Value.bool false)) else some (Value.bool false)) else some (Value.bool false)) else some (Value.bool false)))) (by kernel_rfl) (by
    simp only [T.eqV, T.B, DT.val_node, DT.val_leaf, DT.bind, DT.val_bad]
    repeat' (first | (with_reducible refine bif_neq (fun h => ?_) (fun h => ?_)) | (with_reducible refine bif_and (fun h => ?_) (fun h => ?_)) | (with_reducible refine bif_eq (fun h => ?_) (fun h => ?_)))
    all_goals first | (simp only [*, S.eqV, S.nan, cond_true, cond_false, Bool.and_true, Bool.true_and, Bool.and_false, Bool.false_and, Bool.or_true, Bool.true_or, Bool.or_false, Bool.false_or, Bool.not_true, Bool.not_false, beq_self_eq_true, bne_self_eq_false, Bool.not_not]; done) | (exfalso; simp_all; done) | (simp_all [S.eqV, S.nan]; done) | grind [S.eqV, S.nan])
theorem ent_eqV : E (29, onVV T.eqV) := byEv Hents23 40 fun args t h => by
  obtain ⟨a, b, rfl, rfl⟩ := onVV_eq h
  exact ev_eqV a b
abbrev HL24 : Tab := (29, onVV T.eqV) :: HL23
theorem Hents24 : ∀ p ∈ HL24, E p := entries_cons ent_eqV Hents23
set_option maxHeartbeats 4000000 in
theorem ev_eqD (a b : D) : evFn Tryd.prog ext (tab HL24) 40 17 [a.agg, b.agg] = (T.eqD a b).val :=
  Eq.trans (b := 
    (bif S.eqV a.v b.v then 
     (bif S.eqV a.g b.g then 
      (bif S.eqV a.t b.t then 
       (bif a.w == b.w then 
        (bif a.e == b.e then some (Value.bool (a.c == b.c)) else some (Value.bool false)) else some (Value.bool false)) else some (Value.bool false)) else some (Value.bool false)) else some (Value.bool false))) (by kernel_rfl) (by
    simp only [T.eqD, T.B, DT.val_node, DT.val_leaf, DT.bind, DT.val_bad]
    repeat' (first | (with_reducible refine bif_neq (fun h => ?_) (fun h => ?_)) | (with_reducible refine bif_and (fun h => ?_) (fun h => ?_)) | (with_reducible refine bif_eq (fun h => ?_) (fun h => ?_)))
    all_goals first | (simp only [*, S.eqD, cond_true, cond_false, Bool.and_true, Bool.true_and, Bool.and_false, Bool.false_and, Bool.or_true, Bool.true_or, Bool.or_false, Bool.false_or, Bool.not_true, Bool.not_false, beq_self_eq_true, bne_self_eq_false, Bool.not_not]; done) | (exfalso; simp_all; done) | (simp_all [S.eqD]; done) | grind [S.eqD])
theorem ent_eqD : E (17, onDD T.eqD) := byEv Hents24 40 fun args t h => by
  obtain ⟨a, b, rfl, rfl⟩ := onDD_eq h
  exact ev_eqD a b
abbrev HL25 : Tab := (17, onDD T.eqD) :: HL24
theorem Hents25 : ∀ p ∈ HL25, E p := entries_cons ent_eqD Hents24
end Go.Proofs.YtaojjpdlfnphiaaDoor.PDescKinds
end
section
/- Contracts by evaluation: what each function of a list answers. Written by a program of this session. -/
namespace Go.Proofs.YtaojjpdlfnphiaaDoor.PDescKinds
open Go.RowKit Go.Ev
set_option linter.unusedSimpArgs false
set_option linter.unusedVariables false
set_option maxRecDepth 100000
set_option maxHeartbeats 4000000 in
theorem ev_awake : evFn Tryd.prog ext (tab HL25) 80 27 [] = ((T.B true)).val :=
  Eq.trans (b := some (Value.bool true)) (by kernel_rfl) (by
    rfl)
theorem ent_awake : E (27, on0 (T.B true)) := byEv Hents25 80 fun args t h => by
  obtain ⟨rfl, rfl⟩ := on0_eq h
  exact ev_awake 
abbrev HL26 : Tab := (27, on0 (T.B true)) :: HL25
theorem Hents26 : ∀ p ∈ HL26, E p := entries_cons ent_awake Hents25
set_option maxHeartbeats 4000000 in
theorem ev_takes (x : Bool) (a b : D) : evFn Tryd.prog ext (tab HL26) 80 4 [.bool x, a.agg, b.agg] = ((fun _ _ _ => T.B true) x a b).val :=
  Eq.trans (b := 
    (bif S.okA a b then 
     (bif !(S.apply x a b).snd then some (Value.bool (S.eqD (S.apply x a b).fst a)) else 
      (bif S.okA (S.apply x a b).fst b then 
       (bif !S.whole (S.apply x a b).fst then some (Value.bool false) else 
        (bif !(S.apply x (S.apply x a b).fst b).snd then some (Value.bool false) else 
         (bif !S.eqD (S.apply x (S.apply x a b).fst b).fst (S.apply x a b).fst then some (Value.bool false) else 
          (bif b.v.k != 0 then 
           (bif !S.eqV (S.apply x a b).fst.v b.v then some (Value.bool false) else 
            (bif b.g.k != 0 then 
             (bif !S.eqV (S.apply x a b).fst.g b.g then some (Value.bool false) else 
              (bif b.t.k != 0 then 
               (bif !S.eqV (S.apply x a b).fst.t b.t then some (Value.bool false) else 
                (bif b.w == 0 then 
                 (bif b.e == 0 then 
                  (bif b.c == 0 then some (Value.bool true) else some (Value.bool ((S.apply x a b).fst.c == b.c))) else 
                  (bif (S.apply x a b).fst.e == b.e then 
                   (bif b.c == 0 then some (Value.bool true) else some (Value.bool ((S.apply x a b).fst.c == b.c))) else some (Value.bool false))) else 
                 (bif (S.apply x a b).fst.w == b.w then 
                  (bif b.e == 0 then 
                   (bif b.c == 0 then some (Value.bool true) else some (Value.bool ((S.apply x a b).fst.c == b.c))) else 
                   (bif (S.apply x a b).fst.e == b.e then 
                    (bif b.c == 0 then some (Value.bool true) else some (Value.bool ((S.apply x a b).fst.c == b.c))) else some (Value.bool false))) else some (Value.bool false)))) else 
               (bif b.w == 0 then 
                (bif b.e == 0 then 
                 (bif b.c == 0 then some (Value.bool true) else some (Value.bool ((S.apply x a b).fst.c == b.c))) else 
                 (bif (S.apply x a b).fst.e == b.e then 
                  (bif b.c == 0 then some (Value.bool true) else some (Value.bool ((S.apply x a b).fst.c == b.c))) else some (Value.bool false))) else 
                (bif (S.apply x a b).fst.w == b.w then 
                 (bif b.e == 0 then 
                  (bif b.c == 0 then some (Value.bool true) else some (Value.bool ((S.apply x a b).fst.c == b.c))) else 
                  (bif (S.apply x a b).fst.e == b.e then 
                   (bif b.c == 0 then some (Value.bool true) else some (Value.bool ((S.apply x a b).fst.c == b.c))) else some (Value.bool false))) else some (Value.bool false))))) else 
             (bif b.t.k != 0 then 
              (bif !S.eqV (S.apply x a b).fst.t b.t then some (Value.bool false) else 
               (bif b.w == 0 then 
                (bif b.e == 0 then 
                 (bif b.c == 0 then some (Value.bool true) else some (Value.bool ((S.apply x a b).fst.c == b.c))) else 
                 (bif (S.apply x a b).fst.e == b.e then 
                  (bif b.c == 0 then some (Value.bool true) else some (Value.bool ((S.apply x a b).fst.c == b.c))) else some (Value.bool false))) else 
                (bif (S.apply x a b).fst.w == b.w then 
                 (bif b.e == 0 then 
                  (bif b.c == 0 then some (Value.bool true) else some (Value.bool ((S.apply x a b).fst.c == b.c))) else 
                  (bif (S.apply x a b).fst.e == b.e then 
                   (bif b.c == 0 then some (Value.bool true) else some (Value.bool ((S.apply x a b).fst.c == b.c))) else some (Value.bool false))) else some (Value.bool false)))) else 
              (bif b.w == 0 then 
               (bif b.e == 0 then 
                (bif b.c == 0 then some (Value.bool true) else some (Value.bool ((S.apply x a b).fst.c == b.c))) else 
                (bif (S.apply x a b).fst.e == b.e then 
                 (bif b.c == 0 then some (Value.bool true) else some (Value.bool ((S.apply x a b).fst.c == b.c))) else some (Value.bool false))) else 
               (bif (S.apply x a b).fst.w == b.w then 
                (bif b.e == 0 then 
                 (bif b.c == 0 then some (Value.bool true) else some (Value.bool ((S.apply x a b).fst.c == b.c))) else 
                 (bif (S.apply x a b).fst.e == b.e then 
                  (bif b.c == 0 then some (Value.bool true) else some (Value.bool ((S.apply x a b).fst.c == b.c))) else some (Value.bool false))) else some (Value.bool false)))))) else 
           (bif b.g.k != 0 then 
            (bif !S.eqV (S.apply x a b).fst.g b.g then some (Value.bool false) else 
             (bif b.t.k != 0 then 
              (bif !S.eqV (S.apply x a b).fst.t b.t then some (Value.bool false) else 
               (bif b.w == 0 then 
                (bif b.e == 0 then 
                 (bif b.c == 0 then some (Value.bool true) else some (Value.bool ((S.apply x a b).fst.c == b.c))) else 
                 (bif (S.apply x a b).fst.e == b.e then 
                  (bif b.c == 0 then some (Value.bool true) else some (Value.bool ((S.apply x a b).fst.c == b.c))) else some (Value.bool false))) else 
                (bif (S.apply x a b).fst.w == b.w then 
                 (bif b.e == 0 then 
                  (bif b.c == 0 then some (Value.bool true) else some (Value.bool ((S.apply x a b).fst.c == b.c))) else 
                  (bif (S.apply x a b).fst.e == b.e then 
                   (bif b.c == 0 then some (Value.bool true) else some (Value.bool ((S.apply x a b).fst.c == b.c))) else some (Value.bool false))) else some (Value.bool false)))) else 
              (bif b.w == 0 then 
               (bif b.e == 0 then 
                (bif b.c == 0 then some (Value.bool true) else some (Value.bool ((S.apply x a b).fst.c == b.c))) else 
                (bif (S.apply x a b).fst.e == b.e then 
                 (bif b.c == 0 then some (Value.bool true) else some (Value.bool ((S.apply x a b).fst.c == b.c))) else some (Value.bool false))) else 
               (bif (S.apply x a b).fst.w == b.w then 
                (bif b.e == 0 then 
                 (bif b.c == 0 then some (Value.bool true) else some (Value.bool ((S.apply x a b).fst.c == b.c))) else 
                 (bif (S.apply x a b).fst.e == b.e then 
                  (bif b.c == 0 then some (Value.bool true) else some (Value.bool ((S.apply x a b).fst.c == b.c))) else some (Value.bool false))) else some (Value.bool false))))) else 
            (bif b.t.k != 0 then 
             (bif !S.eqV (S.apply x a b).fst.t b.t then some (Value.bool false) else 
              (bif b.w == 0 then 
               (bif b.e == 0 then 
                (bif b.c == 0 then some (Value.bool true) else some (Value.bool ((S.apply x a b).fst.c == b.c))) else 
                (bif (S.apply x a b).fst.e == b.e then 
                 (bif b.c == 0 then some (Value.bool true) else some (Value.bool ((S.apply x a b).fst.c == b.c))) else some (Value.bool false))) else 
               (bif (S.apply x a b).fst.w == b.w then 
                (bif b.e == 0 then 
                 (bif b.c == 0 then some (Value.bool true) else some (Value.bool ((S.apply x a b).fst.c == b.c))) else 
                 (bif (S.apply x a b).fst.e == b.e then 
                  (bif b.c == 0 then some (Value.bool true) else some (Value.bool ((S.apply x a b).fst.c == b.c))) else some (Value.bool false))) else some (Value.bool false)))) else 
             (bif b.w == 0 then 
              (bif b.e == 0 then 
               (bif b.c == 0 then some (Value.bool true) else some (Value.bool ((S.apply x a b).fst.c == b.c))) else 
               (bif (S.apply x a b).fst.e == b.e then 
                (bif b.c == 0 then some (Value.bool true) else some (Value.bool ((S.apply x a b).fst.c == b.c))) else some (Value.bool false))) else 
              (bif (S.apply x a b).fst.w == b.w then 
               (bif b.e == 0 then 
                (bif b.c == 0 then some (Value.bool true) else some (Value.bool ((S.apply x a b).fst.c == b.c))) else 
                (bif (S.apply x a b).fst.e == b.e then 
                 (bif b.c == 0 then some (Value.bool true) else some (Value.bool ((S.apply x a b).fst.c == b.c))) else some (Value.bool false))) else some (Value.bool false))))))))) else 
       (bif !S.whole (S.apply x a b).fst then some (Value.bool false) else some (Value.bool false)))) else some (Value.bool (S.eqD S.D0 (D.mk (V.mk 0 false 0 (ByteArray.mk #[]) 0) (V.mk 0 false 0 (ByteArray.mk #[]) 0) (V.mk 0 false 0 (ByteArray.mk #[]) 0) 0 0 0))))) (by kernel_rfl) (by
    simp only [T.B, DT.val_leaf]
    cases ho : S.okA a b
    · simp only [cond_false, cond_true, Bool.not_true, Bool.not_false]
      exact congrArg (fun z => some (Value.bool z)) (S.eqD_refl S.D0)
    · cases h2 : (S.apply x a b).2
      · simp only [cond_true, cond_false, Bool.not_false, S.takes_no ho h2]
      · obtain ⟨k1, k2, k3, k4, k5, k6, k7, k8, k9, k10⟩ := S.takes_yes ho h2
        simp only [cond_true, cond_false, Bool.not_true, k1, k2, k3, k4]
        repeat' (first | (with_reducible refine bif_neq (fun h => ?_) (fun h => ?_)) | (with_reducible refine bif_and (fun h => ?_) (fun h => ?_)) | (with_reducible refine bif_eq (fun h => ?_) (fun h => ?_)))
        all_goals simp_all)
theorem ent_takes : E (4, onBDD (fun _ _ _ => T.B true)) := byEv Hents26 80 fun args t h => by
  obtain ⟨x, a, b, rfl, rfl⟩ := onBDD_eq h
  exact ev_takes x a b
abbrev HL27 : Tab := (4, onBDD (fun _ _ _ => T.B true)) :: HL26
theorem Hents27 : ∀ p ∈ HL27, E p := entries_cons ent_takes Hents26
end Go.Proofs.YtaojjpdlfnphiaaDoor.PDescKinds
end
section
/- Moments as_ plain data: the rows that come in, the shapes of arguments. -/
set_option linter.unusedSimpArgs false
set_option linter.unusedVariables false
set_option linter.unusedSectionVars false
namespace Go.Proofs.YtaojjpdlfnphiaaDoor.PDescKinds
open Go.RowKit Go.Ev
structure K where
  s : ByteArray
  n : Int
structure Pr where
  k : K
  d : D
/-- A shape; where its properties stand. -/
structure Sh where
  cl : Int
  p : V
  x : Bool
  A : Option Addr
  n : Nat
  c : Nat
  g : Nat → Pr
/-- A moment. -/
structure Mo where
  A : Option Addr
  n : Nat
  c : Nat
  g : Nat → Sh
def K.agg (k : K) : Value := .agg #[.string k.s, .int .i64 k.n]
/-- A descriptor's cells. -/
def D.cells (d : D) : List SV := [.val (.int .i64 d.v.k), .val (.bool d.v.b), .val (.float .f64 d.v.n), .val (.string d.v.s), .val (.int .i64 d.v.id),
  .val (.int .i64 d.g.k), .val (.bool d.g.b), .val (.float .f64 d.g.n), .val (.string d.g.s), .val (.int .i64 d.g.id), .val (.int .i64 d.t.k), .val (.bool d.t.b), .val (.float .f64 d.t.n), .val (.string d.t.s), .val (.int .i64 d.t.id), .val (.int .i64 d.w), .val (.int .i64 d.e), .val (.int .i64 d.c)]
def Pr.cells (q : Pr) : List SV := [.val (.string q.k.s), .val (.int .i64 q.k.n), .val (.int .i64 q.d.v.k), .val (.bool q.d.v.b), .val (.float .f64 q.d.v.n), .val (.string q.d.v.s), .val (.int .i64 q.d.v.id),
  .val (.int .i64 q.d.g.k), .val (.bool q.d.g.b), .val (.float .f64 q.d.g.n), .val (.string q.d.g.s), .val (.int .i64 q.d.g.id), .val (.int .i64 q.d.t.k), .val (.bool q.d.t.b), .val (.float .f64 q.d.t.n), .val (.string q.d.t.s), .val (.int .i64 q.d.t.id), .val (.int .i64 q.d.w), .val (.int .i64 q.d.e), .val (.int .i64 q.d.c)]
def Pr.agg (q : Pr) : Value := .agg #[.string q.k.s, .int .i64 q.k.n, .int .i64 q.d.v.k, .bool q.d.v.b, .float .f64 q.d.v.n, .string q.d.v.s, .int .i64 q.d.v.id,
  .int .i64 q.d.g.k, .bool q.d.g.b, .float .f64 q.d.g.n, .string q.d.g.s, .int .i64 q.d.g.id, .int .i64 q.d.t.k, .bool q.d.t.b, .float .f64 q.d.t.n, .string q.d.t.s, .int .i64 q.d.t.id, .int .i64 q.d.w, .int .i64 q.d.e, .int .i64 q.d.c]
def shCells (cl : Int) (p : V) (x : Bool) (r : List Nat) : List SV := [.val (.int .i64 cl), .val (.int .i64 p.k), .val (.bool p.b), .val (.float .f64 p.n), .val (.string p.s), .val (.int .i64 p.id), .val (.bool x), .xs r]
/-- The rows of moments, and a box. -/
@[instance_reducible] def rowsB (M : Nat → Mo) (bx : Nat → XR) : XEnv := ⟨fun r => match r with
  | [k] => ⟨(M k).A, 8, (M k).n, (M k).c, fun j => shCells ((M k).g j).cl ((M k).g j).p ((M k).g j).x [k, j]⟩
  | [k, j] => ⟨((M k).g j).A, 20, ((M k).g j).n, ((M k).g j).c, fun i => (((M k).g j).g i).cells⟩
  | x :: _ => bx x
  | [] => bx 0⟩
/-! ### Shapes of arguments -/
/-- A shape as_ it is handed on: its fields, and whose properties it has. -/
structure SA where
  cl : Int
  p : V
  x : Bool
  a : Nat
  b : Nat
def SA.sv (q : SA) : SV := .arr (shCells q.cl q.p q.x [q.a, q.b])
/-- The same as_ a shape, its properties out of the moments. -/
def SA.sh (M : Nat → Mo) (q : SA) : Sh := ⟨q.cl, q.p, q.x, ((M q.a).g q.b).A, ((M q.a).g q.b).n, ((M q.a).g q.b).c, ((M q.a).g q.b).g⟩
def cutSV : List SV → Option (V × List SV)
  | .val (.int .i64 k) :: .val (.bool b) :: .val (.float .f64 n) :: .val (.string s) :: .val (.int .i64 id) :: r => some (⟨k, b, n, s, id⟩, r)
  | _ => none
theorem cutSV_eq {l r : List SV} {v : V} (h : cutSV l = some (v, r)) : l = .val (.int .i64 v.k) :: .val (.bool v.b) :: .val (.float .f64 v.n) :: .val (.string v.s) :: .val (.int .i64 v.id) :: r := by
  unfold cutSV at h
  split at h
  · simp only [Option.some.injEq, Prod.mk.injEq] at h
    obtain ⟨rfl, rfl⟩ := h
    rfl
  · cases h
def getSA : SV → Option SA
  | .arr (.val (.int .i64 cl) :: l) => match cutSV l with
    | some (p, r) => match r with
      | [.val (.bool x), .xs [a, b]] => some ⟨cl, p, x, a, b⟩
      | _ => none
    | none => none
  | _ => none
theorem getSA_sv {s : SV} {q : SA} (h : getSA s = some q) : s = q.sv := by
  unfold getSA at h
  split at h
  · split at h
    · rename_i cl l p r hl
      split at h
      · simp only [Option.some.injEq] at h
        subst h
        rw [cutSV_eq hl]
        rfl
      · cases h
    · cases h
  · cases h
/-! Contracts over shapes -/
def onSh (f : SA → DT SV) : List SV → Option (DT SV)
  | [x] => match getSA x with
    | some q => some (f q)
    | none => none
  | _ => none
def onShSh (f : SA → SA → DT SV) : List SV → Option (DT SV)
  | [x, y] => match getSA x with
    | some q => match getSA y with
      | some r => some (f q r)
      | none => none
    | none => none
  | _ => none
def onM (f : Nat → DT SV) : List SV → Option (DT SV)
  | [.xs [a]] => some (f a)
  | _ => none
def onMM (f : Nat → Nat → DT SV) : List SV → Option (DT SV)
  | [.xs [a], .xs [b]] => some (f a b)
  | _ => none
theorem onShSh_eq {f : SA → SA → DT SV} {l : List SV} {t : DT SV} (h : onShSh f l = some t) : ∃ q r : SA, l = [q.sv, r.sv] ∧ t = f q r := by
  unfold onShSh at h
  split at h
  · split at h
    · rename_i q hq
      split at h
      · rename_i r hr
        simp only [Option.some.injEq] at h
        exact ⟨q, r, by rw [getSA_sv hq, getSA_sv hr], h.symm⟩
      · cases h
    · cases h
  · cases h
theorem onM_eq {f : Nat → DT SV} {l : List SV} {t : DT SV} (h : onM f l = some t) : ∃ a, l = [.xs [a]] ∧ t = f a := by
  unfold onM at h
  split at h
  · simp only [Option.some.injEq] at h
    exact ⟨_, rfl, h.symm⟩
  · cases h
theorem onMM_eq {f : Nat → Nat → DT SV} {l : List SV} {t : DT SV} (h : onMM f l = some t) : ∃ a b, l = [.xs [a], .xs [b]] ∧ t = f a b := by
  unfold onMM at h
  split at h
  · simp only [Option.some.injEq] at h
    exact ⟨_, _, rfl, h.symm⟩
  · cases h
/-- Moments that can be: lengths are numbers. -/
def Fit (M : Nat → Mo) : Prop := ∀ k, ((M k).n : Int) ≤ 9223372036854775807 ∧ ∀ j, (((M k).g j).n : Int) ≤ 9223372036854775807
end Go.Proofs.YtaojjpdlfnphiaaDoor.PDescKinds
end
section
-- Printed by a program of this session over the translation; Lean checks it.
namespace Go.Proofs.YtaojjpdlfnphiaaDoor.PDescKinds
open Go.RowKit Go.Proofs.YtaojjpdlfnphiaaDoorW.PrintWords Go.Proofs.YtaojjpdlfnphiaaDoorW.PrintLast Go.Proofs.YtaojjpdlfnphiaaDoorW.PrintMore
attribute [local go_sem] max2_int min2_int max_two min_two max_three min_three max_four min_four   -- for this text's walks alone
set_option linter.unusedVariables false
set_option linter.unusedSimpArgs false
/-! ### cameoref01_tail: function 124 -/
def cameoref01_tail.l0 : Nat → ByteArray → Int → Int → Int → Int → Option (Int)
  | 0, _, _, _, _, _ => none
  | k + 1, x0, x1, x2, x7, x8 => if x8 < x2 then (if (wrap64 (x1 + x8)) ≥ (x0.size : Int) then (some (-1)) else (if 0 ≤ (wrap64 (x1 + x8)) then (if (wrap64 (x1 + x8)) < (x0.size : Int) then (if (bt x0 (wrap64 (x1 + x8))) < 128 then (some (-1)) else (if (bt x0 (wrap64 (x1 + x8))) > 191 then (some (-1)) else (cameoref01_tail.l0 k x0 x1 x2 (wrap64 ((wrap64 ((wrap64 (64 * x7)) + (wrap64 (bt x0 (wrap64 (x1 + x8)))))) - 128)) (wrap64 (x8 + 1))))) else (none)) else (none))) else (some x7)
def cameoref01_tail.f (k : Nat) (a0 : ByteArray) (a1 : Int) (a2 : Int) : Option (Int) := cameoref01_tail.l0 k a0 a1 a2 0 0
end Go.Proofs.YtaojjpdlfnphiaaDoor.PDescKinds
end
section
-- Printed by a program of this session over the translation; Lean checks it.
namespace Go.Proofs.YtaojjpdlfnphiaaDoor.PDescKinds
open Go.RowKit Go.Proofs.YtaojjpdlfnphiaaDoorW.PrintWords Go.Proofs.YtaojjpdlfnphiaaDoorW.PrintLast Go.Proofs.YtaojjpdlfnphiaaDoorW.PrintMore
attribute [local go_sem] max2_int min2_int max_two min_two max_three min_three max_four min_four   -- for this text's walks alone
set_option linter.unusedVariables false
set_option linter.unusedSimpArgs false
/-! ### cameoref01_read: function 116 -/
mutual
def cameoref01_read.l0 : Nat → ByteArray → List Int → Int → Option (List Int × Bool)
  | 0, _, _, _ => none
  | k + 1, x0, x4, x5 => if x5 < (x0.size : Int) then (if 0 ≤ x5 then (if (wrap64 (bt x0 x5)) < 128 then (cameoref01_read.j3 k x0 x4 x5 0 (wrap64 (bt x0 x5))) else (if (wrap64 (bt x0 x5)) ≥ 192 then (cameoref01_read.j1 k x0 x4 x5 (wrap64 (bt x0 x5)) (decide ((wrap64 (bt x0 x5)) < 224))) else (cameoref01_read.j1 k x0 x4 x5 (wrap64 (bt x0 x5)) false))) else (none)) else (some (x4, true))
def cameoref01_read.j3 : Nat → ByteArray → List Int → Int → Int → Int → Option (List Int × Bool)
  | 0, _, _, _, _, _ => none
  | k + 1, x0, x4, x5, x7, x8 => (cameoref01_tail.f k x0 (wrap64 (x5 + 1)) x7).bind fun t264 => (if t264 < 0 then (some (([] : List Int), false)) else (cameoref01_read.l1 k x0 x4 x5 x7 x8 t264 0))
def cameoref01_read.l1 : Nat → ByteArray → List Int → Int → Int → Int → Int → Int → Option (List Int × Bool)
  | 0, _, _, _, _, _, _, _ => none
  | k + 1, x0, x4, x5, x7, x8, x9, x10 => if x10 < x7 then (cameoref01_read.l1 k x0 x4 x5 x7 (wrap64 (x8 * 64)) x9 (wrap64 (x10 + 1))) else (if (wrap64 (x9 + x8)) > 1114111 then (some (([] : List Int), false)) else (if (wrap64 (x9 + x8)) ≥ 65536 then ((some (([IntKind.u16.wrap (wrap64 (55296 + (wrap64 (Int.tdiv (wrap64 ((wrap64 (x9 + x8)) - 65536)) 1024)))), IntKind.u16.wrap (wrap64 (56320 + (Int.tmod (wrap64 ((wrap64 (x9 + x8)) - 65536)) 1024)))] : List Int) : List Int)).bind fun y265 => (if x4.length + y265.length < 70368744177664 then (cameoref01_read.l0 k x0 (x4 ++ y265) (wrap64 (x5 + (wrap64 (1 + x7))))) else (none))) else (if x4.length < 70368744177664 then (cameoref01_read.l0 k x0 (x4 ++ [IntKind.u16.wrap (wrap64 (x9 + x8))]) (wrap64 (x5 + (wrap64 (1 + x7))))) else (none))))
def cameoref01_read.j1 : Nat → ByteArray → List Int → Int → Int → Bool → Option (List Int × Bool)
  | 0, _, _, _, _, _ => none
  | k + 1, x0, x4, x5, x6, x23 => if x23 = true then (cameoref01_read.j3 k x0 x4 x5 1 (wrap64 (x6 - 192))) else (if x6 ≥ 224 then (cameoref01_read.j2 k x0 x4 x5 x6 (decide (x6 < 240))) else (cameoref01_read.j2 k x0 x4 x5 x6 false))
def cameoref01_read.j2 : Nat → ByteArray → List Int → Int → Int → Bool → Option (List Int × Bool)
  | 0, _, _, _, _, _ => none
  | k + 1, x0, x4, x5, x6, x32 => if x32 = true then (cameoref01_read.j3 k x0 x4 x5 2 (wrap64 (x6 - 224))) else (if x6 ≥ 240 then (if x6 < 248 then (cameoref01_read.j3 k x0 x4 x5 3 (wrap64 (x6 - 240))) else (some (([] : List Int), false))) else (some (([] : List Int), false)))
end
/-! ### cameoref01_high: function 128 -/
/-! ### cameoref01_low: function 129 -/
end Go.Proofs.YtaojjpdlfnphiaaDoor.PDescKinds
end
end
section
/- Parts of the proof, joined (4). -/
section
-- Printed by a program of this session over the translation; Lean checks it.
namespace Go.Proofs.YtaojjpdlfnphiaaDoor.PDescKinds
open Go.RowKit Go.Proofs.YtaojjpdlfnphiaaDoorW.PrintWords Go.Proofs.YtaojjpdlfnphiaaDoorW.PrintLast Go.Proofs.YtaojjpdlfnphiaaDoorW.PrintMore
attribute [local go_sem] max2_int min2_int max_two min_two max_three min_three max_four min_four   -- for this text's walks alone
set_option linter.unusedVariables false
set_option linter.unusedSimpArgs false
/-! ### cameoref01_Row: function 125 -/
/-! ### cameoref01_put: function 126 -/
/-! ### cameoref01_Of: function 117 -/
/-! ### cameoref01_Valid: function 98 -/
end Go.Proofs.YtaojjpdlfnphiaaDoor.PDescKinds
end
section
/- Bytes as_ code points: what is read leniently and written anew is what was read just where each code point was written as_ shortly as_ may be, and no two halves stand apart. Plain lists of numbers. -/
set_option linter.unusedSimpArgs false
set_option linter.unusedVariables false
namespace Go.Proofs.YtaojjpdlfnphiaaDoor.Utf
def cont (b : Nat) : Prop := 128 ≤ b ∧ b ≤ 191
instance (b : Nat) : Decidable (cont b) := inferInstanceAs (Decidable (_ ∧ _))
end Go.Proofs.YtaojjpdlfnphiaaDoor.Utf
/-! #### part U1 -/
/- units.Valid: every code point written as_ shortly as_ may be, and no two halves side by side. -/
set_option linter.unusedSimpArgs false
set_option linter.unusedVariables false
namespace Go.Proofs.YtaojjpdlfnphiaaDoor.Utf
open Go.RowKit Go.Proofs.YtaojjpdlfnphiaaDoorW.PrintWords Go.Proofs.YtaojjpdlfnphiaaDoor.PDescKinds
end Go.Proofs.YtaojjpdlfnphiaaDoor.Utf
/-! #### part U2 -/
/- The reference's Valid is the program's. -/
set_option linter.unusedSimpArgs false
set_option linter.unusedVariables false
namespace Go.Proofs.YtaojjpdlfnphiaaDoor.Utf
open Go.RowKit Go.Proofs.YtaojjpdlfnphiaaDoorW.PrintWords Go.Proofs.YtaojjpdlfnphiaaDoor.PDescKinds
end Go.Proofs.YtaojjpdlfnphiaaDoor.Utf
/-! #### part U3 -/
/- The reference's Valid is the program's: what is read is written anew. -/
set_option linter.unusedSimpArgs false
set_option linter.unusedVariables false
namespace Go.Proofs.YtaojjpdlfnphiaaDoor.Utf
open Go.RowKit Go.Proofs.YtaojjpdlfnphiaaDoorW.PrintWords Go.Proofs.YtaojjpdlfnphiaaDoor.PDescKinds
end Go.Proofs.YtaojjpdlfnphiaaDoor.Utf
end
section
/- What the reference's functions on descriptors answer. -/
set_option linter.unusedSimpArgs false
set_option linter.unusedVariables false
namespace Go.Proofs.YtaojjpdlfnphiaaDoor.PDescKinds
open Go.RowKit Go.Ev
namespace R
end R
namespace T
end T
end Go.Proofs.YtaojjpdlfnphiaaDoor.PDescKinds
end
section
/- The contract of the reference's Valid. -/
set_option linter.unusedSimpArgs false
set_option linter.unusedVariables false
namespace Go.Proofs.YtaojjpdlfnphiaaDoor.PDescKinds
open Go.RowKit Go.Ev
end Go.Proofs.YtaojjpdlfnphiaaDoor.PDescKinds
end
section
/- Contracts by evaluation: what each function of a list answers. Written by a program of this session. -/
namespace Go.Proofs.YtaojjpdlfnphiaaDoor.PDescKinds
open Go.RowKit Go.Ev
set_option linter.unusedSimpArgs false
set_option linter.unusedVariables false
set_option maxRecDepth 100000
end Go.Proofs.YtaojjpdlfnphiaaDoor.PDescKinds
end
section
/- Contracts by evaluation: what each function of a list answers. Written by a program of this session. -/
namespace Go.Proofs.YtaojjpdlfnphiaaDoor.PDescKinds
open Go.RowKit Go.Ev
set_option linter.unusedSimpArgs false
set_option linter.unusedVariables false
set_option maxRecDepth 100000
end Go.Proofs.YtaojjpdlfnphiaaDoor.PDescKinds
end
section
/- The same contracts without branches, for the laws. -/
set_option linter.unusedSimpArgs false
set_option linter.unusedVariables false
namespace Go.Proofs.YtaojjpdlfnphiaaDoor.PDescKinds
open Go.RowKit Go.Ev
namespace S
end S
namespace R
end R
namespace T
end T
abbrev AL : Tab := HL27
theorem entsAL : ∀ p ∈ AL, E p := Hents27
end Go.Proofs.YtaojjpdlfnphiaaDoor.PDescKinds
end
section
/- Plain laws: the reference's answers on descriptors are the program's. -/
set_option linter.unusedSimpArgs false
set_option linter.unusedVariables false
namespace Go.Proofs.YtaojjpdlfnphiaaDoor.PDescKinds
open Ieee FloatEq
/-- A float's bits are 64. -/
def V.wf (v : V) : Prop := v.n < 18446744073709551616
def D.wf (d : D) : Prop := d.v.wf ∧ d.g.wf ∧ d.t.wf
namespace R
end R
end Go.Proofs.YtaojjpdlfnphiaaDoor.PDescKinds
/-! #### part P3 -/
/- Plain laws: Apply, Keeps and Same by the document are the program's. -/
set_option linter.unusedSimpArgs false
set_option linter.unusedVariables false
namespace Go.Proofs.YtaojjpdlfnphiaaDoor.PDescKinds
open Ieee FloatEq Go.RowKit
theorem neg_sgn (n : Nat) : S.neg n = sgn n := by
  unfold S.neg sgn
  rw [Bool.eq_iff_iff, decide_eq_true_eq, beq_iff_eq]
  rw [IntKind.wrap_i64]
  omega
inductive Rd (a : Nat) : Datum → Prop where
  | num (m : Nat) (i : Int) (h : m = 0 ↔ rung a = 0) : Rd a (.number (sgn a) m i)
  | inf (h : rung a ≠ 0) : Rd a (.infinity (sgn a))
  | nan (s : Bool) (p : Nat) : Rd a (.nan s p)
theorem rd (a : Nat) : Rd a (Format.read double a) := by
  rw [read_eq]
  split
  · exact .num _ _ Iff.rfl
  · split
    · exact .num _ _ ⟨fun h => by omega, fun h => by omega⟩
    · split
      · rename_i h1 h2 h3
        exact .inf (by rw [h3]; unfold infR; omega)
      · exact .nan _ _
namespace R
end R
end Go.Proofs.YtaojjpdlfnphiaaDoor.PDescKinds
end
end
