/- Contracts by evaluation: what each function of a list answers. Written by a program of this session. -/
import Derived.Test.YtaojjpdlfnphiaaDoorP1
namespace Go.Proofs.YtaojjpdlfnphiaaDoor.PDescKinds
open Go.RowKit Go.Ev
set_option linter.unusedSimpArgs false
set_option linter.unusedVariables false
set_option maxRecDepth 100000
abbrev HL0 : Tab := [(123, onV T.inn)]
theorem Hents0 : ∀ p ∈ HL0, E p := entries_cons (ent_inn) (entries_nil)
set_option maxHeartbeats 4000000 in
theorem ev_good (v : V) : evFn Tryd.prog ext (tab HL0) 40 114 [v.agg] = (T.goods v).val :=
  Eq.trans (b := 
    (bif v.k == 1 then 
     (bif v.b == false then 
      (bif v.s.toList == (ByteArray.mk #[]).toList then 
       (bif v.id == 0 then 
        (bif v.k == 4 then some (Value.tuple #[Value.iface 124 (Value.agg #[]), Value.bool true]) else some (Value.tuple #[Value.iface 124 (Value.agg #[]), Value.bool ((↑v.n : Int) == 0)])) else some (Value.tuple #[Value.iface 124 (Value.agg #[]), Value.bool false])) else some (Value.tuple #[Value.iface 124 (Value.agg #[]), Value.bool false])) else some (Value.tuple #[Value.iface 124 (Value.agg #[]), Value.bool false])) else 
     (bif v.k == 2 then 
      (bif v.b == false then 
       (bif v.s.toList == (ByteArray.mk #[]).toList then 
        (bif v.id == 0 then 
         (bif v.k == 4 then some (Value.tuple #[Value.iface 141 (Value.agg #[]), Value.bool true]) else some (Value.tuple #[Value.iface 141 (Value.agg #[]), Value.bool ((↑v.n : Int) == 0)])) else some (Value.tuple #[Value.iface 141 (Value.agg #[]), Value.bool false])) else some (Value.tuple #[Value.iface 141 (Value.agg #[]), Value.bool false])) else some (Value.tuple #[Value.iface 141 (Value.agg #[]), Value.bool false])) else 
      (bif v.k == 3 then 
       (bif v.b == v.b then 
        (bif v.s.toList == (ByteArray.mk #[]).toList then 
         (bif v.id == 0 then 
          (bif v.k == 4 then some (Value.tuple #[Value.iface 142 (Value.bool v.b), Value.bool true]) else some (Value.tuple #[Value.iface 142 (Value.bool v.b), Value.bool ((↑v.n : Int) == 0)])) else some (Value.tuple #[Value.iface 142 (Value.bool v.b), Value.bool false])) else some (Value.tuple #[Value.iface 142 (Value.bool v.b), Value.bool false])) else some (Value.tuple #[Value.iface 142 (Value.bool v.b), Value.bool false])) else 
       (bif v.k == 4 then 
        (bif v.b == false then 
         (bif v.s.toList == (ByteArray.mk #[]).toList then 
          (bif v.id == 0 then 
           (bif v.k == 4 then some (Value.tuple #[Value.iface 139 (Value.float FloatKind.f64 v.n), Value.bool true]) else some (Value.tuple #[Value.iface 139 (Value.float FloatKind.f64 v.n), Value.bool ((↑v.n : Int) == 0)])) else some (Value.tuple #[Value.iface 139 (Value.float FloatKind.f64 v.n), Value.bool false])) else some (Value.tuple #[Value.iface 139 (Value.float FloatKind.f64 v.n), Value.bool false])) else some (Value.tuple #[Value.iface 139 (Value.float FloatKind.f64 v.n), Value.bool false])) else 
        (bif v.k == 5 then 
         (bif leafIn.strOk v.s then 
          (bif v.b == false then 
           (bif v.s.toList == v.s.toList then 
            (bif v.id == 0 then 
             (bif v.k == 4 then some (Value.tuple #[Value.iface 143 (Value.string v.s), Value.bool true]) else some (Value.tuple #[Value.iface 143 (Value.string v.s), Value.bool ((↑v.n : Int) == 0)])) else some (Value.tuple #[Value.iface 143 (Value.string v.s), Value.bool false])) else some (Value.tuple #[Value.iface 143 (Value.string v.s), Value.bool false])) else some (Value.tuple #[Value.iface 143 (Value.string v.s), Value.bool false])) else some (Value.tuple #[Value.nilIface, Value.bool false])) else 
         (bif v.k == 6 then 
          (bif leafIn.idOk v.id then 
           (bif v.b == false then 
            (bif v.s.toList == (ByteArray.mk #[]).toList then 
             (bif v.id == v.id then 
              (bif v.k == 4 then some (Value.tuple #[Value.iface 144 (Value.int IntKind.i64 v.id), Value.bool true]) else some (Value.tuple #[Value.iface 144 (Value.int IntKind.i64 v.id), Value.bool ((↑v.n : Int) == 0)])) else some (Value.tuple #[Value.iface 144 (Value.int IntKind.i64 v.id), Value.bool false])) else some (Value.tuple #[Value.iface 144 (Value.int IntKind.i64 v.id), Value.bool false])) else some (Value.tuple #[Value.iface 144 (Value.int IntKind.i64 v.id), Value.bool false])) else some (Value.tuple #[Value.nilIface, Value.bool false])) else 
          (bif v.k == 7 then 
           (bif leafIn.idOk v.id then 
            (bif v.b == false then 
             (bif v.s.toList == (ByteArray.mk #[]).toList then 
              (bif v.id == v.id then 
               (bif v.k == 4 then some (Value.tuple #[Value.iface 145 (Value.int IntKind.i64 v.id), Value.bool true]) else some (Value.tuple #[Value.iface 145 (Value.int IntKind.i64 v.id), Value.bool ((↑v.n : Int) == 0)])) else some (Value.tuple #[Value.iface 145 (Value.int IntKind.i64 v.id), Value.bool false])) else some (Value.tuple #[Value.iface 145 (Value.int IntKind.i64 v.id), Value.bool false])) else some (Value.tuple #[Value.iface 145 (Value.int IntKind.i64 v.id), Value.bool false])) else some (Value.tuple #[Value.nilIface, Value.bool false])) else some (Value.tuple #[Value.nilIface, Value.bool false]))))))))) (by kernel_rfl) (by
    simp only [T.goods, T.inn, DT.val_node, DT.val_leaf, DT.bind, DT.val_bad]
    repeat' (first | (with_reducible refine bif_neq (fun h => ?_) (fun h => ?_)) | (with_reducible refine bif_and (fun h => ?_) (fun h => ?_)) | (with_reducible refine bif_eq (fun h => ?_) (fun h => ?_)))
    all_goals first | (simp only [*, S.good, S.emp, cond_true, cond_false, Bool.and_true, Bool.true_and, Bool.and_false, Bool.false_and, Bool.or_true, Bool.true_or, Bool.or_false, Bool.false_or, Bool.not_true, Bool.not_false, beq_self_eq_true, bne_self_eq_false, Bool.not_not]; done) | (exfalso; simp_all; done) | (simp_all [S.good, S.emp]; done) | grind [S.good, S.emp])
theorem ent_good : E (114, onV T.goods) := byEv Hents0 40 fun args t h => by
  obtain ⟨v, rfl, rfl⟩ := onV_eq h
  exact ev_good v
abbrev HL1 : Tab := (114, onV T.goods) :: HL0
theorem Hents1 : ∀ p ∈ HL1, E p := entries_cons ent_good Hents0
set_option maxHeartbeats 4000000 in
theorem ev_check92 (v : V) : evFn Tryd.prog ext (tab HL1) 40 92 [v.agg] = (T.good v).val :=
  Eq.trans (b := 
    (bif v.k == 1 then 
     (bif !S.good v then some (Value.int IntKind.i64 5) else some (Value.int IntKind.i64 0)) else 
     (bif v.k == 2 then 
      (bif !S.good v then some (Value.int IntKind.i64 5) else some (Value.int IntKind.i64 0)) else 
      (bif v.k == 3 then 
       (bif !S.good v then some (Value.int IntKind.i64 5) else some (Value.int IntKind.i64 0)) else 
       (bif v.k == 4 then 
        (bif !S.good v then some (Value.int IntKind.i64 5) else some (Value.int IntKind.i64 0)) else 
        (bif v.k == 5 then 
         (bif leafIn.strOk v.s then 
          (bif !S.good v then some (Value.int IntKind.i64 5) else some (Value.int IntKind.i64 0)) else 
          (bif !S.good v then some (Value.int IntKind.i64 5) else some (Value.int IntKind.i64 0))) else 
         (bif v.k == 6 then 
          (bif leafIn.idOk v.id then 
           (bif !S.good v then some (Value.int IntKind.i64 5) else some (Value.int IntKind.i64 0)) else 
           (bif !S.good v then some (Value.int IntKind.i64 5) else some (Value.int IntKind.i64 0))) else 
          (bif v.k == 7 then 
           (bif leafIn.idOk v.id then 
            (bif !S.good v then some (Value.int IntKind.i64 5) else some (Value.int IntKind.i64 0)) else 
            (bif !S.good v then some (Value.int IntKind.i64 5) else some (Value.int IntKind.i64 0))) else 
           (bif !S.good v then some (Value.int IntKind.i64 5) else some (Value.int IntKind.i64 0)))))))))) (by kernel_rfl) (by
    simp only [T.good, T.err, DT.val_node, DT.val_leaf, DT.bind, DT.val_bad]
    repeat' (first | (with_reducible refine bif_neq (fun h => ?_) (fun h => ?_)) | (with_reducible refine bif_and (fun h => ?_) (fun h => ?_)) | (with_reducible refine bif_eq (fun h => ?_) (fun h => ?_)))
    all_goals first | (simp only [*, S.good, cond_true, cond_false, Bool.and_true, Bool.true_and, Bool.and_false, Bool.false_and, Bool.or_true, Bool.true_or, Bool.or_false, Bool.false_or, Bool.not_true, Bool.not_false, beq_self_eq_true, bne_self_eq_false, Bool.not_not]; done) | (exfalso; simp_all; done) | (simp_all [S.good]; done) | grind [S.good])
theorem ent_check92 : E (92, onV T.good) := byEv Hents1 40 fun args t h => by
  obtain ⟨v, rfl, rfl⟩ := onV_eq h
  exact ev_check92 v
abbrev HL2 : Tab := (92, onV T.good) :: HL1
theorem Hents2 : ∀ p ∈ HL2, E p := entries_cons ent_check92 Hents1
set_option maxHeartbeats 4000000 in
theorem ev_numSame (a b : Nat) : evFn Tryd.prog ext (tab HL2) 40 108 [.float .f64 a, .float .f64 b] = (T.numSame a b).val :=
  Eq.trans (b := 
    (bif FloatKind.f64.format.order a a != some Ordering.eq then 
     (bif FloatKind.f64.format.order a a != some Ordering.eq then some (Value.bool (FloatKind.f64.format.order b b != some Ordering.eq)) else some (Value.bool false)) else 
     (bif FloatKind.f64.format.order b b != some Ordering.eq then 
      (bif FloatKind.f64.format.order a a != some Ordering.eq then some (Value.bool (FloatKind.f64.format.order b b != some Ordering.eq)) else some (Value.bool false)) else 
      (bif FloatKind.f64.format.order a b == some Ordering.eq then some (Value.bool (decide (IntKind.i64.wrap (↑a : Int) < 0) == decide (IntKind.i64.wrap (↑b : Int) < 0))) else some (Value.bool false))))) (by kernel_rfl) (by
    simp only [T.numSame, T.B, DT.val_node, DT.val_leaf, DT.bind, DT.val_bad]
    repeat' (first | (with_reducible refine bif_neq (fun h => ?_) (fun h => ?_)) | (with_reducible refine bif_and (fun h => ?_) (fun h => ?_)) | (with_reducible refine bif_eq (fun h => ?_) (fun h => ?_)))
    all_goals first | (simp only [*, S.numSame, S.nan, S.feq, S.neg, cond_true, cond_false, Bool.and_true, Bool.true_and, Bool.and_false, Bool.false_and, Bool.or_true, Bool.true_or, Bool.or_false, Bool.false_or, Bool.not_true, Bool.not_false, beq_self_eq_true, bne_self_eq_false, Bool.not_not]; done) | (exfalso; simp_all; done) | (simp_all [S.numSame, S.nan, S.feq, S.neg]; done) | grind [S.numSame, S.nan, S.feq, S.neg])
theorem ent_numSame : E (108, onFF T.numSame) := byEv Hents2 40 fun args t h => by
  obtain ⟨a, b, rfl, rfl⟩ := onFF_eq h
  exact ev_numSame a b
abbrev HL3 : Tab := (108, onFF T.numSame) :: HL2
theorem Hents3 : ∀ p ∈ HL3, E p := entries_cons ent_numSame Hents2
set_option maxHeartbeats 4000000 in
theorem ev_absent (v : V) : evFn Tryd.prog ext (tab HL3) 40 91 [v.agg] = (T.absent v).val :=
  Eq.trans (b := 
    (bif v.k == 0 && (v.b == false && (Op.floatEq FloatKind.f64 v.n 0 && (v.s == ByteArray.mk #[] && (v.id == 0 && true)))) then 
     (bif (Ieee.double.div 4607182418800017408 v.n).isSome then some (Value.bool (FloatKind.f64.format.order ((Ieee.double.div 4607182418800017408 v.n).getD 0) 0 == some Ordering.gt)) else none) else some (Value.bool false))) (by kernel_rfl) (by
    simp only [T.absent, T.B, DT.val_leaf]
    refine bif_eq (fun h => ?_) (fun h => ?_)
    · have hd := FloatEq.div_isSome (n := v.n) (by simp only [Bool.and_eq_true] at h; exact h.2.2.1)
      refine bif_eq (fun _ => ?_) (fun h2 => absurd (hd.symm.trans h2) (by simp))
      show _ = some (Value.bool (S.isV0 v && S.pos v.n))
      rw [show S.isV0 v = true from h]
      rfl
    · show _ = some (Value.bool (S.isV0 v && S.pos v.n))
      rw [show S.isV0 v = false from h]
      rfl)
theorem ent_absent : E (91, onV T.absent) := byEv Hents3 40 fun args t h => by
  obtain ⟨v, rfl, rfl⟩ := onV_eq h
  exact ev_absent v
abbrev HL4 : Tab := (91, onV T.absent) :: HL3
theorem Hents4 : ∀ p ∈ HL4, E p := entries_cons ent_absent Hents3
set_option maxHeartbeats 4000000 in
theorem ev_same (a b : V) : evFn Tryd.prog ext (tab HL4) 60 99 [a.agg, b.agg] = (T.same a b).val :=
  Eq.trans (b := 
    (bif a.k == 1 then 
     (bif b.k == 1 then 
      (bif !S.good a then some (Value.tuple #[Value.bool false, Value.int IntKind.i64 5]) else 
       (bif !S.good b then some (Value.tuple #[Value.bool false, Value.int IntKind.i64 5]) else some (Value.tuple #[Value.bool (1 == 1 && (false == false && (Op.floatEq FloatKind.f64 0 0 && (ByteArray.mk #[] == ByteArray.mk #[] && (0 == 0 && true))))), Value.int IntKind.i64 0]))) else 
      (bif b.k == 2 then 
       (bif !S.good a then some (Value.tuple #[Value.bool false, Value.int IntKind.i64 5]) else 
        (bif !S.good b then some (Value.tuple #[Value.bool false, Value.int IntKind.i64 5]) else some (Value.tuple #[Value.bool (1 == 2 && (false == false && (Op.floatEq FloatKind.f64 0 0 && (ByteArray.mk #[] == ByteArray.mk #[] && (0 == 0 && true))))), Value.int IntKind.i64 0]))) else 
       (bif b.k == 3 then 
        (bif !S.good a then some (Value.tuple #[Value.bool false, Value.int IntKind.i64 5]) else 
         (bif !S.good b then some (Value.tuple #[Value.bool false, Value.int IntKind.i64 5]) else some (Value.tuple #[Value.bool (1 == 3 && (false == b.b && (Op.floatEq FloatKind.f64 0 0 && (ByteArray.mk #[] == ByteArray.mk #[] && (0 == 0 && true))))), Value.int IntKind.i64 0]))) else 
        (bif b.k == 4 then 
         (bif !S.good a then some (Value.tuple #[Value.bool false, Value.int IntKind.i64 5]) else 
          (bif !S.good b then some (Value.tuple #[Value.bool false, Value.int IntKind.i64 5]) else some (Value.tuple #[Value.bool (1 == 4 && (false == false && (Op.floatEq FloatKind.f64 0 b.n && (ByteArray.mk #[] == ByteArray.mk #[] && (0 == 0 && true))))), Value.int IntKind.i64 0]))) else 
         (bif b.k == 5 then 
          (bif leafIn.strOk b.s then 
           (bif !S.good a then some (Value.tuple #[Value.bool false, Value.int IntKind.i64 5]) else 
            (bif !S.good b then some (Value.tuple #[Value.bool false, Value.int IntKind.i64 5]) else some (Value.tuple #[Value.bool (1 == 5 && (false == false && (Op.floatEq FloatKind.f64 0 0 && (ByteArray.mk #[] == b.s && (0 == 0 && true))))), Value.int IntKind.i64 0]))) else 
           (bif !S.good a then some (Value.tuple #[Value.bool false, Value.int IntKind.i64 5]) else 
            (bif !S.good b then some (Value.tuple #[Value.bool false, Value.int IntKind.i64 5]) else none))) else 
          (bif b.k == 6 then 
           (bif leafIn.idOk b.id then 
            (bif !S.good a then some (Value.tuple #[Value.bool false, Value.int IntKind.i64 5]) else 
             (bif !S.good b then some (Value.tuple #[Value.bool false, Value.int IntKind.i64 5]) else some (Value.tuple #[Value.bool (1 == 6 && (false == false && (Op.floatEq FloatKind.f64 0 0 && (ByteArray.mk #[] == ByteArray.mk #[] && (0 == b.id && true))))), Value.int IntKind.i64 0]))) else 
            (bif !S.good a then some (Value.tuple #[Value.bool false, Value.int IntKind.i64 5]) else 
             (bif !S.good b then some (Value.tuple #[Value.bool false, Value.int IntKind.i64 5]) else none))) else 
           (bif b.k == 7 then 
            (bif leafIn.idOk b.id then 
             (bif !S.good a then some (Value.tuple #[Value.bool false, Value.int IntKind.i64 5]) else 
              (bif !S.good b then some (Value.tuple #[Value.bool false, Value.int IntKind.i64 5]) else some (Value.tuple #[Value.bool (1 == 7 && (false == false && (Op.floatEq FloatKind.f64 0 0 && (ByteArray.mk #[] == ByteArray.mk #[] && (0 == b.id && true))))), Value.int IntKind.i64 0]))) else 
             (bif !S.good a then some (Value.tuple #[Value.bool false, Value.int IntKind.i64 5]) else 
              (bif !S.good b then some (Value.tuple #[Value.bool false, Value.int IntKind.i64 5]) else none))) else 
            (bif !S.good a then some (Value.tuple #[Value.bool false, Value.int IntKind.i64 5]) else 
             (bif !S.good b then some (Value.tuple #[Value.bool false, Value.int IntKind.i64 5]) else none))))))))) else 
     (bif a.k == 2 then 
      (bif b.k == 1 then 
       (bif !S.good a then some (Value.tuple #[Value.bool false, Value.int IntKind.i64 5]) else 
        (bif !S.good b then some (Value.tuple #[Value.bool false, Value.int IntKind.i64 5]) else some (Value.tuple #[Value.bool (2 == 1 && (false == false && (Op.floatEq FloatKind.f64 0 0 && (ByteArray.mk #[] == ByteArray.mk #[] && (0 == 0 && true))))), Value.int IntKind.i64 0]))) else 
       (bif b.k == 2 then 
        (bif !S.good a then some (Value.tuple #[Value.bool false, Value.int IntKind.i64 5]) else 
         (bif !S.good b then some (Value.tuple #[Value.bool false, Value.int IntKind.i64 5]) else some (Value.tuple #[Value.bool (2 == 2 && (false == false && (Op.floatEq FloatKind.f64 0 0 && (ByteArray.mk #[] == ByteArray.mk #[] && (0 == 0 && true))))), Value.int IntKind.i64 0]))) else 
        (bif b.k == 3 then 
         (bif !S.good a then some (Value.tuple #[Value.bool false, Value.int IntKind.i64 5]) else 
          (bif !S.good b then some (Value.tuple #[Value.bool false, Value.int IntKind.i64 5]) else some (Value.tuple #[Value.bool (2 == 3 && (false == b.b && (Op.floatEq FloatKind.f64 0 0 && (ByteArray.mk #[] == ByteArray.mk #[] && (0 == 0 && true))))), Value.int IntKind.i64 0]))) else 
         (bif b.k == 4 then 
          (bif !S.good a then some (Value.tuple #[Value.bool false, Value.int IntKind.i64 5]) else 
           (bif !S.good b then some (Value.tuple #[Value.bool false, Value.int IntKind.i64 5]) else some (Value.tuple #[Value.bool (2 == 4 && (false == false && (Op.floatEq FloatKind.f64 0 b.n && (ByteArray.mk #[] == ByteArray.mk #[] && (0 == 0 && true))))), Value.int IntKind.i64 0]))) else 
          (bif b.k == 5 then 
           (bif leafIn.strOk b.s then 
            (bif !S.good a then some (Value.tuple #[Value.bool false, Value.int IntKind.i64 5]) else 
             (bif !S.good b then some (Value.tuple #[Value.bool false, Value.int IntKind.i64 5]) else some (Value.tuple #[Value.bool (2 == 5 && (false == false && (Op.floatEq FloatKind.f64 0 0 && (ByteArray.mk #[] == b.s && (0 == 0 && true))))), Value.int IntKind.i64 0]))) else 
            (bif !S.good a then some (Value.tuple #[Value.bool false, Value.int IntKind.i64 5]) else 
             (bif !S.good b then some (Value.tuple #[Value.bool false, Value.int IntKind.i64 5]) else none))) else 
           (bif b.k == 6 then 
            (bif leafIn.idOk b.id then 
             (bif !S.good a then some (Value.tuple #[Value.bool false, Value.int IntKind.i64 5]) else 
              (bif !S.good b then some (Value.tuple #[Value.bool false, Value.int IntKind.i64 5]) else some (Value.tuple #[Value.bool (2 == 6 && (false == false && (Op.floatEq FloatKind.f64 0 0 && (ByteArray.mk #[] == ByteArray.mk #[] && (0 == b.id && true))))), Value.int IntKind.i64 0]))) else 
             (bif !S.good a then some (Value.tuple #[Value.bool false, Value.int IntKind.i64 5]) else 
              (bif !S.good b then some (Value.tuple #[Value.bool false, Value.int IntKind.i64 5]) else none))) else 
            (bif b.k == 7 then 
             (bif leafIn.idOk b.id then 
              (bif !S.good a then some (Value.tuple #[Value.bool false, Value.int IntKind.i64 5]) else 
               (bif !S.good b then some (Value.tuple #[Value.bool false, Value.int IntKind.i64 5]) else some (Value.tuple #[Value.bool (2 == 7 && (false == false && (Op.floatEq FloatKind.f64 0 0 && (ByteArray.mk #[] == ByteArray.mk #[] && (0 == b.id && true))))), Value.int IntKind.i64 0]))) else 
              (bif !S.good a then some (Value.tuple #[Value.bool false, Value.int IntKind.i64 5]) else 
               (bif !S.good b then some (Value.tuple #[Value.bool false, Value.int IntKind.i64 5]) else none))) else 
             (bif !S.good a then some (Value.tuple #[Value.bool false, Value.int IntKind.i64 5]) else 
              (bif !S.good b then some (Value.tuple #[Value.bool false, Value.int IntKind.i64 5]) else none))))))))) else 
      (bif a.k == 3 then 
       (bif b.k == 1 then 
        (bif !S.good a then some (Value.tuple #[Value.bool false, Value.int IntKind.i64 5]) else 
         (bif !S.good b then some (Value.tuple #[Value.bool false, Value.int IntKind.i64 5]) else some (Value.tuple #[Value.bool (3 == 1 && (a.b == false && (Op.floatEq FloatKind.f64 0 0 && (ByteArray.mk #[] == ByteArray.mk #[] && (0 == 0 && true))))), Value.int IntKind.i64 0]))) else 
        (bif b.k == 2 then 
         (bif !S.good a then some (Value.tuple #[Value.bool false, Value.int IntKind.i64 5]) else 
          (bif !S.good b then some (Value.tuple #[Value.bool false, Value.int IntKind.i64 5]) else some (Value.tuple #[Value.bool (3 == 2 && (a.b == false && (Op.floatEq FloatKind.f64 0 0 && (ByteArray.mk #[] == ByteArray.mk #[] && (0 == 0 && true))))), Value.int IntKind.i64 0]))) else 
         (bif b.k == 3 then 
          (bif !S.good a then some (Value.tuple #[Value.bool false, Value.int IntKind.i64 5]) else 
           (bif !S.good b then some (Value.tuple #[Value.bool false, Value.int IntKind.i64 5]) else some (Value.tuple #[Value.bool (3 == 3 && (a.b == b.b && (Op.floatEq FloatKind.f64 0 0 && (ByteArray.mk #[] == ByteArray.mk #[] && (0 == 0 && true))))), Value.int IntKind.i64 0]))) else 
          (bif b.k == 4 then 
           (bif !S.good a then some (Value.tuple #[Value.bool false, Value.int IntKind.i64 5]) else 
            (bif !S.good b then some (Value.tuple #[Value.bool false, Value.int IntKind.i64 5]) else some (Value.tuple #[Value.bool (3 == 4 && (a.b == false && (Op.floatEq FloatKind.f64 0 b.n && (ByteArray.mk #[] == ByteArray.mk #[] && (0 == 0 && true))))), Value.int IntKind.i64 0]))) else 
           (bif b.k == 5 then 
            (bif leafIn.strOk b.s then 
             (bif !S.good a then some (Value.tuple #[Value.bool false, Value.int IntKind.i64 5]) else 
              (bif !S.good b then some (Value.tuple #[Value.bool false, Value.int IntKind.i64 5]) else some (Value.tuple #[Value.bool (3 == 5 && (a.b == false && (Op.floatEq FloatKind.f64 0 0 && (ByteArray.mk #[] == b.s && (0 == 0 && true))))), Value.int IntKind.i64 0]))) else 
             (bif !S.good a then some (Value.tuple #[Value.bool false, Value.int IntKind.i64 5]) else 
              (bif !S.good b then some (Value.tuple #[Value.bool false, Value.int IntKind.i64 5]) else none))) else 
            (bif b.k == 6 then 
             (bif leafIn.idOk b.id then 
              (bif !S.good a then some (Value.tuple #[Value.bool false, Value.int IntKind.i64 5]) else 
               (bif !S.good b then some (Value.tuple #[Value.bool false, Value.int IntKind.i64 5]) else some (Value.tuple #[Value.bool (3 == 6 && (a.b == false && (Op.floatEq FloatKind.f64 0 0 && (ByteArray.mk #[] == ByteArray.mk #[] && (0 == b.id && true))))), Value.int IntKind.i64 0]))) else 
              (bif !S.good a then some (Value.tuple #[Value.bool false, Value.int IntKind.i64 5]) else 
               (bif !S.good b then some (Value.tuple #[Value.bool false, Value.int IntKind.i64 5]) else none))) else 
             (bif b.k == 7 then 
              (bif leafIn.idOk b.id then 
               (bif !S.good a then some (Value.tuple #[Value.bool false, Value.int IntKind.i64 5]) else 
                (bif !S.good b then some (Value.tuple #[Value.bool false, Value.int IntKind.i64 5]) else some (Value.tuple #[Value.bool (3 == 7 && (a.b == false && (Op.floatEq FloatKind.f64 0 0 && (ByteArray.mk #[] == ByteArray.mk #[] && (0 == b.id && true))))), Value.int IntKind.i64 0]))) else 
               (bif !S.good a then some (Value.tuple #[Value.bool false, Value.int IntKind.i64 5]) else 
                (bif !S.good b then some (Value.tuple #[Value.bool false, Value.int IntKind.i64 5]) else none))) else 
              (bif !S.good a then some (Value.tuple #[Value.bool false, Value.int IntKind.i64 5]) else 
               (bif !S.good b then some (Value.tuple #[Value.bool false, Value.int IntKind.i64 5]) else none))))))))) else 
       (bif a.k == 4 then 
        (bif b.k == 1 then 
         (bif !S.good a then some (Value.tuple #[Value.bool false, Value.int IntKind.i64 5]) else 
          (bif !S.good b then some (Value.tuple #[Value.bool false, Value.int IntKind.i64 5]) else some (Value.tuple #[Value.bool false, Value.int IntKind.i64 0]))) else 
         (bif b.k == 2 then 
          (bif !S.good a then some (Value.tuple #[Value.bool false, Value.int IntKind.i64 5]) else 
           (bif !S.good b then some (Value.tuple #[Value.bool false, Value.int IntKind.i64 5]) else some (Value.tuple #[Value.bool false, Value.int IntKind.i64 0]))) else 
          (bif b.k == 3 then 
           (bif !S.good a then some (Value.tuple #[Value.bool false, Value.int IntKind.i64 5]) else 
            (bif !S.good b then some (Value.tuple #[Value.bool false, Value.int IntKind.i64 5]) else some (Value.tuple #[Value.bool false, Value.int IntKind.i64 0]))) else 
           (bif b.k == 4 then 
            (bif !S.good a then some (Value.tuple #[Value.bool false, Value.int IntKind.i64 5]) else 
             (bif !S.good b then some (Value.tuple #[Value.bool false, Value.int IntKind.i64 5]) else some (Value.tuple #[Value.bool (S.numSame a.n b.n), Value.int IntKind.i64 0]))) else 
            (bif b.k == 5 then 
             (bif leafIn.strOk b.s then 
              (bif !S.good a then some (Value.tuple #[Value.bool false, Value.int IntKind.i64 5]) else 
               (bif !S.good b then some (Value.tuple #[Value.bool false, Value.int IntKind.i64 5]) else some (Value.tuple #[Value.bool false, Value.int IntKind.i64 0]))) else 
              (bif !S.good a then some (Value.tuple #[Value.bool false, Value.int IntKind.i64 5]) else 
               (bif !S.good b then some (Value.tuple #[Value.bool false, Value.int IntKind.i64 5]) else some (Value.tuple #[Value.bool false, Value.int IntKind.i64 0])))) else 
             (bif b.k == 6 then 
              (bif leafIn.idOk b.id then 
               (bif !S.good a then some (Value.tuple #[Value.bool false, Value.int IntKind.i64 5]) else 
                (bif !S.good b then some (Value.tuple #[Value.bool false, Value.int IntKind.i64 5]) else some (Value.tuple #[Value.bool false, Value.int IntKind.i64 0]))) else 
               (bif !S.good a then some (Value.tuple #[Value.bool false, Value.int IntKind.i64 5]) else 
                (bif !S.good b then some (Value.tuple #[Value.bool false, Value.int IntKind.i64 5]) else some (Value.tuple #[Value.bool false, Value.int IntKind.i64 0])))) else 
              (bif b.k == 7 then 
               (bif leafIn.idOk b.id then 
                (bif !S.good a then some (Value.tuple #[Value.bool false, Value.int IntKind.i64 5]) else 
                 (bif !S.good b then some (Value.tuple #[Value.bool false, Value.int IntKind.i64 5]) else some (Value.tuple #[Value.bool false, Value.int IntKind.i64 0]))) else 
                (bif !S.good a then some (Value.tuple #[Value.bool false, Value.int IntKind.i64 5]) else 
                 (bif !S.good b then some (Value.tuple #[Value.bool false, Value.int IntKind.i64 5]) else some (Value.tuple #[Value.bool false, Value.int IntKind.i64 0])))) else 
               (bif !S.good a then some (Value.tuple #[Value.bool false, Value.int IntKind.i64 5]) else 
                (bif !S.good b then some (Value.tuple #[Value.bool false, Value.int IntKind.i64 5]) else some (Value.tuple #[Value.bool false, Value.int IntKind.i64 0])))))))))) else 
        (bif a.k == 5 then 
         (bif leafIn.strOk a.s then 
          (bif b.k == 1 then 
           (bif !S.good a then some (Value.tuple #[Value.bool false, Value.int IntKind.i64 5]) else 
            (bif !S.good b then some (Value.tuple #[Value.bool false, Value.int IntKind.i64 5]) else some (Value.tuple #[Value.bool (5 == 1 && (false == false && (Op.floatEq FloatKind.f64 0 0 && (a.s == ByteArray.mk #[] && (0 == 0 && true))))), Value.int IntKind.i64 0]))) else 
           (bif b.k == 2 then 
            (bif !S.good a then some (Value.tuple #[Value.bool false, Value.int IntKind.i64 5]) else 
             (bif !S.good b then some (Value.tuple #[Value.bool false, Value.int IntKind.i64 5]) else some (Value.tuple #[Value.bool (5 == 2 && (false == false && (Op.floatEq FloatKind.f64 0 0 && (a.s == ByteArray.mk #[] && (0 == 0 && true))))), Value.int IntKind.i64 0]))) else 
            (bif b.k == 3 then 
             (bif !S.good a then some (Value.tuple #[Value.bool false, Value.int IntKind.i64 5]) else 
              (bif !S.good b then some (Value.tuple #[Value.bool false, Value.int IntKind.i64 5]) else some (Value.tuple #[Value.bool (5 == 3 && (false == b.b && (Op.floatEq FloatKind.f64 0 0 && (a.s == ByteArray.mk #[] && (0 == 0 && true))))), Value.int IntKind.i64 0]))) else 
             (bif b.k == 4 then 
              (bif !S.good a then some (Value.tuple #[Value.bool false, Value.int IntKind.i64 5]) else 
               (bif !S.good b then some (Value.tuple #[Value.bool false, Value.int IntKind.i64 5]) else some (Value.tuple #[Value.bool (5 == 4 && (false == false && (Op.floatEq FloatKind.f64 0 b.n && (a.s == ByteArray.mk #[] && (0 == 0 && true))))), Value.int IntKind.i64 0]))) else 
              (bif b.k == 5 then 
               (bif leafIn.strOk b.s then 
                (bif !S.good a then some (Value.tuple #[Value.bool false, Value.int IntKind.i64 5]) else 
                 (bif !S.good b then some (Value.tuple #[Value.bool false, Value.int IntKind.i64 5]) else some (Value.tuple #[Value.bool (5 == 5 && (false == false && (Op.floatEq FloatKind.f64 0 0 && (a.s == b.s && (0 == 0 && true))))), Value.int IntKind.i64 0]))) else 
                (bif !S.good a then some (Value.tuple #[Value.bool false, Value.int IntKind.i64 5]) else 
                 (bif !S.good b then some (Value.tuple #[Value.bool false, Value.int IntKind.i64 5]) else none))) else 
               (bif b.k == 6 then 
                (bif leafIn.idOk b.id then 
                 (bif !S.good a then some (Value.tuple #[Value.bool false, Value.int IntKind.i64 5]) else 
                  (bif !S.good b then some (Value.tuple #[Value.bool false, Value.int IntKind.i64 5]) else some (Value.tuple #[Value.bool (5 == 6 && (false == false && (Op.floatEq FloatKind.f64 0 0 && (a.s == ByteArray.mk #[] && (0 == b.id && true))))), Value.int IntKind.i64 0]))) else 
                 (bif !S.good a then some (Value.tuple #[Value.bool false, Value.int IntKind.i64 5]) else 
                  (bif !S.good b then some (Value.tuple #[Value.bool false, Value.int IntKind.i64 5]) else none))) else 
                (bif b.k == 7 then 
                 (bif leafIn.idOk b.id then 
                  (bif !S.good a then some (Value.tuple #[Value.bool false, Value.int IntKind.i64 5]) else 
                   (bif !S.good b then some (Value.tuple #[Value.bool false, Value.int IntKind.i64 5]) else some (Value.tuple #[Value.bool (5 == 7 && (false == false && (Op.floatEq FloatKind.f64 0 0 && (a.s == ByteArray.mk #[] && (0 == b.id && true))))), Value.int IntKind.i64 0]))) else 
                  (bif !S.good a then some (Value.tuple #[Value.bool false, Value.int IntKind.i64 5]) else 
                   (bif !S.good b then some (Value.tuple #[Value.bool false, Value.int IntKind.i64 5]) else none))) else 
                 (bif !S.good a then some (Value.tuple #[Value.bool false, Value.int IntKind.i64 5]) else 
                  (bif !S.good b then some (Value.tuple #[Value.bool false, Value.int IntKind.i64 5]) else none))))))))) else 
          (bif b.k == 1 then 
           (bif !S.good a then some (Value.tuple #[Value.bool false, Value.int IntKind.i64 5]) else 
            (bif !S.good b then some (Value.tuple #[Value.bool false, Value.int IntKind.i64 5]) else none)) else 
           (bif b.k == 2 then 
            (bif !S.good a then some (Value.tuple #[Value.bool false, Value.int IntKind.i64 5]) else 
             (bif !S.good b then some (Value.tuple #[Value.bool false, Value.int IntKind.i64 5]) else none)) else 
            (bif b.k == 3 then 
             (bif !S.good a then some (Value.tuple #[Value.bool false, Value.int IntKind.i64 5]) else 
              (bif !S.good b then some (Value.tuple #[Value.bool false, Value.int IntKind.i64 5]) else none)) else 
             (bif b.k == 4 then 
              (bif !S.good a then some (Value.tuple #[Value.bool false, Value.int IntKind.i64 5]) else 
               (bif !S.good b then some (Value.tuple #[Value.bool false, Value.int IntKind.i64 5]) else none)) else 
              (bif b.k == 5 then 
               (bif leafIn.strOk b.s then 
                (bif !S.good a then some (Value.tuple #[Value.bool false, Value.int IntKind.i64 5]) else 
                 (bif !S.good b then some (Value.tuple #[Value.bool false, Value.int IntKind.i64 5]) else none)) else 
                (bif !S.good a then some (Value.tuple #[Value.bool false, Value.int IntKind.i64 5]) else 
                 (bif !S.good b then some (Value.tuple #[Value.bool false, Value.int IntKind.i64 5]) else none))) else 
               (bif b.k == 6 then 
                (bif leafIn.idOk b.id then 
                 (bif !S.good a then some (Value.tuple #[Value.bool false, Value.int IntKind.i64 5]) else 
                  (bif !S.good b then some (Value.tuple #[Value.bool false, Value.int IntKind.i64 5]) else none)) else 
                 (bif !S.good a then some (Value.tuple #[Value.bool false, Value.int IntKind.i64 5]) else 
                  (bif !S.good b then some (Value.tuple #[Value.bool false, Value.int IntKind.i64 5]) else none))) else 
                (bif b.k == 7 then 
                 (bif leafIn.idOk b.id then 
                  (bif !S.good a then some (Value.tuple #[Value.bool false, Value.int IntKind.i64 5]) else 
                   (bif !S.good b then some (Value.tuple #[Value.bool false, Value.int IntKind.i64 5]) else none)) else 
                  (bif !S.good a then some (Value.tuple #[Value.bool false, Value.int IntKind.i64 5]) else 
                   (bif !S.good b then some (Value.tuple #[Value.bool false, Value.int IntKind.i64 5]) else none))) else 
                 (bif !S.good a then some (Value.tuple #[Value.bool false, Value.int IntKind.i64 5]) else 
                  (bif !S.good b then some (Value.tuple #[Value.bool false, Value.int IntKind.i64 5]) else none)))))))))) else 
         (bif a.k == 6 then 
          (bif leafIn.idOk a.id then 
           (bif b.k == 1 then 
            (bif !S.good a then some (Value.tuple #[Value.bool false, Value.int IntKind.i64 5]) else 
             (bif !S.good b then some (Value.tuple #[Value.bool false, Value.int IntKind.i64 5]) else some (Value.tuple #[Value.bool (6 == 1 && (false == false && (Op.floatEq FloatKind.f64 0 0 && (ByteArray.mk #[] == ByteArray.mk #[] && (a.id == 0 && true))))), Value.int IntKind.i64 0]))) else 
            (bif b.k == 2 then 
             (bif !S.good a then some (Value.tuple #[Value.bool false, Value.int IntKind.i64 5]) else 
              (bif !S.good b then some (Value.tuple #[Value.bool false, Value.int IntKind.i64 5]) else some (Value.tuple #[Value.bool (6 == 2 && (false == false && (Op.floatEq FloatKind.f64 0 0 && (ByteArray.mk #[] == ByteArray.mk #[] && (a.id == 0 && true))))), Value.int IntKind.i64 0]))) else 
             (bif b.k == 3 then 
              (bif !S.good a then some (Value.tuple #[Value.bool false, Value.int IntKind.i64 5]) else 
               (bif !S.good b then some (Value.tuple #[Value.bool false, Value.int IntKind.i64 5]) else some (Value.tuple #[Value.bool (6 == 3 && (false == b.b && (Op.floatEq FloatKind.f64 0 0 && (ByteArray.mk #[] == ByteArray.mk #[] && (a.id == 0 && true))))), Value.int IntKind.i64 0]))) else 
              (bif b.k == 4 then 
               (bif !S.good a then some (Value.tuple #[Value.bool false, Value.int IntKind.i64 5]) else 
                (bif !S.good b then some (Value.tuple #[Value.bool false, Value.int IntKind.i64 5]) else some (Value.tuple #[Value.bool (6 == 4 && (false == false && (Op.floatEq FloatKind.f64 0 b.n && (ByteArray.mk #[] == ByteArray.mk #[] && (a.id == 0 && true))))), Value.int IntKind.i64 0]))) else 
               (bif b.k == 5 then 
                (bif leafIn.strOk b.s then 
                 (bif !S.good a then some (Value.tuple #[Value.bool false, Value.int IntKind.i64 5]) else 
                  (bif !S.good b then some (Value.tuple #[Value.bool false, Value.int IntKind.i64 5]) else some (Value.tuple #[Value.bool (6 == 5 && (false == false && (Op.floatEq FloatKind.f64 0 0 && (ByteArray.mk #[] == b.s && (a.id == 0 && true))))), Value.int IntKind.i64 0]))) else 
                 (bif !S.good a then some (Value.tuple #[Value.bool false, Value.int IntKind.i64 5]) else 
                  (bif !S.good b then some (Value.tuple #[Value.bool false, Value.int IntKind.i64 5]) else none))) else 
                (bif b.k == 6 then 
                 (bif leafIn.idOk b.id then 
                  (bif !S.good a then some (Value.tuple #[Value.bool false, Value.int IntKind.i64 5]) else 
                   (bif !S.good b then some (Value.tuple #[Value.bool false, Value.int IntKind.i64 5]) else some (Value.tuple #[Value.bool (6 == 6 && (false == false && (Op.floatEq FloatKind.f64 0 0 && (ByteArray.mk #[] == ByteArray.mk #[] && (a.id == b.id && true))))), Value.int IntKind.i64 0]))) else 
                  (bif !S.good a then some (Value.tuple #[Value.bool false, Value.int IntKind.i64 5]) else 
                   (bif !S.good b then some (Value.tuple #[Value.bool false, Value.int IntKind.i64 5]) else none))) else 
                 (bif b.k == 7 then 
                  (bif leafIn.idOk b.id then 
                   (bif !S.good a then some (Value.tuple #[Value.bool false, Value.int IntKind.i64 5]) else 
                    (bif !S.good b then some (Value.tuple #[Value.bool false, Value.int IntKind.i64 5]) else some (Value.tuple #[Value.bool (6 == 7 && (false == false && (Op.floatEq FloatKind.f64 0 0 && (ByteArray.mk #[] == ByteArray.mk #[] && (a.id == b.id && true))))), Value.int IntKind.i64 0]))) else 
                   (bif !S.good a then some (Value.tuple #[Value.bool false, Value.int IntKind.i64 5]) else 
                    (bif !S.good b then some (Value.tuple #[Value.bool false, Value.int IntKind.i64 5]) else none))) else 
                  (bif !S.good a then some (Value.tuple #[Value.bool false, Value.int IntKind.i64 5]) else 
                   (bif !S.good b then some (Value.tuple #[Value.bool false, Value.int IntKind.i64 5]) else none))))))))) else 
           (bif b.k == 1 then 
            (bif !S.good a then some (Value.tuple #[Value.bool false, Value.int IntKind.i64 5]) else 
             (bif !S.good b then some (Value.tuple #[Value.bool false, Value.int IntKind.i64 5]) else none)) else 
            (bif b.k == 2 then 
             (bif !S.good a then some (Value.tuple #[Value.bool false, Value.int IntKind.i64 5]) else 
              (bif !S.good b then some (Value.tuple #[Value.bool false, Value.int IntKind.i64 5]) else none)) else 
             (bif b.k == 3 then 
              (bif !S.good a then some (Value.tuple #[Value.bool false, Value.int IntKind.i64 5]) else 
               (bif !S.good b then some (Value.tuple #[Value.bool false, Value.int IntKind.i64 5]) else none)) else 
              (bif b.k == 4 then 
               (bif !S.good a then some (Value.tuple #[Value.bool false, Value.int IntKind.i64 5]) else 
                (bif !S.good b then some (Value.tuple #[Value.bool false, Value.int IntKind.i64 5]) else none)) else 
               (bif b.k == 5 then 
                (bif leafIn.strOk b.s then 
                 (bif !S.good a then some (Value.tuple #[Value.bool false, Value.int IntKind.i64 5]) else 
                  (bif !S.good b then some (Value.tuple #[Value.bool false, Value.int IntKind.i64 5]) else none)) else 
                 (bif !S.good a then some (Value.tuple #[Value.bool false, Value.int IntKind.i64 5]) else 
                  (bif !S.good b then some (Value.tuple #[Value.bool false, Value.int IntKind.i64 5]) else none))) else 
                (bif b.k == 6 then 
                 (bif leafIn.idOk b.id then 
                  (bif !S.good a then some (Value.tuple #[Value.bool false, Value.int IntKind.i64 5]) else 
                   (bif !S.good b then some (Value.tuple #[Value.bool false, Value.int IntKind.i64 5]) else none)) else 
                  (bif !S.good a then some (Value.tuple #[Value.bool false, Value.int IntKind.i64 5]) else 
                   (bif !S.good b then some (Value.tuple #[Value.bool false, Value.int IntKind.i64 5]) else none))) else 
                 (bif b.k == 7 then 
                  (bif leafIn.idOk b.id then 
                   (bif !S.good a then some (Value.tuple #[Value.bool false, Value.int IntKind.i64 5]) else 
                    (bif !S.good b then some (Value.tuple #[Value.bool false, Value.int IntKind.i64 5]) else none)) else 
                   (bif !S.good a then some (Value.tuple #[Value.bool false, Value.int IntKind.i64 5]) else 
                    (bif !S.good b then some (Value.tuple #[Value.bool false, Value.int IntKind.i64 5]) else none))) else 
                  (bif !S.good a then some (Value.tuple #[Value.bool false, Value.int IntKind.i64 5]) else 
                   (bif !S.good b then some (Value.tuple #[Value.bool false, Value.int IntKind.i64 5]) else none)))))))))) else 
          (bif a.k == 7 then 
           (bif leafIn.idOk a.id then 
            (bif b.k == 1 then 
             (bif !S.good a then some (Value.tuple #[Value.bool false, Value.int IntKind.i64 5]) else 
              (bif !S.good b then some (Value.tuple #[Value.bool false, Value.int IntKind.i64 5]) else some (Value.tuple #[Value.bool (7 == 1 && (false == false && (Op.floatEq FloatKind.f64 0 0 && (ByteArray.mk #[] == ByteArray.mk #[] && (a.id == 0 && true))))), Value.int IntKind.i64 0]))) else 
             (bif b.k == 2 then 
              (bif !S.good a then some (Value.tuple #[Value.bool false, Value.int IntKind.i64 5]) else 
               (bif !S.good b then some (Value.tuple #[Value.bool false, Value.int IntKind.i64 5]) else some (Value.tuple #[Value.bool (7 == 2 && (false == false && (Op.floatEq FloatKind.f64 0 0 && (ByteArray.mk #[] == ByteArray.mk #[] && (a.id == 0 && true))))), Value.int IntKind.i64 0]))) else 
              (bif b.k == 3 then 
               (bif !S.good a then some (Value.tuple #[Value.bool false, Value.int IntKind.i64 5]) else 
                (bif !S.good b then some (Value.tuple #[Value.bool false, Value.int IntKind.i64 5]) else some (Value.tuple #[Value.bool (7 == 3 && (false == b.b && (Op.floatEq FloatKind.f64 0 0 && (ByteArray.mk #[] == ByteArray.mk #[] && (a.id == 0 && true))))), Value.int IntKind.i64 0]))) else 
               (bif b.k == 4 then 
                (bif !S.good a then some (Value.tuple #[Value.bool false, Value.int IntKind.i64 5]) else 
                 (bif !S.good b then some (Value.tuple #[Value.bool false, Value.int IntKind.i64 5]) else some (Value.tuple #[Value.bool (7 == 4 && (false == false && (Op.floatEq FloatKind.f64 0 b.n && (ByteArray.mk #[] == ByteArray.mk #[] && (a.id == 0 && true))))), Value.int IntKind.i64 0]))) else 
                (bif b.k == 5 then 
                 (bif leafIn.strOk b.s then 
                  (bif !S.good a then some (Value.tuple #[Value.bool false, Value.int IntKind.i64 5]) else 
                   (bif !S.good b then some (Value.tuple #[Value.bool false, Value.int IntKind.i64 5]) else some (Value.tuple #[Value.bool (7 == 5 && (false == false && (Op.floatEq FloatKind.f64 0 0 && (ByteArray.mk #[] == b.s && (a.id == 0 && true))))), Value.int IntKind.i64 0]))) else 
                  (bif !S.good a then some (Value.tuple #[Value.bool false, Value.int IntKind.i64 5]) else 
                   (bif !S.good b then some (Value.tuple #[Value.bool false, Value.int IntKind.i64 5]) else none))) else 
                 (bif b.k == 6 then 
                  (bif leafIn.idOk b.id then 
                   (bif !S.good a then some (Value.tuple #[Value.bool false, Value.int IntKind.i64 5]) else 
                    (bif !S.good b then some (Value.tuple #[Value.bool false, Value.int IntKind.i64 5]) else some (Value.tuple #[Value.bool (7 == 6 && (false == false && (Op.floatEq FloatKind.f64 0 0 && (ByteArray.mk #[] == ByteArray.mk #[] && (a.id == b.id && true))))), Value.int IntKind.i64 0]))) else 
                   (bif !S.good a then some (Value.tuple #[Value.bool false, Value.int IntKind.i64 5]) else 
                    (bif !S.good b then some (Value.tuple #[Value.bool false, Value.int IntKind.i64 5]) else none))) else 
                  (bif b.k == 7 then 
                   (bif leafIn.idOk b.id then 
                    (bif !S.good a then some (Value.tuple #[Value.bool false, Value.int IntKind.i64 5]) else 
                     (bif !S.good b then some (Value.tuple #[Value.bool false, Value.int IntKind.i64 5]) else some (Value.tuple #[Value.bool (7 == 7 && (false == false && (Op.floatEq FloatKind.f64 0 0 && (ByteArray.mk #[] == ByteArray.mk #[] && (a.id == b.id && true))))), Value.int IntKind.i64 0]))) else 
                    (bif !S.good a then some (Value.tuple #[Value.bool false, Value.int IntKind.i64 5]) else 
                     (bif !S.good b then some (Value.tuple #[Value.bool false, Value.int IntKind.i64 5]) else none))) else 
                   (bif !S.good a then some (Value.tuple #[Value.bool false, Value.int IntKind.i64 5]) else 
                    (bif !S.good b then some (Value.tuple #[Value.bool false, Value.int IntKind.i64 5]) else none))))))))) else 
            (bif b.k == 1 then 
             (bif !S.good a then some (Value.tuple #[Value.bool false, Value.int IntKind.i64 5]) else 
              (bif !S.good b then some (Value.tuple #[Value.bool false, Value.int IntKind.i64 5]) else none)) else 
             (bif b.k == 2 then 
              (bif !S.good a then some (Value.tuple #[Value.bool false, Value.int IntKind.i64 5]) else 
               (bif !S.good b then some (Value.tuple #[Value.bool false, Value.int IntKind.i64 5]) else none)) else 
              (bif b.k == 3 then 
               (bif !S.good a then some (Value.tuple #[Value.bool false, Value.int IntKind.i64 5]) else 
                (bif !S.good b then some (Value.tuple #[Value.bool false, Value.int IntKind.i64 5]) else none)) else 
               (bif b.k == 4 then 
                (bif !S.good a then some (Value.tuple #[Value.bool false, Value.int IntKind.i64 5]) else 
                 (bif !S.good b then some (Value.tuple #[Value.bool false, Value.int IntKind.i64 5]) else none)) else 
                (bif b.k == 5 then 
                 (bif leafIn.strOk b.s then 
                  (bif !S.good a then some (Value.tuple #[Value.bool false, Value.int IntKind.i64 5]) else 
                   (bif !S.good b then some (Value.tuple #[Value.bool false, Value.int IntKind.i64 5]) else none)) else 
                  (bif !S.good a then some (Value.tuple #[Value.bool false, Value.int IntKind.i64 5]) else 
                   (bif !S.good b then some (Value.tuple #[Value.bool false, Value.int IntKind.i64 5]) else none))) else 
                 (bif b.k == 6 then 
                  (bif leafIn.idOk b.id then 
                   (bif !S.good a then some (Value.tuple #[Value.bool false, Value.int IntKind.i64 5]) else 
                    (bif !S.good b then some (Value.tuple #[Value.bool false, Value.int IntKind.i64 5]) else none)) else 
                   (bif !S.good a then some (Value.tuple #[Value.bool false, Value.int IntKind.i64 5]) else 
                    (bif !S.good b then some (Value.tuple #[Value.bool false, Value.int IntKind.i64 5]) else none))) else 
                  (bif b.k == 7 then 
                   (bif leafIn.idOk b.id then 
                    (bif !S.good a then some (Value.tuple #[Value.bool false, Value.int IntKind.i64 5]) else 
                     (bif !S.good b then some (Value.tuple #[Value.bool false, Value.int IntKind.i64 5]) else none)) else 
                    (bif !S.good a then some (Value.tuple #[Value.bool false, Value.int IntKind.i64 5]) else 
                     (bif !S.good b then some (Value.tuple #[Value.bool false, Value.int IntKind.i64 5]) else none))) else 
                   (bif !S.good a then some (Value.tuple #[Value.bool false, Value.int IntKind.i64 5]) else 
                    (bif !S.good b then some (Value.tuple #[Value.bool false, Value.int IntKind.i64 5]) else none)))))))))) else 
           (bif b.k == 1 then 
            (bif !S.good a then some (Value.tuple #[Value.bool false, Value.int IntKind.i64 5]) else 
             (bif !S.good b then some (Value.tuple #[Value.bool false, Value.int IntKind.i64 5]) else none)) else 
            (bif b.k == 2 then 
             (bif !S.good a then some (Value.tuple #[Value.bool false, Value.int IntKind.i64 5]) else 
              (bif !S.good b then some (Value.tuple #[Value.bool false, Value.int IntKind.i64 5]) else none)) else 
             (bif b.k == 3 then 
              (bif !S.good a then some (Value.tuple #[Value.bool false, Value.int IntKind.i64 5]) else 
               (bif !S.good b then some (Value.tuple #[Value.bool false, Value.int IntKind.i64 5]) else none)) else 
              (bif b.k == 4 then 
               (bif !S.good a then some (Value.tuple #[Value.bool false, Value.int IntKind.i64 5]) else 
                (bif !S.good b then some (Value.tuple #[Value.bool false, Value.int IntKind.i64 5]) else none)) else 
               (bif b.k == 5 then 
                (bif leafIn.strOk b.s then 
                 (bif !S.good a then some (Value.tuple #[Value.bool false, Value.int IntKind.i64 5]) else 
                  (bif !S.good b then some (Value.tuple #[Value.bool false, Value.int IntKind.i64 5]) else none)) else 
                 (bif !S.good a then some (Value.tuple #[Value.bool false, Value.int IntKind.i64 5]) else 
                  (bif !S.good b then some (Value.tuple #[Value.bool false, Value.int IntKind.i64 5]) else none))) else 
                (bif b.k == 6 then 
                 (bif leafIn.idOk b.id then 
                  (bif !S.good a then some (Value.tuple #[Value.bool false, Value.int IntKind.i64 5]) else 
                   (bif !S.good b then some (Value.tuple #[Value.bool false, Value.int IntKind.i64 5]) else none)) else 
                  (bif !S.good a then some (Value.tuple #[Value.bool false, Value.int IntKind.i64 5]) else 
                   (bif !S.good b then some (Value.tuple #[Value.bool false, Value.int IntKind.i64 5]) else none))) else 
                 (bif b.k == 7 then 
                  (bif leafIn.idOk b.id then 
                   (bif !S.good a then some (Value.tuple #[Value.bool false, Value.int IntKind.i64 5]) else 
                    (bif !S.good b then some (Value.tuple #[Value.bool false, Value.int IntKind.i64 5]) else none)) else 
                   (bif !S.good a then some (Value.tuple #[Value.bool false, Value.int IntKind.i64 5]) else 
                    (bif !S.good b then some (Value.tuple #[Value.bool false, Value.int IntKind.i64 5]) else none))) else 
                  (bif !S.good a then some (Value.tuple #[Value.bool false, Value.int IntKind.i64 5]) else 
                   (bif !S.good b then some (Value.tuple #[Value.bool false, Value.int IntKind.i64 5]) else none))))))))))))))))) (by kernel_rfl) (by
    simp only [T.same, DT.val_node, DT.val_leaf, DT.bind, DT.val_bad]
    repeat' (first | (with_reducible refine bif_neq (fun h => ?_) (fun h => ?_)) | (with_reducible refine bif_and (fun h => ?_) (fun h => ?_)) | (with_reducible refine bif_eq (fun h => ?_) (fun h => ?_)))
    all_goals first | (simp only [*, cond_true, cond_false, Bool.and_true, Bool.true_and, Bool.and_false, Bool.false_and, Bool.not_true, Bool.not_false]; done) | (exfalso; simp_all [S.good]; done) | (simp_all [S.same, S.good, S.emp, beq_toListBytes, FloatEq.f00]; done) | (simp_all [S.same, S.good, S.emp, beq_toListBytes, FloatEq.f00]))
theorem ent_same : E (99, onVV T.same) := byEv Hents4 60 fun args t h => by
  obtain ⟨a, b, rfl, rfl⟩ := onVV_eq h
  exact ev_same a b
abbrev HL5 : Tab := (99, onVV T.same) :: HL4
theorem Hents5 : ∀ p ∈ HL5, E p := entries_cons ent_same Hents4
set_option maxHeartbeats 4000000 in
theorem ev_callable (v : V) : evFn Tryd.prog ext (tab HL5) 40 93 [v.agg] = (T.callable v).val :=
  Eq.trans (b := 
    (bif S.absent v then some (Value.bool true) else 
     (bif S.good v then 
      (bif v.k == 1 then some (Value.bool true) else some (Value.bool (v.k == 7))) else some (Value.bool false)))) (by kernel_rfl) (by
    simp only [T.callable, T.B, DT.val_node, DT.val_leaf, DT.bind, DT.val_bad]
    repeat' (first | (with_reducible refine bif_neq (fun h => ?_) (fun h => ?_)) | (with_reducible refine bif_and (fun h => ?_) (fun h => ?_)) | (with_reducible refine bif_eq (fun h => ?_) (fun h => ?_)))
    all_goals first | (simp only [*, S.callable, cond_true, cond_false, Bool.and_true, Bool.true_and, Bool.and_false, Bool.false_and, Bool.or_true, Bool.true_or, Bool.or_false, Bool.false_or, Bool.not_true, Bool.not_false, beq_self_eq_true, bne_self_eq_false, Bool.not_not]; done) | (exfalso; simp_all; done) | (simp_all [S.callable]; done) | grind [S.callable])
theorem ent_callable : E (93, onV T.callable) := byEv Hents5 40 fun args t h => by
  obtain ⟨v, rfl, rfl⟩ := onV_eq h
  exact ev_callable v
abbrev HL6 : Tab := (93, onV T.callable) :: HL5
theorem Hents6 : ∀ p ∈ HL6, E p := entries_cons ent_callable Hents5
set_option maxHeartbeats 4000000 in
theorem ev_tri (t : Int) : evFn Tryd.prog ext (tab HL6) 40 94 [.int .i64 t] = (T.tri t).val :=
  Eq.trans (b := 
    (bif decide (t ≥ 0) then some (Value.bool (decide (t ≤ 2))) else some (Value.bool false))) (by kernel_rfl) (by
    simp only [T.tri, T.B, DT.val_node, DT.val_leaf, DT.bind, DT.val_bad]
    repeat' (first | (with_reducible refine bif_neq (fun h => ?_) (fun h => ?_)) | (with_reducible refine bif_and (fun h => ?_) (fun h => ?_)) | (with_reducible refine bif_eq (fun h => ?_) (fun h => ?_)))
    all_goals first | (simp only [*, S.tri, cond_true, cond_false, Bool.and_true, Bool.true_and, Bool.and_false, Bool.false_and, Bool.or_true, Bool.true_or, Bool.or_false, Bool.false_or, Bool.not_true, Bool.not_false, beq_self_eq_true, bne_self_eq_false, Bool.not_not]; done) | (exfalso; simp_all; done) | (simp_all [S.tri]; done) | grind [S.tri])
theorem ent_tri : E (94, onI T.tri) := byEv Hents6 40 fun args t h => by
  obtain ⟨t, rfl, rfl⟩ := onI_eq h
  exact ev_tri t
abbrev HL7 : Tab := (94, onI T.tri) :: HL6
theorem Hents7 : ∀ p ∈ HL7, E p := entries_cons ent_tri Hents6
set_option maxHeartbeats 4000000 in
theorem ev_kind (d : D) : evFn Tryd.prog ext (tab HL7) 40 52 [d.agg] = (T.kind d).val :=
  Eq.trans (b := 
    (bif !S.absent d.v then 
     (bif S.good d.v then 
      (bif !S.callable d.g then some (Value.tuple #[Value.int IntKind.i64 0, Value.bool false]) else 
       (bif !S.callable d.t then some (Value.tuple #[Value.int IntKind.i64 0, Value.bool false]) else 
        (bif !S.tri d.w then some (Value.tuple #[Value.int IntKind.i64 0, Value.bool false]) else 
         (bif !S.tri d.e then some (Value.tuple #[Value.int IntKind.i64 0, Value.bool false]) else 
          (bif !S.tri d.c then some (Value.tuple #[Value.int IntKind.i64 0, Value.bool false]) else 
           (bif d.g.k != 0 then 
            (bif d.v.k != 0 then some (Value.tuple #[Value.int IntKind.i64 1, Value.bool !true]) else 
             (bif d.w != 0 then some (Value.tuple #[Value.int IntKind.i64 1, Value.bool !true]) else some (Value.tuple #[Value.int IntKind.i64 2, Value.bool true]))) else 
            (bif d.v.k != 0 then some (Value.tuple #[Value.int IntKind.i64 1, Value.bool !d.t.k != 0]) else 
             (bif d.w != 0 then some (Value.tuple #[Value.int IntKind.i64 1, Value.bool !d.t.k != 0]) else 
              (bif d.t.k != 0 then some (Value.tuple #[Value.int IntKind.i64 2, Value.bool true]) else some (Value.tuple #[Value.int IntKind.i64 0, Value.bool true])))))))))) else some (Value.tuple #[Value.int IntKind.i64 0, Value.bool false])) else 
     (bif !S.callable d.g then some (Value.tuple #[Value.int IntKind.i64 0, Value.bool false]) else 
      (bif !S.callable d.t then some (Value.tuple #[Value.int IntKind.i64 0, Value.bool false]) else 
       (bif !S.tri d.w then some (Value.tuple #[Value.int IntKind.i64 0, Value.bool false]) else 
        (bif !S.tri d.e then some (Value.tuple #[Value.int IntKind.i64 0, Value.bool false]) else 
         (bif !S.tri d.c then some (Value.tuple #[Value.int IntKind.i64 0, Value.bool false]) else 
          (bif d.g.k != 0 then 
           (bif d.v.k != 0 then some (Value.tuple #[Value.int IntKind.i64 1, Value.bool !true]) else 
            (bif d.w != 0 then some (Value.tuple #[Value.int IntKind.i64 1, Value.bool !true]) else some (Value.tuple #[Value.int IntKind.i64 2, Value.bool true]))) else 
           (bif d.v.k != 0 then some (Value.tuple #[Value.int IntKind.i64 1, Value.bool !d.t.k != 0]) else 
            (bif d.w != 0 then some (Value.tuple #[Value.int IntKind.i64 1, Value.bool !d.t.k != 0]) else 
             (bif d.t.k != 0 then some (Value.tuple #[Value.int IntKind.i64 2, Value.bool true]) else some (Value.tuple #[Value.int IntKind.i64 0, Value.bool true])))))))))))) (by kernel_rfl) (by
    simp only [T.kind, DT.val_node, DT.val_leaf, DT.bind, DT.val_bad]
    repeat' (first | (with_reducible refine bif_neq (fun h => ?_) (fun h => ?_)) | (with_reducible refine bif_and (fun h => ?_) (fun h => ?_)) | (with_reducible refine bif_eq (fun h => ?_) (fun h => ?_)))
    all_goals first | (simp only [*, S.check, S.fields, S.hasD, S.hasA, S.there, cond_true, cond_false, Bool.and_true, Bool.true_and, Bool.and_false, Bool.false_and, Bool.or_true, Bool.true_or, Bool.or_false, Bool.false_or, Bool.not_true, Bool.not_false, beq_self_eq_true, bne_self_eq_false, Bool.not_not]; done) | (exfalso; simp_all; done) | (simp_all [S.check, S.fields, S.hasD, S.hasA, S.there]; done) | grind [S.check, S.fields, S.hasD, S.hasA, S.there])
theorem ent_kind : E (52, onD T.kind) := byEv Hents7 40 fun args t h => by
  obtain ⟨d, rfl, rfl⟩ := onD_eq h
  exact ev_kind d
abbrev HL8 : Tab := (52, onD T.kind) :: HL7
theorem Hents8 : ∀ p ∈ HL8, E p := entries_cons ent_kind Hents7
set_option maxHeartbeats 4000000 in
theorem ev_check (d : D) : evFn Tryd.prog ext (tab HL8) 40 16 [d.agg] = (T.check d).val :=
  Eq.trans (b := 
    (bif S.check d then 
     (bif S.hasD d then some (Value.int IntKind.i64 0) else 
      (bif S.hasA d then some (Value.int IntKind.i64 0) else some (Value.int IntKind.i64 0))) else 
     (bif S.fields d then some (Value.int IntKind.i64 5) else some (Value.int IntKind.i64 5)))) (by kernel_rfl) (by
    simp only [T.check, T.err, DT.val_node, DT.val_leaf, DT.bind, DT.val_bad]
    repeat' (first | (with_reducible refine bif_neq (fun h => ?_) (fun h => ?_)) | (with_reducible refine bif_and (fun h => ?_) (fun h => ?_)) | (with_reducible refine bif_eq (fun h => ?_) (fun h => ?_)))
    all_goals first | (simp only [*, cond_true, cond_false, Bool.and_true, Bool.true_and, Bool.and_false, Bool.false_and, Bool.or_true, Bool.true_or, Bool.or_false, Bool.false_or, Bool.not_true, Bool.not_false, beq_self_eq_true, bne_self_eq_false, Bool.not_not]; done) | (exfalso; simp_all; done) | (simp_all []; done) | grind [])
theorem ent_check : E (16, onD T.check) := byEv Hents8 40 fun args t h => by
  obtain ⟨d, rfl, rfl⟩ := onD_eq h
  exact ev_check d
abbrev HL9 : Tab := (16, onD T.check) :: HL8
theorem Hents9 : ∀ p ∈ HL9, E p := entries_cons ent_check Hents8
set_option maxHeartbeats 4000000 in
theorem ev_isA (d : D) : evFn Tryd.prog ext (tab HL9) 40 19 [d.agg] = (T.isA d).val :=
  Eq.trans (b := 
    (bif S.check d then 
     (bif S.hasD d then some (Value.bool (1 == 2)) else 
      (bif S.hasA d then some (Value.bool (2 == 2)) else some (Value.bool (0 == 2)))) else 
     (bif S.fields d then some (Value.bool false) else some (Value.bool false)))) (by kernel_rfl) (by
    simp only [T.isA, T.B, DT.val_node, DT.val_leaf, DT.bind, DT.val_bad]
    repeat' (first | (with_reducible refine bif_neq (fun h => ?_) (fun h => ?_)) | (with_reducible refine bif_and (fun h => ?_) (fun h => ?_)) | (with_reducible refine bif_eq (fun h => ?_) (fun h => ?_)))
    all_goals first | (simp only [*, S.isA, cond_true, cond_false, Bool.and_true, Bool.true_and, Bool.and_false, Bool.false_and, Bool.or_true, Bool.true_or, Bool.or_false, Bool.false_or, Bool.not_true, Bool.not_false, beq_self_eq_true, bne_self_eq_false, Bool.not_not]; done) | (exfalso; simp_all; done) | (simp_all [S.isA]; done) | grind [S.isA])
theorem ent_isA : E (19, onD T.isA) := byEv Hents9 40 fun args t h => by
  obtain ⟨d, rfl, rfl⟩ := onD_eq h
  exact ev_isA d
abbrev HL10 : Tab := (19, onD T.isA) :: HL9
theorem Hents10 : ∀ p ∈ HL10, E p := entries_cons ent_isA Hents9
set_option maxHeartbeats 4000000 in
theorem ev_isD (d : D) : evFn Tryd.prog ext (tab HL10) 40 21 [d.agg] = (T.isD d).val :=
  Eq.trans (b := 
    (bif S.check d then 
     (bif S.hasD d then some (Value.bool (1 == 1)) else 
      (bif S.hasA d then some (Value.bool (2 == 1)) else some (Value.bool (0 == 1)))) else 
     (bif S.fields d then some (Value.bool false) else some (Value.bool false)))) (by kernel_rfl) (by
    simp only [T.isD, T.B, DT.val_node, DT.val_leaf, DT.bind, DT.val_bad]
    repeat' (first | (with_reducible refine bif_neq (fun h => ?_) (fun h => ?_)) | (with_reducible refine bif_and (fun h => ?_) (fun h => ?_)) | (with_reducible refine bif_eq (fun h => ?_) (fun h => ?_)))
    all_goals first | (simp only [*, S.isD, cond_true, cond_false, Bool.and_true, Bool.true_and, Bool.and_false, Bool.false_and, Bool.or_true, Bool.true_or, Bool.or_false, Bool.false_or, Bool.not_true, Bool.not_false, beq_self_eq_true, bne_self_eq_false, Bool.not_not]; done) | (exfalso; simp_all; done) | (simp_all [S.isD]; done) | grind [S.isD])
theorem ent_isD : E (21, onD T.isD) := byEv Hents10 40 fun args t h => by
  obtain ⟨d, rfl, rfl⟩ := onD_eq h
  exact ev_isD d
abbrev HL11 : Tab := (21, onD T.isD) :: HL10
theorem Hents11 : ∀ p ∈ HL11, E p := entries_cons ent_isD Hents10
set_option maxHeartbeats 4000000 in
theorem ev_isG (d : D) : evFn Tryd.prog ext (tab HL11) 40 23 [d.agg] = (T.isG d).val :=
  Eq.trans (b := 
    (bif S.check d then 
     (bif S.hasD d then some (Value.bool (1 == 0)) else 
      (bif S.hasA d then some (Value.bool (2 == 0)) else some (Value.bool (0 == 0)))) else 
     (bif S.fields d then some (Value.bool false) else some (Value.bool false)))) (by kernel_rfl) (by
    simp only [T.isG, T.B, DT.val_node, DT.val_leaf, DT.bind, DT.val_bad]
    repeat' (first | (with_reducible refine bif_neq (fun h => ?_) (fun h => ?_)) | (with_reducible refine bif_and (fun h => ?_) (fun h => ?_)) | (with_reducible refine bif_eq (fun h => ?_) (fun h => ?_)))
    all_goals first | (simp only [*, S.isG, cond_true, cond_false, Bool.and_true, Bool.true_and, Bool.and_false, Bool.false_and, Bool.or_true, Bool.true_or, Bool.or_false, Bool.false_or, Bool.not_true, Bool.not_false, beq_self_eq_true, bne_self_eq_false, Bool.not_not]; done) | (exfalso; simp_all; done) | (simp_all [S.isG]; done) | grind [S.isG])
theorem ent_isG : E (23, onD T.isG) := byEv Hents11 40 fun args t h => by
  obtain ⟨d, rfl, rfl⟩ := onD_eq h
  exact ev_isG d
abbrev HL12 : Tab := (23, onD T.isG) :: HL11
theorem Hents12 : ∀ p ∈ HL12, E p := entries_cons ent_isG Hents11
end Go.Proofs.YtaojjpdlfnphiaaDoor.PDescKinds
