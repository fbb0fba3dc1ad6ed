/- Contracts by evaluation: what each function of a list answers. Written by a program of this session. -/
import Derived.Test.YtaojjpdlfnphiaaDoorU4
import Derived.Test.YtaojjpdlfnphiaaDoorH3
namespace Go.Proofs.YtaojjpdlfnphiaaDoor.PDescKinds
open Go.RowKit Go.Ev
set_option linter.unusedSimpArgs false
set_option linter.unusedVariables false
set_option maxRecDepth 100000
abbrev IL0 : Tab := [(98, onS T.valid)]
theorem Ients0 : ∀ p ∈ IL0, E p := entries_cons (ent_valid) (entries_nil)
set_option maxHeartbeats 4000000 in
theorem ev_rminus (a : Nat) : evFn Tryd.prog ext (tab IL0) 40 97 [.float .f64 a] = (T.rminus a).val :=
  Eq.trans (b := 
    (bif FloatKind.f64.format.order a 0 == some Ordering.eq then 
     (bif (Ieee.double.div 4607182418800017408 a).isSome then some (Value.bool (FloatKind.f64.format.order ((Ieee.double.div 4607182418800017408 a).getD 0) 0 == some Ordering.lt)) else none) else some (Value.bool false))) (by kernel_rfl) (by
    simp only [T.rminus, DT.val_node, DT.val_leaf]
    refine bif_eq (fun h => ?_) (fun h => ?_)
    · have hf : Op.floatEq FloatKind.f64 a 0 = true := h
      rw [show (Ieee.double.div 4607182418800017408 a).isSome = true from FloatEq.div_isSome hf, hf]
      rfl
    · have hf : Op.floatEq FloatKind.f64 a 0 = false := h
      rw [hf]
      rfl)
theorem ent_rminus : E (97, onF T.rminus) := byEv Ients0 40 fun args t h => by
  obtain ⟨a, rfl, rfl⟩ := onF_eq h
  exact ev_rminus a
abbrev IL1 : Tab := (97, onF T.rminus) :: IL0
theorem Ients1 : ∀ p ∈ IL1, E p := entries_cons ent_rminus Ients0
set_option maxHeartbeats 4000000 in
theorem ev_there (v : V) : evFn Tryd.prog ext (tab IL1) 40 59 [v.agg] = (T.there v).val :=
  Eq.trans (b := some (Value.bool (v.k != 0))) (by kernel_rfl) (by
    simp only [T.there, T.B, DT.val_leaf, S.there])
theorem ent_there : E (59, onV T.there) := byEv Ients1 40 fun args t h => by
  obtain ⟨v, rfl, rfl⟩ := onV_eq h
  exact ev_there v
abbrev IL2 : Tab := (59, onV T.there) :: IL1
theorem Ients2 : ∀ p ∈ IL2, E p := entries_cons ent_there Ients1
set_option maxHeartbeats 4000000 in
theorem ev_rtri (t : Int) : evFn Tryd.prog ext (tab IL2) 40 58 [.int .i64 t] = (T.tri t).val :=
  Eq.trans (b := 
    (bif t == 0 then some (Value.bool true) else 
     (bif t == 1 then some (Value.bool true) else some (Value.bool (t == 2))))) (by kernel_rfl) (by
    simp only [T.tri, T.B, DT.val_leaf]
    repeat' (with_reducible refine bif_eq (fun h => ?_) (fun h => ?_))
    all_goals simp only [Option.some.injEq, Value.bool.injEq, S.tri, beq_iff_eq, beq_eq_false_iff_ne, ne_eq] at *
    all_goals (rw [Bool.eq_iff_iff]; simp; omega))
theorem ent_rtri : E (58, onI T.tri) := byEv Ients2 40 fun args t h => by
  obtain ⟨t, rfl, rfl⟩ := onI_eq h
  exact ev_rtri t
abbrev IL3 : Tab := (58, onI T.tri) :: IL2
theorem Ients3 : ∀ p ∈ IL3, E p := entries_cons ent_rtri Ients2
set_option maxHeartbeats 4000000 in
theorem ev_none (v : V) : evFn Tryd.prog ext (tab IL3) 40 55 [v.agg] = (T.absent v).val :=
  Eq.trans (b := 
    (bif v.k == 0 then 
     (bif !v.b then 
      (bif FloatKind.f64.format.order v.n 0 == some Ordering.eq then 
       (bif (Ieee.double.div 4607182418800017408 v.n).isSome then 
        (bif FloatKind.f64.format.order ((Ieee.double.div 4607182418800017408 v.n).getD 0) 0 == some Ordering.gt then 
         (bif v.s.toList == (ByteArray.mk #[]).toList then some (Value.bool (v.id == 0)) else some (Value.bool false)) else some (Value.bool false)) else none) else some (Value.bool false)) else some (Value.bool false)) else some (Value.bool false))) (by kernel_rfl) (by
    simp only [T.absent, T.B, DT.val_node, DT.val_leaf, DT.val_bad, DT.bind]
    repeat' (first | (with_reducible refine bif_neq (fun h => ?_) (fun h => ?_)) | (with_reducible refine bif_and (fun h => ?_) (fun h => ?_)) | (with_reducible refine bif_eq (fun h => ?_) (fun h => ?_)))
    all_goals first | (simp only [*, S.absent, S.isV0, S.pos, cond_true, cond_false, Bool.and_true, Bool.true_and, Bool.and_false, Bool.false_and, Bool.or_true, Bool.true_or, Bool.or_false, Bool.false_or, Bool.not_true, Bool.not_false, beq_self_eq_true, bne_self_eq_false, Bool.not_not]; done) | (exfalso; simp_all [S.absent, S.isV0, S.pos, Op.floatEq, beq_toListBytes, FloatKind.format, FloatEq.div_some', FloatEq.div_none']; done) | (simp_all [S.absent, S.isV0, S.pos, Op.floatEq, beq_toListBytes, FloatKind.format, FloatEq.div_some', FloatEq.div_none']; done) | grind [S.absent, S.isV0, S.pos])
theorem ent_none : E (55, onV T.absent) := byEv Ients3 40 fun args t h => by
  obtain ⟨v, rfl, rfl⟩ := onV_eq h
  exact ev_none v
abbrev IL4 : Tab := (55, onV T.absent) :: IL3
theorem Ients4 : ∀ p ∈ IL4, E p := entries_cons ent_none Ients3
set_option maxHeartbeats 4000000 in
theorem ev_rgood (v : V) : evFn Tryd.prog ext (tab IL4) 60 56 [v.agg] = (T.rgood v).val :=
  Eq.trans (b := 
    (bif decide (v.k < 1) then some (Value.bool false) else 
     (bif decide (v.k > 7) then some (Value.bool false) else 
      (bif v.k != 3 then 
       (bif v.b then some (Value.bool false) else 
        (bif v.k != 4 then 
         (bif FloatKind.f64.format.order v.n 0 != some Ordering.eq then some (Value.bool false) else 
          (bif Op.floatEq FloatKind.f64 v.n 0 then 
           (bif FloatKind.f64.format.order ((Ieee.double.div 4607182418800017408 v.n).getD 0) 0 == some Ordering.lt then some (Value.bool false) else 
            (bif v.k != 5 then 
             (bif !v.s.toList == (ByteArray.mk #[]).toList then some (Value.bool false) else 
              (bif v.k != 6 then 
               (bif v.k != 7 then 
                (bif v.id != 0 then some (Value.bool false) else 
                 (bif v.k == 5 then 
                  (bif decide ((↑v.s.size : Int) ≤ 1048576) then 
                   (bif decide ((↑v.s.size : Int) ≤ 1048576) then some (Value.bool (units_Valid.val (v.s.size + 1) v.s 0 0)) else none) else some (Value.bool false)) else 
                  (bif v.k == 6 then 
                   (bif decide (v.id ≥ 1) then some (Value.bool (decide (v.id ≤ 65536))) else some (Value.bool false)) else 
                   (bif v.k == 7 then 
                    (bif decide (v.id ≥ 1) then some (Value.bool (decide (v.id ≤ 65536))) else some (Value.bool false)) else some (Value.bool true))))) else 
                (bif v.k == 5 then 
                 (bif decide ((↑v.s.size : Int) ≤ 1048576) then 
                  (bif decide ((↑v.s.size : Int) ≤ 1048576) then some (Value.bool (units_Valid.val (v.s.size + 1) v.s 0 0)) else none) else some (Value.bool false)) else 
                 (bif v.k == 6 then 
                  (bif decide (v.id ≥ 1) then some (Value.bool (decide (v.id ≤ 65536))) else some (Value.bool false)) else 
                  (bif v.k == 7 then 
                   (bif decide (v.id ≥ 1) then some (Value.bool (decide (v.id ≤ 65536))) else some (Value.bool false)) else some (Value.bool true))))) else 
               (bif v.k == 5 then 
                (bif decide ((↑v.s.size : Int) ≤ 1048576) then 
                 (bif decide ((↑v.s.size : Int) ≤ 1048576) then some (Value.bool (units_Valid.val (v.s.size + 1) v.s 0 0)) else none) else some (Value.bool false)) else 
                (bif v.k == 6 then 
                 (bif decide (v.id ≥ 1) then some (Value.bool (decide (v.id ≤ 65536))) else some (Value.bool false)) else 
                 (bif v.k == 7 then 
                  (bif decide (v.id ≥ 1) then some (Value.bool (decide (v.id ≤ 65536))) else some (Value.bool false)) else some (Value.bool true)))))) else 
             (bif v.k != 6 then 
              (bif v.k != 7 then 
               (bif v.id != 0 then some (Value.bool false) else 
                (bif v.k == 5 then 
                 (bif decide ((↑v.s.size : Int) ≤ 1048576) then 
                  (bif decide ((↑v.s.size : Int) ≤ 1048576) then some (Value.bool (units_Valid.val (v.s.size + 1) v.s 0 0)) else none) else some (Value.bool false)) else 
                 (bif v.k == 6 then 
                  (bif decide (v.id ≥ 1) then some (Value.bool (decide (v.id ≤ 65536))) else some (Value.bool false)) else 
                  (bif v.k == 7 then 
                   (bif decide (v.id ≥ 1) then some (Value.bool (decide (v.id ≤ 65536))) else some (Value.bool false)) else some (Value.bool true))))) else 
               (bif v.k == 5 then 
                (bif decide ((↑v.s.size : Int) ≤ 1048576) then 
                 (bif decide ((↑v.s.size : Int) ≤ 1048576) then some (Value.bool (units_Valid.val (v.s.size + 1) v.s 0 0)) else none) else some (Value.bool false)) else 
                (bif v.k == 6 then 
                 (bif decide (v.id ≥ 1) then some (Value.bool (decide (v.id ≤ 65536))) else some (Value.bool false)) else 
                 (bif v.k == 7 then 
                  (bif decide (v.id ≥ 1) then some (Value.bool (decide (v.id ≤ 65536))) else some (Value.bool false)) else some (Value.bool true))))) else 
              (bif v.k == 5 then 
               (bif decide ((↑v.s.size : Int) ≤ 1048576) then 
                (bif decide ((↑v.s.size : Int) ≤ 1048576) then some (Value.bool (units_Valid.val (v.s.size + 1) v.s 0 0)) else none) else some (Value.bool false)) else 
               (bif v.k == 6 then 
                (bif decide (v.id ≥ 1) then some (Value.bool (decide (v.id ≤ 65536))) else some (Value.bool false)) else 
                (bif v.k == 7 then 
                 (bif decide (v.id ≥ 1) then some (Value.bool (decide (v.id ≤ 65536))) else some (Value.bool false)) else some (Value.bool true))))))) else 
           (bif v.k != 5 then 
            (bif !v.s.toList == (ByteArray.mk #[]).toList then some (Value.bool false) else 
             (bif v.k != 6 then 
              (bif v.k != 7 then 
               (bif v.id != 0 then some (Value.bool false) else 
                (bif v.k == 5 then 
                 (bif decide ((↑v.s.size : Int) ≤ 1048576) then 
                  (bif decide ((↑v.s.size : Int) ≤ 1048576) then some (Value.bool (units_Valid.val (v.s.size + 1) v.s 0 0)) else none) else some (Value.bool false)) else 
                 (bif v.k == 6 then 
                  (bif decide (v.id ≥ 1) then some (Value.bool (decide (v.id ≤ 65536))) else some (Value.bool false)) else 
                  (bif v.k == 7 then 
                   (bif decide (v.id ≥ 1) then some (Value.bool (decide (v.id ≤ 65536))) else some (Value.bool false)) else some (Value.bool true))))) else 
               (bif v.k == 5 then 
                (bif decide ((↑v.s.size : Int) ≤ 1048576) then 
                 (bif decide ((↑v.s.size : Int) ≤ 1048576) then some (Value.bool (units_Valid.val (v.s.size + 1) v.s 0 0)) else none) else some (Value.bool false)) else 
                (bif v.k == 6 then 
                 (bif decide (v.id ≥ 1) then some (Value.bool (decide (v.id ≤ 65536))) else some (Value.bool false)) else 
                 (bif v.k == 7 then 
                  (bif decide (v.id ≥ 1) then some (Value.bool (decide (v.id ≤ 65536))) else some (Value.bool false)) else some (Value.bool true))))) else 
              (bif v.k == 5 then 
               (bif decide ((↑v.s.size : Int) ≤ 1048576) then 
                (bif decide ((↑v.s.size : Int) ≤ 1048576) then some (Value.bool (units_Valid.val (v.s.size + 1) v.s 0 0)) else none) else some (Value.bool false)) else 
               (bif v.k == 6 then 
                (bif decide (v.id ≥ 1) then some (Value.bool (decide (v.id ≤ 65536))) else some (Value.bool false)) else 
                (bif v.k == 7 then 
                 (bif decide (v.id ≥ 1) then some (Value.bool (decide (v.id ≤ 65536))) else some (Value.bool false)) else some (Value.bool true)))))) else 
            (bif v.k != 6 then 
             (bif v.k != 7 then 
              (bif v.id != 0 then some (Value.bool false) else 
               (bif v.k == 5 then 
                (bif decide ((↑v.s.size : Int) ≤ 1048576) then 
                 (bif decide ((↑v.s.size : Int) ≤ 1048576) then some (Value.bool (units_Valid.val (v.s.size + 1) v.s 0 0)) else none) else some (Value.bool false)) else 
                (bif v.k == 6 then 
                 (bif decide (v.id ≥ 1) then some (Value.bool (decide (v.id ≤ 65536))) else some (Value.bool false)) else 
                 (bif v.k == 7 then 
                  (bif decide (v.id ≥ 1) then some (Value.bool (decide (v.id ≤ 65536))) else some (Value.bool false)) else some (Value.bool true))))) else 
              (bif v.k == 5 then 
               (bif decide ((↑v.s.size : Int) ≤ 1048576) then 
                (bif decide ((↑v.s.size : Int) ≤ 1048576) then some (Value.bool (units_Valid.val (v.s.size + 1) v.s 0 0)) else none) else some (Value.bool false)) else 
               (bif v.k == 6 then 
                (bif decide (v.id ≥ 1) then some (Value.bool (decide (v.id ≤ 65536))) else some (Value.bool false)) else 
                (bif v.k == 7 then 
                 (bif decide (v.id ≥ 1) then some (Value.bool (decide (v.id ≤ 65536))) else some (Value.bool false)) else some (Value.bool true))))) else 
             (bif v.k == 5 then 
              (bif decide ((↑v.s.size : Int) ≤ 1048576) then 
               (bif decide ((↑v.s.size : Int) ≤ 1048576) then some (Value.bool (units_Valid.val (v.s.size + 1) v.s 0 0)) else none) else some (Value.bool false)) else 
              (bif v.k == 6 then 
               (bif decide (v.id ≥ 1) then some (Value.bool (decide (v.id ≤ 65536))) else some (Value.bool false)) else 
               (bif v.k == 7 then 
                (bif decide (v.id ≥ 1) then some (Value.bool (decide (v.id ≤ 65536))) else some (Value.bool false)) else some (Value.bool true)))))))) else 
         (bif v.k != 5 then 
          (bif !v.s.toList == (ByteArray.mk #[]).toList then some (Value.bool false) else 
           (bif v.k != 6 then 
            (bif v.k != 7 then 
             (bif v.id != 0 then some (Value.bool false) else 
              (bif v.k == 5 then 
               (bif decide ((↑v.s.size : Int) ≤ 1048576) then 
                (bif decide ((↑v.s.size : Int) ≤ 1048576) then some (Value.bool (units_Valid.val (v.s.size + 1) v.s 0 0)) else none) else some (Value.bool false)) else 
               (bif v.k == 6 then 
                (bif decide (v.id ≥ 1) then some (Value.bool (decide (v.id ≤ 65536))) else some (Value.bool false)) else 
                (bif v.k == 7 then 
                 (bif decide (v.id ≥ 1) then some (Value.bool (decide (v.id ≤ 65536))) else some (Value.bool false)) else some (Value.bool true))))) else 
             (bif v.k == 5 then 
              (bif decide ((↑v.s.size : Int) ≤ 1048576) then 
               (bif decide ((↑v.s.size : Int) ≤ 1048576) then some (Value.bool (units_Valid.val (v.s.size + 1) v.s 0 0)) else none) else some (Value.bool false)) else 
              (bif v.k == 6 then 
               (bif decide (v.id ≥ 1) then some (Value.bool (decide (v.id ≤ 65536))) else some (Value.bool false)) else 
               (bif v.k == 7 then 
                (bif decide (v.id ≥ 1) then some (Value.bool (decide (v.id ≤ 65536))) else some (Value.bool false)) else some (Value.bool true))))) else 
            (bif v.k == 5 then 
             (bif decide ((↑v.s.size : Int) ≤ 1048576) then 
              (bif decide ((↑v.s.size : Int) ≤ 1048576) then some (Value.bool (units_Valid.val (v.s.size + 1) v.s 0 0)) else none) else some (Value.bool false)) else 
             (bif v.k == 6 then 
              (bif decide (v.id ≥ 1) then some (Value.bool (decide (v.id ≤ 65536))) else some (Value.bool false)) else 
              (bif v.k == 7 then 
               (bif decide (v.id ≥ 1) then some (Value.bool (decide (v.id ≤ 65536))) else some (Value.bool false)) else some (Value.bool true)))))) else 
          (bif v.k != 6 then 
           (bif v.k != 7 then 
            (bif v.id != 0 then some (Value.bool false) else 
             (bif v.k == 5 then 
              (bif decide ((↑v.s.size : Int) ≤ 1048576) then 
               (bif decide ((↑v.s.size : Int) ≤ 1048576) then some (Value.bool (units_Valid.val (v.s.size + 1) v.s 0 0)) else none) else some (Value.bool false)) else 
              (bif v.k == 6 then 
               (bif decide (v.id ≥ 1) then some (Value.bool (decide (v.id ≤ 65536))) else some (Value.bool false)) else 
               (bif v.k == 7 then 
                (bif decide (v.id ≥ 1) then some (Value.bool (decide (v.id ≤ 65536))) else some (Value.bool false)) else some (Value.bool true))))) else 
            (bif v.k == 5 then 
             (bif decide ((↑v.s.size : Int) ≤ 1048576) then 
              (bif decide ((↑v.s.size : Int) ≤ 1048576) then some (Value.bool (units_Valid.val (v.s.size + 1) v.s 0 0)) else none) else some (Value.bool false)) else 
             (bif v.k == 6 then 
              (bif decide (v.id ≥ 1) then some (Value.bool (decide (v.id ≤ 65536))) else some (Value.bool false)) else 
              (bif v.k == 7 then 
               (bif decide (v.id ≥ 1) then some (Value.bool (decide (v.id ≤ 65536))) else some (Value.bool false)) else some (Value.bool true))))) else 
           (bif v.k == 5 then 
            (bif decide ((↑v.s.size : Int) ≤ 1048576) then 
             (bif decide ((↑v.s.size : Int) ≤ 1048576) then some (Value.bool (units_Valid.val (v.s.size + 1) v.s 0 0)) else none) else some (Value.bool false)) else 
            (bif v.k == 6 then 
             (bif decide (v.id ≥ 1) then some (Value.bool (decide (v.id ≤ 65536))) else some (Value.bool false)) else 
             (bif v.k == 7 then 
              (bif decide (v.id ≥ 1) then some (Value.bool (decide (v.id ≤ 65536))) else some (Value.bool false)) else some (Value.bool true)))))))) else 
       (bif v.k != 4 then 
        (bif FloatKind.f64.format.order v.n 0 != some Ordering.eq then some (Value.bool false) else 
         (bif Op.floatEq FloatKind.f64 v.n 0 then 
          (bif FloatKind.f64.format.order ((Ieee.double.div 4607182418800017408 v.n).getD 0) 0 == some Ordering.lt then some (Value.bool false) else 
           (bif v.k != 5 then 
            (bif !v.s.toList == (ByteArray.mk #[]).toList then some (Value.bool false) else 
             (bif v.k != 6 then 
              (bif v.k != 7 then 
               (bif v.id != 0 then some (Value.bool false) else 
                (bif v.k == 5 then 
                 (bif decide ((↑v.s.size : Int) ≤ 1048576) then 
                  (bif decide ((↑v.s.size : Int) ≤ 1048576) then some (Value.bool (units_Valid.val (v.s.size + 1) v.s 0 0)) else none) else some (Value.bool false)) else 
                 (bif v.k == 6 then 
                  (bif decide (v.id ≥ 1) then some (Value.bool (decide (v.id ≤ 65536))) else some (Value.bool false)) else 
                  (bif v.k == 7 then 
                   (bif decide (v.id ≥ 1) then some (Value.bool (decide (v.id ≤ 65536))) else some (Value.bool false)) else some (Value.bool true))))) else 
               (bif v.k == 5 then 
                (bif decide ((↑v.s.size : Int) ≤ 1048576) then 
                 (bif decide ((↑v.s.size : Int) ≤ 1048576) then some (Value.bool (units_Valid.val (v.s.size + 1) v.s 0 0)) else none) else some (Value.bool false)) else 
                (bif v.k == 6 then 
                 (bif decide (v.id ≥ 1) then some (Value.bool (decide (v.id ≤ 65536))) else some (Value.bool false)) else 
                 (bif v.k == 7 then 
                  (bif decide (v.id ≥ 1) then some (Value.bool (decide (v.id ≤ 65536))) else some (Value.bool false)) else some (Value.bool true))))) else 
              (bif v.k == 5 then 
               (bif decide ((↑v.s.size : Int) ≤ 1048576) then 
                (bif decide ((↑v.s.size : Int) ≤ 1048576) then some (Value.bool (units_Valid.val (v.s.size + 1) v.s 0 0)) else none) else some (Value.bool false)) else 
               (bif v.k == 6 then 
                (bif decide (v.id ≥ 1) then some (Value.bool (decide (v.id ≤ 65536))) else some (Value.bool false)) else 
                (bif v.k == 7 then 
                 (bif decide (v.id ≥ 1) then some (Value.bool (decide (v.id ≤ 65536))) else some (Value.bool false)) else some (Value.bool true)))))) else 
            (bif v.k != 6 then 
             (bif v.k != 7 then 
              (bif v.id != 0 then some (Value.bool false) else 
               (bif v.k == 5 then 
                (bif decide ((↑v.s.size : Int) ≤ 1048576) then 
                 (bif decide ((↑v.s.size : Int) ≤ 1048576) then some (Value.bool (units_Valid.val (v.s.size + 1) v.s 0 0)) else none) else some (Value.bool false)) else 
                (bif v.k == 6 then 
                 (bif decide (v.id ≥ 1) then some (Value.bool (decide (v.id ≤ 65536))) else some (Value.bool false)) else 
                 (bif v.k == 7 then 
                  (bif decide (v.id ≥ 1) then some (Value.bool (decide (v.id ≤ 65536))) else some (Value.bool false)) else some (Value.bool true))))) else 
              (bif v.k == 5 then 
               (bif decide ((↑v.s.size : Int) ≤ 1048576) then 
                (bif decide ((↑v.s.size : Int) ≤ 1048576) then some (Value.bool (units_Valid.val (v.s.size + 1) v.s 0 0)) else none) else some (Value.bool false)) else 
               (bif v.k == 6 then 
                (bif decide (v.id ≥ 1) then some (Value.bool (decide (v.id ≤ 65536))) else some (Value.bool false)) else 
                (bif v.k == 7 then 
                 (bif decide (v.id ≥ 1) then some (Value.bool (decide (v.id ≤ 65536))) else some (Value.bool false)) else some (Value.bool true))))) else 
             (bif v.k == 5 then 
              (bif decide ((↑v.s.size : Int) ≤ 1048576) then 
               (bif decide ((↑v.s.size : Int) ≤ 1048576) then some (Value.bool (units_Valid.val (v.s.size + 1) v.s 0 0)) else none) else some (Value.bool false)) else 
              (bif v.k == 6 then 
               (bif decide (v.id ≥ 1) then some (Value.bool (decide (v.id ≤ 65536))) else some (Value.bool false)) else 
               (bif v.k == 7 then 
                (bif decide (v.id ≥ 1) then some (Value.bool (decide (v.id ≤ 65536))) else some (Value.bool false)) else some (Value.bool true))))))) else 
          (bif v.k != 5 then 
           (bif !v.s.toList == (ByteArray.mk #[]).toList then some (Value.bool false) else 
            (bif v.k != 6 then 
             (bif v.k != 7 then 
              (bif v.id != 0 then some (Value.bool false) else 
               (bif v.k == 5 then 
                (bif decide ((↑v.s.size : Int) ≤ 1048576) then 
                 (bif decide ((↑v.s.size : Int) ≤ 1048576) then some (Value.bool (units_Valid.val (v.s.size + 1) v.s 0 0)) else none) else some (Value.bool false)) else 
                (bif v.k == 6 then 
                 (bif decide (v.id ≥ 1) then some (Value.bool (decide (v.id ≤ 65536))) else some (Value.bool false)) else 
                 (bif v.k == 7 then 
                  (bif decide (v.id ≥ 1) then some (Value.bool (decide (v.id ≤ 65536))) else some (Value.bool false)) else some (Value.bool true))))) else 
              (bif v.k == 5 then 
               (bif decide ((↑v.s.size : Int) ≤ 1048576) then 
                (bif decide ((↑v.s.size : Int) ≤ 1048576) then some (Value.bool (units_Valid.val (v.s.size + 1) v.s 0 0)) else none) else some (Value.bool false)) else 
               (bif v.k == 6 then 
                (bif decide (v.id ≥ 1) then some (Value.bool (decide (v.id ≤ 65536))) else some (Value.bool false)) else 
                (bif v.k == 7 then 
                 (bif decide (v.id ≥ 1) then some (Value.bool (decide (v.id ≤ 65536))) else some (Value.bool false)) else some (Value.bool true))))) else 
             (bif v.k == 5 then 
              (bif decide ((↑v.s.size : Int) ≤ 1048576) then 
               (bif decide ((↑v.s.size : Int) ≤ 1048576) then some (Value.bool (units_Valid.val (v.s.size + 1) v.s 0 0)) else none) else some (Value.bool false)) else 
              (bif v.k == 6 then 
               (bif decide (v.id ≥ 1) then some (Value.bool (decide (v.id ≤ 65536))) else some (Value.bool false)) else 
               (bif v.k == 7 then 
                (bif decide (v.id ≥ 1) then some (Value.bool (decide (v.id ≤ 65536))) else some (Value.bool false)) else some (Value.bool true)))))) else 
           (bif v.k != 6 then 
            (bif v.k != 7 then 
             (bif v.id != 0 then some (Value.bool false) else 
              (bif v.k == 5 then 
               (bif decide ((↑v.s.size : Int) ≤ 1048576) then 
                (bif decide ((↑v.s.size : Int) ≤ 1048576) then some (Value.bool (units_Valid.val (v.s.size + 1) v.s 0 0)) else none) else some (Value.bool false)) else 
               (bif v.k == 6 then 
                (bif decide (v.id ≥ 1) then some (Value.bool (decide (v.id ≤ 65536))) else some (Value.bool false)) else 
                (bif v.k == 7 then 
                 (bif decide (v.id ≥ 1) then some (Value.bool (decide (v.id ≤ 65536))) else some (Value.bool false)) else some (Value.bool true))))) else 
             (bif v.k == 5 then 
              (bif decide ((↑v.s.size : Int) ≤ 1048576) then 
               (bif decide ((↑v.s.size : Int) ≤ 1048576) then some (Value.bool (units_Valid.val (v.s.size + 1) v.s 0 0)) else none) else some (Value.bool false)) else 
              (bif v.k == 6 then 
               (bif decide (v.id ≥ 1) then some (Value.bool (decide (v.id ≤ 65536))) else some (Value.bool false)) else 
               (bif v.k == 7 then 
                (bif decide (v.id ≥ 1) then some (Value.bool (decide (v.id ≤ 65536))) else some (Value.bool false)) else some (Value.bool true))))) else 
            (bif v.k == 5 then 
             (bif decide ((↑v.s.size : Int) ≤ 1048576) then 
              (bif decide ((↑v.s.size : Int) ≤ 1048576) then some (Value.bool (units_Valid.val (v.s.size + 1) v.s 0 0)) else none) else some (Value.bool false)) else 
             (bif v.k == 6 then 
              (bif decide (v.id ≥ 1) then some (Value.bool (decide (v.id ≤ 65536))) else some (Value.bool false)) else 
              (bif v.k == 7 then 
               (bif decide (v.id ≥ 1) then some (Value.bool (decide (v.id ≤ 65536))) else some (Value.bool false)) else some (Value.bool true)))))))) else 
        (bif v.k != 5 then 
         (bif !v.s.toList == (ByteArray.mk #[]).toList then some (Value.bool false) else 
          (bif v.k != 6 then 
           (bif v.k != 7 then 
            (bif v.id != 0 then some (Value.bool false) else 
             (bif v.k == 5 then 
              (bif decide ((↑v.s.size : Int) ≤ 1048576) then 
               (bif decide ((↑v.s.size : Int) ≤ 1048576) then some (Value.bool (units_Valid.val (v.s.size + 1) v.s 0 0)) else none) else some (Value.bool false)) else 
              (bif v.k == 6 then 
               (bif decide (v.id ≥ 1) then some (Value.bool (decide (v.id ≤ 65536))) else some (Value.bool false)) else 
               (bif v.k == 7 then 
                (bif decide (v.id ≥ 1) then some (Value.bool (decide (v.id ≤ 65536))) else some (Value.bool false)) else some (Value.bool true))))) else 
            (bif v.k == 5 then 
             (bif decide ((↑v.s.size : Int) ≤ 1048576) then 
              (bif decide ((↑v.s.size : Int) ≤ 1048576) then some (Value.bool (units_Valid.val (v.s.size + 1) v.s 0 0)) else none) else some (Value.bool false)) else 
             (bif v.k == 6 then 
              (bif decide (v.id ≥ 1) then some (Value.bool (decide (v.id ≤ 65536))) else some (Value.bool false)) else 
              (bif v.k == 7 then 
               (bif decide (v.id ≥ 1) then some (Value.bool (decide (v.id ≤ 65536))) else some (Value.bool false)) else some (Value.bool true))))) else 
           (bif v.k == 5 then 
            (bif decide ((↑v.s.size : Int) ≤ 1048576) then 
             (bif decide ((↑v.s.size : Int) ≤ 1048576) then some (Value.bool (units_Valid.val (v.s.size + 1) v.s 0 0)) else none) else some (Value.bool false)) else 
            (bif v.k == 6 then 
             (bif decide (v.id ≥ 1) then some (Value.bool (decide (v.id ≤ 65536))) else some (Value.bool false)) else 
             (bif v.k == 7 then 
              (bif decide (v.id ≥ 1) then some (Value.bool (decide (v.id ≤ 65536))) else some (Value.bool false)) else some (Value.bool true)))))) else 
         (bif v.k != 6 then 
          (bif v.k != 7 then 
           (bif v.id != 0 then some (Value.bool false) else 
            (bif v.k == 5 then 
             (bif decide ((↑v.s.size : Int) ≤ 1048576) then 
              (bif decide ((↑v.s.size : Int) ≤ 1048576) then some (Value.bool (units_Valid.val (v.s.size + 1) v.s 0 0)) else none) else some (Value.bool false)) else 
             (bif v.k == 6 then 
              (bif decide (v.id ≥ 1) then some (Value.bool (decide (v.id ≤ 65536))) else some (Value.bool false)) else 
              (bif v.k == 7 then 
               (bif decide (v.id ≥ 1) then some (Value.bool (decide (v.id ≤ 65536))) else some (Value.bool false)) else some (Value.bool true))))) else 
           (bif v.k == 5 then 
            (bif decide ((↑v.s.size : Int) ≤ 1048576) then 
             (bif decide ((↑v.s.size : Int) ≤ 1048576) then some (Value.bool (units_Valid.val (v.s.size + 1) v.s 0 0)) else none) else some (Value.bool false)) else 
            (bif v.k == 6 then 
             (bif decide (v.id ≥ 1) then some (Value.bool (decide (v.id ≤ 65536))) else some (Value.bool false)) else 
             (bif v.k == 7 then 
              (bif decide (v.id ≥ 1) then some (Value.bool (decide (v.id ≤ 65536))) else some (Value.bool false)) else some (Value.bool true))))) else 
          (bif v.k == 5 then 
           (bif decide ((↑v.s.size : Int) ≤ 1048576) then 
            (bif decide ((↑v.s.size : Int) ≤ 1048576) then some (Value.bool (units_Valid.val (v.s.size + 1) v.s 0 0)) else none) else some (Value.bool false)) else 
           (bif v.k == 6 then 
            (bif decide (v.id ≥ 1) then some (Value.bool (decide (v.id ≤ 65536))) else some (Value.bool false)) else 
            (bif v.k == 7 then 
             (bif decide (v.id ≥ 1) then some (Value.bool (decide (v.id ≤ 65536))) else some (Value.bool false)) else some (Value.bool true))))))))))) (by kernel_rfl) (by
    simp only [T.rgood, T.B, DT.val_node, DT.val_leaf, DT.val_bad, DT.bind]
    repeat' (first | (with_reducible refine bif_neq (fun h => ?_) (fun h => ?_)) | (with_reducible refine bif_and (fun h => ?_) (fun h => ?_)) | (with_reducible refine bif_eq (fun h => ?_) (fun h => ?_)))
    all_goals first | (simp only [*, R.good, R.neg0, S.emp, cond_true, cond_false, Bool.and_true, Bool.true_and, Bool.and_false, Bool.false_and, Bool.or_true, Bool.true_or, Bool.or_false, Bool.false_or, Bool.not_true, Bool.not_false, beq_self_eq_true, bne_self_eq_false, Bool.not_not]; done) | (exfalso; simp_all [R.good, R.neg0, S.emp, Op.floatEq, leafIn.strOk, leafIn.idOk, szle, FloatEq.div_some', FloatEq.div_none']; done) | (simp_all [R.good, R.neg0, S.emp, Op.floatEq, leafIn.strOk, leafIn.idOk, szle, FloatEq.div_some', FloatEq.div_none']; done) | (simp_all [R.good, R.neg0, S.emp, Op.floatEq, leafIn.strOk, leafIn.idOk, szle, FloatEq.div_some', FloatEq.div_none']; omega) | grind [R.good, R.neg0, S.emp])
theorem ent_rgood : E (56, onV T.rgood) := byEv Ients4 60 fun args t h => by
  obtain ⟨v, rfl, rfl⟩ := onV_eq h
  exact ev_rgood v
abbrev IL5 : Tab := (56, onV T.rgood) :: IL4
theorem Ients5 : ∀ p ∈ IL5, E p := entries_cons ent_rgood Ients4
set_option maxHeartbeats 4000000 in
theorem ev_rslot (v : V) : evFn Tryd.prog ext (tab IL5) 40 57 [v.agg] = (T.rslot v).val :=
  Eq.trans (b := 
    (bif R.good v then 
     (bif v.k == 1 then some (Value.bool true) else some (Value.bool (v.k == 7))) else some (Value.bool false))) (by kernel_rfl) (by
    simp only [T.rslot, T.B, DT.val_node, DT.val_leaf, DT.val_bad, DT.bind]
    repeat' (first | (with_reducible refine bif_neq (fun h => ?_) (fun h => ?_)) | (with_reducible refine bif_and (fun h => ?_) (fun h => ?_)) | (with_reducible refine bif_eq (fun h => ?_) (fun h => ?_)))
    all_goals first | (simp only [*, R.slot, cond_true, cond_false, Bool.and_true, Bool.true_and, Bool.and_false, Bool.false_and, Bool.or_true, Bool.true_or, Bool.or_false, Bool.false_or, Bool.not_true, Bool.not_false, beq_self_eq_true, bne_self_eq_false, Bool.not_not]; done) | (exfalso; simp_all [R.slot]; done) | (simp_all [R.slot]; done) | grind [R.slot])
theorem ent_rslot : E (57, onV T.rslot) := byEv Ients5 40 fun args t h => by
  obtain ⟨v, rfl, rfl⟩ := onV_eq h
  exact ev_rslot v
abbrev IL6 : Tab := (57, onV T.rslot) :: IL5
theorem Ients6 : ∀ p ∈ IL6, E p := entries_cons ent_rslot Ients5
set_option maxHeartbeats 4000000 in
theorem ev_rcheck (d : D) : evFn Tryd.prog ext (tab IL6) 40 15 [d.agg] = (T.rcheck d).val :=
  Eq.trans (b := 
    (bif !S.absent d.v then 
     (bif !R.good d.v then some (Value.bool false) else 
      (bif !S.absent d.g then 
       (bif !R.slot d.g then some (Value.bool false) else 
        (bif !S.absent d.t then 
         (bif !R.slot d.t then some (Value.bool false) else 
          (bif !S.tri d.w then some (Value.bool false) else 
           (bif !S.tri d.e then some (Value.bool false) else 
            (bif !S.tri d.c then some (Value.bool false) else 
             (bif S.there d.v then 
              (bif S.there d.g then some (Value.bool !true) else some (Value.bool !S.there d.t)) else 
              (bif d.w != 0 then 
               (bif S.there d.g then some (Value.bool !true) else some (Value.bool !S.there d.t)) else some (Value.bool !false))))))) else 
         (bif !S.tri d.w then some (Value.bool false) else 
          (bif !S.tri d.e then some (Value.bool false) else 
           (bif !S.tri d.c then some (Value.bool false) else 
            (bif S.there d.v then 
             (bif S.there d.g then some (Value.bool !true) else some (Value.bool !S.there d.t)) else 
             (bif d.w != 0 then 
              (bif S.there d.g then some (Value.bool !true) else some (Value.bool !S.there d.t)) else some (Value.bool !false)))))))) else 
       (bif !S.absent d.t then 
        (bif !R.slot d.t then some (Value.bool false) else 
         (bif !S.tri d.w then some (Value.bool false) else 
          (bif !S.tri d.e then some (Value.bool false) else 
           (bif !S.tri d.c then some (Value.bool false) else 
            (bif S.there d.v then 
             (bif S.there d.g then some (Value.bool !true) else some (Value.bool !S.there d.t)) else 
             (bif d.w != 0 then 
              (bif S.there d.g then some (Value.bool !true) else some (Value.bool !S.there d.t)) else some (Value.bool !false))))))) else 
        (bif !S.tri d.w then some (Value.bool false) else 
         (bif !S.tri d.e then some (Value.bool false) else 
          (bif !S.tri d.c then some (Value.bool false) else 
           (bif S.there d.v then 
            (bif S.there d.g then some (Value.bool !true) else some (Value.bool !S.there d.t)) else 
            (bif d.w != 0 then 
             (bif S.there d.g then some (Value.bool !true) else some (Value.bool !S.there d.t)) else some (Value.bool !false))))))))) else 
     (bif !S.absent d.g then 
      (bif !R.slot d.g then some (Value.bool false) else 
       (bif !S.absent d.t then 
        (bif !R.slot d.t then some (Value.bool false) else 
         (bif !S.tri d.w then some (Value.bool false) else 
          (bif !S.tri d.e then some (Value.bool false) else 
           (bif !S.tri d.c then some (Value.bool false) else 
            (bif S.there d.v then 
             (bif S.there d.g then some (Value.bool !true) else some (Value.bool !S.there d.t)) else 
             (bif d.w != 0 then 
              (bif S.there d.g then some (Value.bool !true) else some (Value.bool !S.there d.t)) else some (Value.bool !false))))))) else 
        (bif !S.tri d.w then some (Value.bool false) else 
         (bif !S.tri d.e then some (Value.bool false) else 
          (bif !S.tri d.c then some (Value.bool false) else 
           (bif S.there d.v then 
            (bif S.there d.g then some (Value.bool !true) else some (Value.bool !S.there d.t)) else 
            (bif d.w != 0 then 
             (bif S.there d.g then some (Value.bool !true) else some (Value.bool !S.there d.t)) else some (Value.bool !false)))))))) else 
      (bif !S.absent d.t then 
       (bif !R.slot d.t then some (Value.bool false) else 
        (bif !S.tri d.w then some (Value.bool false) else 
         (bif !S.tri d.e then some (Value.bool false) else 
          (bif !S.tri d.c then some (Value.bool false) else 
           (bif S.there d.v then 
            (bif S.there d.g then some (Value.bool !true) else some (Value.bool !S.there d.t)) else 
            (bif d.w != 0 then 
             (bif S.there d.g then some (Value.bool !true) else some (Value.bool !S.there d.t)) else some (Value.bool !false))))))) else 
       (bif !S.tri d.w then some (Value.bool false) else 
        (bif !S.tri d.e then some (Value.bool false) else 
         (bif !S.tri d.c then some (Value.bool false) else 
          (bif S.there d.v then 
           (bif S.there d.g then some (Value.bool !true) else some (Value.bool !S.there d.t)) else 
           (bif d.w != 0 then 
            (bif S.there d.g then some (Value.bool !true) else some (Value.bool !S.there d.t)) else some (Value.bool !false)))))))))) (by kernel_rfl) (by
    simp only [T.rcheck, T.B, DT.val_node, DT.val_leaf, DT.val_bad, DT.bind]
    repeat' (first | (with_reducible refine bif_neq (fun h => ?_) (fun h => ?_)) | (with_reducible refine bif_and (fun h => ?_) (fun h => ?_)) | (with_reducible refine bif_eq (fun h => ?_) (fun h => ?_)))
    all_goals first | (simp only [*, R.check, S.hasD, S.hasA, cond_true, cond_false, Bool.and_true, Bool.true_and, Bool.and_false, Bool.false_and, Bool.or_true, Bool.true_or, Bool.or_false, Bool.false_or, Bool.not_true, Bool.not_false, beq_self_eq_true, bne_self_eq_false, Bool.not_not]; done) | (exfalso; simp_all [R.check, S.hasD, S.hasA]; done) | (simp_all [R.check, S.hasD, S.hasA]; done) | grind [R.check, S.hasD, S.hasA])
theorem ent_rcheck : E (15, onD T.rcheck) := byEv Ients6 40 fun args t h => by
  obtain ⟨d, rfl, rfl⟩ := onD_eq h
  exact ev_rcheck d
abbrev IL7 : Tab := (15, onD T.rcheck) :: IL6
theorem Ients7 : ∀ p ∈ IL7, E p := entries_cons ent_rcheck Ients6
set_option maxHeartbeats 4000000 in
theorem ev_risA (d : D) : evFn Tryd.prog ext (tab IL7) 40 20 [d.agg] = (T.risA d).val :=
  Eq.trans (b := 
    (bif R.check d then 
     (bif S.there d.g then some (Value.bool true) else some (Value.bool (S.there d.t))) else some (Value.bool false))) (by kernel_rfl) (by
    simp only [T.risA, T.B, DT.val_node, DT.val_leaf, DT.val_bad, DT.bind]
    repeat' (first | (with_reducible refine bif_neq (fun h => ?_) (fun h => ?_)) | (with_reducible refine bif_and (fun h => ?_) (fun h => ?_)) | (with_reducible refine bif_eq (fun h => ?_) (fun h => ?_)))
    all_goals first | (simp only [*, R.isA, S.hasA, cond_true, cond_false, Bool.and_true, Bool.true_and, Bool.and_false, Bool.false_and, Bool.or_true, Bool.true_or, Bool.or_false, Bool.false_or, Bool.not_true, Bool.not_false, beq_self_eq_true, bne_self_eq_false, Bool.not_not]; done) | (exfalso; simp_all [R.isA, S.hasA]; done) | (simp_all [R.isA, S.hasA]; done) | grind [R.isA, S.hasA])
theorem ent_risA : E (20, onD T.risA) := byEv Ients7 40 fun args t h => by
  obtain ⟨d, rfl, rfl⟩ := onD_eq h
  exact ev_risA d
abbrev IL8 : Tab := (20, onD T.risA) :: IL7
theorem Ients8 : ∀ p ∈ IL8, E p := entries_cons ent_risA Ients7
set_option maxHeartbeats 4000000 in
theorem ev_risD (d : D) : evFn Tryd.prog ext (tab IL8) 40 22 [d.agg] = (T.risD d).val :=
  Eq.trans (b := 
    (bif R.check d then 
     (bif S.there d.v then some (Value.bool true) else some (Value.bool (d.w != 0))) else some (Value.bool false))) (by kernel_rfl) (by
    simp only [T.risD, T.B, DT.val_node, DT.val_leaf, DT.val_bad, DT.bind]
    repeat' (first | (with_reducible refine bif_neq (fun h => ?_) (fun h => ?_)) | (with_reducible refine bif_and (fun h => ?_) (fun h => ?_)) | (with_reducible refine bif_eq (fun h => ?_) (fun h => ?_)))
    all_goals first | (simp only [*, R.isD, S.hasD, cond_true, cond_false, Bool.and_true, Bool.true_and, Bool.and_false, Bool.false_and, Bool.or_true, Bool.true_or, Bool.or_false, Bool.false_or, Bool.not_true, Bool.not_false, beq_self_eq_true, bne_self_eq_false, Bool.not_not]; done) | (exfalso; simp_all [R.isD, S.hasD]; done) | (simp_all [R.isD, S.hasD]; done) | grind [R.isD, S.hasD])
theorem ent_risD : E (22, onD T.risD) := byEv Ients8 40 fun args t h => by
  obtain ⟨d, rfl, rfl⟩ := onD_eq h
  exact ev_risD d
abbrev IL9 : Tab := (22, onD T.risD) :: IL8
theorem Ients9 : ∀ p ∈ IL9, E p := entries_cons ent_risD Ients8
set_option maxHeartbeats 4000000 in
theorem ev_risG (d : D) : evFn Tryd.prog ext (tab IL9) 40 24 [d.agg] = (T.risG d).val :=
  Eq.trans (b := 
    (bif R.check d then 
     (bif !R.isA d then some (Value.bool !R.isD d) else some (Value.bool false)) else some (Value.bool false))) (by kernel_rfl) (by
    simp only [T.risG, T.B, DT.val_node, DT.val_leaf, DT.val_bad, DT.bind]
    repeat' (first | (with_reducible refine bif_neq (fun h => ?_) (fun h => ?_)) | (with_reducible refine bif_and (fun h => ?_) (fun h => ?_)) | (with_reducible refine bif_eq (fun h => ?_) (fun h => ?_)))
    all_goals first | (simp only [*, R.isG, cond_true, cond_false, Bool.and_true, Bool.true_and, Bool.and_false, Bool.false_and, Bool.or_true, Bool.true_or, Bool.or_false, Bool.false_or, Bool.not_true, Bool.not_false, beq_self_eq_true, bne_self_eq_false, Bool.not_not]; done) | (exfalso; simp_all [R.isG]; done) | (simp_all [R.isG]; done) | grind [R.isG])
theorem ent_risG : E (24, onD T.risG) := byEv Ients9 40 fun args t h => by
  obtain ⟨d, rfl, rfl⟩ := onD_eq h
  exact ev_risG d
abbrev IL10 : Tab := (24, onD T.risG) :: IL9
theorem Ients10 : ∀ p ∈ IL10, E p := entries_cons ent_risG Ients9
set_option maxHeartbeats 4000000 in
theorem ev_rwhole (d : D) : evFn Tryd.prog ext (tab IL10) 40 26 [d.agg] = (T.rwhole d).val :=
  Eq.trans (b := 
    (bif !R.check d then some (Value.bool false) else 
     (bif d.e == 0 then some (Value.bool false) else 
      (bif d.c == 0 then some (Value.bool false) else 
       (bif S.there d.g then 
        (bif S.there d.t then some (Value.bool true) else 
         (bif S.there d.v then some (Value.bool (d.w != 0)) else some (Value.bool false))) else 
        (bif S.there d.v then some (Value.bool (d.w != 0)) else some (Value.bool false))))))) (by kernel_rfl) (by
    simp only [T.rwhole, T.B, DT.val_node, DT.val_leaf, DT.val_bad, DT.bind]
    repeat' (first | (with_reducible refine bif_neq (fun h => ?_) (fun h => ?_)) | (with_reducible refine bif_and (fun h => ?_) (fun h => ?_)) | (with_reducible refine bif_eq (fun h => ?_) (fun h => ?_)))
    all_goals first | (simp only [*, R.whole, cond_true, cond_false, Bool.and_true, Bool.true_and, Bool.and_false, Bool.false_and, Bool.or_true, Bool.true_or, Bool.or_false, Bool.false_or, Bool.not_true, Bool.not_false, beq_self_eq_true, bne_self_eq_false, Bool.not_not]; done) | (exfalso; simp_all [R.whole]; done) | (simp_all [R.whole]; done) | grind [R.whole])
theorem ent_rwhole : E (26, onD T.rwhole) := byEv Ients10 40 fun args t h => by
  obtain ⟨d, rfl, rfl⟩ := onD_eq h
  exact ev_rwhole d
abbrev IL11 : Tab := (26, onD T.rwhole) :: IL10
theorem Ients11 : ∀ p ∈ IL11, E p := entries_cons ent_rwhole Ients10
set_option maxHeartbeats 4000000 in
theorem ev_fillV (v : V) : evFn Tryd.prog ext (tab IL11) 40 60 [v.agg] = (T.fillV v).val :=
  Eq.trans (b := 
    (bif S.there v then some (v.agg) else some ((V.mk 1 false 0 (ByteArray.mk #[]) 0).agg))) (by kernel_rfl) (by
    simp only [T.fillV, DT.val_node, DT.val_leaf, DT.val_bad, DT.bind]
    repeat' (first | (with_reducible refine bif_neq (fun h => ?_) (fun h => ?_)) | (with_reducible refine bif_and (fun h => ?_) (fun h => ?_)) | (with_reducible refine bif_eq (fun h => ?_) (fun h => ?_)))
    all_goals first | (simp only [*, S.fill, S.VU, cond_true, cond_false, Bool.and_true, Bool.true_and, Bool.and_false, Bool.false_and, Bool.or_true, Bool.true_or, Bool.or_false, Bool.false_or, Bool.not_true, Bool.not_false, beq_self_eq_true, bne_self_eq_false, Bool.not_not]; done) | (exfalso; simp_all [S.fill, S.VU]; done) | (simp_all [S.fill, S.VU]; done) | grind [S.fill, S.VU])
theorem ent_fillV : E (60, onV T.fillV) := byEv Ients11 40 fun args t h => by
  obtain ⟨v, rfl, rfl⟩ := onV_eq h
  exact ev_fillV v
abbrev IL12 : Tab := (60, onV T.fillV) :: IL11
theorem Ients12 : ∀ p ∈ IL12, E p := entries_cons ent_fillV Ients11
set_option maxHeartbeats 4000000 in
theorem ev_noT (t : Int) : evFn Tryd.prog ext (tab IL12) 40 61 [.int .i64 t] = (T.noT t).val :=
  Eq.trans (b := 
    (bif t == 0 then some (Value.int IntKind.i64 1) else some (Value.int IntKind.i64 t))) (by kernel_rfl) (by
    simp only [T.noT, DT.val_node, DT.val_leaf, DT.val_bad, DT.bind]
    repeat' (first | (with_reducible refine bif_neq (fun h => ?_) (fun h => ?_)) | (with_reducible refine bif_and (fun h => ?_) (fun h => ?_)) | (with_reducible refine bif_eq (fun h => ?_) (fun h => ?_)))
    all_goals first | (simp only [*, S.no, cond_true, cond_false, Bool.and_true, Bool.true_and, Bool.and_false, Bool.false_and, Bool.or_true, Bool.true_or, Bool.or_false, Bool.false_or, Bool.not_true, Bool.not_false, beq_self_eq_true, bne_self_eq_false, Bool.not_not]; done) | (exfalso; simp_all [S.no]; done) | (simp_all [S.no]; done) | grind [S.no])
theorem ent_noT : E (61, onI T.noT) := byEv Ients12 40 fun args t h => by
  obtain ⟨t, rfl, rfl⟩ := onI_eq h
  exact ev_noT t
abbrev IL13 : Tab := (61, onI T.noT) :: IL12
theorem Ients13 : ∀ p ∈ IL13, E p := entries_cons ent_noT Ients12
set_option maxHeartbeats 4000000 in
theorem ev_filled (d : D) : evFn Tryd.prog ext (tab IL13) 60 18 [d.agg] = (T.filled d).val :=
  Eq.trans (b := 
    (bif R.isA d then some ((D.mk d.v (S.fill d.g) (S.fill d.t) d.w (S.no d.e 1) (S.no d.c 1)).agg) else some ((D.mk (S.fill d.v) d.g d.t (S.no d.w 1) (S.no d.e 1) (S.no d.c 1)).agg))) (by kernel_rfl) (by
    simp only [T.filled, DT.val_node, DT.val_leaf, DT.val_bad, DT.bind]
    repeat' (first | (with_reducible refine bif_neq (fun h => ?_) (fun h => ?_)) | (with_reducible refine bif_and (fun h => ?_) (fun h => ?_)) | (with_reducible refine bif_eq (fun h => ?_) (fun h => ?_)))
    all_goals first | (simp only [*, R.filled, cond_true, cond_false, Bool.and_true, Bool.true_and, Bool.and_false, Bool.false_and, Bool.or_true, Bool.true_or, Bool.or_false, Bool.false_or, Bool.not_true, Bool.not_false, beq_self_eq_true, bne_self_eq_false, Bool.not_not]; done) | (exfalso; simp_all [R.filled]; done) | (simp_all [R.filled]; done) | grind [R.filled])
theorem ent_filled : E (18, onD T.filled) := byEv Ients13 60 fun args t h => by
  obtain ⟨d, rfl, rfl⟩ := onD_eq h
  exact ev_filled d
abbrev IL14 : Tab := (18, onD T.filled) :: IL13
theorem Ients14 : ∀ p ∈ IL14, E p := entries_cons ent_filled Ients13
set_option maxHeartbeats 4000000 in
theorem ev_rfreeze (d : D) : evFn Tryd.prog ext (tab IL14) 60 14 [d.agg] = (T.rfreeze d).val :=
  Eq.trans (b := 
    (bif !R.whole d then some (Value.tuple #[(D.mk (V.mk 0 false 0 (ByteArray.mk #[]) 0) (V.mk 0 false 0 (ByteArray.mk #[]) 0) (V.mk 0 false 0 (ByteArray.mk #[]) 0) 0 0 0).agg, Value.int IntKind.i64 5]) else 
     (bif R.isD d then some (Value.tuple #[(D.mk (V.mk 0 false 0 (ByteArray.mk #[]) 0) (V.mk 0 false 0 (ByteArray.mk #[]) 0) (V.mk 0 false 0 (ByteArray.mk #[]) 0) 1 0 1).agg, Value.int IntKind.i64 0]) else some (Value.tuple #[(D.mk (V.mk 0 false 0 (ByteArray.mk #[]) 0) (V.mk 0 false 0 (ByteArray.mk #[]) 0) (V.mk 0 false 0 (ByteArray.mk #[]) 0) 0 0 1).agg, Value.int IntKind.i64 0])))) (by kernel_rfl) (by
    simp only [T.rfreeze, DT.val_node, DT.val_leaf, DT.val_bad, DT.bind]
    repeat' (first | (with_reducible refine bif_neq (fun h => ?_) (fun h => ?_)) | (with_reducible refine bif_and (fun h => ?_) (fun h => ?_)) | (with_reducible refine bif_eq (fun h => ?_) (fun h => ?_)))
    all_goals first | (simp only [*, S.V0, S.D0, cond_true, cond_false, Bool.and_true, Bool.true_and, Bool.and_false, Bool.false_and, Bool.or_true, Bool.true_or, Bool.or_false, Bool.false_or, Bool.not_true, Bool.not_false, beq_self_eq_true, bne_self_eq_false, Bool.not_not]; done) | (exfalso; simp_all [S.V0, S.D0]; done) | (simp_all [S.V0, S.D0]; done) | grind [S.V0, S.D0])
theorem ent_rfreeze : E (14, onD T.rfreeze) := byEv Ients14 60 fun args t h => by
  obtain ⟨d, rfl, rfl⟩ := onD_eq h
  exact ev_rfreeze d
abbrev IL15 : Tab := (14, onD T.rfreeze) :: IL14
theorem Ients15 : ∀ p ∈ IL15, E p := entries_cons ent_rfreeze Ients14
end Go.Proofs.YtaojjpdlfnphiaaDoor.PDescKinds
