/- Contracts by evaluation: what each function of a list answers. Written by a program of this session. -/
import Derived.Test.YtlliefodchfpfaaDoorP3
import Derived.Test.YtlliefodchfpfaaDoorU4
namespace Go.Proofs.YtlliefodchfpfaaDoor.PDescKinds
open Go.RowKit Go.Ev
set_option linter.unusedSimpArgs false
set_option linter.unusedVariables false
set_option maxRecDepth 100000
abbrev JL0 : Tab := [(36, onS T.valid)]
theorem Jents0 : ∀ p ∈ JL0, E p := entries_cons (ent_valid) (entries_nil)
set_option maxHeartbeats 4000000 in
theorem ev_rminus (a : Nat) : evFn Tryd.prog ext (tab JL0) 40 41 [.float .f64 a] = (T.rminus a).val :=
  Eq.trans (b := 
    (bif FloatKind.f64.format.order a 0 == some Ordering.eq then 
     (bif (Ieee.double.div 4607182418800017408 a).isSome then some (Value.bool (FloatKind.f64.format.order ((Ieee.double.div 4607182418800017408 a).getD 0) 0 == some Ordering.lt)) else none) else some (Value.bool false))) (by kernel_rfl) (by
    simp only [T.rminus, DT.val_node, DT.val_leaf]
    refine bif_eq (fun h => ?_) (fun h => ?_)
    · have hf : Op.floatEq FloatKind.f64 a 0 = true := h
      rw [show (Ieee.double.div 4607182418800017408 a).isSome = true from FloatEq.div_isSome hf, hf]
      rfl
    · have hf : Op.floatEq FloatKind.f64 a 0 = false := h
      rw [hf]
      rfl)
theorem ent_rminus : E (41, onF T.rminus) := byEv Jents0 40 fun args t h => by
  obtain ⟨a, rfl, rfl⟩ := onF_eq h
  exact ev_rminus a
abbrev JL1 : Tab := (41, onF T.rminus) :: JL0
theorem Jents1 : ∀ p ∈ JL1, E p := entries_cons ent_rminus Jents0
set_option maxHeartbeats 4000000 in
theorem ev_there (v : V) : evFn Tryd.prog ext (tab JL1) 40 40 [v.agg] = (T.there v).val :=
  Eq.trans (b := some (Value.bool (v.k != 0))) (by kernel_rfl) (by
    simp only [T.there, T.B, DT.val_leaf, S.there])
theorem ent_there : E (40, onV T.there) := byEv Jents1 40 fun args t h => by
  obtain ⟨v, rfl, rfl⟩ := onV_eq h
  exact ev_there v
abbrev JL2 : Tab := (40, onV T.there) :: JL1
theorem Jents2 : ∀ p ∈ JL2, E p := entries_cons ent_there Jents1
set_option maxHeartbeats 4000000 in
theorem ev_rtri (t : Int) : evFn Tryd.prog ext (tab JL2) 40 39 [.int .i64 t] = (T.tri t).val :=
  Eq.trans (b := 
    (bif t == 0 then some (Value.bool true) else 
     (bif t == 1 then some (Value.bool true) else some (Value.bool (t == 2))))) (by kernel_rfl) (by
    simp only [T.tri, T.B, DT.val_leaf]
    repeat' (with_reducible refine bif_eq (fun h => ?_) (fun h => ?_))
    all_goals simp only [Option.some.injEq, Value.bool.injEq, S.tri, beq_iff_eq, beq_eq_false_iff_ne, ne_eq] at *
    all_goals (rw [Bool.eq_iff_iff]; simp; omega))
theorem ent_rtri : E (39, onI T.tri) := byEv Jents2 40 fun args t h => by
  obtain ⟨t, rfl, rfl⟩ := onI_eq h
  exact ev_rtri t
abbrev JL3 : Tab := (39, onI T.tri) :: JL2
theorem Jents3 : ∀ p ∈ JL3, E p := entries_cons ent_rtri Jents2
set_option maxHeartbeats 4000000 in
theorem ev_none (v : V) : evFn Tryd.prog ext (tab JL3) 40 37 [v.agg] = (T.absent v).val :=
  Eq.trans (b := 
    (bif v.k == 0 then 
     (bif !v.b then 
      (bif FloatKind.f64.format.order v.n 0 == some Ordering.eq then 
       (bif (Ieee.double.div 4607182418800017408 v.n).isSome then 
        (bif FloatKind.f64.format.order ((Ieee.double.div 4607182418800017408 v.n).getD 0) 0 == some Ordering.gt then 
         (bif v.s.toList == (ByteArray.mk #[]).toList then some (Value.bool (v.id == 0)) else some (Value.bool false)) else some (Value.bool false)) else none) else some (Value.bool false)) else some (Value.bool false)) else some (Value.bool false))) (by kernel_rfl) (by
    simp only [T.absent, T.B, DT.val_node, DT.val_leaf, DT.val_bad, DT.bind]
    repeat' (first | (with_reducible refine bif_neq (fun h => ?_) (fun h => ?_)) | (with_reducible refine bif_and (fun h => ?_) (fun h => ?_)) | (with_reducible refine bif_eq (fun h => ?_) (fun h => ?_)))
    all_goals first | (simp only [*, S.absent, S.isV0, S.pos, cond_true, cond_false, Bool.and_true, Bool.true_and, Bool.and_false, Bool.false_and, Bool.or_true, Bool.true_or, Bool.or_false, Bool.false_or, Bool.not_true, Bool.not_false, beq_self_eq_true, bne_self_eq_false, Bool.not_not]; done) | (exfalso; simp_all [S.absent, S.isV0, S.pos, Op.floatEq, beq_toListBytes, FloatKind.format, FloatEq.div_some', FloatEq.div_none']; done) | (simp_all [S.absent, S.isV0, S.pos, Op.floatEq, beq_toListBytes, FloatKind.format, FloatEq.div_some', FloatEq.div_none']; done) | grind [S.absent, S.isV0, S.pos])
theorem ent_none : E (37, onV T.absent) := byEv Jents3 40 fun args t h => by
  obtain ⟨v, rfl, rfl⟩ := onV_eq h
  exact ev_none v
abbrev JL4 : Tab := (37, onV T.absent) :: JL3
theorem Jents4 : ∀ p ∈ JL4, E p := entries_cons ent_none Jents3
set_option maxHeartbeats 4000000 in
theorem ev_rgood (v : V) : evFn Tryd.prog ext (tab JL4) 60 23 [v.agg] = (T.rgood v).val :=
  Eq.trans (b := 
    (bif decide (v.k < 1) then some (Value.bool false) else 
     (bif decide (v.k > 7) then some (Value.bool false) else 
      (bif v.k != 3 then 
       (bif v.b then some (Value.bool false) else 
        (bif v.k != 4 then 
         (bif FloatKind.f64.format.order v.n 0 != some Ordering.eq then some (Value.bool false) else 
          (bif Op.floatEq FloatKind.f64 v.n 0 then 
           (bif FloatKind.f64.format.order ((Ieee.double.div 4607182418800017408 v.n).getD 0) 0 == some Ordering.lt then some (Value.bool false) else 
            (bif v.k != 5 then 
             (bif !v.s.toList == (ByteArray.mk #[]).toList then some (Value.bool false) else 
              (bif v.k != 6 then 
               (bif v.k != 7 then 
                (bif v.id != 0 then some (Value.bool false) else 
                 (bif v.k == 5 then 
                  (bif decide ((↑v.s.size : Int) ≤ 1048576) then 
                   (bif decide ((↑v.s.size : Int) ≤ 1048576) then some (Value.bool (units_Valid.val (v.s.size + 1) v.s 0 0)) else none) else some (Value.bool false)) else 
                  (bif v.k == 6 then 
                   (bif decide (v.id ≥ 1) then some (Value.bool (decide (v.id ≤ 65536))) else some (Value.bool false)) else 
                   (bif v.k == 7 then 
                    (bif decide (v.id ≥ 1) then some (Value.bool (decide (v.id ≤ 65536))) else some (Value.bool false)) else some (Value.bool true))))) else 
                (bif v.k == 5 then 
                 (bif decide ((↑v.s.size : Int) ≤ 1048576) then 
                  (bif decide ((↑v.s.size : Int) ≤ 1048576) then some (Value.bool (units_Valid.val (v.s.size + 1) v.s 0 0)) else none) else some (Value.bool false)) else 
                 (bif v.k == 6 then 
                  (bif decide (v.id ≥ 1) then some (Value.bool (decide (v.id ≤ 65536))) else some (Value.bool false)) else 
                  (bif v.k == 7 then 
                   (bif decide (v.id ≥ 1) then some (Value.bool (decide (v.id ≤ 65536))) else some (Value.bool false)) else some (Value.bool true))))) else 
               (bif v.k == 5 then 
                (bif decide ((↑v.s.size : Int) ≤ 1048576) then 
                 (bif decide ((↑v.s.size : Int) ≤ 1048576) then some (Value.bool (units_Valid.val (v.s.size + 1) v.s 0 0)) else none) else some (Value.bool false)) else 
                (bif v.k == 6 then 
                 (bif decide (v.id ≥ 1) then some (Value.bool (decide (v.id ≤ 65536))) else some (Value.bool false)) else 
                 (bif v.k == 7 then 
                  (bif decide (v.id ≥ 1) then some (Value.bool (decide (v.id ≤ 65536))) else some (Value.bool false)) else some (Value.bool true)))))) else 
             (bif v.k != 6 then 
              (bif v.k != 7 then 
               (bif v.id != 0 then some (Value.bool false) else 
                (bif v.k == 5 then 
                 (bif decide ((↑v.s.size : Int) ≤ 1048576) then 
                  (bif decide ((↑v.s.size : Int) ≤ 1048576) then some (Value.bool (units_Valid.val (v.s.size + 1) v.s 0 0)) else none) else some (Value.bool false)) else 
                 (bif v.k == 6 then 
                  (bif decide (v.id ≥ 1) then some (Value.bool (decide (v.id ≤ 65536))) else some (Value.bool false)) else 
                  (bif v.k == 7 then 
                   (bif decide (v.id ≥ 1) then some (Value.bool (decide (v.id ≤ 65536))) else some (Value.bool false)) else some (Value.bool true))))) else 
               (bif v.k == 5 then 
                (bif decide ((↑v.s.size : Int) ≤ 1048576) then 
                 (bif decide ((↑v.s.size : Int) ≤ 1048576) then some (Value.bool (units_Valid.val (v.s.size + 1) v.s 0 0)) else none) else some (Value.bool false)) else 
                (bif v.k == 6 then 
                 (bif decide (v.id ≥ 1) then some (Value.bool (decide (v.id ≤ 65536))) else some (Value.bool false)) else 
                 (bif v.k == 7 then 
                  (bif decide (v.id ≥ 1) then some (Value.bool (decide (v.id ≤ 65536))) else some (Value.bool false)) else some (Value.bool true))))) else 
              (bif v.k == 5 then 
               (bif decide ((↑v.s.size : Int) ≤ 1048576) then 
                (bif decide ((↑v.s.size : Int) ≤ 1048576) then some (Value.bool (units_Valid.val (v.s.size + 1) v.s 0 0)) else none) else some (Value.bool false)) else 
               (bif v.k == 6 then 
                (bif decide (v.id ≥ 1) then some (Value.bool (decide (v.id ≤ 65536))) else some (Value.bool false)) else 
                (bif v.k == 7 then 
                 (bif decide (v.id ≥ 1) then some (Value.bool (decide (v.id ≤ 65536))) else some (Value.bool false)) else some (Value.bool true))))))) else 
           (bif v.k != 5 then 
            (bif !v.s.toList == (ByteArray.mk #[]).toList then some (Value.bool false) else 
             (bif v.k != 6 then 
              (bif v.k != 7 then 
               (bif v.id != 0 then some (Value.bool false) else 
                (bif v.k == 5 then 
                 (bif decide ((↑v.s.size : Int) ≤ 1048576) then 
                  (bif decide ((↑v.s.size : Int) ≤ 1048576) then some (Value.bool (units_Valid.val (v.s.size + 1) v.s 0 0)) else none) else some (Value.bool false)) else 
                 (bif v.k == 6 then 
                  (bif decide (v.id ≥ 1) then some (Value.bool (decide (v.id ≤ 65536))) else some (Value.bool false)) else 
                  (bif v.k == 7 then 
                   (bif decide (v.id ≥ 1) then some (Value.bool (decide (v.id ≤ 65536))) else some (Value.bool false)) else some (Value.bool true))))) else 
               (bif v.k == 5 then 
                (bif decide ((↑v.s.size : Int) ≤ 1048576) then 
                 (bif decide ((↑v.s.size : Int) ≤ 1048576) then some (Value.bool (units_Valid.val (v.s.size + 1) v.s 0 0)) else none) else some (Value.bool false)) else 
                (bif v.k == 6 then 
                 (bif decide (v.id ≥ 1) then some (Value.bool (decide (v.id ≤ 65536))) else some (Value.bool false)) else 
                 (bif v.k == 7 then 
                  (bif decide (v.id ≥ 1) then some (Value.bool (decide (v.id ≤ 65536))) else some (Value.bool false)) else some (Value.bool true))))) else 
              (bif v.k == 5 then 
               (bif decide ((↑v.s.size : Int) ≤ 1048576) then 
                (bif decide ((↑v.s.size : Int) ≤ 1048576) then some (Value.bool (units_Valid.val (v.s.size + 1) v.s 0 0)) else none) else some (Value.bool false)) else 
               (bif v.k == 6 then 
                (bif decide (v.id ≥ 1) then some (Value.bool (decide (v.id ≤ 65536))) else some (Value.bool false)) else 
                (bif v.k == 7 then 
                 (bif decide (v.id ≥ 1) then some (Value.bool (decide (v.id ≤ 65536))) else some (Value.bool false)) else some (Value.bool true)))))) else 
            (bif v.k != 6 then 
             (bif v.k != 7 then 
              (bif v.id != 0 then some (Value.bool false) else 
               (bif v.k == 5 then 
                (bif decide ((↑v.s.size : Int) ≤ 1048576) then 
                 (bif decide ((↑v.s.size : Int) ≤ 1048576) then some (Value.bool (units_Valid.val (v.s.size + 1) v.s 0 0)) else none) else some (Value.bool false)) else 
                (bif v.k == 6 then 
                 (bif decide (v.id ≥ 1) then some (Value.bool (decide (v.id ≤ 65536))) else some (Value.bool false)) else 
                 (bif v.k == 7 then 
                  (bif decide (v.id ≥ 1) then some (Value.bool (decide (v.id ≤ 65536))) else some (Value.bool false)) else some (Value.bool true))))) else 
              (bif v.k == 5 then 
               (bif decide ((↑v.s.size : Int) ≤ 1048576) then 
                (bif decide ((↑v.s.size : Int) ≤ 1048576) then some (Value.bool (units_Valid.val (v.s.size + 1) v.s 0 0)) else none) else some (Value.bool false)) else 
               (bif v.k == 6 then 
                (bif decide (v.id ≥ 1) then some (Value.bool (decide (v.id ≤ 65536))) else some (Value.bool false)) else 
                (bif v.k == 7 then 
                 (bif decide (v.id ≥ 1) then some (Value.bool (decide (v.id ≤ 65536))) else some (Value.bool false)) else some (Value.bool true))))) else 
             (bif v.k == 5 then 
              (bif decide ((↑v.s.size : Int) ≤ 1048576) then 
               (bif decide ((↑v.s.size : Int) ≤ 1048576) then some (Value.bool (units_Valid.val (v.s.size + 1) v.s 0 0)) else none) else some (Value.bool false)) else 
              (bif v.k == 6 then 
               (bif decide (v.id ≥ 1) then some (Value.bool (decide (v.id ≤ 65536))) else some (Value.bool false)) else 
               (bif v.k == 7 then 
                (bif decide (v.id ≥ 1) then some (Value.bool (decide (v.id ≤ 65536))) else some (Value.bool false)) else some (Value.bool true)))))))) else 
         (bif v.k != 5 then 
          (bif !v.s.toList == (ByteArray.mk #[]).toList then some (Value.bool false) else 
           (bif v.k != 6 then 
            (bif v.k != 7 then 
             (bif v.id != 0 then some (Value.bool false) else 
              (bif v.k == 5 then 
               (bif decide ((↑v.s.size : Int) ≤ 1048576) then 
                (bif decide ((↑v.s.size : Int) ≤ 1048576) then some (Value.bool (units_Valid.val (v.s.size + 1) v.s 0 0)) else none) else some (Value.bool false)) else 
               (bif v.k == 6 then 
                (bif decide (v.id ≥ 1) then some (Value.bool (decide (v.id ≤ 65536))) else some (Value.bool false)) else 
                (bif v.k == 7 then 
                 (bif decide (v.id ≥ 1) then some (Value.bool (decide (v.id ≤ 65536))) else some (Value.bool false)) else some (Value.bool true))))) else 
             (bif v.k == 5 then 
              (bif decide ((↑v.s.size : Int) ≤ 1048576) then 
               (bif decide ((↑v.s.size : Int) ≤ 1048576) then some (Value.bool (units_Valid.val (v.s.size + 1) v.s 0 0)) else none) else some (Value.bool false)) else 
              (bif v.k == 6 then 
               (bif decide (v.id ≥ 1) then some (Value.bool (decide (v.id ≤ 65536))) else some (Value.bool false)) else 
               (bif v.k == 7 then 
                (bif decide (v.id ≥ 1) then some (Value.bool (decide (v.id ≤ 65536))) else some (Value.bool false)) else some (Value.bool true))))) else 
            (bif v.k == 5 then 
             (bif decide ((↑v.s.size : Int) ≤ 1048576) then 
              (bif decide ((↑v.s.size : Int) ≤ 1048576) then some (Value.bool (units_Valid.val (v.s.size + 1) v.s 0 0)) else none) else some (Value.bool false)) else 
             (bif v.k == 6 then 
              (bif decide (v.id ≥ 1) then some (Value.bool (decide (v.id ≤ 65536))) else some (Value.bool false)) else 
              (bif v.k == 7 then 
               (bif decide (v.id ≥ 1) then some (Value.bool (decide (v.id ≤ 65536))) else some (Value.bool false)) else some (Value.bool true)))))) else 
          (bif v.k != 6 then 
           (bif v.k != 7 then 
            (bif v.id != 0 then some (Value.bool false) else 
             (bif v.k == 5 then 
              (bif decide ((↑v.s.size : Int) ≤ 1048576) then 
               (bif decide ((↑v.s.size : Int) ≤ 1048576) then some (Value.bool (units_Valid.val (v.s.size + 1) v.s 0 0)) else none) else some (Value.bool false)) else 
              (bif v.k == 6 then 
               (bif decide (v.id ≥ 1) then some (Value.bool (decide (v.id ≤ 65536))) else some (Value.bool false)) else 
               (bif v.k == 7 then 
                (bif decide (v.id ≥ 1) then some (Value.bool (decide (v.id ≤ 65536))) else some (Value.bool false)) else some (Value.bool true))))) else 
            (bif v.k == 5 then 
             (bif decide ((↑v.s.size : Int) ≤ 1048576) then 
              (bif decide ((↑v.s.size : Int) ≤ 1048576) then some (Value.bool (units_Valid.val (v.s.size + 1) v.s 0 0)) else none) else some (Value.bool false)) else 
             (bif v.k == 6 then 
              (bif decide (v.id ≥ 1) then some (Value.bool (decide (v.id ≤ 65536))) else some (Value.bool false)) else 
              (bif v.k == 7 then 
               (bif decide (v.id ≥ 1) then some (Value.bool (decide (v.id ≤ 65536))) else some (Value.bool false)) else some (Value.bool true))))) else 
           (bif v.k == 5 then 
            (bif decide ((↑v.s.size : Int) ≤ 1048576) then 
             (bif decide ((↑v.s.size : Int) ≤ 1048576) then some (Value.bool (units_Valid.val (v.s.size + 1) v.s 0 0)) else none) else some (Value.bool false)) else 
            (bif v.k == 6 then 
             (bif decide (v.id ≥ 1) then some (Value.bool (decide (v.id ≤ 65536))) else some (Value.bool false)) else 
             (bif v.k == 7 then 
              (bif decide (v.id ≥ 1) then some (Value.bool (decide (v.id ≤ 65536))) else some (Value.bool false)) else some (Value.bool true)))))))) else 
       (bif v.k != 4 then 
        (bif FloatKind.f64.format.order v.n 0 != some Ordering.eq then some (Value.bool false) else 
         (bif Op.floatEq FloatKind.f64 v.n 0 then 
          (bif FloatKind.f64.format.order ((Ieee.double.div 4607182418800017408 v.n).getD 0) 0 == some Ordering.lt then some (Value.bool false) else 
           (bif v.k != 5 then 
            (bif !v.s.toList == (ByteArray.mk #[]).toList then some (Value.bool false) else 
             (bif v.k != 6 then 
              (bif v.k != 7 then 
               (bif v.id != 0 then some (Value.bool false) else 
                (bif v.k == 5 then 
                 (bif decide ((↑v.s.size : Int) ≤ 1048576) then 
                  (bif decide ((↑v.s.size : Int) ≤ 1048576) then some (Value.bool (units_Valid.val (v.s.size + 1) v.s 0 0)) else none) else some (Value.bool false)) else 
                 (bif v.k == 6 then 
                  (bif decide (v.id ≥ 1) then some (Value.bool (decide (v.id ≤ 65536))) else some (Value.bool false)) else 
                  (bif v.k == 7 then 
                   (bif decide (v.id ≥ 1) then some (Value.bool (decide (v.id ≤ 65536))) else some (Value.bool false)) else some (Value.bool true))))) else 
               (bif v.k == 5 then 
                (bif decide ((↑v.s.size : Int) ≤ 1048576) then 
                 (bif decide ((↑v.s.size : Int) ≤ 1048576) then some (Value.bool (units_Valid.val (v.s.size + 1) v.s 0 0)) else none) else some (Value.bool false)) else 
                (bif v.k == 6 then 
                 (bif decide (v.id ≥ 1) then some (Value.bool (decide (v.id ≤ 65536))) else some (Value.bool false)) else 
                 (bif v.k == 7 then 
                  (bif decide (v.id ≥ 1) then some (Value.bool (decide (v.id ≤ 65536))) else some (Value.bool false)) else some (Value.bool true))))) else 
              (bif v.k == 5 then 
               (bif decide ((↑v.s.size : Int) ≤ 1048576) then 
                (bif decide ((↑v.s.size : Int) ≤ 1048576) then some (Value.bool (units_Valid.val (v.s.size + 1) v.s 0 0)) else none) else some (Value.bool false)) else 
               (bif v.k == 6 then 
                (bif decide (v.id ≥ 1) then some (Value.bool (decide (v.id ≤ 65536))) else some (Value.bool false)) else 
                (bif v.k == 7 then 
                 (bif decide (v.id ≥ 1) then some (Value.bool (decide (v.id ≤ 65536))) else some (Value.bool false)) else some (Value.bool true)))))) else 
            (bif v.k != 6 then 
             (bif v.k != 7 then 
              (bif v.id != 0 then some (Value.bool false) else 
               (bif v.k == 5 then 
                (bif decide ((↑v.s.size : Int) ≤ 1048576) then 
                 (bif decide ((↑v.s.size : Int) ≤ 1048576) then some (Value.bool (units_Valid.val (v.s.size + 1) v.s 0 0)) else none) else some (Value.bool false)) else 
                (bif v.k == 6 then 
                 (bif decide (v.id ≥ 1) then some (Value.bool (decide (v.id ≤ 65536))) else some (Value.bool false)) else 
                 (bif v.k == 7 then 
                  (bif decide (v.id ≥ 1) then some (Value.bool (decide (v.id ≤ 65536))) else some (Value.bool false)) else some (Value.bool true))))) else 
              (bif v.k == 5 then 
               (bif decide ((↑v.s.size : Int) ≤ 1048576) then 
                (bif decide ((↑v.s.size : Int) ≤ 1048576) then some (Value.bool (units_Valid.val (v.s.size + 1) v.s 0 0)) else none) else some (Value.bool false)) else 
               (bif v.k == 6 then 
                (bif decide (v.id ≥ 1) then some (Value.bool (decide (v.id ≤ 65536))) else some (Value.bool false)) else 
                (bif v.k == 7 then 
                 (bif decide (v.id ≥ 1) then some (Value.bool (decide (v.id ≤ 65536))) else some (Value.bool false)) else some (Value.bool true))))) else 
             (bif v.k == 5 then 
              (bif decide ((↑v.s.size : Int) ≤ 1048576) then 
               (bif decide ((↑v.s.size : Int) ≤ 1048576) then some (Value.bool (units_Valid.val (v.s.size + 1) v.s 0 0)) else none) else some (Value.bool false)) else 
              (bif v.k == 6 then 
               (bif decide (v.id ≥ 1) then some (Value.bool (decide (v.id ≤ 65536))) else some (Value.bool false)) else 
               (bif v.k == 7 then 
                (bif decide (v.id ≥ 1) then some (Value.bool (decide (v.id ≤ 65536))) else some (Value.bool false)) else some (Value.bool true))))))) else 
          (bif v.k != 5 then 
           (bif !v.s.toList == (ByteArray.mk #[]).toList then some (Value.bool false) else 
            (bif v.k != 6 then 
             (bif v.k != 7 then 
              (bif v.id != 0 then some (Value.bool false) else 
               (bif v.k == 5 then 
                (bif decide ((↑v.s.size : Int) ≤ 1048576) then 
                 (bif decide ((↑v.s.size : Int) ≤ 1048576) then some (Value.bool (units_Valid.val (v.s.size + 1) v.s 0 0)) else none) else some (Value.bool false)) else 
                (bif v.k == 6 then 
                 (bif decide (v.id ≥ 1) then some (Value.bool (decide (v.id ≤ 65536))) else some (Value.bool false)) else 
                 (bif v.k == 7 then 
                  (bif decide (v.id ≥ 1) then some (Value.bool (decide (v.id ≤ 65536))) else some (Value.bool false)) else some (Value.bool true))))) else 
              (bif v.k == 5 then 
               (bif decide ((↑v.s.size : Int) ≤ 1048576) then 
                (bif decide ((↑v.s.size : Int) ≤ 1048576) then some (Value.bool (units_Valid.val (v.s.size + 1) v.s 0 0)) else none) else some (Value.bool false)) else 
               (bif v.k == 6 then 
                (bif decide (v.id ≥ 1) then some (Value.bool (decide (v.id ≤ 65536))) else some (Value.bool false)) else 
                (bif v.k == 7 then 
                 (bif decide (v.id ≥ 1) then some (Value.bool (decide (v.id ≤ 65536))) else some (Value.bool false)) else some (Value.bool true))))) else 
             (bif v.k == 5 then 
              (bif decide ((↑v.s.size : Int) ≤ 1048576) then 
               (bif decide ((↑v.s.size : Int) ≤ 1048576) then some (Value.bool (units_Valid.val (v.s.size + 1) v.s 0 0)) else none) else some (Value.bool false)) else 
              (bif v.k == 6 then 
               (bif decide (v.id ≥ 1) then some (Value.bool (decide (v.id ≤ 65536))) else some (Value.bool false)) else 
               (bif v.k == 7 then 
                (bif decide (v.id ≥ 1) then some (Value.bool (decide (v.id ≤ 65536))) else some (Value.bool false)) else some (Value.bool true)))))) else 
           (bif v.k != 6 then 
            (bif v.k != 7 then 
             (bif v.id != 0 then some (Value.bool false) else 
              (bif v.k == 5 then 
               (bif decide ((↑v.s.size : Int) ≤ 1048576) then 
                (bif decide ((↑v.s.size : Int) ≤ 1048576) then some (Value.bool (units_Valid.val (v.s.size + 1) v.s 0 0)) else none) else some (Value.bool false)) else 
               (bif v.k == 6 then 
                (bif decide (v.id ≥ 1) then some (Value.bool (decide (v.id ≤ 65536))) else some (Value.bool false)) else 
                (bif v.k == 7 then 
                 (bif decide (v.id ≥ 1) then some (Value.bool (decide (v.id ≤ 65536))) else some (Value.bool false)) else some (Value.bool true))))) else 
             (bif v.k == 5 then 
              (bif decide ((↑v.s.size : Int) ≤ 1048576) then 
               (bif decide ((↑v.s.size : Int) ≤ 1048576) then some (Value.bool (units_Valid.val (v.s.size + 1) v.s 0 0)) else none) else some (Value.bool false)) else 
              (bif v.k == 6 then 
               (bif decide (v.id ≥ 1) then some (Value.bool (decide (v.id ≤ 65536))) else some (Value.bool false)) else 
               (bif v.k == 7 then 
                (bif decide (v.id ≥ 1) then some (Value.bool (decide (v.id ≤ 65536))) else some (Value.bool false)) else some (Value.bool true))))) else 
            (bif v.k == 5 then 
             (bif decide ((↑v.s.size : Int) ≤ 1048576) then 
              (bif decide ((↑v.s.size : Int) ≤ 1048576) then some (Value.bool (units_Valid.val (v.s.size + 1) v.s 0 0)) else none) else some (Value.bool false)) else 
             (bif v.k == 6 then 
              (bif decide (v.id ≥ 1) then some (Value.bool (decide (v.id ≤ 65536))) else some (Value.bool false)) else 
              (bif v.k == 7 then 
               (bif decide (v.id ≥ 1) then some (Value.bool (decide (v.id ≤ 65536))) else some (Value.bool false)) else some (Value.bool true)))))))) else 
        (bif v.k != 5 then 
         (bif !v.s.toList == (ByteArray.mk #[]).toList then some (Value.bool false) else 
          (bif v.k != 6 then 
           (bif v.k != 7 then 
            (bif v.id != 0 then some (Value.bool false) else 
             (bif v.k == 5 then 
              (bif decide ((↑v.s.size : Int) ≤ 1048576) then 
               (bif decide ((↑v.s.size : Int) ≤ 1048576) then some (Value.bool (units_Valid.val (v.s.size + 1) v.s 0 0)) else none) else some (Value.bool false)) else 
              (bif v.k == 6 then 
               (bif decide (v.id ≥ 1) then some (Value.bool (decide (v.id ≤ 65536))) else some (Value.bool false)) else 
               (bif v.k == 7 then 
                (bif decide (v.id ≥ 1) then some (Value.bool (decide (v.id ≤ 65536))) else some (Value.bool false)) else some (Value.bool true))))) else 
            (bif v.k == 5 then 
             (bif decide ((↑v.s.size : Int) ≤ 1048576) then 
              (bif decide ((↑v.s.size : Int) ≤ 1048576) then some (Value.bool (units_Valid.val (v.s.size + 1) v.s 0 0)) else none) else some (Value.bool false)) else 
             (bif v.k == 6 then 
              (bif decide (v.id ≥ 1) then some (Value.bool (decide (v.id ≤ 65536))) else some (Value.bool false)) else 
              (bif v.k == 7 then 
               (bif decide (v.id ≥ 1) then some (Value.bool (decide (v.id ≤ 65536))) else some (Value.bool false)) else some (Value.bool true))))) else 
           (bif v.k == 5 then 
            (bif decide ((↑v.s.size : Int) ≤ 1048576) then 
             (bif decide ((↑v.s.size : Int) ≤ 1048576) then some (Value.bool (units_Valid.val (v.s.size + 1) v.s 0 0)) else none) else some (Value.bool false)) else 
            (bif v.k == 6 then 
             (bif decide (v.id ≥ 1) then some (Value.bool (decide (v.id ≤ 65536))) else some (Value.bool false)) else 
             (bif v.k == 7 then 
              (bif decide (v.id ≥ 1) then some (Value.bool (decide (v.id ≤ 65536))) else some (Value.bool false)) else some (Value.bool true)))))) else 
         (bif v.k != 6 then 
          (bif v.k != 7 then 
           (bif v.id != 0 then some (Value.bool false) else 
            (bif v.k == 5 then 
             (bif decide ((↑v.s.size : Int) ≤ 1048576) then 
              (bif decide ((↑v.s.size : Int) ≤ 1048576) then some (Value.bool (units_Valid.val (v.s.size + 1) v.s 0 0)) else none) else some (Value.bool false)) else 
             (bif v.k == 6 then 
              (bif decide (v.id ≥ 1) then some (Value.bool (decide (v.id ≤ 65536))) else some (Value.bool false)) else 
              (bif v.k == 7 then 
               (bif decide (v.id ≥ 1) then some (Value.bool (decide (v.id ≤ 65536))) else some (Value.bool false)) else some (Value.bool true))))) else 
           (bif v.k == 5 then 
            (bif decide ((↑v.s.size : Int) ≤ 1048576) then 
             (bif decide ((↑v.s.size : Int) ≤ 1048576) then some (Value.bool (units_Valid.val (v.s.size + 1) v.s 0 0)) else none) else some (Value.bool false)) else 
            (bif v.k == 6 then 
             (bif decide (v.id ≥ 1) then some (Value.bool (decide (v.id ≤ 65536))) else some (Value.bool false)) else 
             (bif v.k == 7 then 
              (bif decide (v.id ≥ 1) then some (Value.bool (decide (v.id ≤ 65536))) else some (Value.bool false)) else some (Value.bool true))))) else 
          (bif v.k == 5 then 
           (bif decide ((↑v.s.size : Int) ≤ 1048576) then 
            (bif decide ((↑v.s.size : Int) ≤ 1048576) then some (Value.bool (units_Valid.val (v.s.size + 1) v.s 0 0)) else none) else some (Value.bool false)) else 
           (bif v.k == 6 then 
            (bif decide (v.id ≥ 1) then some (Value.bool (decide (v.id ≤ 65536))) else some (Value.bool false)) else 
            (bif v.k == 7 then 
             (bif decide (v.id ≥ 1) then some (Value.bool (decide (v.id ≤ 65536))) else some (Value.bool false)) else some (Value.bool true))))))))))) (by kernel_rfl) (by
    simp only [T.rgood, T.B, DT.val_node, DT.val_leaf, DT.val_bad, DT.bind]
    repeat' (first | (with_reducible refine bif_neq (fun h => ?_) (fun h => ?_)) | (with_reducible refine bif_and (fun h => ?_) (fun h => ?_)) | (with_reducible refine bif_eq (fun h => ?_) (fun h => ?_)))
    all_goals first | (simp only [*, R.good, R.neg0, S.emp, cond_true, cond_false, Bool.and_true, Bool.true_and, Bool.and_false, Bool.false_and, Bool.or_true, Bool.true_or, Bool.or_false, Bool.false_or, Bool.not_true, Bool.not_false, beq_self_eq_true, bne_self_eq_false, Bool.not_not]; done) | (exfalso; simp_all [R.good, R.neg0, S.emp, Op.floatEq, leafIn.strOk, leafIn.idOk, szle, FloatEq.div_some', FloatEq.div_none']; done) | (simp_all [R.good, R.neg0, S.emp, Op.floatEq, leafIn.strOk, leafIn.idOk, szle, FloatEq.div_some', FloatEq.div_none']; done) | (simp_all [R.good, R.neg0, S.emp, Op.floatEq, leafIn.strOk, leafIn.idOk, szle, FloatEq.div_some', FloatEq.div_none']; omega) | grind [R.good, R.neg0, S.emp])
theorem ent_rgood : E (23, onV T.rgood) := byEv Jents4 60 fun args t h => by
  obtain ⟨v, rfl, rfl⟩ := onV_eq h
  exact ev_rgood v
abbrev JL5 : Tab := (23, onV T.rgood) :: JL4
theorem Jents5 : ∀ p ∈ JL5, E p := entries_cons ent_rgood Jents4
set_option maxHeartbeats 4000000 in
theorem ev_rslot (v : V) : evFn Tryd.prog ext (tab JL5) 40 38 [v.agg] = (T.rslot v).val :=
  Eq.trans (b := 
    (bif R.good v then 
     (bif v.k == 1 then some (Value.bool true) else some (Value.bool (v.k == 7))) else some (Value.bool false))) (by kernel_rfl) (by
    simp only [T.rslot, T.B, DT.val_node, DT.val_leaf, DT.val_bad, DT.bind]
    repeat' (first | (with_reducible refine bif_neq (fun h => ?_) (fun h => ?_)) | (with_reducible refine bif_and (fun h => ?_) (fun h => ?_)) | (with_reducible refine bif_eq (fun h => ?_) (fun h => ?_)))
    all_goals first | (simp only [*, R.slot, cond_true, cond_false, Bool.and_true, Bool.true_and, Bool.and_false, Bool.false_and, Bool.or_true, Bool.true_or, Bool.or_false, Bool.false_or, Bool.not_true, Bool.not_false, beq_self_eq_true, bne_self_eq_false, Bool.not_not]; done) | (exfalso; simp_all [R.slot]; done) | (simp_all [R.slot]; done) | grind [R.slot])
theorem ent_rslot : E (38, onV T.rslot) := byEv Jents5 40 fun args t h => by
  obtain ⟨v, rfl, rfl⟩ := onV_eq h
  exact ev_rslot v
abbrev JL6 : Tab := (38, onV T.rslot) :: JL5
theorem Jents6 : ∀ p ∈ JL6, E p := entries_cons ent_rslot Jents5
set_option maxHeartbeats 4000000 in
theorem ev_rcheck (d : D) : evFn Tryd.prog ext (tab JL6) 40 22 [d.agg] = (T.rcheck d).val :=
  Eq.trans (b := 
    (bif !S.absent d.v then 
     (bif !R.good d.v then some (Value.bool false) else 
      (bif !S.absent d.g then 
       (bif !R.slot d.g then some (Value.bool false) else 
        (bif !S.absent d.t then 
         (bif !R.slot d.t then some (Value.bool false) else 
          (bif !S.tri d.w then some (Value.bool false) else 
           (bif !S.tri d.e then some (Value.bool false) else 
            (bif !S.tri d.c then some (Value.bool false) else 
             (bif S.there d.v then 
              (bif S.there d.g then some (Value.bool !true) else some (Value.bool !S.there d.t)) else 
              (bif d.w != 0 then 
               (bif S.there d.g then some (Value.bool !true) else some (Value.bool !S.there d.t)) else some (Value.bool !false))))))) else 
         (bif !S.tri d.w then some (Value.bool false) else 
          (bif !S.tri d.e then some (Value.bool false) else 
           (bif !S.tri d.c then some (Value.bool false) else 
            (bif S.there d.v then 
             (bif S.there d.g then some (Value.bool !true) else some (Value.bool !S.there d.t)) else 
             (bif d.w != 0 then 
              (bif S.there d.g then some (Value.bool !true) else some (Value.bool !S.there d.t)) else some (Value.bool !false)))))))) else 
       (bif !S.absent d.t then 
        (bif !R.slot d.t then some (Value.bool false) else 
         (bif !S.tri d.w then some (Value.bool false) else 
          (bif !S.tri d.e then some (Value.bool false) else 
           (bif !S.tri d.c then some (Value.bool false) else 
            (bif S.there d.v then 
             (bif S.there d.g then some (Value.bool !true) else some (Value.bool !S.there d.t)) else 
             (bif d.w != 0 then 
              (bif S.there d.g then some (Value.bool !true) else some (Value.bool !S.there d.t)) else some (Value.bool !false))))))) else 
        (bif !S.tri d.w then some (Value.bool false) else 
         (bif !S.tri d.e then some (Value.bool false) else 
          (bif !S.tri d.c then some (Value.bool false) else 
           (bif S.there d.v then 
            (bif S.there d.g then some (Value.bool !true) else some (Value.bool !S.there d.t)) else 
            (bif d.w != 0 then 
             (bif S.there d.g then some (Value.bool !true) else some (Value.bool !S.there d.t)) else some (Value.bool !false))))))))) else 
     (bif !S.absent d.g then 
      (bif !R.slot d.g then some (Value.bool false) else 
       (bif !S.absent d.t then 
        (bif !R.slot d.t then some (Value.bool false) else 
         (bif !S.tri d.w then some (Value.bool false) else 
          (bif !S.tri d.e then some (Value.bool false) else 
           (bif !S.tri d.c then some (Value.bool false) else 
            (bif S.there d.v then 
             (bif S.there d.g then some (Value.bool !true) else some (Value.bool !S.there d.t)) else 
             (bif d.w != 0 then 
              (bif S.there d.g then some (Value.bool !true) else some (Value.bool !S.there d.t)) else some (Value.bool !false))))))) else 
        (bif !S.tri d.w then some (Value.bool false) else 
         (bif !S.tri d.e then some (Value.bool false) else 
          (bif !S.tri d.c then some (Value.bool false) else 
           (bif S.there d.v then 
            (bif S.there d.g then some (Value.bool !true) else some (Value.bool !S.there d.t)) else 
            (bif d.w != 0 then 
             (bif S.there d.g then some (Value.bool !true) else some (Value.bool !S.there d.t)) else some (Value.bool !false)))))))) else 
      (bif !S.absent d.t then 
       (bif !R.slot d.t then some (Value.bool false) else 
        (bif !S.tri d.w then some (Value.bool false) else 
         (bif !S.tri d.e then some (Value.bool false) else 
          (bif !S.tri d.c then some (Value.bool false) else 
           (bif S.there d.v then 
            (bif S.there d.g then some (Value.bool !true) else some (Value.bool !S.there d.t)) else 
            (bif d.w != 0 then 
             (bif S.there d.g then some (Value.bool !true) else some (Value.bool !S.there d.t)) else some (Value.bool !false))))))) else 
       (bif !S.tri d.w then some (Value.bool false) else 
        (bif !S.tri d.e then some (Value.bool false) else 
         (bif !S.tri d.c then some (Value.bool false) else 
          (bif S.there d.v then 
           (bif S.there d.g then some (Value.bool !true) else some (Value.bool !S.there d.t)) else 
           (bif d.w != 0 then 
            (bif S.there d.g then some (Value.bool !true) else some (Value.bool !S.there d.t)) else some (Value.bool !false)))))))))) (by kernel_rfl) (by
    simp only [T.rcheck, T.B, DT.val_node, DT.val_leaf, DT.val_bad, DT.bind]
    repeat' (first | (with_reducible refine bif_neq (fun h => ?_) (fun h => ?_)) | (with_reducible refine bif_and (fun h => ?_) (fun h => ?_)) | (with_reducible refine bif_eq (fun h => ?_) (fun h => ?_)))
    all_goals first | (simp only [*, R.check, S.hasD, S.hasA, cond_true, cond_false, Bool.and_true, Bool.true_and, Bool.and_false, Bool.false_and, Bool.or_true, Bool.true_or, Bool.or_false, Bool.false_or, Bool.not_true, Bool.not_false, beq_self_eq_true, bne_self_eq_false, Bool.not_not]; done) | (exfalso; simp_all [R.check, S.hasD, S.hasA]; done) | (simp_all [R.check, S.hasD, S.hasA]; done) | grind [R.check, S.hasD, S.hasA])
theorem ent_rcheck : E (22, onD T.rcheck) := byEv Jents6 40 fun args t h => by
  obtain ⟨d, rfl, rfl⟩ := onD_eq h
  exact ev_rcheck d
abbrev JL7 : Tab := (22, onD T.rcheck) :: JL6
theorem Jents7 : ∀ p ∈ JL7, E p := entries_cons ent_rcheck Jents6
end Go.Proofs.YtlliefodchfpfaaDoor.PDescKinds
