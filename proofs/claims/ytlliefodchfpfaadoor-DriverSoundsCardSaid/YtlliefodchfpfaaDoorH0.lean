/- Contracts by evaluation: what each function of a list answers. Written by a program of this session. -/
import Derived.Test.YtlliefodchfpfaaDoorG2
import Derived.Test.YtlliefodchfpfaaDoorP3
namespace Go.Proofs.YtlliefodchfpfaaDoor.PDescKinds
open Go.RowKit Go.Ev
set_option linter.unusedSimpArgs false
set_option linter.unusedVariables false
set_option maxRecDepth 100000
abbrev HL0 : Tab := [(17, onV T.good)]
theorem Hents0 : ∀ p ∈ HL0, E p := entries_cons (ent_good) (entries_nil)
set_option maxHeartbeats 4000000 in
theorem ev_absent (v : V) : evFn Tryd.prog ext (tab HL0) 40 52 [v.agg] = (T.absent v).val :=
  Eq.trans (b := 
    (bif v.k == 0 && (v.b == false && (Op.floatEq FloatKind.f64 v.n 0 && (v.s == ByteArray.mk #[] && (v.id == 0 && true)))) then 
     (bif (Ieee.double.div 4607182418800017408 v.n).isSome then some (Value.bool (FloatKind.f64.format.order ((Ieee.double.div 4607182418800017408 v.n).getD 0) 0 == some Ordering.gt)) else none) else some (Value.bool false))) (by kernel_rfl) (by
    simp only [T.absent, T.B, DT.val_leaf]
    refine bif_eq (fun h => ?_) (fun h => ?_)
    · have hd := FloatEq.div_isSome (n := v.n) (by simp only [Bool.and_eq_true] at h; exact h.2.2.1)
      refine bif_eq (fun _ => ?_) (fun h2 => absurd (hd.symm.trans h2) (by simp))
      show _ = some (Value.bool (S.isV0 v && S.pos v.n))
      rw [show S.isV0 v = true from h]
      rfl
    · show _ = some (Value.bool (S.isV0 v && S.pos v.n))
      rw [show S.isV0 v = false from h]
      rfl)
theorem ent_absent : E (52, onV T.absent) := byEv Hents0 40 fun args t h => by
  obtain ⟨v, rfl, rfl⟩ := onV_eq h
  exact ev_absent v
abbrev HL1 : Tab := (52, onV T.absent) :: HL0
theorem Hents1 : ∀ p ∈ HL1, E p := entries_cons ent_absent Hents0
set_option maxHeartbeats 4000000 in
theorem ev_callable (v : V) : evFn Tryd.prog ext (tab HL1) 40 53 [v.agg] = (T.callable v).val :=
  Eq.trans (b := 
    (bif S.absent v then some (Value.bool true) else 
     (bif S.good v then 
      (bif v.k == 1 then some (Value.bool true) else some (Value.bool (v.k == 7))) else some (Value.bool false)))) (by kernel_rfl) (by
    simp only [T.callable, T.B, DT.val_node, DT.val_leaf, DT.bind, DT.val_bad]
    repeat' (first | (with_reducible refine bif_neq (fun h => ?_) (fun h => ?_)) | (with_reducible refine bif_and (fun h => ?_) (fun h => ?_)) | (with_reducible refine bif_eq (fun h => ?_) (fun h => ?_)))
    all_goals first | (simp only [*, S.callable, cond_true, cond_false, Bool.and_true, Bool.true_and, Bool.and_false, Bool.false_and, Bool.or_true, Bool.true_or, Bool.or_false, Bool.false_or, Bool.not_true, Bool.not_false, beq_self_eq_true, bne_self_eq_false, Bool.not_not]; done) | (exfalso; simp_all; done) | (simp_all [S.callable]; done) | grind [S.callable])
theorem ent_callable : E (53, onV T.callable) := byEv Hents1 40 fun args t h => by
  obtain ⟨v, rfl, rfl⟩ := onV_eq h
  exact ev_callable v
abbrev HL2 : Tab := (53, onV T.callable) :: HL1
theorem Hents2 : ∀ p ∈ HL2, E p := entries_cons ent_callable Hents1
set_option maxHeartbeats 4000000 in
theorem ev_tri (t : Int) : evFn Tryd.prog ext (tab HL2) 40 54 [.int .i64 t] = (T.tri t).val :=
  Eq.trans (b := 
    (bif decide (t ≥ 0) then some (Value.bool (decide (t ≤ 2))) else some (Value.bool false))) (by kernel_rfl) (by
    simp only [T.tri, T.B, DT.val_node, DT.val_leaf, DT.bind, DT.val_bad]
    repeat' (first | (with_reducible refine bif_neq (fun h => ?_) (fun h => ?_)) | (with_reducible refine bif_and (fun h => ?_) (fun h => ?_)) | (with_reducible refine bif_eq (fun h => ?_) (fun h => ?_)))
    all_goals first | (simp only [*, S.tri, cond_true, cond_false, Bool.and_true, Bool.true_and, Bool.and_false, Bool.false_and, Bool.or_true, Bool.true_or, Bool.or_false, Bool.false_or, Bool.not_true, Bool.not_false, beq_self_eq_true, bne_self_eq_false, Bool.not_not]; done) | (exfalso; simp_all; done) | (simp_all [S.tri]; done) | grind [S.tri])
theorem ent_tri : E (54, onI T.tri) := byEv Hents2 40 fun args t h => by
  obtain ⟨t, rfl, rfl⟩ := onI_eq h
  exact ev_tri t
abbrev HL3 : Tab := (54, onI T.tri) :: HL2
theorem Hents3 : ∀ p ∈ HL3, E p := entries_cons ent_tri Hents2
set_option maxHeartbeats 4000000 in
theorem ev_kind (d : D) : evFn Tryd.prog ext (tab HL3) 40 33 [d.agg] = (T.kind d).val :=
  Eq.trans (b := 
    (bif !S.absent d.v then 
     (bif S.good d.v then 
      (bif !S.callable d.g then some (Value.tuple #[Value.int IntKind.i64 0, Value.bool false]) else 
       (bif !S.callable d.t then some (Value.tuple #[Value.int IntKind.i64 0, Value.bool false]) else 
        (bif !S.tri d.w then some (Value.tuple #[Value.int IntKind.i64 0, Value.bool false]) else 
         (bif !S.tri d.e then some (Value.tuple #[Value.int IntKind.i64 0, Value.bool false]) else 
          (bif !S.tri d.c then some (Value.tuple #[Value.int IntKind.i64 0, Value.bool false]) else 
           (bif d.g.k != 0 then 
            (bif d.v.k != 0 then some (Value.tuple #[Value.int IntKind.i64 1, Value.bool !true]) else 
             (bif d.w != 0 then some (Value.tuple #[Value.int IntKind.i64 1, Value.bool !true]) else some (Value.tuple #[Value.int IntKind.i64 2, Value.bool true]))) else 
            (bif d.v.k != 0 then some (Value.tuple #[Value.int IntKind.i64 1, Value.bool !d.t.k != 0]) else 
             (bif d.w != 0 then some (Value.tuple #[Value.int IntKind.i64 1, Value.bool !d.t.k != 0]) else 
              (bif d.t.k != 0 then some (Value.tuple #[Value.int IntKind.i64 2, Value.bool true]) else some (Value.tuple #[Value.int IntKind.i64 0, Value.bool true])))))))))) else some (Value.tuple #[Value.int IntKind.i64 0, Value.bool false])) else 
     (bif !S.callable d.g then some (Value.tuple #[Value.int IntKind.i64 0, Value.bool false]) else 
      (bif !S.callable d.t then some (Value.tuple #[Value.int IntKind.i64 0, Value.bool false]) else 
       (bif !S.tri d.w then some (Value.tuple #[Value.int IntKind.i64 0, Value.bool false]) else 
        (bif !S.tri d.e then some (Value.tuple #[Value.int IntKind.i64 0, Value.bool false]) else 
         (bif !S.tri d.c then some (Value.tuple #[Value.int IntKind.i64 0, Value.bool false]) else 
          (bif d.g.k != 0 then 
           (bif d.v.k != 0 then some (Value.tuple #[Value.int IntKind.i64 1, Value.bool !true]) else 
            (bif d.w != 0 then some (Value.tuple #[Value.int IntKind.i64 1, Value.bool !true]) else some (Value.tuple #[Value.int IntKind.i64 2, Value.bool true]))) else 
           (bif d.v.k != 0 then some (Value.tuple #[Value.int IntKind.i64 1, Value.bool !d.t.k != 0]) else 
            (bif d.w != 0 then some (Value.tuple #[Value.int IntKind.i64 1, Value.bool !d.t.k != 0]) else 
             (bif d.t.k != 0 then some (Value.tuple #[Value.int IntKind.i64 2, Value.bool true]) else some (Value.tuple #[Value.int IntKind.i64 0, Value.bool true])))))))))))) (by kernel_rfl) (by
    simp only [T.kind, DT.val_node, DT.val_leaf, DT.bind, DT.val_bad]
    repeat' (first | (with_reducible refine bif_neq (fun h => ?_) (fun h => ?_)) | (with_reducible refine bif_and (fun h => ?_) (fun h => ?_)) | (with_reducible refine bif_eq (fun h => ?_) (fun h => ?_)))
    all_goals first | (simp only [*, S.check, S.fields, S.hasD, S.hasA, S.there, cond_true, cond_false, Bool.and_true, Bool.true_and, Bool.and_false, Bool.false_and, Bool.or_true, Bool.true_or, Bool.or_false, Bool.false_or, Bool.not_true, Bool.not_false, beq_self_eq_true, bne_self_eq_false, Bool.not_not]; done) | (exfalso; simp_all; done) | (simp_all [S.check, S.fields, S.hasD, S.hasA, S.there]; done) | grind [S.check, S.fields, S.hasD, S.hasA, S.there])
theorem ent_kind : E (33, onD T.kind) := byEv Hents3 40 fun args t h => by
  obtain ⟨d, rfl, rfl⟩ := onD_eq h
  exact ev_kind d
abbrev HL4 : Tab := (33, onD T.kind) :: HL3
theorem Hents4 : ∀ p ∈ HL4, E p := entries_cons ent_kind Hents3
set_option maxHeartbeats 4000000 in
theorem ev_check (d : D) : evFn Tryd.prog ext (tab HL4) 40 16 [d.agg] = (T.check d).val :=
  Eq.trans (b := 
    (bif S.check d then 
     (bif S.hasD d then some (Value.int IntKind.i64 0) else 
      (bif S.hasA d then some (Value.int IntKind.i64 0) else some (Value.int IntKind.i64 0))) else 
     (bif S.fields d then some (Value.int IntKind.i64 5) else some (Value.int IntKind.i64 5)))) (by kernel_rfl) (by
    simp only [T.check, T.err, DT.val_node, DT.val_leaf, DT.bind, DT.val_bad]
    repeat' (first | (with_reducible refine bif_neq (fun h => ?_) (fun h => ?_)) | (with_reducible refine bif_and (fun h => ?_) (fun h => ?_)) | (with_reducible refine bif_eq (fun h => ?_) (fun h => ?_)))
    all_goals first | (simp only [*, cond_true, cond_false, Bool.and_true, Bool.true_and, Bool.and_false, Bool.false_and, Bool.or_true, Bool.true_or, Bool.or_false, Bool.false_or, Bool.not_true, Bool.not_false, beq_self_eq_true, bne_self_eq_false, Bool.not_not]; done) | (exfalso; simp_all; done) | (simp_all []; done) | grind [])
theorem ent_check : E (16, onD T.check) := byEv Hents4 40 fun args t h => by
  obtain ⟨d, rfl, rfl⟩ := onD_eq h
  exact ev_check d
abbrev HL5 : Tab := (16, onD T.check) :: HL4
theorem Hents5 : ∀ p ∈ HL5, E p := entries_cons ent_check Hents4
set_option maxHeartbeats 4000000 in
theorem ev_isG (d : D) : evFn Tryd.prog ext (tab HL5) 40 19 [d.agg] = (T.isG d).val :=
  Eq.trans (b := 
    (bif S.check d then 
     (bif S.hasD d then some (Value.bool (1 == 0)) else 
      (bif S.hasA d then some (Value.bool (2 == 0)) else some (Value.bool (0 == 0)))) else 
     (bif S.fields d then some (Value.bool false) else some (Value.bool false)))) (by kernel_rfl) (by
    simp only [T.isG, T.B, DT.val_node, DT.val_leaf, DT.bind, DT.val_bad]
    repeat' (first | (with_reducible refine bif_neq (fun h => ?_) (fun h => ?_)) | (with_reducible refine bif_and (fun h => ?_) (fun h => ?_)) | (with_reducible refine bif_eq (fun h => ?_) (fun h => ?_)))
    all_goals first | (simp only [*, S.isG, cond_true, cond_false, Bool.and_true, Bool.true_and, Bool.and_false, Bool.false_and, Bool.or_true, Bool.true_or, Bool.or_false, Bool.false_or, Bool.not_true, Bool.not_false, beq_self_eq_true, bne_self_eq_false, Bool.not_not]; done) | (exfalso; simp_all; done) | (simp_all [S.isG]; done) | grind [S.isG])
theorem ent_isG : E (19, onD T.isG) := byEv Hents5 40 fun args t h => by
  obtain ⟨d, rfl, rfl⟩ := onD_eq h
  exact ev_isG d
abbrev HL6 : Tab := (19, onD T.isG) :: HL5
theorem Hents6 : ∀ p ∈ HL6, E p := entries_cons ent_isG Hents5
set_option maxHeartbeats 4000000 in
theorem ev_isA (d : D) : evFn Tryd.prog ext (tab HL6) 40 63 [d.agg] = (T.isA d).val :=
  Eq.trans (b := 
    (bif S.check d then 
     (bif S.hasD d then some (Value.bool (1 == 2)) else 
      (bif S.hasA d then some (Value.bool (2 == 2)) else some (Value.bool (0 == 2)))) else 
     (bif S.fields d then some (Value.bool false) else some (Value.bool false)))) (by kernel_rfl) (by
    simp only [T.isA, T.B, DT.val_node, DT.val_leaf, DT.bind, DT.val_bad]
    repeat' (first | (with_reducible refine bif_neq (fun h => ?_) (fun h => ?_)) | (with_reducible refine bif_and (fun h => ?_) (fun h => ?_)) | (with_reducible refine bif_eq (fun h => ?_) (fun h => ?_)))
    all_goals first | (simp only [*, S.isA, cond_true, cond_false, Bool.and_true, Bool.true_and, Bool.and_false, Bool.false_and, Bool.or_true, Bool.true_or, Bool.or_false, Bool.false_or, Bool.not_true, Bool.not_false, beq_self_eq_true, bne_self_eq_false, Bool.not_not]; done) | (exfalso; simp_all; done) | (simp_all [S.isA]; done) | grind [S.isA])
theorem ent_isA : E (63, onD T.isA) := byEv Hents6 40 fun args t h => by
  obtain ⟨d, rfl, rfl⟩ := onD_eq h
  exact ev_isA d
abbrev HL7 : Tab := (63, onD T.isA) :: HL6
theorem Hents7 : ∀ p ∈ HL7, E p := entries_cons ent_isA Hents6
set_option maxHeartbeats 4000000 in
theorem ev_eqV (a b : V) : evFn Tryd.prog ext (tab HL7) 40 46 [a.agg, b.agg] = (T.eqV a b).val :=
  Eq.trans (b := 
    (bif (↑a.n : Int) == (↑b.n : Int) then 
     (bif a.k == b.k then 
      (bif a.b == b.b then 
       (bif a.s.toList == b.s.toList then some (Value.bool (a.id == b.id)) else some (Value.bool false)) else some (Value.bool false)) else some (Value.bool false)) else 
     (bif FloatKind.f64.format.order a.n a.n != some Ordering.eq then 
      (bif FloatKind.f64.format.order b.n b.n != some Ordering.eq then 
       (bif a.k == b.k then 
        (bif a.b == b.b then 
         (bif a.s.toList == b.s.toList then some (Value.bool (a.id == b.id)) else some (Value.bool false)) else some (Value.bool false)) else some (Value.bool false)) else some (Value.bool false)) else some (Value.bool false)))) (by kernel_rfl) (by
    simp only [T.eqV, T.B, DT.val_node, DT.val_leaf, DT.bind, DT.val_bad]
    repeat' (first | (with_reducible refine bif_neq (fun h => ?_) (fun h => ?_)) | (with_reducible refine bif_and (fun h => ?_) (fun h => ?_)) | (with_reducible refine bif_eq (fun h => ?_) (fun h => ?_)))
    all_goals first | (simp only [*, S.eqV, S.nan, cond_true, cond_false, Bool.and_true, Bool.true_and, Bool.and_false, Bool.false_and, Bool.or_true, Bool.true_or, Bool.or_false, Bool.false_or, Bool.not_true, Bool.not_false, beq_self_eq_true, bne_self_eq_false, Bool.not_not]; done) | (exfalso; simp_all; done) | (simp_all [S.eqV, S.nan]; done) | grind [S.eqV, S.nan])
theorem ent_eqV : E (46, onVV T.eqV) := byEv Hents7 40 fun args t h => by
  obtain ⟨a, b, rfl, rfl⟩ := onVV_eq h
  exact ev_eqV a b
abbrev HL8 : Tab := (46, onVV T.eqV) :: HL7
theorem Hents8 : ∀ p ∈ HL8, E p := entries_cons ent_eqV Hents7
set_option maxHeartbeats 4000000 in
theorem ev_eqD (a b : D) : evFn Tryd.prog ext (tab HL8) 40 47 [a.agg, b.agg] = (T.eqD a b).val :=
  Eq.trans (b := 
    (bif S.eqV a.v b.v then 
     (bif S.eqV a.g b.g then 
      (bif S.eqV a.t b.t then 
       (bif a.w == b.w then 
        (bif a.e == b.e then some (Value.bool (a.c == b.c)) else some (Value.bool false)) else some (Value.bool false)) else some (Value.bool false)) else some (Value.bool false)) else some (Value.bool false))) (by kernel_rfl) (by
    simp only [T.eqD, T.B, DT.val_node, DT.val_leaf, DT.bind, DT.val_bad]
    repeat' (first | (with_reducible refine bif_neq (fun h => ?_) (fun h => ?_)) | (with_reducible refine bif_and (fun h => ?_) (fun h => ?_)) | (with_reducible refine bif_eq (fun h => ?_) (fun h => ?_)))
    all_goals first | (simp only [*, S.eqD, cond_true, cond_false, Bool.and_true, Bool.true_and, Bool.and_false, Bool.false_and, Bool.or_true, Bool.true_or, Bool.or_false, Bool.false_or, Bool.not_true, Bool.not_false, beq_self_eq_true, bne_self_eq_false, Bool.not_not]; done) | (exfalso; simp_all; done) | (simp_all [S.eqD]; done) | grind [S.eqD])
theorem ent_eqD : E (47, onDD T.eqD) := byEv Hents8 40 fun args t h => by
  obtain ⟨a, b, rfl, rfl⟩ := onDD_eq h
  exact ev_eqD a b
abbrev HL9 : Tab := (47, onDD T.eqD) :: HL8
theorem Hents9 : ∀ p ∈ HL9, E p := entries_cons ent_eqD Hents8
end Go.Proofs.YtlliefodchfpfaaDoor.PDescKinds
