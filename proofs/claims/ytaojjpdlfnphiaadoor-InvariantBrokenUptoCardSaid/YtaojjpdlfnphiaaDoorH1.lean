/- Contracts by evaluation: what each function of a list answers. Written by a program of this session. -/
import Derived.Test.YtaojjpdlfnphiaaDoorH0
namespace Go.Proofs.YtaojjpdlfnphiaaDoor.PDescKinds
open Go.RowKit Go.Ev
set_option linter.unusedSimpArgs false
set_option linter.unusedVariables false
set_option maxRecDepth 100000
set_option maxHeartbeats 4000000 in
theorem ev_complete (d : D) : evFn Tryd.prog ext (tab HL12) 60 12 [d.agg] = (T.complete d).val :=
  Eq.trans (b := 
    (bif S.check d then 
     (bif S.hasD d then 
      (bif !d.v.k != 0 then 
       (bif d.w == 0 then 
        (bif d.e == 0 then 
         (bif d.c == 0 then some (Value.tuple #[(D.mk (V.mk 1 false 0 (ByteArray.mk #[]) 0) d.g d.t 1 1 1).agg, Value.int IntKind.i64 0]) else some (Value.tuple #[(D.mk (V.mk 1 false 0 (ByteArray.mk #[]) 0) d.g d.t 1 1 d.c).agg, Value.int IntKind.i64 0])) else 
         (bif d.c == 0 then some (Value.tuple #[(D.mk (V.mk 1 false 0 (ByteArray.mk #[]) 0) d.g d.t 1 d.e 1).agg, Value.int IntKind.i64 0]) else some (Value.tuple #[(D.mk (V.mk 1 false 0 (ByteArray.mk #[]) 0) d.g d.t 1 d.e d.c).agg, Value.int IntKind.i64 0]))) else 
        (bif d.e == 0 then 
         (bif d.c == 0 then some (Value.tuple #[(D.mk (V.mk 1 false 0 (ByteArray.mk #[]) 0) d.g d.t d.w 1 1).agg, Value.int IntKind.i64 0]) else some (Value.tuple #[(D.mk (V.mk 1 false 0 (ByteArray.mk #[]) 0) d.g d.t d.w 1 d.c).agg, Value.int IntKind.i64 0])) else 
         (bif d.c == 0 then some (Value.tuple #[(D.mk (V.mk 1 false 0 (ByteArray.mk #[]) 0) d.g d.t d.w d.e 1).agg, Value.int IntKind.i64 0]) else some (Value.tuple #[(D.mk (V.mk 1 false 0 (ByteArray.mk #[]) 0) d.g d.t d.w d.e d.c).agg, Value.int IntKind.i64 0])))) else 
       (bif d.w == 0 then 
        (bif d.e == 0 then 
         (bif d.c == 0 then some (Value.tuple #[(D.mk d.v d.g d.t 1 1 1).agg, Value.int IntKind.i64 0]) else some (Value.tuple #[(D.mk d.v d.g d.t 1 1 d.c).agg, Value.int IntKind.i64 0])) else 
         (bif d.c == 0 then some (Value.tuple #[(D.mk d.v d.g d.t 1 d.e 1).agg, Value.int IntKind.i64 0]) else some (Value.tuple #[(D.mk d.v d.g d.t 1 d.e d.c).agg, Value.int IntKind.i64 0]))) else 
        (bif d.e == 0 then 
         (bif d.c == 0 then some (Value.tuple #[(D.mk d.v d.g d.t d.w 1 1).agg, Value.int IntKind.i64 0]) else some (Value.tuple #[(D.mk d.v d.g d.t d.w 1 d.c).agg, Value.int IntKind.i64 0])) else 
         (bif d.c == 0 then some (Value.tuple #[(D.mk d.v d.g d.t d.w d.e 1).agg, Value.int IntKind.i64 0]) else some (Value.tuple #[d.agg, Value.int IntKind.i64 0]))))) else 
      (bif S.hasA d then 
       (bif !d.g.k != 0 then 
        (bif !d.t.k != 0 then 
         (bif d.e == 0 then 
          (bif d.c == 0 then some (Value.tuple #[(D.mk d.v (V.mk 1 false 0 (ByteArray.mk #[]) 0) (V.mk 1 false 0 (ByteArray.mk #[]) 0) d.w 1 1).agg, Value.int IntKind.i64 0]) else some (Value.tuple #[(D.mk d.v (V.mk 1 false 0 (ByteArray.mk #[]) 0) (V.mk 1 false 0 (ByteArray.mk #[]) 0) d.w 1 d.c).agg, Value.int IntKind.i64 0])) else 
          (bif d.c == 0 then some (Value.tuple #[(D.mk d.v (V.mk 1 false 0 (ByteArray.mk #[]) 0) (V.mk 1 false 0 (ByteArray.mk #[]) 0) d.w d.e 1).agg, Value.int IntKind.i64 0]) else some (Value.tuple #[(D.mk d.v (V.mk 1 false 0 (ByteArray.mk #[]) 0) (V.mk 1 false 0 (ByteArray.mk #[]) 0) d.w d.e d.c).agg, Value.int IntKind.i64 0]))) else 
         (bif d.e == 0 then 
          (bif d.c == 0 then some (Value.tuple #[(D.mk d.v (V.mk 1 false 0 (ByteArray.mk #[]) 0) d.t d.w 1 1).agg, Value.int IntKind.i64 0]) else some (Value.tuple #[(D.mk d.v (V.mk 1 false 0 (ByteArray.mk #[]) 0) d.t d.w 1 d.c).agg, Value.int IntKind.i64 0])) else 
          (bif d.c == 0 then some (Value.tuple #[(D.mk d.v (V.mk 1 false 0 (ByteArray.mk #[]) 0) d.t d.w d.e 1).agg, Value.int IntKind.i64 0]) else some (Value.tuple #[(D.mk d.v (V.mk 1 false 0 (ByteArray.mk #[]) 0) d.t d.w d.e d.c).agg, Value.int IntKind.i64 0])))) else 
        (bif !d.t.k != 0 then 
         (bif d.e == 0 then 
          (bif d.c == 0 then some (Value.tuple #[(D.mk d.v d.g (V.mk 1 false 0 (ByteArray.mk #[]) 0) d.w 1 1).agg, Value.int IntKind.i64 0]) else some (Value.tuple #[(D.mk d.v d.g (V.mk 1 false 0 (ByteArray.mk #[]) 0) d.w 1 d.c).agg, Value.int IntKind.i64 0])) else 
          (bif d.c == 0 then some (Value.tuple #[(D.mk d.v d.g (V.mk 1 false 0 (ByteArray.mk #[]) 0) d.w d.e 1).agg, Value.int IntKind.i64 0]) else some (Value.tuple #[(D.mk d.v d.g (V.mk 1 false 0 (ByteArray.mk #[]) 0) d.w d.e d.c).agg, Value.int IntKind.i64 0]))) else 
         (bif d.e == 0 then 
          (bif d.c == 0 then some (Value.tuple #[(D.mk d.v d.g d.t d.w 1 1).agg, Value.int IntKind.i64 0]) else some (Value.tuple #[(D.mk d.v d.g d.t d.w 1 d.c).agg, Value.int IntKind.i64 0])) else 
          (bif d.c == 0 then some (Value.tuple #[(D.mk d.v d.g d.t d.w d.e 1).agg, Value.int IntKind.i64 0]) else some (Value.tuple #[d.agg, Value.int IntKind.i64 0]))))) else 
       (bif !d.v.k != 0 then 
        (bif d.w == 0 then 
         (bif d.e == 0 then 
          (bif d.c == 0 then some (Value.tuple #[(D.mk (V.mk 1 false 0 (ByteArray.mk #[]) 0) d.g d.t 1 1 1).agg, Value.int IntKind.i64 0]) else some (Value.tuple #[(D.mk (V.mk 1 false 0 (ByteArray.mk #[]) 0) d.g d.t 1 1 d.c).agg, Value.int IntKind.i64 0])) else 
          (bif d.c == 0 then some (Value.tuple #[(D.mk (V.mk 1 false 0 (ByteArray.mk #[]) 0) d.g d.t 1 d.e 1).agg, Value.int IntKind.i64 0]) else some (Value.tuple #[(D.mk (V.mk 1 false 0 (ByteArray.mk #[]) 0) d.g d.t 1 d.e d.c).agg, Value.int IntKind.i64 0]))) else 
         (bif d.e == 0 then 
          (bif d.c == 0 then some (Value.tuple #[(D.mk (V.mk 1 false 0 (ByteArray.mk #[]) 0) d.g d.t d.w 1 1).agg, Value.int IntKind.i64 0]) else some (Value.tuple #[(D.mk (V.mk 1 false 0 (ByteArray.mk #[]) 0) d.g d.t d.w 1 d.c).agg, Value.int IntKind.i64 0])) else 
          (bif d.c == 0 then some (Value.tuple #[(D.mk (V.mk 1 false 0 (ByteArray.mk #[]) 0) d.g d.t d.w d.e 1).agg, Value.int IntKind.i64 0]) else some (Value.tuple #[(D.mk (V.mk 1 false 0 (ByteArray.mk #[]) 0) d.g d.t d.w d.e d.c).agg, Value.int IntKind.i64 0])))) else 
        (bif d.w == 0 then 
         (bif d.e == 0 then 
          (bif d.c == 0 then some (Value.tuple #[(D.mk d.v d.g d.t 1 1 1).agg, Value.int IntKind.i64 0]) else some (Value.tuple #[(D.mk d.v d.g d.t 1 1 d.c).agg, Value.int IntKind.i64 0])) else 
          (bif d.c == 0 then some (Value.tuple #[(D.mk d.v d.g d.t 1 d.e 1).agg, Value.int IntKind.i64 0]) else some (Value.tuple #[(D.mk d.v d.g d.t 1 d.e d.c).agg, Value.int IntKind.i64 0]))) else 
         (bif d.e == 0 then 
          (bif d.c == 0 then some (Value.tuple #[(D.mk d.v d.g d.t d.w 1 1).agg, Value.int IntKind.i64 0]) else some (Value.tuple #[(D.mk d.v d.g d.t d.w 1 d.c).agg, Value.int IntKind.i64 0])) else 
          (bif d.c == 0 then some (Value.tuple #[(D.mk d.v d.g d.t d.w d.e 1).agg, Value.int IntKind.i64 0]) else some (Value.tuple #[d.agg, Value.int IntKind.i64 0]))))))) else 
     (bif S.fields d then some (Value.tuple #[(D.mk (V.mk 0 false 0 (ByteArray.mk #[]) 0) (V.mk 0 false 0 (ByteArray.mk #[]) 0) (V.mk 0 false 0 (ByteArray.mk #[]) 0) 0 0 0).agg, Value.int IntKind.i64 5]) else some (Value.tuple #[(D.mk (V.mk 0 false 0 (ByteArray.mk #[]) 0) (V.mk 0 false 0 (ByteArray.mk #[]) 0) (V.mk 0 false 0 (ByteArray.mk #[]) 0) 0 0 0).agg, Value.int IntKind.i64 5])))) (by kernel_rfl) (by
    simp only [T.complete, DT.val_node, DT.val_leaf, DT.bind, DT.val_bad]
    repeat' (first | (with_reducible refine bif_neq (fun h => ?_) (fun h => ?_)) | (with_reducible refine bif_and (fun h => ?_) (fun h => ?_)) | (with_reducible refine bif_eq (fun h => ?_) (fun h => ?_)))
    all_goals first | (simp only [*, S.complete, S.fill, S.no, S.there, S.VU, S.V0, S.D0, cond_true, cond_false, Bool.and_true, Bool.true_and, Bool.and_false, Bool.false_and, Bool.or_true, Bool.true_or, Bool.or_false, Bool.false_or, Bool.not_true, Bool.not_false, beq_self_eq_true, bne_self_eq_false, Bool.not_not]; done) | (exfalso; simp_all; done) | (simp_all [S.complete, S.fill, S.no, S.there, S.VU, S.V0, S.D0]; done) | grind [S.complete, S.fill, S.no, S.there, S.VU, S.V0, S.D0])
theorem ent_complete : E (12, onD T.complete) := byEv Hents12 60 fun args t h => by
  obtain ⟨d, rfl, rfl⟩ := onD_eq h
  exact ev_complete d
abbrev HL13 : Tab := (12, onD T.complete) :: HL12
theorem Hents13 : ∀ p ∈ HL13, E p := entries_cons ent_complete Hents12
set_option maxHeartbeats 4000000 in
theorem ev_alike (a b : V) : evFn Tryd.prog ext (tab HL13) 40 68 [a.agg, b.agg] = (T.alike a b).val :=
  Eq.trans (b := 
    (bif !a.k != 0 then some (Value.bool ((a.k != 0) == (b.k != 0))) else 
     (bif !b.k != 0 then some (Value.bool ((a.k != 0) == (b.k != 0))) else 
      (bif S.good a && S.good b then some (Value.bool (S.same a b)) else some (Value.bool false))))) (by kernel_rfl) (by
    simp only [T.alike, T.B, DT.val_node, DT.val_leaf, DT.bind, DT.val_bad]
    repeat' (first | (with_reducible refine bif_neq (fun h => ?_) (fun h => ?_)) | (with_reducible refine bif_and (fun h => ?_) (fun h => ?_)) | (with_reducible refine bif_eq (fun h => ?_) (fun h => ?_)))
    all_goals first | (simp only [*, S.alike, S.there, cond_true, cond_false, Bool.and_true, Bool.true_and, Bool.and_false, Bool.false_and, Bool.or_true, Bool.true_or, Bool.or_false, Bool.false_or, Bool.not_true, Bool.not_false, beq_self_eq_true, bne_self_eq_false, Bool.not_not]; done) | (exfalso; simp_all; done) | (simp_all [S.alike, S.there]; done) | grind [S.alike, S.there])
theorem ent_alike : E (68, onVV T.alike) := byEv Hents13 40 fun args t h => by
  obtain ⟨a, b, rfl, rfl⟩ := onVV_eq h
  exact ev_alike a b
abbrev HL14 : Tab := (68, onVV T.alike) :: HL13
theorem Hents14 : ∀ p ∈ HL14, E p := entries_cons ent_alike Hents13
set_option maxHeartbeats 4000000 in
theorem ev_equal (a b : D) : evFn Tryd.prog ext (tab HL14) 40 63 [a.agg, b.agg] = (T.equal a b).val :=
  Eq.trans (b := 
    (bif a.w == b.w then 
     (bif a.e == b.e then 
      (bif a.c == b.c then 
       (bif S.alike a.v b.v then 
        (bif S.alike a.g b.g then some (Value.bool (S.alike a.t b.t)) else some (Value.bool false)) else some (Value.bool false)) else some (Value.bool false)) else some (Value.bool false)) else some (Value.bool false))) (by kernel_rfl) (by
    simp only [T.equal, T.B, DT.val_node, DT.val_leaf, DT.bind, DT.val_bad]
    repeat' (first | (with_reducible refine bif_neq (fun h => ?_) (fun h => ?_)) | (with_reducible refine bif_and (fun h => ?_) (fun h => ?_)) | (with_reducible refine bif_eq (fun h => ?_) (fun h => ?_)))
    all_goals first | (simp only [*, S.equal, cond_true, cond_false, Bool.and_true, Bool.true_and, Bool.and_false, Bool.false_and, Bool.or_true, Bool.true_or, Bool.or_false, Bool.false_or, Bool.not_true, Bool.not_false, beq_self_eq_true, bne_self_eq_false, Bool.not_not]; done) | (exfalso; simp_all; done) | (simp_all [S.equal]; done) | grind [S.equal])
theorem ent_equal : E (63, onDD T.equal) := byEv Hents14 40 fun args t h => by
  obtain ⟨a, b, rfl, rfl⟩ := onDD_eq h
  exact ev_equal a b
abbrev HL15 : Tab := (63, onDD T.equal) :: HL14
theorem Hents15 : ∀ p ∈ HL15, E p := entries_cons ent_equal Hents14
set_option maxHeartbeats 4000000 in
theorem ev_whole (d : D) : evFn Tryd.prog ext (tab HL15) 40 25 [d.agg] = (T.whole d).val :=
  Eq.trans (b := 
    (bif S.check d then 
     (bif S.hasD d then 
      (bif S.check d then some (Value.bool (S.equal (S.complete d) d)) else some (Value.bool (S.equal S.D0 d))) else 
      (bif S.hasA d then 
       (bif S.check d then some (Value.bool (S.equal (S.complete d) d)) else some (Value.bool (S.equal S.D0 d))) else some (Value.bool false))) else 
     (bif S.fields d then some (Value.bool false) else some (Value.bool false)))) (by kernel_rfl) (by
    simp only [T.whole, T.B, DT.val_node, DT.val_leaf, DT.bind, DT.val_bad]
    repeat' (first | (with_reducible refine bif_neq (fun h => ?_) (fun h => ?_)) | (with_reducible refine bif_and (fun h => ?_) (fun h => ?_)) | (with_reducible refine bif_eq (fun h => ?_) (fun h => ?_)))
    all_goals first | (simp only [*, S.whole, cond_true, cond_false, Bool.and_true, Bool.true_and, Bool.and_false, Bool.false_and, Bool.or_true, Bool.true_or, Bool.or_false, Bool.false_or, Bool.not_true, Bool.not_false, beq_self_eq_true, bne_self_eq_false, Bool.not_not]; done) | (exfalso; simp_all; done) | (simp_all [S.whole]; done) | grind [S.whole])
theorem ent_whole : E (25, onD T.whole) := byEv Hents15 40 fun args t h => by
  obtain ⟨d, rfl, rfl⟩ := onD_eq h
  exact ev_whole d
abbrev HL16 : Tab := (25, onD T.whole) :: HL15
theorem Hents16 : ∀ p ∈ HL16, E p := entries_cons ent_whole Hents15
set_option maxHeartbeats 4000000 in
theorem ev_zero (d : D) : evFn Tryd.prog ext (tab HL16) 40 64 [d.agg] = (T.zero d).val :=
  Eq.trans (b := 
    (bif d.v.k == 0 && (d.v.b == false && (Op.floatEq FloatKind.f64 d.v.n 0 && (d.v.s == ByteArray.mk #[] && (d.v.id == 0 && true)))) && (d.g.k == 0 && (d.g.b == false && (Op.floatEq FloatKind.f64 d.g.n 0 && (d.g.s == ByteArray.mk #[] && (d.g.id == 0 && true)))) && (d.t.k == 0 && (d.t.b == false && (Op.floatEq FloatKind.f64 d.t.n 0 && (d.t.s == ByteArray.mk #[] && (d.t.id == 0 && true)))) && (d.w == 0 && (d.e == 0 && (d.c == 0 && true))))) then 
     (bif S.absent d.v then 
      (bif S.absent d.g then some (Value.bool (S.absent d.t)) else some (Value.bool false)) else some (Value.bool false)) else some (Value.bool false))) (by kernel_rfl) (by
    simp only [T.zero, T.B, DT.val_node, DT.val_leaf, DT.bind, DT.val_bad]
    repeat' (first | (with_reducible refine bif_neq (fun h => ?_) (fun h => ?_)) | (with_reducible refine bif_and (fun h => ?_) (fun h => ?_)) | (with_reducible refine bif_eq (fun h => ?_) (fun h => ?_)))
    all_goals first | (simp only [*, S.zero, S.isD0, cond_true, cond_false, Bool.and_true, Bool.true_and, Bool.and_false, Bool.false_and, Bool.or_true, Bool.true_or, Bool.or_false, Bool.false_or, Bool.not_true, Bool.not_false, beq_self_eq_true, bne_self_eq_false, Bool.not_not]; done) | (exfalso; simp_all; done) | (simp_all [S.zero, S.isD0]; done) | grind [S.zero, S.isD0])
theorem ent_zero : E (64, onD T.zero) := byEv Hents16 40 fun args t h => by
  obtain ⟨d, rfl, rfl⟩ := onD_eq h
  exact ev_zero d
abbrev HL17 : Tab := (64, onD T.zero) :: HL16
theorem Hents17 : ∀ p ∈ HL17, E p := entries_cons ent_zero Hents16
set_option maxHeartbeats 4000000 in
theorem ev_sameD (a b : D) : evFn Tryd.prog ext (tab HL17) 40 31 [a.agg, b.agg] = (T.sameD a b).val :=
  Eq.trans (b := 
    (bif S.check a then 
     (bif S.check b then some (Value.tuple #[Value.bool (S.equal a b), Value.int IntKind.i64 0]) else some (Value.tuple #[Value.bool false, Value.int IntKind.i64 5])) else some (Value.tuple #[Value.bool false, Value.int IntKind.i64 5]))) (by kernel_rfl) (by
    simp only [T.sameD, DT.val_node, DT.val_leaf, DT.bind, DT.val_bad]
    repeat' (first | (with_reducible refine bif_neq (fun h => ?_) (fun h => ?_)) | (with_reducible refine bif_and (fun h => ?_) (fun h => ?_)) | (with_reducible refine bif_eq (fun h => ?_) (fun h => ?_)))
    all_goals first | (simp only [*, cond_true, cond_false, Bool.and_true, Bool.true_and, Bool.and_false, Bool.false_and, Bool.or_true, Bool.true_or, Bool.or_false, Bool.false_or, Bool.not_true, Bool.not_false, beq_self_eq_true, bne_self_eq_false, Bool.not_not]; done) | (exfalso; simp_all; done) | (simp_all []; done) | grind [])
theorem ent_sameD : E (31, onDD T.sameD) := byEv Hents17 40 fun args t h => by
  obtain ⟨a, b, rfl, rfl⟩ := onDD_eq h
  exact ev_sameD a b
abbrev HL18 : Tab := (31, onDD T.sameD) :: HL17
theorem Hents18 : ∀ p ∈ HL18, E p := entries_cons ent_sameD Hents17
set_option maxHeartbeats 4000000 in
theorem ev_freeze (d : D) : evFn Tryd.prog ext (tab HL18) 40 13 [d.agg] = (T.freeze d).val :=
  Eq.trans (b := 
    (bif !S.whole d then some (Value.tuple #[(D.mk (V.mk 0 false 0 (ByteArray.mk #[]) 0) (V.mk 0 false 0 (ByteArray.mk #[]) 0) (V.mk 0 false 0 (ByteArray.mk #[]) 0) 0 0 0).agg, Value.int IntKind.i64 5]) else 
     (bif S.isD d then some (Value.tuple #[(D.mk (V.mk 0 false 0 (ByteArray.mk #[]) 0) (V.mk 0 false 0 (ByteArray.mk #[]) 0) (V.mk 0 false 0 (ByteArray.mk #[]) 0) 1 0 1).agg, Value.int IntKind.i64 0]) else some (Value.tuple #[(D.mk (V.mk 0 false 0 (ByteArray.mk #[]) 0) (V.mk 0 false 0 (ByteArray.mk #[]) 0) (V.mk 0 false 0 (ByteArray.mk #[]) 0) 0 0 1).agg, Value.int IntKind.i64 0])))) (by kernel_rfl) (by
    simp only [T.freeze, DT.val_node, DT.val_leaf, DT.bind, DT.val_bad]
    repeat' (first | (with_reducible refine bif_neq (fun h => ?_) (fun h => ?_)) | (with_reducible refine bif_and (fun h => ?_) (fun h => ?_)) | (with_reducible refine bif_eq (fun h => ?_) (fun h => ?_)))
    all_goals first | (simp only [*, S.V0, S.D0, cond_true, cond_false, Bool.and_true, Bool.true_and, Bool.and_false, Bool.false_and, Bool.or_true, Bool.true_or, Bool.or_false, Bool.false_or, Bool.not_true, Bool.not_false, beq_self_eq_true, bne_self_eq_false, Bool.not_not]; done) | (exfalso; simp_all; done) | (simp_all [S.V0, S.D0]; done) | grind [S.V0, S.D0])
theorem ent_freeze : E (13, onD T.freeze) := byEv Hents18 40 fun args t h => by
  obtain ⟨d, rfl, rfl⟩ := onD_eq h
  exact ev_freeze d
abbrev HL19 : Tab := (13, onD T.freeze) :: HL18
theorem Hents19 : ∀ p ∈ HL19, E p := entries_cons ent_freeze Hents18
set_option maxHeartbeats 4000000 in
theorem ev_barred (a b : D) : evFn Tryd.prog ext (tab HL19) 60 65 [a.agg, b.agg] = (T.barred a b).val :=
  Eq.trans (b := 
    (bif b.c == 2 then some (Value.bool true) else 
     (bif b.e != 0 then 
      (bif b.e != a.e then some (Value.bool true) else 
       (bif S.check b then 
        (bif S.hasD b then 
         (bif S.check a then 
          (bif S.hasD a then 
           (bif a.w == 1 then 
            (bif b.w == 2 then some (Value.bool true) else 
             (bif b.v.k != 0 then some (Value.bool !S.alike b.v a.v) else some (Value.bool false))) else some (Value.bool false)) else 
           (bif S.hasA a then some (Value.bool true) else some (Value.bool true))) else 
          (bif S.fields a then 
           (bif a.w == 1 then 
            (bif b.w == 2 then some (Value.bool true) else 
             (bif b.v.k != 0 then some (Value.bool !S.alike b.v a.v) else some (Value.bool false))) else some (Value.bool false)) else some (Value.bool true))) else 
         (bif S.hasA b then 
          (bif S.check a then 
           (bif S.hasD a then some (Value.bool true) else 
            (bif S.hasA a then 
             (bif b.g.k != 0 then 
              (bif !S.alike b.g a.g then some (Value.bool true) else 
               (bif b.t.k != 0 then some (Value.bool !S.alike b.t a.t) else some (Value.bool false))) else 
              (bif b.t.k != 0 then some (Value.bool !S.alike b.t a.t) else some (Value.bool false))) else some (Value.bool true))) else 
           (bif S.fields a then some (Value.bool true) else some (Value.bool true))) else 
          (bif S.check a then 
           (bif S.hasD a then some (Value.bool false) else 
            (bif S.hasA a then some (Value.bool false) else some (Value.bool false))) else 
           (bif S.fields a then some (Value.bool false) else some (Value.bool false))))) else 
        (bif S.fields b then 
         (bif S.check a then 
          (bif S.hasD a then 
           (bif a.w == 1 then 
            (bif b.w == 2 then some (Value.bool true) else 
             (bif b.v.k != 0 then some (Value.bool !S.alike b.v a.v) else some (Value.bool false))) else some (Value.bool false)) else 
           (bif S.hasA a then some (Value.bool true) else some (Value.bool true))) else 
          (bif S.fields a then 
           (bif a.w == 1 then 
            (bif b.w == 2 then some (Value.bool true) else 
             (bif b.v.k != 0 then some (Value.bool !S.alike b.v a.v) else some (Value.bool false))) else some (Value.bool false)) else some (Value.bool true))) else 
         (bif S.check a then 
          (bif S.hasD a then some (Value.bool false) else 
           (bif S.hasA a then some (Value.bool false) else some (Value.bool false))) else 
          (bif S.fields a then some (Value.bool false) else some (Value.bool false)))))) else 
      (bif S.check b then 
       (bif S.hasD b then 
        (bif S.check a then 
         (bif S.hasD a then 
          (bif a.w == 1 then 
           (bif b.w == 2 then some (Value.bool true) else 
            (bif b.v.k != 0 then some (Value.bool !S.alike b.v a.v) else some (Value.bool false))) else some (Value.bool false)) else 
          (bif S.hasA a then some (Value.bool true) else some (Value.bool true))) else 
         (bif S.fields a then 
          (bif a.w == 1 then 
           (bif b.w == 2 then some (Value.bool true) else 
            (bif b.v.k != 0 then some (Value.bool !S.alike b.v a.v) else some (Value.bool false))) else some (Value.bool false)) else some (Value.bool true))) else 
        (bif S.hasA b then 
         (bif S.check a then 
          (bif S.hasD a then some (Value.bool true) else 
           (bif S.hasA a then 
            (bif b.g.k != 0 then 
             (bif !S.alike b.g a.g then some (Value.bool true) else 
              (bif b.t.k != 0 then some (Value.bool !S.alike b.t a.t) else some (Value.bool false))) else 
             (bif b.t.k != 0 then some (Value.bool !S.alike b.t a.t) else some (Value.bool false))) else some (Value.bool true))) else 
          (bif S.fields a then some (Value.bool true) else some (Value.bool true))) else 
         (bif S.check a then 
          (bif S.hasD a then some (Value.bool false) else 
           (bif S.hasA a then some (Value.bool false) else some (Value.bool false))) else 
          (bif S.fields a then some (Value.bool false) else some (Value.bool false))))) else 
       (bif S.fields b then 
        (bif S.check a then 
         (bif S.hasD a then 
          (bif a.w == 1 then 
           (bif b.w == 2 then some (Value.bool true) else 
            (bif b.v.k != 0 then some (Value.bool !S.alike b.v a.v) else some (Value.bool false))) else some (Value.bool false)) else 
          (bif S.hasA a then some (Value.bool true) else some (Value.bool true))) else 
         (bif S.fields a then 
          (bif a.w == 1 then 
           (bif b.w == 2 then some (Value.bool true) else 
            (bif b.v.k != 0 then some (Value.bool !S.alike b.v a.v) else some (Value.bool false))) else some (Value.bool false)) else some (Value.bool true))) else 
        (bif S.check a then 
         (bif S.hasD a then some (Value.bool false) else 
          (bif S.hasA a then some (Value.bool false) else some (Value.bool false))) else 
         (bif S.fields a then some (Value.bool false) else some (Value.bool false)))))))) (by kernel_rfl) (by
    simp only [T.barred, T.B, DT.val_node, DT.val_leaf, DT.bind, DT.val_bad]
    repeat' (first | (with_reducible refine bif_neq (fun h => ?_) (fun h => ?_)) | (with_reducible refine bif_and (fun h => ?_) (fun h => ?_)) | (with_reducible refine bif_eq (fun h => ?_) (fun h => ?_)))
    all_goals first | (simp only [*, S.barred, S.kindN, S.there, cond_true, cond_false, Bool.and_true, Bool.true_and, Bool.and_false, Bool.false_and, Bool.or_true, Bool.true_or, Bool.or_false, Bool.false_or, Bool.not_true, Bool.not_false, beq_self_eq_true, bne_self_eq_false, Bool.not_not]; done) | (exfalso; simp_all; done) | (simp_all [S.barred, S.kindN, S.there]; done) | grind [S.barred, S.kindN, S.there])
theorem ent_barred : E (65, onDD T.barred) := byEv Hents19 60 fun args t h => by
  obtain ⟨a, b, rfl, rfl⟩ := onDD_eq h
  exact ev_barred a b
abbrev HL20 : Tab := (65, onDD T.barred) :: HL19
theorem Hents20 : ∀ p ∈ HL20, E p := entries_cons ent_barred Hents19
end Go.Proofs.YtaojjpdlfnphiaaDoor.PDescKinds
