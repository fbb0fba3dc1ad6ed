/- Contracts by evaluation: what each function of a list answers. Written by a program of this session. -/
import Derived.Test.YtaojjpdlfnphiaaDoorI0
namespace Go.Proofs.YtaojjpdlfnphiaaDoor.PDescKinds
open Go.RowKit Go.Ev
set_option linter.unusedSimpArgs false
set_option linter.unusedVariables false
set_option maxRecDepth 100000
set_option maxHeartbeats 4000000 in
theorem ev_ris (a b : V) : evFn Tryd.prog ext (tab IL15) 40 100 [a.agg, b.agg] = (T.ris a b).val :=
  Eq.trans (b := 
    (bif a.k != b.k then some (Value.bool false) else 
     (bif a.k == 4 then 
      (bif FloatKind.f64.format.order a.n a.n != some Ordering.eq then 
       (bif FloatKind.f64.format.order a.n a.n != some Ordering.eq then some (Value.bool (FloatKind.f64.format.order b.n b.n != some Ordering.eq)) else some (Value.bool false)) else 
       (bif FloatKind.f64.format.order b.n b.n != some Ordering.eq then 
        (bif FloatKind.f64.format.order a.n a.n != some Ordering.eq then some (Value.bool (FloatKind.f64.format.order b.n b.n != some Ordering.eq)) else some (Value.bool false)) else 
        (bif FloatKind.f64.format.order a.n b.n == some Ordering.eq then 
         (bif Op.floatEq FloatKind.f64 a.n 0 then 
          (bif Op.floatEq FloatKind.f64 b.n 0 then some (Value.bool ((FloatKind.f64.format.order ((Ieee.double.div 4607182418800017408 a.n).getD 0) 0 == some Ordering.lt) == (FloatKind.f64.format.order ((Ieee.double.div 4607182418800017408 b.n).getD 0) 0 == some Ordering.lt))) else some (Value.bool ((FloatKind.f64.format.order ((Ieee.double.div 4607182418800017408 a.n).getD 0) 0 == some Ordering.lt) == false))) else 
          (bif Op.floatEq FloatKind.f64 b.n 0 then some (Value.bool (false == (FloatKind.f64.format.order ((Ieee.double.div 4607182418800017408 b.n).getD 0) 0 == some Ordering.lt))) else some (Value.bool (false == false)))) else some (Value.bool false)))) else 
      (bif a.b == b.b then 
       (bif a.s.toList == b.s.toList then some (Value.bool (a.id == b.id)) else some (Value.bool false)) else some (Value.bool false))))) (by kernel_rfl) (by
    simp only [T.ris, T.B, DT.val_node, DT.val_leaf, DT.val_bad, DT.bind]
    repeat' (first | (with_reducible refine bif_neq (fun h => ?_) (fun h => ?_)) | (with_reducible refine bif_and (fun h => ?_) (fun h => ?_)) | (with_reducible refine bif_eq (fun h => ?_) (fun h => ?_)))
    all_goals first | (simp only [*, R.is, R.numIs, S.nan, S.feq, R.neg0, cond_true, cond_false, Bool.and_true, Bool.true_and, Bool.and_false, Bool.false_and, Bool.or_true, Bool.true_or, Bool.or_false, Bool.false_or, Bool.not_true, Bool.not_false, beq_self_eq_true, bne_self_eq_false, Bool.not_not]; done) | (exfalso; simp_all [R.is, R.numIs, S.nan, S.feq, R.neg0]; done) | (simp_all [R.is, R.numIs, S.nan, S.feq, R.neg0]; done) | grind [R.is, R.numIs, S.nan, S.feq, R.neg0])
theorem ent_ris : E (100, onVV T.ris) := byEv Ients15 40 fun args t h => by
  obtain ⟨a, b, rfl, rfl⟩ := onVV_eq h
  exact ev_ris a b
abbrev IL16 : Tab := (100, onVV T.ris) :: IL15
theorem Ients16 : ∀ p ∈ IL16, E p := entries_cons ent_ris Ients15
set_option maxHeartbeats 4000000 in
theorem ev_rsame (a b : V) : evFn Tryd.prog ext (tab IL16) 40 72 [a.agg, b.agg] = (T.rsame a b).val :=
  Eq.trans (b := 
    (bif !S.there a then some (Value.bool (S.there a == S.there b)) else 
     (bif !S.there b then some (Value.bool (S.there a == S.there b)) else some (Value.bool (R.is a b))))) (by kernel_rfl) (by
    simp only [T.rsame, T.B, DT.val_node, DT.val_leaf, DT.val_bad, DT.bind]
    repeat' (first | (with_reducible refine bif_neq (fun h => ?_) (fun h => ?_)) | (with_reducible refine bif_and (fun h => ?_) (fun h => ?_)) | (with_reducible refine bif_eq (fun h => ?_) (fun h => ?_)))
    all_goals first | (simp only [*, R.same, cond_true, cond_false, Bool.and_true, Bool.true_and, Bool.and_false, Bool.false_and, Bool.or_true, Bool.true_or, Bool.or_false, Bool.false_or, Bool.not_true, Bool.not_false, beq_self_eq_true, bne_self_eq_false, Bool.not_not]; done) | (exfalso; simp_all [R.same]; done) | (simp_all [R.same]; done) | grind [R.same])
theorem ent_rsame : E (72, onVV T.rsame) := byEv Ients16 40 fun args t h => by
  obtain ⟨a, b, rfl, rfl⟩ := onVV_eq h
  exact ev_rsame a b
abbrev IL17 : Tab := (72, onVV T.rsame) :: IL16
theorem Ients17 : ∀ p ∈ IL17, E p := entries_cons ent_rsame Ients16
set_option maxHeartbeats 4000000 in
theorem ev_risDD (a b : D) : evFn Tryd.prog ext (tab IL17) 40 34 [a.agg, b.agg] = (T.risDD a b).val :=
  Eq.trans (b := 
    (bif R.same a.v b.v then 
     (bif R.same a.g b.g then 
      (bif R.same a.t b.t then 
       (bif a.w == b.w then 
        (bif a.e == b.e then some (Value.bool (a.c == b.c)) else some (Value.bool false)) else some (Value.bool false)) else some (Value.bool false)) else some (Value.bool false)) else some (Value.bool false))) (by kernel_rfl) (by
    simp only [T.risDD, T.B, DT.val_node, DT.val_leaf, DT.val_bad, DT.bind]
    repeat' (first | (with_reducible refine bif_neq (fun h => ?_) (fun h => ?_)) | (with_reducible refine bif_and (fun h => ?_) (fun h => ?_)) | (with_reducible refine bif_eq (fun h => ?_) (fun h => ?_)))
    all_goals first | (simp only [*, R.isDD, cond_true, cond_false, Bool.and_true, Bool.true_and, Bool.and_false, Bool.false_and, Bool.or_true, Bool.true_or, Bool.or_false, Bool.false_or, Bool.not_true, Bool.not_false, beq_self_eq_true, bne_self_eq_false, Bool.not_not]; done) | (exfalso; simp_all [R.isDD]; done) | (simp_all [R.isDD]; done) | grind [R.isDD])
theorem ent_risDD : E (34, onDD T.risDD) := byEv Ients17 40 fun args t h => by
  obtain ⟨a, b, rfl, rfl⟩ := onDD_eq h
  exact ev_risDD a b
abbrev IL18 : Tab := (34, onDD T.risDD) :: IL17
theorem Ients18 : ∀ p ∈ IL18, E p := entries_cons ent_risDD Ients17
set_option maxHeartbeats 4000000 in
theorem ev_rzero (d : D) : evFn Tryd.prog ext (tab IL18) 40 69 [d.agg] = (T.rzero d).val :=
  Eq.trans (b := 
    (bif S.absent d.v then 
     (bif S.absent d.g then 
      (bif S.absent d.t then 
       (bif d.w == 0 then 
        (bif d.e == 0 then some (Value.bool (d.c == 0)) else some (Value.bool false)) else some (Value.bool false)) else some (Value.bool false)) else some (Value.bool false)) else some (Value.bool false))) (by kernel_rfl) (by
    simp only [T.rzero, T.B, DT.val_node, DT.val_leaf, DT.val_bad, DT.bind]
    repeat' (first | (with_reducible refine bif_neq (fun h => ?_) (fun h => ?_)) | (with_reducible refine bif_and (fun h => ?_) (fun h => ?_)) | (with_reducible refine bif_eq (fun h => ?_) (fun h => ?_)))
    all_goals first | (simp only [*, R.zero, cond_true, cond_false, Bool.and_true, Bool.true_and, Bool.and_false, Bool.false_and, Bool.or_true, Bool.true_or, Bool.or_false, Bool.false_or, Bool.not_true, Bool.not_false, beq_self_eq_true, bne_self_eq_false, Bool.not_not]; done) | (exfalso; simp_all [R.zero]; done) | (simp_all [R.zero]; done) | grind [R.zero])
theorem ent_rzero : E (69, onD T.rzero) := byEv Ients18 40 fun args t h => by
  obtain ⟨d, rfl, rfl⟩ := onD_eq h
  exact ev_rzero d
abbrev IL19 : Tab := (69, onD T.rzero) :: IL18
theorem Ients19 : ∀ p ∈ IL19, E p := entries_cons ent_rzero Ients18
set_option maxHeartbeats 4000000 in
theorem ev_rrefused (a b : D) : evFn Tryd.prog ext (tab IL19) 60 70 [a.agg, b.agg] = (T.rrefused a b).val :=
  Eq.trans (b := 
    (bif b.c == 2 then some (Value.bool true) else 
     (bif b.e != 0 then 
      (bif b.e != a.e then some (Value.bool true) else 
       (bif R.isA b then 
        (bif R.isD a then some (Value.bool true) else 
         (bif R.isD b then 
          (bif R.isA a then some (Value.bool true) else 
           (bif R.isA a then 
            (bif S.there b.g then 
             (bif !R.same b.g a.g then some (Value.bool true) else 
              (bif S.there b.t then some (Value.bool !R.same b.t a.t) else some (Value.bool false))) else 
             (bif S.there b.t then some (Value.bool !R.same b.t a.t) else some (Value.bool false))) else 
            (bif a.w == 1 then 
             (bif b.w == 2 then some (Value.bool true) else 
              (bif S.there b.v then some (Value.bool !R.same b.v a.v) else some (Value.bool false))) else some (Value.bool false)))) else 
          (bif R.isA a then 
           (bif S.there b.g then 
            (bif !R.same b.g a.g then some (Value.bool true) else 
             (bif S.there b.t then some (Value.bool !R.same b.t a.t) else some (Value.bool false))) else 
            (bif S.there b.t then some (Value.bool !R.same b.t a.t) else some (Value.bool false))) else 
           (bif a.w == 1 then 
            (bif b.w == 2 then some (Value.bool true) else 
             (bif S.there b.v then some (Value.bool !R.same b.v a.v) else some (Value.bool false))) else some (Value.bool false))))) else 
        (bif R.isD b then 
         (bif R.isA a then some (Value.bool true) else 
          (bif R.isA a then 
           (bif S.there b.g then 
            (bif !R.same b.g a.g then some (Value.bool true) else 
             (bif S.there b.t then some (Value.bool !R.same b.t a.t) else some (Value.bool false))) else 
            (bif S.there b.t then some (Value.bool !R.same b.t a.t) else some (Value.bool false))) else 
           (bif a.w == 1 then 
            (bif b.w == 2 then some (Value.bool true) else 
             (bif S.there b.v then some (Value.bool !R.same b.v a.v) else some (Value.bool false))) else some (Value.bool false)))) else 
         (bif R.isA a then 
          (bif S.there b.g then 
           (bif !R.same b.g a.g then some (Value.bool true) else 
            (bif S.there b.t then some (Value.bool !R.same b.t a.t) else some (Value.bool false))) else 
           (bif S.there b.t then some (Value.bool !R.same b.t a.t) else some (Value.bool false))) else 
          (bif a.w == 1 then 
           (bif b.w == 2 then some (Value.bool true) else 
            (bif S.there b.v then some (Value.bool !R.same b.v a.v) else some (Value.bool false))) else some (Value.bool false)))))) else 
      (bif R.isA b then 
       (bif R.isD a then some (Value.bool true) else 
        (bif R.isD b then 
         (bif R.isA a then some (Value.bool true) else 
          (bif R.isA a then 
           (bif S.there b.g then 
            (bif !R.same b.g a.g then some (Value.bool true) else 
             (bif S.there b.t then some (Value.bool !R.same b.t a.t) else some (Value.bool false))) else 
            (bif S.there b.t then some (Value.bool !R.same b.t a.t) else some (Value.bool false))) else 
           (bif a.w == 1 then 
            (bif b.w == 2 then some (Value.bool true) else 
             (bif S.there b.v then some (Value.bool !R.same b.v a.v) else some (Value.bool false))) else some (Value.bool false)))) else 
         (bif R.isA a then 
          (bif S.there b.g then 
           (bif !R.same b.g a.g then some (Value.bool true) else 
            (bif S.there b.t then some (Value.bool !R.same b.t a.t) else some (Value.bool false))) else 
           (bif S.there b.t then some (Value.bool !R.same b.t a.t) else some (Value.bool false))) else 
          (bif a.w == 1 then 
           (bif b.w == 2 then some (Value.bool true) else 
            (bif S.there b.v then some (Value.bool !R.same b.v a.v) else some (Value.bool false))) else some (Value.bool false))))) else 
       (bif R.isD b then 
        (bif R.isA a then some (Value.bool true) else 
         (bif R.isA a then 
          (bif S.there b.g then 
           (bif !R.same b.g a.g then some (Value.bool true) else 
            (bif S.there b.t then some (Value.bool !R.same b.t a.t) else some (Value.bool false))) else 
           (bif S.there b.t then some (Value.bool !R.same b.t a.t) else some (Value.bool false))) else 
          (bif a.w == 1 then 
           (bif b.w == 2 then some (Value.bool true) else 
            (bif S.there b.v then some (Value.bool !R.same b.v a.v) else some (Value.bool false))) else some (Value.bool false)))) else 
        (bif R.isA a then 
         (bif S.there b.g then 
          (bif !R.same b.g a.g then some (Value.bool true) else 
           (bif S.there b.t then some (Value.bool !R.same b.t a.t) else some (Value.bool false))) else 
          (bif S.there b.t then some (Value.bool !R.same b.t a.t) else some (Value.bool false))) else 
         (bif a.w == 1 then 
          (bif b.w == 2 then some (Value.bool true) else 
           (bif S.there b.v then some (Value.bool !R.same b.v a.v) else some (Value.bool false))) else some (Value.bool false)))))))) (by kernel_rfl) (by
    simp only [T.rrefused, T.B, DT.val_node, DT.val_leaf, DT.val_bad, DT.bind]
    repeat' (first | (with_reducible refine bif_neq (fun h => ?_) (fun h => ?_)) | (with_reducible refine bif_and (fun h => ?_) (fun h => ?_)) | (with_reducible refine bif_eq (fun h => ?_) (fun h => ?_)))
    all_goals first | (simp only [*, R.refused, cond_true, cond_false, Bool.and_true, Bool.true_and, Bool.and_false, Bool.false_and, Bool.or_true, Bool.true_or, Bool.or_false, Bool.false_or, Bool.not_true, Bool.not_false, beq_self_eq_true, bne_self_eq_false, Bool.not_not]; done) | (exfalso; simp_all [R.refused]; done) | (simp_all [R.refused]; done) | grind [R.refused])
theorem ent_rrefused : E (70, onDD T.rrefused) := byEv Ients19 60 fun args t h => by
  obtain ⟨a, b, rfl, rfl⟩ := onDD_eq h
  exact ev_rrefused a b
abbrev IL20 : Tab := (70, onDD T.rrefused) :: IL19
theorem Ients20 : ∀ p ∈ IL20, E p := entries_cons ent_rrefused Ients19
set_option maxHeartbeats 4000000 in
theorem ev_rbecome (a b : D) : evFn Tryd.prog ext (tab IL20) 80 71 [a.agg, b.agg] = (T.rbecome a b).val :=
  Eq.trans (b := 
    (bif R.isD a then 
     (bif R.isA b then 
      (bif b.e == 0 then 
       (bif b.c == 0 then some ((R.filled (D.mk b.v b.g b.t b.w a.e a.c)).agg) else some ((R.filled (D.mk b.v b.g b.t b.w a.e b.c)).agg)) else 
       (bif b.c == 0 then some ((R.filled (D.mk b.v b.g b.t b.w b.e a.c)).agg) else some ((R.filled b).agg))) else 
      (bif R.isA a then 
       (bif R.isD b then 
        (bif b.e == 0 then 
         (bif b.c == 0 then some ((R.filled (D.mk b.v b.g b.t b.w a.e a.c)).agg) else some ((R.filled (D.mk b.v b.g b.t b.w a.e b.c)).agg)) else 
         (bif b.c == 0 then some ((R.filled (D.mk b.v b.g b.t b.w b.e a.c)).agg) else some ((R.filled b).agg))) else 
        (bif S.there b.v then 
         (bif S.there b.g then 
          (bif S.there b.t then 
           (bif b.w != 0 then 
            (bif b.e != 0 then 
             (bif b.c != 0 then some (b.agg) else some ((D.mk b.v b.g b.t b.w b.e a.c).agg)) else 
             (bif b.c != 0 then some ((D.mk b.v b.g b.t b.w a.e b.c).agg) else some ((D.mk b.v b.g b.t b.w a.e a.c).agg))) else 
            (bif b.e != 0 then 
             (bif b.c != 0 then some ((D.mk b.v b.g b.t a.w b.e b.c).agg) else some ((D.mk b.v b.g b.t a.w b.e a.c).agg)) else 
             (bif b.c != 0 then some ((D.mk b.v b.g b.t a.w a.e b.c).agg) else some ((D.mk b.v b.g b.t a.w a.e a.c).agg)))) else 
           (bif b.w != 0 then 
            (bif b.e != 0 then 
             (bif b.c != 0 then some ((D.mk b.v b.g a.t b.w b.e b.c).agg) else some ((D.mk b.v b.g a.t b.w b.e a.c).agg)) else 
             (bif b.c != 0 then some ((D.mk b.v b.g a.t b.w a.e b.c).agg) else some ((D.mk b.v b.g a.t b.w a.e a.c).agg))) else 
            (bif b.e != 0 then 
             (bif b.c != 0 then some ((D.mk b.v b.g a.t a.w b.e b.c).agg) else some ((D.mk b.v b.g a.t a.w b.e a.c).agg)) else 
             (bif b.c != 0 then some ((D.mk b.v b.g a.t a.w a.e b.c).agg) else some ((D.mk b.v b.g a.t a.w a.e a.c).agg))))) else 
          (bif S.there b.t then 
           (bif b.w != 0 then 
            (bif b.e != 0 then 
             (bif b.c != 0 then some ((D.mk b.v a.g b.t b.w b.e b.c).agg) else some ((D.mk b.v a.g b.t b.w b.e a.c).agg)) else 
             (bif b.c != 0 then some ((D.mk b.v a.g b.t b.w a.e b.c).agg) else some ((D.mk b.v a.g b.t b.w a.e a.c).agg))) else 
            (bif b.e != 0 then 
             (bif b.c != 0 then some ((D.mk b.v a.g b.t a.w b.e b.c).agg) else some ((D.mk b.v a.g b.t a.w b.e a.c).agg)) else 
             (bif b.c != 0 then some ((D.mk b.v a.g b.t a.w a.e b.c).agg) else some ((D.mk b.v a.g b.t a.w a.e a.c).agg)))) else 
           (bif b.w != 0 then 
            (bif b.e != 0 then 
             (bif b.c != 0 then some ((D.mk b.v a.g a.t b.w b.e b.c).agg) else some ((D.mk b.v a.g a.t b.w b.e a.c).agg)) else 
             (bif b.c != 0 then some ((D.mk b.v a.g a.t b.w a.e b.c).agg) else some ((D.mk b.v a.g a.t b.w a.e a.c).agg))) else 
            (bif b.e != 0 then 
             (bif b.c != 0 then some ((D.mk b.v a.g a.t a.w b.e b.c).agg) else some ((D.mk b.v a.g a.t a.w b.e a.c).agg)) else 
             (bif b.c != 0 then some ((D.mk b.v a.g a.t a.w a.e b.c).agg) else some ((D.mk b.v a.g a.t a.w a.e a.c).agg)))))) else 
         (bif S.there b.g then 
          (bif S.there b.t then 
           (bif b.w != 0 then 
            (bif b.e != 0 then 
             (bif b.c != 0 then some ((D.mk a.v b.g b.t b.w b.e b.c).agg) else some ((D.mk a.v b.g b.t b.w b.e a.c).agg)) else 
             (bif b.c != 0 then some ((D.mk a.v b.g b.t b.w a.e b.c).agg) else some ((D.mk a.v b.g b.t b.w a.e a.c).agg))) else 
            (bif b.e != 0 then 
             (bif b.c != 0 then some ((D.mk a.v b.g b.t a.w b.e b.c).agg) else some ((D.mk a.v b.g b.t a.w b.e a.c).agg)) else 
             (bif b.c != 0 then some ((D.mk a.v b.g b.t a.w a.e b.c).agg) else some ((D.mk a.v b.g b.t a.w a.e a.c).agg)))) else 
           (bif b.w != 0 then 
            (bif b.e != 0 then 
             (bif b.c != 0 then some ((D.mk a.v b.g a.t b.w b.e b.c).agg) else some ((D.mk a.v b.g a.t b.w b.e a.c).agg)) else 
             (bif b.c != 0 then some ((D.mk a.v b.g a.t b.w a.e b.c).agg) else some ((D.mk a.v b.g a.t b.w a.e a.c).agg))) else 
            (bif b.e != 0 then 
             (bif b.c != 0 then some ((D.mk a.v b.g a.t a.w b.e b.c).agg) else some ((D.mk a.v b.g a.t a.w b.e a.c).agg)) else 
             (bif b.c != 0 then some ((D.mk a.v b.g a.t a.w a.e b.c).agg) else some ((D.mk a.v b.g a.t a.w a.e a.c).agg))))) else 
          (bif S.there b.t then 
           (bif b.w != 0 then 
            (bif b.e != 0 then 
             (bif b.c != 0 then some ((D.mk a.v a.g b.t b.w b.e b.c).agg) else some ((D.mk a.v a.g b.t b.w b.e a.c).agg)) else 
             (bif b.c != 0 then some ((D.mk a.v a.g b.t b.w a.e b.c).agg) else some ((D.mk a.v a.g b.t b.w a.e a.c).agg))) else 
            (bif b.e != 0 then 
             (bif b.c != 0 then some ((D.mk a.v a.g b.t a.w b.e b.c).agg) else some ((D.mk a.v a.g b.t a.w b.e a.c).agg)) else 
             (bif b.c != 0 then some ((D.mk a.v a.g b.t a.w a.e b.c).agg) else some ((D.mk a.v a.g b.t a.w a.e a.c).agg)))) else 
           (bif b.w != 0 then 
            (bif b.e != 0 then 
             (bif b.c != 0 then some ((D.mk a.v a.g a.t b.w b.e b.c).agg) else some ((D.mk a.v a.g a.t b.w b.e a.c).agg)) else 
             (bif b.c != 0 then some ((D.mk a.v a.g a.t b.w a.e b.c).agg) else some ((D.mk a.v a.g a.t b.w a.e a.c).agg))) else 
            (bif b.e != 0 then 
             (bif b.c != 0 then some ((D.mk a.v a.g a.t a.w b.e b.c).agg) else some ((D.mk a.v a.g a.t a.w b.e a.c).agg)) else 
             (bif b.c != 0 then some ((D.mk a.v a.g a.t a.w a.e b.c).agg) else some (a.agg)))))))) else 
       (bif S.there b.v then 
        (bif S.there b.g then 
         (bif S.there b.t then 
          (bif b.w != 0 then 
           (bif b.e != 0 then 
            (bif b.c != 0 then some (b.agg) else some ((D.mk b.v b.g b.t b.w b.e a.c).agg)) else 
            (bif b.c != 0 then some ((D.mk b.v b.g b.t b.w a.e b.c).agg) else some ((D.mk b.v b.g b.t b.w a.e a.c).agg))) else 
           (bif b.e != 0 then 
            (bif b.c != 0 then some ((D.mk b.v b.g b.t a.w b.e b.c).agg) else some ((D.mk b.v b.g b.t a.w b.e a.c).agg)) else 
            (bif b.c != 0 then some ((D.mk b.v b.g b.t a.w a.e b.c).agg) else some ((D.mk b.v b.g b.t a.w a.e a.c).agg)))) else 
          (bif b.w != 0 then 
           (bif b.e != 0 then 
            (bif b.c != 0 then some ((D.mk b.v b.g a.t b.w b.e b.c).agg) else some ((D.mk b.v b.g a.t b.w b.e a.c).agg)) else 
            (bif b.c != 0 then some ((D.mk b.v b.g a.t b.w a.e b.c).agg) else some ((D.mk b.v b.g a.t b.w a.e a.c).agg))) else 
           (bif b.e != 0 then 
            (bif b.c != 0 then some ((D.mk b.v b.g a.t a.w b.e b.c).agg) else some ((D.mk b.v b.g a.t a.w b.e a.c).agg)) else 
            (bif b.c != 0 then some ((D.mk b.v b.g a.t a.w a.e b.c).agg) else some ((D.mk b.v b.g a.t a.w a.e a.c).agg))))) else 
         (bif S.there b.t then 
          (bif b.w != 0 then 
           (bif b.e != 0 then 
            (bif b.c != 0 then some ((D.mk b.v a.g b.t b.w b.e b.c).agg) else some ((D.mk b.v a.g b.t b.w b.e a.c).agg)) else 
            (bif b.c != 0 then some ((D.mk b.v a.g b.t b.w a.e b.c).agg) else some ((D.mk b.v a.g b.t b.w a.e a.c).agg))) else 
           (bif b.e != 0 then 
            (bif b.c != 0 then some ((D.mk b.v a.g b.t a.w b.e b.c).agg) else some ((D.mk b.v a.g b.t a.w b.e a.c).agg)) else 
            (bif b.c != 0 then some ((D.mk b.v a.g b.t a.w a.e b.c).agg) else some ((D.mk b.v a.g b.t a.w a.e a.c).agg)))) else 
          (bif b.w != 0 then 
           (bif b.e != 0 then 
            (bif b.c != 0 then some ((D.mk b.v a.g a.t b.w b.e b.c).agg) else some ((D.mk b.v a.g a.t b.w b.e a.c).agg)) else 
            (bif b.c != 0 then some ((D.mk b.v a.g a.t b.w a.e b.c).agg) else some ((D.mk b.v a.g a.t b.w a.e a.c).agg))) else 
           (bif b.e != 0 then 
            (bif b.c != 0 then some ((D.mk b.v a.g a.t a.w b.e b.c).agg) else some ((D.mk b.v a.g a.t a.w b.e a.c).agg)) else 
            (bif b.c != 0 then some ((D.mk b.v a.g a.t a.w a.e b.c).agg) else some ((D.mk b.v a.g a.t a.w a.e a.c).agg)))))) else 
        (bif S.there b.g then 
         (bif S.there b.t then 
          (bif b.w != 0 then 
           (bif b.e != 0 then 
            (bif b.c != 0 then some ((D.mk a.v b.g b.t b.w b.e b.c).agg) else some ((D.mk a.v b.g b.t b.w b.e a.c).agg)) else 
            (bif b.c != 0 then some ((D.mk a.v b.g b.t b.w a.e b.c).agg) else some ((D.mk a.v b.g b.t b.w a.e a.c).agg))) else 
           (bif b.e != 0 then 
            (bif b.c != 0 then some ((D.mk a.v b.g b.t a.w b.e b.c).agg) else some ((D.mk a.v b.g b.t a.w b.e a.c).agg)) else 
            (bif b.c != 0 then some ((D.mk a.v b.g b.t a.w a.e b.c).agg) else some ((D.mk a.v b.g b.t a.w a.e a.c).agg)))) else 
          (bif b.w != 0 then 
           (bif b.e != 0 then 
            (bif b.c != 0 then some ((D.mk a.v b.g a.t b.w b.e b.c).agg) else some ((D.mk a.v b.g a.t b.w b.e a.c).agg)) else 
            (bif b.c != 0 then some ((D.mk a.v b.g a.t b.w a.e b.c).agg) else some ((D.mk a.v b.g a.t b.w a.e a.c).agg))) else 
           (bif b.e != 0 then 
            (bif b.c != 0 then some ((D.mk a.v b.g a.t a.w b.e b.c).agg) else some ((D.mk a.v b.g a.t a.w b.e a.c).agg)) else 
            (bif b.c != 0 then some ((D.mk a.v b.g a.t a.w a.e b.c).agg) else some ((D.mk a.v b.g a.t a.w a.e a.c).agg))))) else 
         (bif S.there b.t then 
          (bif b.w != 0 then 
           (bif b.e != 0 then 
            (bif b.c != 0 then some ((D.mk a.v a.g b.t b.w b.e b.c).agg) else some ((D.mk a.v a.g b.t b.w b.e a.c).agg)) else 
            (bif b.c != 0 then some ((D.mk a.v a.g b.t b.w a.e b.c).agg) else some ((D.mk a.v a.g b.t b.w a.e a.c).agg))) else 
           (bif b.e != 0 then 
            (bif b.c != 0 then some ((D.mk a.v a.g b.t a.w b.e b.c).agg) else some ((D.mk a.v a.g b.t a.w b.e a.c).agg)) else 
            (bif b.c != 0 then some ((D.mk a.v a.g b.t a.w a.e b.c).agg) else some ((D.mk a.v a.g b.t a.w a.e a.c).agg)))) else 
          (bif b.w != 0 then 
           (bif b.e != 0 then 
            (bif b.c != 0 then some ((D.mk a.v a.g a.t b.w b.e b.c).agg) else some ((D.mk a.v a.g a.t b.w b.e a.c).agg)) else 
            (bif b.c != 0 then some ((D.mk a.v a.g a.t b.w a.e b.c).agg) else some ((D.mk a.v a.g a.t b.w a.e a.c).agg))) else 
           (bif b.e != 0 then 
            (bif b.c != 0 then some ((D.mk a.v a.g a.t a.w b.e b.c).agg) else some ((D.mk a.v a.g a.t a.w b.e a.c).agg)) else 
            (bif b.c != 0 then some ((D.mk a.v a.g a.t a.w a.e b.c).agg) else some (a.agg))))))))) else 
     (bif R.isA a then 
      (bif R.isD b then 
       (bif b.e == 0 then 
        (bif b.c == 0 then some ((R.filled (D.mk b.v b.g b.t b.w a.e a.c)).agg) else some ((R.filled (D.mk b.v b.g b.t b.w a.e b.c)).agg)) else 
        (bif b.c == 0 then some ((R.filled (D.mk b.v b.g b.t b.w b.e a.c)).agg) else some ((R.filled b).agg))) else 
       (bif S.there b.v then 
        (bif S.there b.g then 
         (bif S.there b.t then 
          (bif b.w != 0 then 
           (bif b.e != 0 then 
            (bif b.c != 0 then some (b.agg) else some ((D.mk b.v b.g b.t b.w b.e a.c).agg)) else 
            (bif b.c != 0 then some ((D.mk b.v b.g b.t b.w a.e b.c).agg) else some ((D.mk b.v b.g b.t b.w a.e a.c).agg))) else 
           (bif b.e != 0 then 
            (bif b.c != 0 then some ((D.mk b.v b.g b.t a.w b.e b.c).agg) else some ((D.mk b.v b.g b.t a.w b.e a.c).agg)) else 
            (bif b.c != 0 then some ((D.mk b.v b.g b.t a.w a.e b.c).agg) else some ((D.mk b.v b.g b.t a.w a.e a.c).agg)))) else 
          (bif b.w != 0 then 
           (bif b.e != 0 then 
            (bif b.c != 0 then some ((D.mk b.v b.g a.t b.w b.e b.c).agg) else some ((D.mk b.v b.g a.t b.w b.e a.c).agg)) else 
            (bif b.c != 0 then some ((D.mk b.v b.g a.t b.w a.e b.c).agg) else some ((D.mk b.v b.g a.t b.w a.e a.c).agg))) else 
           (bif b.e != 0 then 
            (bif b.c != 0 then some ((D.mk b.v b.g a.t a.w b.e b.c).agg) else some ((D.mk b.v b.g a.t a.w b.e a.c).agg)) else 
            (bif b.c != 0 then some ((D.mk b.v b.g a.t a.w a.e b.c).agg) else some ((D.mk b.v b.g a.t a.w a.e a.c).agg))))) else 
         (bif S.there b.t then 
          (bif b.w != 0 then 
           (bif b.e != 0 then 
            (bif b.c != 0 then some ((D.mk b.v a.g b.t b.w b.e b.c).agg) else some ((D.mk b.v a.g b.t b.w b.e a.c).agg)) else 
            (bif b.c != 0 then some ((D.mk b.v a.g b.t b.w a.e b.c).agg) else some ((D.mk b.v a.g b.t b.w a.e a.c).agg))) else 
           (bif b.e != 0 then 
            (bif b.c != 0 then some ((D.mk b.v a.g b.t a.w b.e b.c).agg) else some ((D.mk b.v a.g b.t a.w b.e a.c).agg)) else 
            (bif b.c != 0 then some ((D.mk b.v a.g b.t a.w a.e b.c).agg) else some ((D.mk b.v a.g b.t a.w a.e a.c).agg)))) else 
          (bif b.w != 0 then 
           (bif b.e != 0 then 
            (bif b.c != 0 then some ((D.mk b.v a.g a.t b.w b.e b.c).agg) else some ((D.mk b.v a.g a.t b.w b.e a.c).agg)) else 
            (bif b.c != 0 then some ((D.mk b.v a.g a.t b.w a.e b.c).agg) else some ((D.mk b.v a.g a.t b.w a.e a.c).agg))) else 
           (bif b.e != 0 then 
            (bif b.c != 0 then some ((D.mk b.v a.g a.t a.w b.e b.c).agg) else some ((D.mk b.v a.g a.t a.w b.e a.c).agg)) else 
            (bif b.c != 0 then some ((D.mk b.v a.g a.t a.w a.e b.c).agg) else some ((D.mk b.v a.g a.t a.w a.e a.c).agg)))))) else 
        (bif S.there b.g then 
         (bif S.there b.t then 
          (bif b.w != 0 then 
           (bif b.e != 0 then 
            (bif b.c != 0 then some ((D.mk a.v b.g b.t b.w b.e b.c).agg) else some ((D.mk a.v b.g b.t b.w b.e a.c).agg)) else 
            (bif b.c != 0 then some ((D.mk a.v b.g b.t b.w a.e b.c).agg) else some ((D.mk a.v b.g b.t b.w a.e a.c).agg))) else 
           (bif b.e != 0 then 
            (bif b.c != 0 then some ((D.mk a.v b.g b.t a.w b.e b.c).agg) else some ((D.mk a.v b.g b.t a.w b.e a.c).agg)) else 
            (bif b.c != 0 then some ((D.mk a.v b.g b.t a.w a.e b.c).agg) else some ((D.mk a.v b.g b.t a.w a.e a.c).agg)))) else 
          (bif b.w != 0 then 
           (bif b.e != 0 then 
            (bif b.c != 0 then some ((D.mk a.v b.g a.t b.w b.e b.c).agg) else some ((D.mk a.v b.g a.t b.w b.e a.c).agg)) else 
            (bif b.c != 0 then some ((D.mk a.v b.g a.t b.w a.e b.c).agg) else some ((D.mk a.v b.g a.t b.w a.e a.c).agg))) else 
           (bif b.e != 0 then 
            (bif b.c != 0 then some ((D.mk a.v b.g a.t a.w b.e b.c).agg) else some ((D.mk a.v b.g a.t a.w b.e a.c).agg)) else 
            (bif b.c != 0 then some ((D.mk a.v b.g a.t a.w a.e b.c).agg) else some ((D.mk a.v b.g a.t a.w a.e a.c).agg))))) else 
         (bif S.there b.t then 
          (bif b.w != 0 then 
           (bif b.e != 0 then 
            (bif b.c != 0 then some ((D.mk a.v a.g b.t b.w b.e b.c).agg) else some ((D.mk a.v a.g b.t b.w b.e a.c).agg)) else 
            (bif b.c != 0 then some ((D.mk a.v a.g b.t b.w a.e b.c).agg) else some ((D.mk a.v a.g b.t b.w a.e a.c).agg))) else 
           (bif b.e != 0 then 
            (bif b.c != 0 then some ((D.mk a.v a.g b.t a.w b.e b.c).agg) else some ((D.mk a.v a.g b.t a.w b.e a.c).agg)) else 
            (bif b.c != 0 then some ((D.mk a.v a.g b.t a.w a.e b.c).agg) else some ((D.mk a.v a.g b.t a.w a.e a.c).agg)))) else 
          (bif b.w != 0 then 
           (bif b.e != 0 then 
            (bif b.c != 0 then some ((D.mk a.v a.g a.t b.w b.e b.c).agg) else some ((D.mk a.v a.g a.t b.w b.e a.c).agg)) else 
            (bif b.c != 0 then some ((D.mk a.v a.g a.t b.w a.e b.c).agg) else some ((D.mk a.v a.g a.t b.w a.e a.c).agg))) else 
           (bif b.e != 0 then 
            (bif b.c != 0 then some ((D.mk a.v a.g a.t a.w b.e b.c).agg) else some ((D.mk a.v a.g a.t a.w b.e a.c).agg)) else 
            (bif b.c != 0 then some ((D.mk a.v a.g a.t a.w a.e b.c).agg) else some (a.agg)))))))) else 
      (bif S.there b.v then 
       (bif S.there b.g then 
        (bif S.there b.t then 
         (bif b.w != 0 then 
          (bif b.e != 0 then 
           (bif b.c != 0 then some (b.agg) else some ((D.mk b.v b.g b.t b.w b.e a.c).agg)) else 
           (bif b.c != 0 then some ((D.mk b.v b.g b.t b.w a.e b.c).agg) else some ((D.mk b.v b.g b.t b.w a.e a.c).agg))) else 
          (bif b.e != 0 then 
           (bif b.c != 0 then some ((D.mk b.v b.g b.t a.w b.e b.c).agg) else some ((D.mk b.v b.g b.t a.w b.e a.c).agg)) else 
           (bif b.c != 0 then some ((D.mk b.v b.g b.t a.w a.e b.c).agg) else some ((D.mk b.v b.g b.t a.w a.e a.c).agg)))) else 
         (bif b.w != 0 then 
          (bif b.e != 0 then 
           (bif b.c != 0 then some ((D.mk b.v b.g a.t b.w b.e b.c).agg) else some ((D.mk b.v b.g a.t b.w b.e a.c).agg)) else 
           (bif b.c != 0 then some ((D.mk b.v b.g a.t b.w a.e b.c).agg) else some ((D.mk b.v b.g a.t b.w a.e a.c).agg))) else 
          (bif b.e != 0 then 
           (bif b.c != 0 then some ((D.mk b.v b.g a.t a.w b.e b.c).agg) else some ((D.mk b.v b.g a.t a.w b.e a.c).agg)) else 
           (bif b.c != 0 then some ((D.mk b.v b.g a.t a.w a.e b.c).agg) else some ((D.mk b.v b.g a.t a.w a.e a.c).agg))))) else 
        (bif S.there b.t then 
         (bif b.w != 0 then 
          (bif b.e != 0 then 
           (bif b.c != 0 then some ((D.mk b.v a.g b.t b.w b.e b.c).agg) else some ((D.mk b.v a.g b.t b.w b.e a.c).agg)) else 
           (bif b.c != 0 then some ((D.mk b.v a.g b.t b.w a.e b.c).agg) else some ((D.mk b.v a.g b.t b.w a.e a.c).agg))) else 
          (bif b.e != 0 then 
           (bif b.c != 0 then some ((D.mk b.v a.g b.t a.w b.e b.c).agg) else some ((D.mk b.v a.g b.t a.w b.e a.c).agg)) else 
           (bif b.c != 0 then some ((D.mk b.v a.g b.t a.w a.e b.c).agg) else some ((D.mk b.v a.g b.t a.w a.e a.c).agg)))) else 
         (bif b.w != 0 then 
          (bif b.e != 0 then 
           (bif b.c != 0 then some ((D.mk b.v a.g a.t b.w b.e b.c).agg) else some ((D.mk b.v a.g a.t b.w b.e a.c).agg)) else 
           (bif b.c != 0 then some ((D.mk b.v a.g a.t b.w a.e b.c).agg) else some ((D.mk b.v a.g a.t b.w a.e a.c).agg))) else 
          (bif b.e != 0 then 
           (bif b.c != 0 then some ((D.mk b.v a.g a.t a.w b.e b.c).agg) else some ((D.mk b.v a.g a.t a.w b.e a.c).agg)) else 
           (bif b.c != 0 then some ((D.mk b.v a.g a.t a.w a.e b.c).agg) else some ((D.mk b.v a.g a.t a.w a.e a.c).agg)))))) else 
       (bif S.there b.g then 
        (bif S.there b.t then 
         (bif b.w != 0 then 
          (bif b.e != 0 then 
           (bif b.c != 0 then some ((D.mk a.v b.g b.t b.w b.e b.c).agg) else some ((D.mk a.v b.g b.t b.w b.e a.c).agg)) else 
           (bif b.c != 0 then some ((D.mk a.v b.g b.t b.w a.e b.c).agg) else some ((D.mk a.v b.g b.t b.w a.e a.c).agg))) else 
          (bif b.e != 0 then 
           (bif b.c != 0 then some ((D.mk a.v b.g b.t a.w b.e b.c).agg) else some ((D.mk a.v b.g b.t a.w b.e a.c).agg)) else 
           (bif b.c != 0 then some ((D.mk a.v b.g b.t a.w a.e b.c).agg) else some ((D.mk a.v b.g b.t a.w a.e a.c).agg)))) else 
         (bif b.w != 0 then 
          (bif b.e != 0 then 
           (bif b.c != 0 then some ((D.mk a.v b.g a.t b.w b.e b.c).agg) else some ((D.mk a.v b.g a.t b.w b.e a.c).agg)) else 
           (bif b.c != 0 then some ((D.mk a.v b.g a.t b.w a.e b.c).agg) else some ((D.mk a.v b.g a.t b.w a.e a.c).agg))) else 
          (bif b.e != 0 then 
           (bif b.c != 0 then some ((D.mk a.v b.g a.t a.w b.e b.c).agg) else some ((D.mk a.v b.g a.t a.w b.e a.c).agg)) else 
           (bif b.c != 0 then some ((D.mk a.v b.g a.t a.w a.e b.c).agg) else some ((D.mk a.v b.g a.t a.w a.e a.c).agg))))) else 
        (bif S.there b.t then 
         (bif b.w != 0 then 
          (bif b.e != 0 then 
           (bif b.c != 0 then some ((D.mk a.v a.g b.t b.w b.e b.c).agg) else some ((D.mk a.v a.g b.t b.w b.e a.c).agg)) else 
           (bif b.c != 0 then some ((D.mk a.v a.g b.t b.w a.e b.c).agg) else some ((D.mk a.v a.g b.t b.w a.e a.c).agg))) else 
          (bif b.e != 0 then 
           (bif b.c != 0 then some ((D.mk a.v a.g b.t a.w b.e b.c).agg) else some ((D.mk a.v a.g b.t a.w b.e a.c).agg)) else 
           (bif b.c != 0 then some ((D.mk a.v a.g b.t a.w a.e b.c).agg) else some ((D.mk a.v a.g b.t a.w a.e a.c).agg)))) else 
         (bif b.w != 0 then 
          (bif b.e != 0 then 
           (bif b.c != 0 then some ((D.mk a.v a.g a.t b.w b.e b.c).agg) else some ((D.mk a.v a.g a.t b.w b.e a.c).agg)) else 
           (bif b.c != 0 then some ((D.mk a.v a.g a.t b.w a.e b.c).agg) else some ((D.mk a.v a.g a.t b.w a.e a.c).agg))) else 
          (bif b.e != 0 then 
           (bif b.c != 0 then some ((D.mk a.v a.g a.t a.w b.e b.c).agg) else some ((D.mk a.v a.g a.t a.w b.e a.c).agg)) else 
           (bif b.c != 0 then some ((D.mk a.v a.g a.t a.w a.e b.c).agg) else some (a.agg)))))))))) (by kernel_rfl) (by
    obtain ⟨bv, bg, bt, bw, be, bc⟩ := b
    simp only [T.rbecome, DT.val_node, DT.val_leaf, DT.val_bad, DT.bind]
    repeat' (first | (with_reducible refine bif_neq (fun h => ?_) (fun h => ?_)) | (with_reducible refine bif_and (fun h => ?_) (fun h => ?_)) | (with_reducible refine bif_eq (fun h => ?_) (fun h => ?_)))
    all_goals first | (simp only [*, R.become, S.turn, S.no, S.over, S.orV, S.orT, S.there, cond_true, cond_false, Bool.and_true, Bool.true_and, Bool.and_false, Bool.false_and, Bool.or_true, Bool.true_or, Bool.or_false, Bool.false_or, Bool.not_true, Bool.not_false, beq_self_eq_true, bne_self_eq_false, Bool.not_not]; done) | (exfalso; simp_all [R.become, S.turn, S.no, S.over, S.orV, S.orT, S.there]; done) | (simp_all [R.become, S.turn, S.no, S.over, S.orV, S.orT, S.there]; done) | grind [R.become, S.turn, S.no, S.over, S.orV, S.orT, S.there])
theorem ent_rbecome : E (71, onDD T.rbecome) := byEv Ients20 80 fun args t h => by
  obtain ⟨a, b, rfl, rfl⟩ := onDD_eq h
  exact ev_rbecome a b
abbrev IL21 : Tab := (71, onDD T.rbecome) :: IL20
theorem Ients21 : ∀ p ∈ IL21, E p := entries_cons ent_rbecome Ients20
set_option maxHeartbeats 4000000 in
theorem ev_rapply (x : Bool) (a b : D) : evFn Tryd.prog ext (tab IL21) 60 32 [.bool x, a.agg, b.agg] = (T.rapply x a b).val :=
  Eq.trans (b := 
    (bif !R.check b then some (Value.tuple #[(D.mk (V.mk 0 false 0 (ByteArray.mk #[]) 0) (V.mk 0 false 0 (ByteArray.mk #[]) 0) (V.mk 0 false 0 (ByteArray.mk #[]) 0) 0 0 0).agg, Value.bool false, Value.int IntKind.i64 5]) else 
     (bif !R.zero a then 
      (bif !R.whole a then some (Value.tuple #[(D.mk (V.mk 0 false 0 (ByteArray.mk #[]) 0) (V.mk 0 false 0 (ByteArray.mk #[]) 0) (V.mk 0 false 0 (ByteArray.mk #[]) 0) 0 0 0).agg, Value.bool false, Value.int IntKind.i64 5]) else 
       (bif R.zero a then 
        (bif !x then some (Value.tuple #[a.agg, Value.bool false, Value.int IntKind.i64 0]) else some (Value.tuple #[(R.filled b).agg, Value.bool true, Value.int IntKind.i64 0])) else 
        (bif a.c == 1 then 
         (bif R.refused a b then some (Value.tuple #[a.agg, Value.bool false, Value.int IntKind.i64 0]) else some (Value.tuple #[(R.become a b).agg, Value.bool true, Value.int IntKind.i64 0])) else some (Value.tuple #[(R.become a b).agg, Value.bool true, Value.int IntKind.i64 0])))) else 
      (bif R.zero a then 
       (bif !x then some (Value.tuple #[a.agg, Value.bool false, Value.int IntKind.i64 0]) else some (Value.tuple #[(R.filled b).agg, Value.bool true, Value.int IntKind.i64 0])) else 
       (bif a.c == 1 then 
        (bif R.refused a b then some (Value.tuple #[a.agg, Value.bool false, Value.int IntKind.i64 0]) else some (Value.tuple #[(R.become a b).agg, Value.bool true, Value.int IntKind.i64 0])) else some (Value.tuple #[(R.become a b).agg, Value.bool true, Value.int IntKind.i64 0])))))) (by kernel_rfl) (by
    simp only [T.rapply, DT.val_node, DT.val_leaf, DT.val_bad, DT.bind]
    repeat' (first | (with_reducible refine bif_neq (fun h => ?_) (fun h => ?_)) | (with_reducible refine bif_and (fun h => ?_) (fun h => ?_)) | (with_reducible refine bif_eq (fun h => ?_) (fun h => ?_)))
    all_goals first | (simp only [*, R.apply, R.okA, S.V0, S.D0, cond_true, cond_false, Bool.and_true, Bool.true_and, Bool.and_false, Bool.false_and, Bool.or_true, Bool.true_or, Bool.or_false, Bool.false_or, Bool.not_true, Bool.not_false, beq_self_eq_true, bne_self_eq_false, Bool.not_not]; done) | (exfalso; simp_all [R.apply, R.okA, S.V0, S.D0]; done) | (simp_all [R.apply, R.okA, S.V0, S.D0]; done) | grind [R.apply, R.okA, S.V0, S.D0])
theorem ent_rapply : E (32, onBDD T.rapply) := byEv Ients21 60 fun args t h => by
  obtain ⟨x, a, b, rfl, rfl⟩ := onBDD_eq h
  exact ev_rapply x a b
abbrev IL22 : Tab := (32, onBDD T.rapply) :: IL21
theorem Ients22 : ∀ p ∈ IL22, E p := entries_cons ent_rapply Ients21
set_option maxHeartbeats 4000000 in
theorem ev_rkeeps (a b : D) : evFn Tryd.prog ext (tab IL22) 60 33 [a.agg, b.agg] = (T.rkeeps a b).val :=
  Eq.trans (b := 
    (bif !R.zero a then 
     (bif !R.whole a then some (Value.tuple #[Value.bool false, Value.int IntKind.i64 5]) else 
      (bif !R.zero b then 
       (bif !R.whole b then some (Value.tuple #[Value.bool false, Value.int IntKind.i64 5]) else 
        (bif R.zero a then some (Value.tuple #[Value.bool true, Value.int IntKind.i64 0]) else 
         (bif a.c == 2 then some (Value.tuple #[Value.bool true, Value.int IntKind.i64 0]) else 
          (bif R.zero b then some (Value.tuple #[Value.bool false, Value.int IntKind.i64 0]) else 
           (bif b.c != 1 then some (Value.tuple #[Value.bool false, Value.int IntKind.i64 0]) else 
            (bif b.e != a.e then some (Value.tuple #[Value.bool false, Value.int IntKind.i64 0]) else 
             (bif !R.isA a == R.isA b then some (Value.tuple #[Value.bool false, Value.int IntKind.i64 0]) else 
              (bif R.isA a then 
               (bif R.same a.g b.g then some (Value.tuple #[Value.bool (R.same a.t b.t), Value.int IntKind.i64 0]) else some (Value.tuple #[Value.bool false, Value.int IntKind.i64 0])) else 
               (bif a.w == 2 then some (Value.tuple #[Value.bool true, Value.int IntKind.i64 0]) else 
                (bif R.same a.v b.v then some (Value.tuple #[Value.bool (b.w == 1), Value.int IntKind.i64 0]) else some (Value.tuple #[Value.bool false, Value.int IntKind.i64 0]))))))))))) else 
       (bif R.zero a then some (Value.tuple #[Value.bool true, Value.int IntKind.i64 0]) else 
        (bif a.c == 2 then some (Value.tuple #[Value.bool true, Value.int IntKind.i64 0]) else 
         (bif R.zero b then some (Value.tuple #[Value.bool false, Value.int IntKind.i64 0]) else 
          (bif b.c != 1 then some (Value.tuple #[Value.bool false, Value.int IntKind.i64 0]) else 
           (bif b.e != a.e then some (Value.tuple #[Value.bool false, Value.int IntKind.i64 0]) else 
            (bif !R.isA a == R.isA b then some (Value.tuple #[Value.bool false, Value.int IntKind.i64 0]) else 
             (bif R.isA a then 
              (bif R.same a.g b.g then some (Value.tuple #[Value.bool (R.same a.t b.t), Value.int IntKind.i64 0]) else some (Value.tuple #[Value.bool false, Value.int IntKind.i64 0])) else 
              (bif a.w == 2 then some (Value.tuple #[Value.bool true, Value.int IntKind.i64 0]) else 
               (bif R.same a.v b.v then some (Value.tuple #[Value.bool (b.w == 1), Value.int IntKind.i64 0]) else some (Value.tuple #[Value.bool false, Value.int IntKind.i64 0])))))))))))) else 
     (bif !R.zero b then 
      (bif !R.whole b then some (Value.tuple #[Value.bool false, Value.int IntKind.i64 5]) else 
       (bif R.zero a then some (Value.tuple #[Value.bool true, Value.int IntKind.i64 0]) else 
        (bif a.c == 2 then some (Value.tuple #[Value.bool true, Value.int IntKind.i64 0]) else 
         (bif R.zero b then some (Value.tuple #[Value.bool false, Value.int IntKind.i64 0]) else 
          (bif b.c != 1 then some (Value.tuple #[Value.bool false, Value.int IntKind.i64 0]) else 
           (bif b.e != a.e then some (Value.tuple #[Value.bool false, Value.int IntKind.i64 0]) else 
            (bif !R.isA a == R.isA b then some (Value.tuple #[Value.bool false, Value.int IntKind.i64 0]) else 
             (bif R.isA a then 
              (bif R.same a.g b.g then some (Value.tuple #[Value.bool (R.same a.t b.t), Value.int IntKind.i64 0]) else some (Value.tuple #[Value.bool false, Value.int IntKind.i64 0])) else 
              (bif a.w == 2 then some (Value.tuple #[Value.bool true, Value.int IntKind.i64 0]) else 
               (bif R.same a.v b.v then some (Value.tuple #[Value.bool (b.w == 1), Value.int IntKind.i64 0]) else some (Value.tuple #[Value.bool false, Value.int IntKind.i64 0]))))))))))) else 
      (bif R.zero a then some (Value.tuple #[Value.bool true, Value.int IntKind.i64 0]) else 
       (bif a.c == 2 then some (Value.tuple #[Value.bool true, Value.int IntKind.i64 0]) else 
        (bif R.zero b then some (Value.tuple #[Value.bool false, Value.int IntKind.i64 0]) else 
         (bif b.c != 1 then some (Value.tuple #[Value.bool false, Value.int IntKind.i64 0]) else 
          (bif b.e != a.e then some (Value.tuple #[Value.bool false, Value.int IntKind.i64 0]) else 
           (bif !R.isA a == R.isA b then some (Value.tuple #[Value.bool false, Value.int IntKind.i64 0]) else 
            (bif R.isA a then 
             (bif R.same a.g b.g then some (Value.tuple #[Value.bool (R.same a.t b.t), Value.int IntKind.i64 0]) else some (Value.tuple #[Value.bool false, Value.int IntKind.i64 0])) else 
             (bif a.w == 2 then some (Value.tuple #[Value.bool true, Value.int IntKind.i64 0]) else 
              (bif R.same a.v b.v then some (Value.tuple #[Value.bool (b.w == 1), Value.int IntKind.i64 0]) else some (Value.tuple #[Value.bool false, Value.int IntKind.i64 0]))))))))))))) (by kernel_rfl) (by
    simp only [T.rkeeps, DT.val_node, DT.val_leaf, DT.val_bad, DT.bind]
    repeat' (first | (with_reducible refine bif_neq (fun h => ?_) (fun h => ?_)) | (with_reducible refine bif_and (fun h => ?_) (fun h => ?_)) | (with_reducible refine bif_eq (fun h => ?_) (fun h => ?_)))
    all_goals first | (simp only [*, R.keeps, R.okK, cond_true, cond_false, Bool.and_true, Bool.true_and, Bool.and_false, Bool.false_and, Bool.or_true, Bool.true_or, Bool.or_false, Bool.false_or, Bool.not_true, Bool.not_false, beq_self_eq_true, bne_self_eq_false, Bool.not_not]; done) | (exfalso; simp_all [R.keeps, R.okK]; done) | (simp_all [R.keeps, R.okK]; done) | grind [R.keeps, R.okK])
theorem ent_rkeeps : E (33, onDD T.rkeeps) := byEv Ients22 60 fun args t h => by
  obtain ⟨a, b, rfl, rfl⟩ := onDD_eq h
  exact ev_rkeeps a b
abbrev IL23 : Tab := (33, onDD T.rkeeps) :: IL22
theorem Ients23 : ∀ p ∈ IL23, E p := entries_cons ent_rkeeps Ients22
end Go.Proofs.YtaojjpdlfnphiaaDoor.PDescKinds
