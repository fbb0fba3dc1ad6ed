/- Contracts by evaluation: what each function of a list answers. Written by a program of this session. -/
import Derived.Test.YtaojjpdlfnphiaaDoorH1
namespace Go.Proofs.YtaojjpdlfnphiaaDoor.PDescKinds
open Go.RowKit Go.Ev
set_option linter.unusedSimpArgs false
set_option linter.unusedVariables false
set_option maxRecDepth 100000
set_option maxHeartbeats 4000000 in
theorem ev_over (a b : D) : evFn Tryd.prog ext (tab HL20) 90 66 [a.agg, b.agg] = (T.over a b).val :=
  Eq.trans (b := 
    (bif b.v.k != 0 then 
     (bif b.g.k != 0 then 
      (bif b.t.k != 0 then 
       (bif b.w != 0 then 
        (bif b.e != 0 then 
         (bif b.c != 0 then some (b.agg) else some ((D.mk b.v b.g b.t b.w b.e a.c).agg)) else 
         (bif b.c != 0 then some ((D.mk b.v b.g b.t b.w a.e b.c).agg) else some ((D.mk b.v b.g b.t b.w a.e a.c).agg))) else 
        (bif b.e != 0 then 
         (bif b.c != 0 then some ((D.mk b.v b.g b.t a.w b.e b.c).agg) else some ((D.mk b.v b.g b.t a.w b.e a.c).agg)) else 
         (bif b.c != 0 then some ((D.mk b.v b.g b.t a.w a.e b.c).agg) else some ((D.mk b.v b.g b.t a.w a.e a.c).agg)))) else 
       (bif b.w != 0 then 
        (bif b.e != 0 then 
         (bif b.c != 0 then some ((D.mk b.v b.g a.t b.w b.e b.c).agg) else some ((D.mk b.v b.g a.t b.w b.e a.c).agg)) else 
         (bif b.c != 0 then some ((D.mk b.v b.g a.t b.w a.e b.c).agg) else some ((D.mk b.v b.g a.t b.w a.e a.c).agg))) else 
        (bif b.e != 0 then 
         (bif b.c != 0 then some ((D.mk b.v b.g a.t a.w b.e b.c).agg) else some ((D.mk b.v b.g a.t a.w b.e a.c).agg)) else 
         (bif b.c != 0 then some ((D.mk b.v b.g a.t a.w a.e b.c).agg) else some ((D.mk b.v b.g a.t a.w a.e a.c).agg))))) else 
      (bif b.t.k != 0 then 
       (bif b.w != 0 then 
        (bif b.e != 0 then 
         (bif b.c != 0 then some ((D.mk b.v a.g b.t b.w b.e b.c).agg) else some ((D.mk b.v a.g b.t b.w b.e a.c).agg)) else 
         (bif b.c != 0 then some ((D.mk b.v a.g b.t b.w a.e b.c).agg) else some ((D.mk b.v a.g b.t b.w a.e a.c).agg))) else 
        (bif b.e != 0 then 
         (bif b.c != 0 then some ((D.mk b.v a.g b.t a.w b.e b.c).agg) else some ((D.mk b.v a.g b.t a.w b.e a.c).agg)) else 
         (bif b.c != 0 then some ((D.mk b.v a.g b.t a.w a.e b.c).agg) else some ((D.mk b.v a.g b.t a.w a.e a.c).agg)))) else 
       (bif b.w != 0 then 
        (bif b.e != 0 then 
         (bif b.c != 0 then some ((D.mk b.v a.g a.t b.w b.e b.c).agg) else some ((D.mk b.v a.g a.t b.w b.e a.c).agg)) else 
         (bif b.c != 0 then some ((D.mk b.v a.g a.t b.w a.e b.c).agg) else some ((D.mk b.v a.g a.t b.w a.e a.c).agg))) else 
        (bif b.e != 0 then 
         (bif b.c != 0 then some ((D.mk b.v a.g a.t a.w b.e b.c).agg) else some ((D.mk b.v a.g a.t a.w b.e a.c).agg)) else 
         (bif b.c != 0 then some ((D.mk b.v a.g a.t a.w a.e b.c).agg) else some ((D.mk b.v a.g a.t a.w a.e a.c).agg)))))) else 
     (bif b.g.k != 0 then 
      (bif b.t.k != 0 then 
       (bif b.w != 0 then 
        (bif b.e != 0 then 
         (bif b.c != 0 then some ((D.mk a.v b.g b.t b.w b.e b.c).agg) else some ((D.mk a.v b.g b.t b.w b.e a.c).agg)) else 
         (bif b.c != 0 then some ((D.mk a.v b.g b.t b.w a.e b.c).agg) else some ((D.mk a.v b.g b.t b.w a.e a.c).agg))) else 
        (bif b.e != 0 then 
         (bif b.c != 0 then some ((D.mk a.v b.g b.t a.w b.e b.c).agg) else some ((D.mk a.v b.g b.t a.w b.e a.c).agg)) else 
         (bif b.c != 0 then some ((D.mk a.v b.g b.t a.w a.e b.c).agg) else some ((D.mk a.v b.g b.t a.w a.e a.c).agg)))) else 
       (bif b.w != 0 then 
        (bif b.e != 0 then 
         (bif b.c != 0 then some ((D.mk a.v b.g a.t b.w b.e b.c).agg) else some ((D.mk a.v b.g a.t b.w b.e a.c).agg)) else 
         (bif b.c != 0 then some ((D.mk a.v b.g a.t b.w a.e b.c).agg) else some ((D.mk a.v b.g a.t b.w a.e a.c).agg))) else 
        (bif b.e != 0 then 
         (bif b.c != 0 then some ((D.mk a.v b.g a.t a.w b.e b.c).agg) else some ((D.mk a.v b.g a.t a.w b.e a.c).agg)) else 
         (bif b.c != 0 then some ((D.mk a.v b.g a.t a.w a.e b.c).agg) else some ((D.mk a.v b.g a.t a.w a.e a.c).agg))))) else 
      (bif b.t.k != 0 then 
       (bif b.w != 0 then 
        (bif b.e != 0 then 
         (bif b.c != 0 then some ((D.mk a.v a.g b.t b.w b.e b.c).agg) else some ((D.mk a.v a.g b.t b.w b.e a.c).agg)) else 
         (bif b.c != 0 then some ((D.mk a.v a.g b.t b.w a.e b.c).agg) else some ((D.mk a.v a.g b.t b.w a.e a.c).agg))) else 
        (bif b.e != 0 then 
         (bif b.c != 0 then some ((D.mk a.v a.g b.t a.w b.e b.c).agg) else some ((D.mk a.v a.g b.t a.w b.e a.c).agg)) else 
         (bif b.c != 0 then some ((D.mk a.v a.g b.t a.w a.e b.c).agg) else some ((D.mk a.v a.g b.t a.w a.e a.c).agg)))) else 
       (bif b.w != 0 then 
        (bif b.e != 0 then 
         (bif b.c != 0 then some ((D.mk a.v a.g a.t b.w b.e b.c).agg) else some ((D.mk a.v a.g a.t b.w b.e a.c).agg)) else 
         (bif b.c != 0 then some ((D.mk a.v a.g a.t b.w a.e b.c).agg) else some ((D.mk a.v a.g a.t b.w a.e a.c).agg))) else 
        (bif b.e != 0 then 
         (bif b.c != 0 then some ((D.mk a.v a.g a.t a.w b.e b.c).agg) else some ((D.mk a.v a.g a.t a.w b.e a.c).agg)) else 
         (bif b.c != 0 then some ((D.mk a.v a.g a.t a.w a.e b.c).agg) else some (a.agg)))))))) (by kernel_rfl) (by
    simp only [T.over, DT.val_node, DT.val_leaf, DT.bind, DT.val_bad]
    repeat' (first | (with_reducible refine bif_neq (fun h => ?_) (fun h => ?_)) | (with_reducible refine bif_and (fun h => ?_) (fun h => ?_)) | (with_reducible refine bif_eq (fun h => ?_) (fun h => ?_)))
    all_goals first | (simp only [*, S.over, S.orV, S.orT, S.there, cond_true, cond_false, Bool.and_true, Bool.true_and, Bool.and_false, Bool.false_and, Bool.or_true, Bool.true_or, Bool.or_false, Bool.false_or, Bool.not_true, Bool.not_false, beq_self_eq_true, bne_self_eq_false, Bool.not_not]; done) | (exfalso; simp_all; done) | (simp_all [S.over, S.orV, S.orT, S.there]; done) | grind [S.over, S.orV, S.orT, S.there])
theorem ent_over : E (66, onDD T.over) := byEv Hents20 90 fun args t h => by
  obtain ⟨a, b, rfl, rfl⟩ := onDD_eq h
  exact ev_over a b
abbrev HL21 : Tab := (66, onDD T.over) :: HL20
theorem Hents21 : ∀ p ∈ HL21, E p := entries_cons ent_over Hents20
set_option maxHeartbeats 4000000 in
theorem ev_apply (x : Bool) (a b : D) : evFn Tryd.prog ext (tab HL21) 60 28 [.bool x, a.agg, b.agg] = (T.apply x a b).val :=
  Eq.trans (b := 
    (bif S.check b then 
     (bif !S.whole a then 
      (bif !S.zero a then some (Value.tuple #[(D.mk (V.mk 0 false 0 (ByteArray.mk #[]) 0) (V.mk 0 false 0 (ByteArray.mk #[]) 0) (V.mk 0 false 0 (ByteArray.mk #[]) 0) 0 0 0).agg, Value.bool false, Value.int IntKind.i64 5]) else 
       (bif S.zero a then 
        (bif !x then some (Value.tuple #[a.agg, Value.bool false, Value.int IntKind.i64 0]) else 
         (bif S.check b then some (Value.tuple #[(S.complete b).agg, Value.bool true, Value.int IntKind.i64 0]) else some (Value.tuple #[S.D0.agg, Value.bool true, Value.int IntKind.i64 0]))) else 
        (bif a.c == 1 then 
         (bif S.barred a b then some (Value.tuple #[a.agg, Value.bool false, Value.int IntKind.i64 0]) else 
          (bif S.check b then 
           (bif S.hasD b then 
            (bif S.check a then 
             (bif S.hasD a then some (Value.tuple #[(S.over a b).agg, Value.bool true, Value.int IntKind.i64 0]) else 
              (bif S.hasA a then 
               (bif b.e == 0 then 
                (bif b.c == 0 then 
                 (bif S.check (D.mk b.v b.g b.t b.w a.e a.c) then some (Value.tuple #[(S.complete (D.mk b.v b.g b.t b.w a.e a.c)).agg, Value.bool true, Value.int IntKind.i64 0]) else some (Value.tuple #[S.D0.agg, Value.bool true, Value.int IntKind.i64 0])) else 
                 (bif S.check (D.mk b.v b.g b.t b.w a.e b.c) then some (Value.tuple #[(S.complete (D.mk b.v b.g b.t b.w a.e b.c)).agg, Value.bool true, Value.int IntKind.i64 0]) else some (Value.tuple #[S.D0.agg, Value.bool true, Value.int IntKind.i64 0]))) else 
                (bif b.c == 0 then 
                 (bif S.check (D.mk b.v b.g b.t b.w b.e a.c) then some (Value.tuple #[(S.complete (D.mk b.v b.g b.t b.w b.e a.c)).agg, Value.bool true, Value.int IntKind.i64 0]) else some (Value.tuple #[S.D0.agg, Value.bool true, Value.int IntKind.i64 0])) else 
                 (bif S.check b then some (Value.tuple #[(S.complete b).agg, Value.bool true, Value.int IntKind.i64 0]) else some (Value.tuple #[S.D0.agg, Value.bool true, Value.int IntKind.i64 0])))) else 
               (bif b.e == 0 then 
                (bif b.c == 0 then 
                 (bif S.check (D.mk b.v b.g b.t b.w a.e a.c) then some (Value.tuple #[(S.complete (D.mk b.v b.g b.t b.w a.e a.c)).agg, Value.bool true, Value.int IntKind.i64 0]) else some (Value.tuple #[S.D0.agg, Value.bool true, Value.int IntKind.i64 0])) else 
                 (bif S.check (D.mk b.v b.g b.t b.w a.e b.c) then some (Value.tuple #[(S.complete (D.mk b.v b.g b.t b.w a.e b.c)).agg, Value.bool true, Value.int IntKind.i64 0]) else some (Value.tuple #[S.D0.agg, Value.bool true, Value.int IntKind.i64 0]))) else 
                (bif b.c == 0 then 
                 (bif S.check (D.mk b.v b.g b.t b.w b.e a.c) then some (Value.tuple #[(S.complete (D.mk b.v b.g b.t b.w b.e a.c)).agg, Value.bool true, Value.int IntKind.i64 0]) else some (Value.tuple #[S.D0.agg, Value.bool true, Value.int IntKind.i64 0])) else 
                 (bif S.check b then some (Value.tuple #[(S.complete b).agg, Value.bool true, Value.int IntKind.i64 0]) else some (Value.tuple #[S.D0.agg, Value.bool true, Value.int IntKind.i64 0])))))) else 
             (bif S.fields a then some (Value.tuple #[(S.over a b).agg, Value.bool true, Value.int IntKind.i64 0]) else 
              (bif b.e == 0 then 
               (bif b.c == 0 then 
                (bif S.check (D.mk b.v b.g b.t b.w a.e a.c) then some (Value.tuple #[(S.complete (D.mk b.v b.g b.t b.w a.e a.c)).agg, Value.bool true, Value.int IntKind.i64 0]) else some (Value.tuple #[S.D0.agg, Value.bool true, Value.int IntKind.i64 0])) else 
                (bif S.check (D.mk b.v b.g b.t b.w a.e b.c) then some (Value.tuple #[(S.complete (D.mk b.v b.g b.t b.w a.e b.c)).agg, Value.bool true, Value.int IntKind.i64 0]) else some (Value.tuple #[S.D0.agg, Value.bool true, Value.int IntKind.i64 0]))) else 
               (bif b.c == 0 then 
                (bif S.check (D.mk b.v b.g b.t b.w b.e a.c) then some (Value.tuple #[(S.complete (D.mk b.v b.g b.t b.w b.e a.c)).agg, Value.bool true, Value.int IntKind.i64 0]) else some (Value.tuple #[S.D0.agg, Value.bool true, Value.int IntKind.i64 0])) else 
                (bif S.check b then some (Value.tuple #[(S.complete b).agg, Value.bool true, Value.int IntKind.i64 0]) else some (Value.tuple #[S.D0.agg, Value.bool true, Value.int IntKind.i64 0])))))) else 
            (bif S.hasA b then 
             (bif S.check a then 
              (bif S.hasD a then 
               (bif b.e == 0 then 
                (bif b.c == 0 then 
                 (bif S.check (D.mk b.v b.g b.t b.w a.e a.c) then some (Value.tuple #[(S.complete (D.mk b.v b.g b.t b.w a.e a.c)).agg, Value.bool true, Value.int IntKind.i64 0]) else some (Value.tuple #[S.D0.agg, Value.bool true, Value.int IntKind.i64 0])) else 
                 (bif S.check (D.mk b.v b.g b.t b.w a.e b.c) then some (Value.tuple #[(S.complete (D.mk b.v b.g b.t b.w a.e b.c)).agg, Value.bool true, Value.int IntKind.i64 0]) else some (Value.tuple #[S.D0.agg, Value.bool true, Value.int IntKind.i64 0]))) else 
                (bif b.c == 0 then 
                 (bif S.check (D.mk b.v b.g b.t b.w b.e a.c) then some (Value.tuple #[(S.complete (D.mk b.v b.g b.t b.w b.e a.c)).agg, Value.bool true, Value.int IntKind.i64 0]) else some (Value.tuple #[S.D0.agg, Value.bool true, Value.int IntKind.i64 0])) else 
                 (bif S.check b then some (Value.tuple #[(S.complete b).agg, Value.bool true, Value.int IntKind.i64 0]) else some (Value.tuple #[S.D0.agg, Value.bool true, Value.int IntKind.i64 0])))) else 
               (bif S.hasA a then some (Value.tuple #[(S.over a b).agg, Value.bool true, Value.int IntKind.i64 0]) else 
                (bif b.e == 0 then 
                 (bif b.c == 0 then 
                  (bif S.check (D.mk b.v b.g b.t b.w a.e a.c) then some (Value.tuple #[(S.complete (D.mk b.v b.g b.t b.w a.e a.c)).agg, Value.bool true, Value.int IntKind.i64 0]) else some (Value.tuple #[S.D0.agg, Value.bool true, Value.int IntKind.i64 0])) else 
                  (bif S.check (D.mk b.v b.g b.t b.w a.e b.c) then some (Value.tuple #[(S.complete (D.mk b.v b.g b.t b.w a.e b.c)).agg, Value.bool true, Value.int IntKind.i64 0]) else some (Value.tuple #[S.D0.agg, Value.bool true, Value.int IntKind.i64 0]))) else 
                 (bif b.c == 0 then 
                  (bif S.check (D.mk b.v b.g b.t b.w b.e a.c) then some (Value.tuple #[(S.complete (D.mk b.v b.g b.t b.w b.e a.c)).agg, Value.bool true, Value.int IntKind.i64 0]) else some (Value.tuple #[S.D0.agg, Value.bool true, Value.int IntKind.i64 0])) else 
                  (bif S.check b then some (Value.tuple #[(S.complete b).agg, Value.bool true, Value.int IntKind.i64 0]) else some (Value.tuple #[S.D0.agg, Value.bool true, Value.int IntKind.i64 0])))))) else 
              (bif S.fields a then 
               (bif b.e == 0 then 
                (bif b.c == 0 then 
                 (bif S.check (D.mk b.v b.g b.t b.w a.e a.c) then some (Value.tuple #[(S.complete (D.mk b.v b.g b.t b.w a.e a.c)).agg, Value.bool true, Value.int IntKind.i64 0]) else some (Value.tuple #[S.D0.agg, Value.bool true, Value.int IntKind.i64 0])) else 
                 (bif S.check (D.mk b.v b.g b.t b.w a.e b.c) then some (Value.tuple #[(S.complete (D.mk b.v b.g b.t b.w a.e b.c)).agg, Value.bool true, Value.int IntKind.i64 0]) else some (Value.tuple #[S.D0.agg, Value.bool true, Value.int IntKind.i64 0]))) else 
                (bif b.c == 0 then 
                 (bif S.check (D.mk b.v b.g b.t b.w b.e a.c) then some (Value.tuple #[(S.complete (D.mk b.v b.g b.t b.w b.e a.c)).agg, Value.bool true, Value.int IntKind.i64 0]) else some (Value.tuple #[S.D0.agg, Value.bool true, Value.int IntKind.i64 0])) else 
                 (bif S.check b then some (Value.tuple #[(S.complete b).agg, Value.bool true, Value.int IntKind.i64 0]) else some (Value.tuple #[S.D0.agg, Value.bool true, Value.int IntKind.i64 0])))) else 
               (bif b.e == 0 then 
                (bif b.c == 0 then 
                 (bif S.check (D.mk b.v b.g b.t b.w a.e a.c) then some (Value.tuple #[(S.complete (D.mk b.v b.g b.t b.w a.e a.c)).agg, Value.bool true, Value.int IntKind.i64 0]) else some (Value.tuple #[S.D0.agg, Value.bool true, Value.int IntKind.i64 0])) else 
                 (bif S.check (D.mk b.v b.g b.t b.w a.e b.c) then some (Value.tuple #[(S.complete (D.mk b.v b.g b.t b.w a.e b.c)).agg, Value.bool true, Value.int IntKind.i64 0]) else some (Value.tuple #[S.D0.agg, Value.bool true, Value.int IntKind.i64 0]))) else 
                (bif b.c == 0 then 
                 (bif S.check (D.mk b.v b.g b.t b.w b.e a.c) then some (Value.tuple #[(S.complete (D.mk b.v b.g b.t b.w b.e a.c)).agg, Value.bool true, Value.int IntKind.i64 0]) else some (Value.tuple #[S.D0.agg, Value.bool true, Value.int IntKind.i64 0])) else 
                 (bif S.check b then some (Value.tuple #[(S.complete b).agg, Value.bool true, Value.int IntKind.i64 0]) else some (Value.tuple #[S.D0.agg, Value.bool true, Value.int IntKind.i64 0])))))) else 
             (bif S.check a then 
              (bif S.hasD a then some (Value.tuple #[(S.over a b).agg, Value.bool true, Value.int IntKind.i64 0]) else 
               (bif S.hasA a then some (Value.tuple #[(S.over a b).agg, Value.bool true, Value.int IntKind.i64 0]) else some (Value.tuple #[(S.over a b).agg, Value.bool true, Value.int IntKind.i64 0]))) else 
              (bif S.fields a then some (Value.tuple #[(S.over a b).agg, Value.bool true, Value.int IntKind.i64 0]) else some (Value.tuple #[(S.over a b).agg, Value.bool true, Value.int IntKind.i64 0]))))) else 
           (bif S.fields b then 
            (bif S.check a then 
             (bif S.hasD a then some (Value.tuple #[(S.over a b).agg, Value.bool true, Value.int IntKind.i64 0]) else 
              (bif S.hasA a then 
               (bif b.e == 0 then 
                (bif b.c == 0 then 
                 (bif S.check (D.mk b.v b.g b.t b.w a.e a.c) then some (Value.tuple #[(S.complete (D.mk b.v b.g b.t b.w a.e a.c)).agg, Value.bool true, Value.int IntKind.i64 0]) else some (Value.tuple #[S.D0.agg, Value.bool true, Value.int IntKind.i64 0])) else 
                 (bif S.check (D.mk b.v b.g b.t b.w a.e b.c) then some (Value.tuple #[(S.complete (D.mk b.v b.g b.t b.w a.e b.c)).agg, Value.bool true, Value.int IntKind.i64 0]) else some (Value.tuple #[S.D0.agg, Value.bool true, Value.int IntKind.i64 0]))) else 
                (bif b.c == 0 then 
                 (bif S.check (D.mk b.v b.g b.t b.w b.e a.c) then some (Value.tuple #[(S.complete (D.mk b.v b.g b.t b.w b.e a.c)).agg, Value.bool true, Value.int IntKind.i64 0]) else some (Value.tuple #[S.D0.agg, Value.bool true, Value.int IntKind.i64 0])) else 
                 (bif S.check b then some (Value.tuple #[(S.complete b).agg, Value.bool true, Value.int IntKind.i64 0]) else some (Value.tuple #[S.D0.agg, Value.bool true, Value.int IntKind.i64 0])))) else 
               (bif b.e == 0 then 
                (bif b.c == 0 then 
                 (bif S.check (D.mk b.v b.g b.t b.w a.e a.c) then some (Value.tuple #[(S.complete (D.mk b.v b.g b.t b.w a.e a.c)).agg, Value.bool true, Value.int IntKind.i64 0]) else some (Value.tuple #[S.D0.agg, Value.bool true, Value.int IntKind.i64 0])) else 
                 (bif S.check (D.mk b.v b.g b.t b.w a.e b.c) then some (Value.tuple #[(S.complete (D.mk b.v b.g b.t b.w a.e b.c)).agg, Value.bool true, Value.int IntKind.i64 0]) else some (Value.tuple #[S.D0.agg, Value.bool true, Value.int IntKind.i64 0]))) else 
                (bif b.c == 0 then 
                 (bif S.check (D.mk b.v b.g b.t b.w b.e a.c) then some (Value.tuple #[(S.complete (D.mk b.v b.g b.t b.w b.e a.c)).agg, Value.bool true, Value.int IntKind.i64 0]) else some (Value.tuple #[S.D0.agg, Value.bool true, Value.int IntKind.i64 0])) else 
                 (bif S.check b then some (Value.tuple #[(S.complete b).agg, Value.bool true, Value.int IntKind.i64 0]) else some (Value.tuple #[S.D0.agg, Value.bool true, Value.int IntKind.i64 0])))))) else 
             (bif S.fields a then some (Value.tuple #[(S.over a b).agg, Value.bool true, Value.int IntKind.i64 0]) else 
              (bif b.e == 0 then 
               (bif b.c == 0 then 
                (bif S.check (D.mk b.v b.g b.t b.w a.e a.c) then some (Value.tuple #[(S.complete (D.mk b.v b.g b.t b.w a.e a.c)).agg, Value.bool true, Value.int IntKind.i64 0]) else some (Value.tuple #[S.D0.agg, Value.bool true, Value.int IntKind.i64 0])) else 
                (bif S.check (D.mk b.v b.g b.t b.w a.e b.c) then some (Value.tuple #[(S.complete (D.mk b.v b.g b.t b.w a.e b.c)).agg, Value.bool true, Value.int IntKind.i64 0]) else some (Value.tuple #[S.D0.agg, Value.bool true, Value.int IntKind.i64 0]))) else 
               (bif b.c == 0 then 
                (bif S.check (D.mk b.v b.g b.t b.w b.e a.c) then some (Value.tuple #[(S.complete (D.mk b.v b.g b.t b.w b.e a.c)).agg, Value.bool true, Value.int IntKind.i64 0]) else some (Value.tuple #[S.D0.agg, Value.bool true, Value.int IntKind.i64 0])) else 
                (bif S.check b then some (Value.tuple #[(S.complete b).agg, Value.bool true, Value.int IntKind.i64 0]) else some (Value.tuple #[S.D0.agg, Value.bool true, Value.int IntKind.i64 0])))))) else 
            (bif S.check a then 
             (bif S.hasD a then some (Value.tuple #[(S.over a b).agg, Value.bool true, Value.int IntKind.i64 0]) else 
              (bif S.hasA a then some (Value.tuple #[(S.over a b).agg, Value.bool true, Value.int IntKind.i64 0]) else some (Value.tuple #[(S.over a b).agg, Value.bool true, Value.int IntKind.i64 0]))) else 
             (bif S.fields a then some (Value.tuple #[(S.over a b).agg, Value.bool true, Value.int IntKind.i64 0]) else some (Value.tuple #[(S.over a b).agg, Value.bool true, Value.int IntKind.i64 0])))))) else 
         (bif S.check b then 
          (bif S.hasD b then 
           (bif S.check a then 
            (bif S.hasD a then some (Value.tuple #[(S.over a b).agg, Value.bool true, Value.int IntKind.i64 0]) else 
             (bif S.hasA a then 
              (bif b.e == 0 then 
               (bif b.c == 0 then 
                (bif S.check (D.mk b.v b.g b.t b.w a.e a.c) then some (Value.tuple #[(S.complete (D.mk b.v b.g b.t b.w a.e a.c)).agg, Value.bool true, Value.int IntKind.i64 0]) else some (Value.tuple #[S.D0.agg, Value.bool true, Value.int IntKind.i64 0])) else 
                (bif S.check (D.mk b.v b.g b.t b.w a.e b.c) then some (Value.tuple #[(S.complete (D.mk b.v b.g b.t b.w a.e b.c)).agg, Value.bool true, Value.int IntKind.i64 0]) else some (Value.tuple #[S.D0.agg, Value.bool true, Value.int IntKind.i64 0]))) else 
               (bif b.c == 0 then 
                (bif S.check (D.mk b.v b.g b.t b.w b.e a.c) then some (Value.tuple #[(S.complete (D.mk b.v b.g b.t b.w b.e a.c)).agg, Value.bool true, Value.int IntKind.i64 0]) else some (Value.tuple #[S.D0.agg, Value.bool true, Value.int IntKind.i64 0])) else 
                (bif S.check b then some (Value.tuple #[(S.complete b).agg, Value.bool true, Value.int IntKind.i64 0]) else some (Value.tuple #[S.D0.agg, Value.bool true, Value.int IntKind.i64 0])))) else 
              (bif b.e == 0 then 
               (bif b.c == 0 then 
                (bif S.check (D.mk b.v b.g b.t b.w a.e a.c) then some (Value.tuple #[(S.complete (D.mk b.v b.g b.t b.w a.e a.c)).agg, Value.bool true, Value.int IntKind.i64 0]) else some (Value.tuple #[S.D0.agg, Value.bool true, Value.int IntKind.i64 0])) else 
                (bif S.check (D.mk b.v b.g b.t b.w a.e b.c) then some (Value.tuple #[(S.complete (D.mk b.v b.g b.t b.w a.e b.c)).agg, Value.bool true, Value.int IntKind.i64 0]) else some (Value.tuple #[S.D0.agg, Value.bool true, Value.int IntKind.i64 0]))) else 
               (bif b.c == 0 then 
                (bif S.check (D.mk b.v b.g b.t b.w b.e a.c) then some (Value.tuple #[(S.complete (D.mk b.v b.g b.t b.w b.e a.c)).agg, Value.bool true, Value.int IntKind.i64 0]) else some (Value.tuple #[S.D0.agg, Value.bool true, Value.int IntKind.i64 0])) else 
                (bif S.check b then some (Value.tuple #[(S.complete b).agg, Value.bool true, Value.int IntKind.i64 0]) else some (Value.tuple #[S.D0.agg, Value.bool true, Value.int IntKind.i64 0])))))) else 
            (bif S.fields a then some (Value.tuple #[(S.over a b).agg, Value.bool true, Value.int IntKind.i64 0]) else 
             (bif b.e == 0 then 
              (bif b.c == 0 then 
               (bif S.check (D.mk b.v b.g b.t b.w a.e a.c) then some (Value.tuple #[(S.complete (D.mk b.v b.g b.t b.w a.e a.c)).agg, Value.bool true, Value.int IntKind.i64 0]) else some (Value.tuple #[S.D0.agg, Value.bool true, Value.int IntKind.i64 0])) else 
               (bif S.check (D.mk b.v b.g b.t b.w a.e b.c) then some (Value.tuple #[(S.complete (D.mk b.v b.g b.t b.w a.e b.c)).agg, Value.bool true, Value.int IntKind.i64 0]) else some (Value.tuple #[S.D0.agg, Value.bool true, Value.int IntKind.i64 0]))) else 
              (bif b.c == 0 then 
               (bif S.check (D.mk b.v b.g b.t b.w b.e a.c) then some (Value.tuple #[(S.complete (D.mk b.v b.g b.t b.w b.e a.c)).agg, Value.bool true, Value.int IntKind.i64 0]) else some (Value.tuple #[S.D0.agg, Value.bool true, Value.int IntKind.i64 0])) else 
               (bif S.check b then some (Value.tuple #[(S.complete b).agg, Value.bool true, Value.int IntKind.i64 0]) else some (Value.tuple #[S.D0.agg, Value.bool true, Value.int IntKind.i64 0])))))) else 
           (bif S.hasA b then 
            (bif S.check a then 
             (bif S.hasD a then 
              (bif b.e == 0 then 
               (bif b.c == 0 then 
                (bif S.check (D.mk b.v b.g b.t b.w a.e a.c) then some (Value.tuple #[(S.complete (D.mk b.v b.g b.t b.w a.e a.c)).agg, Value.bool true, Value.int IntKind.i64 0]) else some (Value.tuple #[S.D0.agg, Value.bool true, Value.int IntKind.i64 0])) else 
                (bif S.check (D.mk b.v b.g b.t b.w a.e b.c) then some (Value.tuple #[(S.complete (D.mk b.v b.g b.t b.w a.e b.c)).agg, Value.bool true, Value.int IntKind.i64 0]) else some (Value.tuple #[S.D0.agg, Value.bool true, Value.int IntKind.i64 0]))) else 
               (bif b.c == 0 then 
                (bif S.check (D.mk b.v b.g b.t b.w b.e a.c) then some (Value.tuple #[(S.complete (D.mk b.v b.g b.t b.w b.e a.c)).agg, Value.bool true, Value.int IntKind.i64 0]) else some (Value.tuple #[S.D0.agg, Value.bool true, Value.int IntKind.i64 0])) else 
                (bif S.check b then some (Value.tuple #[(S.complete b).agg, Value.bool true, Value.int IntKind.i64 0]) else some (Value.tuple #[S.D0.agg, Value.bool true, Value.int IntKind.i64 0])))) else 
              (bif S.hasA a then some (Value.tuple #[(S.over a b).agg, Value.bool true, Value.int IntKind.i64 0]) else 
               (bif b.e == 0 then 
                (bif b.c == 0 then 
                 (bif S.check (D.mk b.v b.g b.t b.w a.e a.c) then some (Value.tuple #[(S.complete (D.mk b.v b.g b.t b.w a.e a.c)).agg, Value.bool true, Value.int IntKind.i64 0]) else some (Value.tuple #[S.D0.agg, Value.bool true, Value.int IntKind.i64 0])) else 
                 (bif S.check (D.mk b.v b.g b.t b.w a.e b.c) then some (Value.tuple #[(S.complete (D.mk b.v b.g b.t b.w a.e b.c)).agg, Value.bool true, Value.int IntKind.i64 0]) else some (Value.tuple #[S.D0.agg, Value.bool true, Value.int IntKind.i64 0]))) else 
                (bif b.c == 0 then 
                 (bif S.check (D.mk b.v b.g b.t b.w b.e a.c) then some (Value.tuple #[(S.complete (D.mk b.v b.g b.t b.w b.e a.c)).agg, Value.bool true, Value.int IntKind.i64 0]) else some (Value.tuple #[S.D0.agg, Value.bool true, Value.int IntKind.i64 0])) else 
                 (bif S.check b then some (Value.tuple #[(S.complete b).agg, Value.bool true, Value.int IntKind.i64 0]) else some (Value.tuple #[S.D0.agg, Value.bool true, Value.int IntKind.i64 0])))))) else 
             (bif S.fields a then 
              (bif b.e == 0 then 
               (bif b.c == 0 then 
                (bif S.check (D.mk b.v b.g b.t b.w a.e a.c) then some (Value.tuple #[(S.complete (D.mk b.v b.g b.t b.w a.e a.c)).agg, Value.bool true, Value.int IntKind.i64 0]) else some (Value.tuple #[S.D0.agg, Value.bool true, Value.int IntKind.i64 0])) else 
                (bif S.check (D.mk b.v b.g b.t b.w a.e b.c) then some (Value.tuple #[(S.complete (D.mk b.v b.g b.t b.w a.e b.c)).agg, Value.bool true, Value.int IntKind.i64 0]) else some (Value.tuple #[S.D0.agg, Value.bool true, Value.int IntKind.i64 0]))) else 
               (bif b.c == 0 then 
                (bif S.check (D.mk b.v b.g b.t b.w b.e a.c) then some (Value.tuple #[(S.complete (D.mk b.v b.g b.t b.w b.e a.c)).agg, Value.bool true, Value.int IntKind.i64 0]) else some (Value.tuple #[S.D0.agg, Value.bool true, Value.int IntKind.i64 0])) else 
                (bif S.check b then some (Value.tuple #[(S.complete b).agg, Value.bool true, Value.int IntKind.i64 0]) else some (Value.tuple #[S.D0.agg, Value.bool true, Value.int IntKind.i64 0])))) else 
              (bif b.e == 0 then 
               (bif b.c == 0 then 
                (bif S.check (D.mk b.v b.g b.t b.w a.e a.c) then some (Value.tuple #[(S.complete (D.mk b.v b.g b.t b.w a.e a.c)).agg, Value.bool true, Value.int IntKind.i64 0]) else some (Value.tuple #[S.D0.agg, Value.bool true, Value.int IntKind.i64 0])) else 
                (bif S.check (D.mk b.v b.g b.t b.w a.e b.c) then some (Value.tuple #[(S.complete (D.mk b.v b.g b.t b.w a.e b.c)).agg, Value.bool true, Value.int IntKind.i64 0]) else some (Value.tuple #[S.D0.agg, Value.bool true, Value.int IntKind.i64 0]))) else 
               (bif b.c == 0 then 
                (bif S.check (D.mk b.v b.g b.t b.w b.e a.c) then some (Value.tuple #[(S.complete (D.mk b.v b.g b.t b.w b.e a.c)).agg, Value.bool true, Value.int IntKind.i64 0]) else some (Value.tuple #[S.D0.agg, Value.bool true, Value.int IntKind.i64 0])) else 
                (bif S.check b then some (Value.tuple #[(S.complete b).agg, Value.bool true, Value.int IntKind.i64 0]) else some (Value.tuple #[S.D0.agg, Value.bool true, Value.int IntKind.i64 0])))))) else 
            (bif S.check a then 
             (bif S.hasD a then some (Value.tuple #[(S.over a b).agg, Value.bool true, Value.int IntKind.i64 0]) else 
              (bif S.hasA a then some (Value.tuple #[(S.over a b).agg, Value.bool true, Value.int IntKind.i64 0]) else some (Value.tuple #[(S.over a b).agg, Value.bool true, Value.int IntKind.i64 0]))) else 
             (bif S.fields a then some (Value.tuple #[(S.over a b).agg, Value.bool true, Value.int IntKind.i64 0]) else some (Value.tuple #[(S.over a b).agg, Value.bool true, Value.int IntKind.i64 0]))))) else 
          (bif S.fields b then 
           (bif S.check a then 
            (bif S.hasD a then some (Value.tuple #[(S.over a b).agg, Value.bool true, Value.int IntKind.i64 0]) else 
             (bif S.hasA a then 
              (bif b.e == 0 then 
               (bif b.c == 0 then 
                (bif S.check (D.mk b.v b.g b.t b.w a.e a.c) then some (Value.tuple #[(S.complete (D.mk b.v b.g b.t b.w a.e a.c)).agg, Value.bool true, Value.int IntKind.i64 0]) else some (Value.tuple #[S.D0.agg, Value.bool true, Value.int IntKind.i64 0])) else 
                (bif S.check (D.mk b.v b.g b.t b.w a.e b.c) then some (Value.tuple #[(S.complete (D.mk b.v b.g b.t b.w a.e b.c)).agg, Value.bool true, Value.int IntKind.i64 0]) else some (Value.tuple #[S.D0.agg, Value.bool true, Value.int IntKind.i64 0]))) else 
               (bif b.c == 0 then 
                (bif S.check (D.mk b.v b.g b.t b.w b.e a.c) then some (Value.tuple #[(S.complete (D.mk b.v b.g b.t b.w b.e a.c)).agg, Value.bool true, Value.int IntKind.i64 0]) else some (Value.tuple #[S.D0.agg, Value.bool true, Value.int IntKind.i64 0])) else 
                (bif S.check b then some (Value.tuple #[(S.complete b).agg, Value.bool true, Value.int IntKind.i64 0]) else some (Value.tuple #[S.D0.agg, Value.bool true, Value.int IntKind.i64 0])))) else 
              (bif b.e == 0 then 
               (bif b.c == 0 then 
                (bif S.check (D.mk b.v b.g b.t b.w a.e a.c) then some (Value.tuple #[(S.complete (D.mk b.v b.g b.t b.w a.e a.c)).agg, Value.bool true, Value.int IntKind.i64 0]) else some (Value.tuple #[S.D0.agg, Value.bool true, Value.int IntKind.i64 0])) else 
                (bif S.check (D.mk b.v b.g b.t b.w a.e b.c) then some (Value.tuple #[(S.complete (D.mk b.v b.g b.t b.w a.e b.c)).agg, Value.bool true, Value.int IntKind.i64 0]) else some (Value.tuple #[S.D0.agg, Value.bool true, Value.int IntKind.i64 0]))) else 
               (bif b.c == 0 then 
                (bif S.check (D.mk b.v b.g b.t b.w b.e a.c) then some (Value.tuple #[(S.complete (D.mk b.v b.g b.t b.w b.e a.c)).agg, Value.bool true, Value.int IntKind.i64 0]) else some (Value.tuple #[S.D0.agg, Value.bool true, Value.int IntKind.i64 0])) else 
                (bif S.check b then some (Value.tuple #[(S.complete b).agg, Value.bool true, Value.int IntKind.i64 0]) else some (Value.tuple #[S.D0.agg, Value.bool true, Value.int IntKind.i64 0])))))) else 
            (bif S.fields a then some (Value.tuple #[(S.over a b).agg, Value.bool true, Value.int IntKind.i64 0]) else 
             (bif b.e == 0 then 
              (bif b.c == 0 then 
               (bif S.check (D.mk b.v b.g b.t b.w a.e a.c) then some (Value.tuple #[(S.complete (D.mk b.v b.g b.t b.w a.e a.c)).agg, Value.bool true, Value.int IntKind.i64 0]) else some (Value.tuple #[S.D0.agg, Value.bool true, Value.int IntKind.i64 0])) else 
               (bif S.check (D.mk b.v b.g b.t b.w a.e b.c) then some (Value.tuple #[(S.complete (D.mk b.v b.g b.t b.w a.e b.c)).agg, Value.bool true, Value.int IntKind.i64 0]) else some (Value.tuple #[S.D0.agg, Value.bool true, Value.int IntKind.i64 0]))) else 
              (bif b.c == 0 then 
               (bif S.check (D.mk b.v b.g b.t b.w b.e a.c) then some (Value.tuple #[(S.complete (D.mk b.v b.g b.t b.w b.e a.c)).agg, Value.bool true, Value.int IntKind.i64 0]) else some (Value.tuple #[S.D0.agg, Value.bool true, Value.int IntKind.i64 0])) else 
               (bif S.check b then some (Value.tuple #[(S.complete b).agg, Value.bool true, Value.int IntKind.i64 0]) else some (Value.tuple #[S.D0.agg, Value.bool true, Value.int IntKind.i64 0])))))) else 
           (bif S.check a then 
            (bif S.hasD a then some (Value.tuple #[(S.over a b).agg, Value.bool true, Value.int IntKind.i64 0]) else 
             (bif S.hasA a then some (Value.tuple #[(S.over a b).agg, Value.bool true, Value.int IntKind.i64 0]) else some (Value.tuple #[(S.over a b).agg, Value.bool true, Value.int IntKind.i64 0]))) else 
            (bif S.fields a then some (Value.tuple #[(S.over a b).agg, Value.bool true, Value.int IntKind.i64 0]) else some (Value.tuple #[(S.over a b).agg, Value.bool true, Value.int IntKind.i64 0])))))))) else 
      (bif S.zero a then 
       (bif !x then some (Value.tuple #[a.agg, Value.bool false, Value.int IntKind.i64 0]) else 
        (bif S.check b then some (Value.tuple #[(S.complete b).agg, Value.bool true, Value.int IntKind.i64 0]) else some (Value.tuple #[S.D0.agg, Value.bool true, Value.int IntKind.i64 0]))) else 
       (bif a.c == 1 then 
        (bif S.barred a b then some (Value.tuple #[a.agg, Value.bool false, Value.int IntKind.i64 0]) else 
         (bif S.check b then 
          (bif S.hasD b then 
           (bif S.check a then 
            (bif S.hasD a then some (Value.tuple #[(S.over a b).agg, Value.bool true, Value.int IntKind.i64 0]) else 
             (bif S.hasA a then 
              (bif b.e == 0 then 
               (bif b.c == 0 then 
                (bif S.check (D.mk b.v b.g b.t b.w a.e a.c) then some (Value.tuple #[(S.complete (D.mk b.v b.g b.t b.w a.e a.c)).agg, Value.bool true, Value.int IntKind.i64 0]) else some (Value.tuple #[S.D0.agg, Value.bool true, Value.int IntKind.i64 0])) else 
                (bif S.check (D.mk b.v b.g b.t b.w a.e b.c) then some (Value.tuple #[(S.complete (D.mk b.v b.g b.t b.w a.e b.c)).agg, Value.bool true, Value.int IntKind.i64 0]) else some (Value.tuple #[S.D0.agg, Value.bool true, Value.int IntKind.i64 0]))) else 
               (bif b.c == 0 then 
                (bif S.check (D.mk b.v b.g b.t b.w b.e a.c) then some (Value.tuple #[(S.complete (D.mk b.v b.g b.t b.w b.e a.c)).agg, Value.bool true, Value.int IntKind.i64 0]) else some (Value.tuple #[S.D0.agg, Value.bool true, Value.int IntKind.i64 0])) else 
                (bif S.check b then some (Value.tuple #[(S.complete b).agg, Value.bool true, Value.int IntKind.i64 0]) else some (Value.tuple #[S.D0.agg, Value.bool true, Value.int IntKind.i64 0])))) else 
              (bif b.e == 0 then 
               (bif b.c == 0 then 
                (bif S.check (D.mk b.v b.g b.t b.w a.e a.c) then some (Value.tuple #[(S.complete (D.mk b.v b.g b.t b.w a.e a.c)).agg, Value.bool true, Value.int IntKind.i64 0]) else some (Value.tuple #[S.D0.agg, Value.bool true, Value.int IntKind.i64 0])) else 
                (bif S.check (D.mk b.v b.g b.t b.w a.e b.c) then some (Value.tuple #[(S.complete (D.mk b.v b.g b.t b.w a.e b.c)).agg, Value.bool true, Value.int IntKind.i64 0]) else some (Value.tuple #[S.D0.agg, Value.bool true, Value.int IntKind.i64 0]))) else 
               (bif b.c == 0 then 
                (bif S.check (D.mk b.v b.g b.t b.w b.e a.c) then some (Value.tuple #[(S.complete (D.mk b.v b.g b.t b.w b.e a.c)).agg, Value.bool true, Value.int IntKind.i64 0]) else some (Value.tuple #[S.D0.agg, Value.bool true, Value.int IntKind.i64 0])) else 
                (bif S.check b then some (Value.tuple #[(S.complete b).agg, Value.bool true, Value.int IntKind.i64 0]) else some (Value.tuple #[S.D0.agg, Value.bool true, Value.int IntKind.i64 0])))))) else 
            (bif S.fields a then some (Value.tuple #[(S.over a b).agg, Value.bool true, Value.int IntKind.i64 0]) else 
             (bif b.e == 0 then 
              (bif b.c == 0 then 
               (bif S.check (D.mk b.v b.g b.t b.w a.e a.c) then some (Value.tuple #[(S.complete (D.mk b.v b.g b.t b.w a.e a.c)).agg, Value.bool true, Value.int IntKind.i64 0]) else some (Value.tuple #[S.D0.agg, Value.bool true, Value.int IntKind.i64 0])) else 
               (bif S.check (D.mk b.v b.g b.t b.w a.e b.c) then some (Value.tuple #[(S.complete (D.mk b.v b.g b.t b.w a.e b.c)).agg, Value.bool true, Value.int IntKind.i64 0]) else some (Value.tuple #[S.D0.agg, Value.bool true, Value.int IntKind.i64 0]))) else 
              (bif b.c == 0 then 
               (bif S.check (D.mk b.v b.g b.t b.w b.e a.c) then some (Value.tuple #[(S.complete (D.mk b.v b.g b.t b.w b.e a.c)).agg, Value.bool true, Value.int IntKind.i64 0]) else some (Value.tuple #[S.D0.agg, Value.bool true, Value.int IntKind.i64 0])) else 
               (bif S.check b then some (Value.tuple #[(S.complete b).agg, Value.bool true, Value.int IntKind.i64 0]) else some (Value.tuple #[S.D0.agg, Value.bool true, Value.int IntKind.i64 0])))))) else 
           (bif S.hasA b then 
            (bif S.check a then 
             (bif S.hasD a then 
              (bif b.e == 0 then 
               (bif b.c == 0 then 
                (bif S.check (D.mk b.v b.g b.t b.w a.e a.c) then some (Value.tuple #[(S.complete (D.mk b.v b.g b.t b.w a.e a.c)).agg, Value.bool true, Value.int IntKind.i64 0]) else some (Value.tuple #[S.D0.agg, Value.bool true, Value.int IntKind.i64 0])) else 
                (bif S.check (D.mk b.v b.g b.t b.w a.e b.c) then some (Value.tuple #[(S.complete (D.mk b.v b.g b.t b.w a.e b.c)).agg, Value.bool true, Value.int IntKind.i64 0]) else some (Value.tuple #[S.D0.agg, Value.bool true, Value.int IntKind.i64 0]))) else 
               (bif b.c == 0 then 
                (bif S.check (D.mk b.v b.g b.t b.w b.e a.c) then some (Value.tuple #[(S.complete (D.mk b.v b.g b.t b.w b.e a.c)).agg, Value.bool true, Value.int IntKind.i64 0]) else some (Value.tuple #[S.D0.agg, Value.bool true, Value.int IntKind.i64 0])) else 
                (bif S.check b then some (Value.tuple #[(S.complete b).agg, Value.bool true, Value.int IntKind.i64 0]) else some (Value.tuple #[S.D0.agg, Value.bool true, Value.int IntKind.i64 0])))) else 
              (bif S.hasA a then some (Value.tuple #[(S.over a b).agg, Value.bool true, Value.int IntKind.i64 0]) else 
               (bif b.e == 0 then 
                (bif b.c == 0 then 
                 (bif S.check (D.mk b.v b.g b.t b.w a.e a.c) then some (Value.tuple #[(S.complete (D.mk b.v b.g b.t b.w a.e a.c)).agg, Value.bool true, Value.int IntKind.i64 0]) else some (Value.tuple #[S.D0.agg, Value.bool true, Value.int IntKind.i64 0])) else 
                 (bif S.check (D.mk b.v b.g b.t b.w a.e b.c) then some (Value.tuple #[(S.complete (D.mk b.v b.g b.t b.w a.e b.c)).agg, Value.bool true, Value.int IntKind.i64 0]) else some (Value.tuple #[S.D0.agg, Value.bool true, Value.int IntKind.i64 0]))) else 
                (bif b.c == 0 then 
                 (bif S.check (D.mk b.v b.g b.t b.w b.e a.c) then some (Value.tuple #[(S.complete (D.mk b.v b.g b.t b.w b.e a.c)).agg, Value.bool true, Value.int IntKind.i64 0]) else some (Value.tuple #[S.D0.agg, Value.bool true, Value.int IntKind.i64 0])) else 
                 (bif S.check b then some (Value.tuple #[(S.complete b).agg, Value.bool true, Value.int IntKind.i64 0]) else some (Value.tuple #[S.D0.agg, Value.bool true, Value.int IntKind.i64 0])))))) else 
             (bif S.fields a then 
              (bif b.e == 0 then 
               (bif b.c == 0 then 
                (bif S.check (D.mk b.v b.g b.t b.w a.e a.c) then some (Value.tuple #[(S.complete (D.mk b.v b.g b.t b.w a.e a.c)).agg, Value.bool true, Value.int IntKind.i64 0]) else some (Value.tuple #[S.D0.agg, Value.bool true, Value.int IntKind.i64 0])) else 
                (bif S.check (D.mk b.v b.g b.t b.w a.e b.c) then some (Value.tuple #[(S.complete (D.mk b.v b.g b.t b.w a.e b.c)).agg, Value.bool true, Value.int IntKind.i64 0]) else some (Value.tuple #[S.D0.agg, Value.bool true, Value.int IntKind.i64 0]))) else 
               (bif b.c == 0 then 
                (bif S.check (D.mk b.v b.g b.t b.w b.e a.c) then some (Value.tuple #[(S.complete (D.mk b.v b.g b.t b.w b.e a.c)).agg, Value.bool true, Value.int IntKind.i64 0]) else some (Value.tuple #[S.D0.agg, Value.bool true, Value.int IntKind.i64 0])) else 
                (bif S.check b then some (Value.tuple #[(S.complete b).agg, Value.bool true, Value.int IntKind.i64 0]) else some (Value.tuple #[S.D0.agg, Value.bool true, Value.int IntKind.i64 0])))) else 
              (bif b.e == 0 then 
               (bif b.c == 0 then 
                (bif S.check (D.mk b.v b.g b.t b.w a.e a.c) then some (Value.tuple #[(S.complete (D.mk b.v b.g b.t b.w a.e a.c)).agg, Value.bool true, Value.int IntKind.i64 0]) else some (Value.tuple #[S.D0.agg, Value.bool true, Value.int IntKind.i64 0])) else 
                (bif S.check (D.mk b.v b.g b.t b.w a.e b.c) then some (Value.tuple #[(S.complete (D.mk b.v b.g b.t b.w a.e b.c)).agg, Value.bool true, Value.int IntKind.i64 0]) else some (Value.tuple #[S.D0.agg, Value.bool true, Value.int IntKind.i64 0]))) else 
               (bif b.c == 0 then 
                (bif S.check (D.mk b.v b.g b.t b.w b.e a.c) then some (Value.tuple #[(S.complete (D.mk b.v b.g b.t b.w b.e a.c)).agg, Value.bool true, Value.int IntKind.i64 0]) else some (Value.tuple #[S.D0.agg, Value.bool true, Value.int IntKind.i64 0])) else 
                (bif S.check b then some (Value.tuple #[(S.complete b).agg, Value.bool true, Value.int IntKind.i64 0]) else some (Value.tuple #[S.D0.agg, Value.bool true, Value.int IntKind.i64 0])))))) else 
            (bif S.check a then 
             (bif S.hasD a then some (Value.tuple #[(S.over a b).agg, Value.bool true, Value.int IntKind.i64 0]) else 
              (bif S.hasA a then some (Value.tuple #[(S.over a b).agg, Value.bool true, Value.int IntKind.i64 0]) else some (Value.tuple #[(S.over a b).agg, Value.bool true, Value.int IntKind.i64 0]))) else 
             (bif S.fields a then some (Value.tuple #[(S.over a b).agg, Value.bool true, Value.int IntKind.i64 0]) else some (Value.tuple #[(S.over a b).agg, Value.bool true, Value.int IntKind.i64 0]))))) else 
          (bif S.fields b then 
           (bif S.check a then 
            (bif S.hasD a then some (Value.tuple #[(S.over a b).agg, Value.bool true, Value.int IntKind.i64 0]) else 
             (bif S.hasA a then 
              (bif b.e == 0 then 
               (bif b.c == 0 then 
                (bif S.check (D.mk b.v b.g b.t b.w a.e a.c) then some (Value.tuple #[(S.complete (D.mk b.v b.g b.t b.w a.e a.c)).agg, Value.bool true, Value.int IntKind.i64 0]) else some (Value.tuple #[S.D0.agg, Value.bool true, Value.int IntKind.i64 0])) else 
                (bif S.check (D.mk b.v b.g b.t b.w a.e b.c) then some (Value.tuple #[(S.complete (D.mk b.v b.g b.t b.w a.e b.c)).agg, Value.bool true, Value.int IntKind.i64 0]) else some (Value.tuple #[S.D0.agg, Value.bool true, Value.int IntKind.i64 0]))) else 
               (bif b.c == 0 then 
                (bif S.check (D.mk b.v b.g b.t b.w b.e a.c) then some (Value.tuple #[(S.complete (D.mk b.v b.g b.t b.w b.e a.c)).agg, Value.bool true, Value.int IntKind.i64 0]) else some (Value.tuple #[S.D0.agg, Value.bool true, Value.int IntKind.i64 0])) else 
                (bif S.check b then some (Value.tuple #[(S.complete b).agg, Value.bool true, Value.int IntKind.i64 0]) else some (Value.tuple #[S.D0.agg, Value.bool true, Value.int IntKind.i64 0])))) else 
              (bif b.e == 0 then 
               (bif b.c == 0 then 
                (bif S.check (D.mk b.v b.g b.t b.w a.e a.c) then some (Value.tuple #[(S.complete (D.mk b.v b.g b.t b.w a.e a.c)).agg, Value.bool true, Value.int IntKind.i64 0]) else some (Value.tuple #[S.D0.agg, Value.bool true, Value.int IntKind.i64 0])) else 
                (bif S.check (D.mk b.v b.g b.t b.w a.e b.c) then some (Value.tuple #[(S.complete (D.mk b.v b.g b.t b.w a.e b.c)).agg, Value.bool true, Value.int IntKind.i64 0]) else some (Value.tuple #[S.D0.agg, Value.bool true, Value.int IntKind.i64 0]))) else 
               (bif b.c == 0 then 
                (bif S.check (D.mk b.v b.g b.t b.w b.e a.c) then some (Value.tuple #[(S.complete (D.mk b.v b.g b.t b.w b.e a.c)).agg, Value.bool true, Value.int IntKind.i64 0]) else some (Value.tuple #[S.D0.agg, Value.bool true, Value.int IntKind.i64 0])) else 
                (bif S.check b then some (Value.tuple #[(S.complete b).agg, Value.bool true, Value.int IntKind.i64 0]) else some (Value.tuple #[S.D0.agg, Value.bool true, Value.int IntKind.i64 0])))))) else 
            (bif S.fields a then some (Value.tuple #[(S.over a b).agg, Value.bool true, Value.int IntKind.i64 0]) else 
             (bif b.e == 0 then 
              (bif b.c == 0 then 
               (bif S.check (D.mk b.v b.g b.t b.w a.e a.c) then some (Value.tuple #[(S.complete (D.mk b.v b.g b.t b.w a.e a.c)).agg, Value.bool true, Value.int IntKind.i64 0]) else some (Value.tuple #[S.D0.agg, Value.bool true, Value.int IntKind.i64 0])) else 
               (bif S.check (D.mk b.v b.g b.t b.w a.e b.c) then some (Value.tuple #[(S.complete (D.mk b.v b.g b.t b.w a.e b.c)).agg, Value.bool true, Value.int IntKind.i64 0]) else some (Value.tuple #[S.D0.agg, Value.bool true, Value.int IntKind.i64 0]))) else 
              (bif b.c == 0 then 
               (bif S.check (D.mk b.v b.g b.t b.w b.e a.c) then some (Value.tuple #[(S.complete (D.mk b.v b.g b.t b.w b.e a.c)).agg, Value.bool true, Value.int IntKind.i64 0]) else some (Value.tuple #[S.D0.agg, Value.bool true, Value.int IntKind.i64 0])) else 
               (bif S.check b then some (Value.tuple #[(S.complete b).agg, Value.bool true, Value.int IntKind.i64 0]) else some (Value.tuple #[S.D0.agg, Value.bool true, Value.int IntKind.i64 0])))))) else 
           (bif S.check a then 
            (bif S.hasD a then some (Value.tuple #[(S.over a b).agg, Value.bool true, Value.int IntKind.i64 0]) else 
             (bif S.hasA a then some (Value.tuple #[(S.over a b).agg, Value.bool true, Value.int IntKind.i64 0]) else some (Value.tuple #[(S.over a b).agg, Value.bool true, Value.int IntKind.i64 0]))) else 
            (bif S.fields a then some (Value.tuple #[(S.over a b).agg, Value.bool true, Value.int IntKind.i64 0]) else some (Value.tuple #[(S.over a b).agg, Value.bool true, Value.int IntKind.i64 0])))))) else 
        (bif S.check b then 
         (bif S.hasD b then 
          (bif S.check a then 
           (bif S.hasD a then some (Value.tuple #[(S.over a b).agg, Value.bool true, Value.int IntKind.i64 0]) else 
            (bif S.hasA a then 
             (bif b.e == 0 then 
              (bif b.c == 0 then 
               (bif S.check (D.mk b.v b.g b.t b.w a.e a.c) then some (Value.tuple #[(S.complete (D.mk b.v b.g b.t b.w a.e a.c)).agg, Value.bool true, Value.int IntKind.i64 0]) else some (Value.tuple #[S.D0.agg, Value.bool true, Value.int IntKind.i64 0])) else 
               (bif S.check (D.mk b.v b.g b.t b.w a.e b.c) then some (Value.tuple #[(S.complete (D.mk b.v b.g b.t b.w a.e b.c)).agg, Value.bool true, Value.int IntKind.i64 0]) else some (Value.tuple #[S.D0.agg, Value.bool true, Value.int IntKind.i64 0]))) else 
              (bif b.c == 0 then 
               (bif S.check (D.mk b.v b.g b.t b.w b.e a.c) then some (Value.tuple #[(S.complete (D.mk b.v b.g b.t b.w b.e a.c)).agg, Value.bool true, Value.int IntKind.i64 0]) else some (Value.tuple #[S.D0.agg, Value.bool true, Value.int IntKind.i64 0])) else 
               (bif S.check b then some (Value.tuple #[(S.complete b).agg, Value.bool true, Value.int IntKind.i64 0]) else some (Value.tuple #[S.D0.agg, Value.bool true, Value.int IntKind.i64 0])))) else 
             (bif b.e == 0 then 
              (bif b.c == 0 then 
               (bif S.check (D.mk b.v b.g b.t b.w a.e a.c) then some (Value.tuple #[(S.complete (D.mk b.v b.g b.t b.w a.e a.c)).agg, Value.bool true, Value.int IntKind.i64 0]) else some (Value.tuple #[S.D0.agg, Value.bool true, Value.int IntKind.i64 0])) else 
               (bif S.check (D.mk b.v b.g b.t b.w a.e b.c) then some (Value.tuple #[(S.complete (D.mk b.v b.g b.t b.w a.e b.c)).agg, Value.bool true, Value.int IntKind.i64 0]) else some (Value.tuple #[S.D0.agg, Value.bool true, Value.int IntKind.i64 0]))) else 
              (bif b.c == 0 then 
               (bif S.check (D.mk b.v b.g b.t b.w b.e a.c) then some (Value.tuple #[(S.complete (D.mk b.v b.g b.t b.w b.e a.c)).agg, Value.bool true, Value.int IntKind.i64 0]) else some (Value.tuple #[S.D0.agg, Value.bool true, Value.int IntKind.i64 0])) else 
               (bif S.check b then some (Value.tuple #[(S.complete b).agg, Value.bool true, Value.int IntKind.i64 0]) else some (Value.tuple #[S.D0.agg, Value.bool true, Value.int IntKind.i64 0])))))) else 
           (bif S.fields a then some (Value.tuple #[(S.over a b).agg, Value.bool true, Value.int IntKind.i64 0]) else 
            (bif b.e == 0 then 
             (bif b.c == 0 then 
              (bif S.check (D.mk b.v b.g b.t b.w a.e a.c) then some (Value.tuple #[(S.complete (D.mk b.v b.g b.t b.w a.e a.c)).agg, Value.bool true, Value.int IntKind.i64 0]) else some (Value.tuple #[S.D0.agg, Value.bool true, Value.int IntKind.i64 0])) else 
              (bif S.check (D.mk b.v b.g b.t b.w a.e b.c) then some (Value.tuple #[(S.complete (D.mk b.v b.g b.t b.w a.e b.c)).agg, Value.bool true, Value.int IntKind.i64 0]) else some (Value.tuple #[S.D0.agg, Value.bool true, Value.int IntKind.i64 0]))) else 
             (bif b.c == 0 then 
              (bif S.check (D.mk b.v b.g b.t b.w b.e a.c) then some (Value.tuple #[(S.complete (D.mk b.v b.g b.t b.w b.e a.c)).agg, Value.bool true, Value.int IntKind.i64 0]) else some (Value.tuple #[S.D0.agg, Value.bool true, Value.int IntKind.i64 0])) else 
              (bif S.check b then some (Value.tuple #[(S.complete b).agg, Value.bool true, Value.int IntKind.i64 0]) else some (Value.tuple #[S.D0.agg, Value.bool true, Value.int IntKind.i64 0])))))) else 
          (bif S.hasA b then 
           (bif S.check a then 
            (bif S.hasD a then 
             (bif b.e == 0 then 
              (bif b.c == 0 then 
               (bif S.check (D.mk b.v b.g b.t b.w a.e a.c) then some (Value.tuple #[(S.complete (D.mk b.v b.g b.t b.w a.e a.c)).agg, Value.bool true, Value.int IntKind.i64 0]) else some (Value.tuple #[S.D0.agg, Value.bool true, Value.int IntKind.i64 0])) else 
               (bif S.check (D.mk b.v b.g b.t b.w a.e b.c) then some (Value.tuple #[(S.complete (D.mk b.v b.g b.t b.w a.e b.c)).agg, Value.bool true, Value.int IntKind.i64 0]) else some (Value.tuple #[S.D0.agg, Value.bool true, Value.int IntKind.i64 0]))) else 
              (bif b.c == 0 then 
               (bif S.check (D.mk b.v b.g b.t b.w b.e a.c) then some (Value.tuple #[(S.complete (D.mk b.v b.g b.t b.w b.e a.c)).agg, Value.bool true, Value.int IntKind.i64 0]) else some (Value.tuple #[S.D0.agg, Value.bool true, Value.int IntKind.i64 0])) else 
               (bif S.check b then some (Value.tuple #[(S.complete b).agg, Value.bool true, Value.int IntKind.i64 0]) else some (Value.tuple #[S.D0.agg, Value.bool true, Value.int IntKind.i64 0])))) else 
             (bif S.hasA a then some (Value.tuple #[(S.over a b).agg, Value.bool true, Value.int IntKind.i64 0]) else 
              (bif b.e == 0 then 
               (bif b.c == 0 then 
                (bif S.check (D.mk b.v b.g b.t b.w a.e a.c) then some (Value.tuple #[(S.complete (D.mk b.v b.g b.t b.w a.e a.c)).agg, Value.bool true, Value.int IntKind.i64 0]) else some (Value.tuple #[S.D0.agg, Value.bool true, Value.int IntKind.i64 0])) else 
                (bif S.check (D.mk b.v b.g b.t b.w a.e b.c) then some (Value.tuple #[(S.complete (D.mk b.v b.g b.t b.w a.e b.c)).agg, Value.bool true, Value.int IntKind.i64 0]) else some (Value.tuple #[S.D0.agg, Value.bool true, Value.int IntKind.i64 0]))) else 
               (bif b.c == 0 then 
                (bif S.check (D.mk b.v b.g b.t b.w b.e a.c) then some (Value.tuple #[(S.complete (D.mk b.v b.g b.t b.w b.e a.c)).agg, Value.bool true, Value.int IntKind.i64 0]) else some (Value.tuple #[S.D0.agg, Value.bool true, Value.int IntKind.i64 0])) else 
                (bif S.check b then some (Value.tuple #[(S.complete b).agg, Value.bool true, Value.int IntKind.i64 0]) else some (Value.tuple #[S.D0.agg, Value.bool true, Value.int IntKind.i64 0])))))) else 
            (bif S.fields a then 
             (bif b.e == 0 then 
              (bif b.c == 0 then 
               (bif S.check (D.mk b.v b.g b.t b.w a.e a.c) then some (Value.tuple #[(S.complete (D.mk b.v b.g b.t b.w a.e a.c)).agg, Value.bool true, Value.int IntKind.i64 0]) else some (Value.tuple #[S.D0.agg, Value.bool true, Value.int IntKind.i64 0])) else 
               (bif S.check (D.mk b.v b.g b.t b.w a.e b.c) then some (Value.tuple #[(S.complete (D.mk b.v b.g b.t b.w a.e b.c)).agg, Value.bool true, Value.int IntKind.i64 0]) else some (Value.tuple #[S.D0.agg, Value.bool true, Value.int IntKind.i64 0]))) else 
              (bif b.c == 0 then 
               (bif S.check (D.mk b.v b.g b.t b.w b.e a.c) then some (Value.tuple #[(S.complete (D.mk b.v b.g b.t b.w b.e a.c)).agg, Value.bool true, Value.int IntKind.i64 0]) else some (Value.tuple #[S.D0.agg, Value.bool true, Value.int IntKind.i64 0])) else 
               (bif S.check b then some (Value.tuple #[(S.complete b).agg, Value.bool true, Value.int IntKind.i64 0]) else some (Value.tuple #[S.D0.agg, Value.bool true, Value.int IntKind.i64 0])))) else 
             (bif b.e == 0 then 
              (bif b.c == 0 then 
               (bif S.check (D.mk b.v b.g b.t b.w a.e a.c) then some (Value.tuple #[(S.complete (D.mk b.v b.g b.t b.w a.e a.c)).agg, Value.bool true, Value.int IntKind.i64 0]) else some (Value.tuple #[S.D0.agg, Value.bool true, Value.int IntKind.i64 0])) else 
               (bif S.check (D.mk b.v b.g b.t b.w a.e b.c) then some (Value.tuple #[(S.complete (D.mk b.v b.g b.t b.w a.e b.c)).agg, Value.bool true, Value.int IntKind.i64 0]) else some (Value.tuple #[S.D0.agg, Value.bool true, Value.int IntKind.i64 0]))) else 
              (bif b.c == 0 then 
               (bif S.check (D.mk b.v b.g b.t b.w b.e a.c) then some (Value.tuple #[(S.complete (D.mk b.v b.g b.t b.w b.e a.c)).agg, Value.bool true, Value.int IntKind.i64 0]) else some (Value.tuple #[S.D0.agg, Value.bool true, Value.int IntKind.i64 0])) else 
               (bif S.check b then some (Value.tuple #[(S.complete b).agg, Value.bool true, Value.int IntKind.i64 0]) else some (Value.tuple #[S.D0.agg, Value.bool true, Value.int IntKind.i64 0])))))) else 
           (bif S.check a then 
            (bif S.hasD a then some (Value.tuple #[(S.over a b).agg, Value.bool true, Value.int IntKind.i64 0]) else 
             (bif S.hasA a then some (Value.tuple #[(S.over a b).agg, Value.bool true, Value.int IntKind.i64 0]) else some (Value.tuple #[(S.over a b).agg, Value.bool true, Value.int IntKind.i64 0]))) else 
            (bif S.fields a then some (Value.tuple #[(S.over a b).agg, Value.bool true, Value.int IntKind.i64 0]) else some (Value.tuple #[(S.over a b).agg, Value.bool true, Value.int IntKind.i64 0]))))) else 
         (bif S.fields b then 
          (bif S.check a then 
           (bif S.hasD a then some (Value.tuple #[(S.over a b).agg, Value.bool true, Value.int IntKind.i64 0]) else 
            (bif S.hasA a then 
             (bif b.e == 0 then 
              (bif b.c == 0 then 
               (bif S.check (D.mk b.v b.g b.t b.w a.e a.c) then some (Value.tuple #[(S.complete (D.mk b.v b.g b.t b.w a.e a.c)).agg, Value.bool true, Value.int IntKind.i64 0]) else some (Value.tuple #[S.D0.agg, Value.bool true, Value.int IntKind.i64 0])) else 
               (bif S.check (D.mk b.v b.g b.t b.w a.e b.c) then some (Value.tuple #[(S.complete (D.mk b.v b.g b.t b.w a.e b.c)).agg, Value.bool true, Value.int IntKind.i64 0]) else some (Value.tuple #[S.D0.agg, Value.bool true, Value.int IntKind.i64 0]))) else 
              (bif b.c == 0 then 
               (bif S.check (D.mk b.v b.g b.t b.w b.e a.c) then some (Value.tuple #[(S.complete (D.mk b.v b.g b.t b.w b.e a.c)).agg, Value.bool true, Value.int IntKind.i64 0]) else some (Value.tuple #[S.D0.agg, Value.bool true, Value.int IntKind.i64 0])) else 
               (bif S.check b then some (Value.tuple #[(S.complete b).agg, Value.bool true, Value.int IntKind.i64 0]) else some (Value.tuple #[S.D0.agg, Value.bool true, Value.int IntKind.i64 0])))) else 
             (bif b.e == 0 then 
              (bif b.c == 0 then 
               (bif S.check (D.mk b.v b.g b.t b.w a.e a.c) then some (Value.tuple #[(S.complete (D.mk b.v b.g b.t b.w a.e a.c)).agg, Value.bool true, Value.int IntKind.i64 0]) else some (Value.tuple #[S.D0.agg, Value.bool true, Value.int IntKind.i64 0])) else 
               (bif S.check (D.mk b.v b.g b.t b.w a.e b.c) then some (Value.tuple #[(S.complete (D.mk b.v b.g b.t b.w a.e b.c)).agg, Value.bool true, Value.int IntKind.i64 0]) else some (Value.tuple #[S.D0.agg, Value.bool true, Value.int IntKind.i64 0]))) else 
              (bif b.c == 0 then 
               (bif S.check (D.mk b.v b.g b.t b.w b.e a.c) then some (Value.tuple #[(S.complete (D.mk b.v b.g b.t b.w b.e a.c)).agg, Value.bool true, Value.int IntKind.i64 0]) else some (Value.tuple #[S.D0.agg, Value.bool true, Value.int IntKind.i64 0])) else 
               (bif S.check b then some (Value.tuple #[(S.complete b).agg, Value.bool true, Value.int IntKind.i64 0]) else some (Value.tuple #[S.D0.agg, Value.bool true, Value.int IntKind.i64 0])))))) else 
           (bif S.fields a then some (Value.tuple #[(S.over a b).agg, Value.bool true, Value.int IntKind.i64 0]) else 
            (bif b.e == 0 then 
             (bif b.c == 0 then 
              (bif S.check (D.mk b.v b.g b.t b.w a.e a.c) then some (Value.tuple #[(S.complete (D.mk b.v b.g b.t b.w a.e a.c)).agg, Value.bool true, Value.int IntKind.i64 0]) else some (Value.tuple #[S.D0.agg, Value.bool true, Value.int IntKind.i64 0])) else 
              (bif S.check (D.mk b.v b.g b.t b.w a.e b.c) then some (Value.tuple #[(S.complete (D.mk b.v b.g b.t b.w a.e b.c)).agg, Value.bool true, Value.int IntKind.i64 0]) else some (Value.tuple #[S.D0.agg, Value.bool true, Value.int IntKind.i64 0]))) else 
             (bif b.c == 0 then 
              (bif S.check (D.mk b.v b.g b.t b.w b.e a.c) then some (Value.tuple #[(S.complete (D.mk b.v b.g b.t b.w b.e a.c)).agg, Value.bool true, Value.int IntKind.i64 0]) else some (Value.tuple #[S.D0.agg, Value.bool true, Value.int IntKind.i64 0])) else 
              (bif S.check b then some (Value.tuple #[(S.complete b).agg, Value.bool true, Value.int IntKind.i64 0]) else some (Value.tuple #[S.D0.agg, Value.bool true, Value.int IntKind.i64 0])))))) else 
          (bif S.check a then 
           (bif S.hasD a then some (Value.tuple #[(S.over a b).agg, Value.bool true, Value.int IntKind.i64 0]) else 
            (bif S.hasA a then some (Value.tuple #[(S.over a b).agg, Value.bool true, Value.int IntKind.i64 0]) else some (Value.tuple #[(S.over a b).agg, Value.bool true, Value.int IntKind.i64 0]))) else 
           (bif S.fields a then some (Value.tuple #[(S.over a b).agg, Value.bool true, Value.int IntKind.i64 0]) else some (Value.tuple #[(S.over a b).agg, Value.bool true, Value.int IntKind.i64 0])))))))) else some (Value.tuple #[(D.mk (V.mk 0 false 0 (ByteArray.mk #[]) 0) (V.mk 0 false 0 (ByteArray.mk #[]) 0) (V.mk 0 false 0 (ByteArray.mk #[]) 0) 0 0 0).agg, Value.bool false, Value.int IntKind.i64 5]))) (by kernel_rfl) (by
    obtain ⟨bv, bg, bt, bw, be, bc⟩ := b
    simp only [T.apply, DT.val_node, DT.val_leaf, DT.bind, DT.val_bad]
    repeat' (first | (with_reducible refine bif_neq (fun h => ?_) (fun h => ?_)) | (with_reducible refine bif_and (fun h => ?_) (fun h => ?_)) | (with_reducible refine bif_eq (fun h => ?_) (fun h => ?_)))
    all_goals first | (simp only [*, S.apply, S.okA, S.kindN, S.compl, S.turn, S.no, S.V0, S.D0, D.eta, cond_true, cond_false, Bool.and_true, Bool.true_and, Bool.and_false, Bool.false_and, Bool.or_true, Bool.true_or, Bool.or_false, Bool.false_or, Bool.not_true, Bool.not_false, beq_self_eq_true, bne_self_eq_false, Bool.not_not]; done) | (exfalso; simp_all; done) | (simp_all [S.apply, S.okA, S.kindN, S.compl, S.turn, S.no, S.V0, S.D0, D.eta]; done) | grind [S.apply, S.okA, S.kindN, S.compl, S.turn, S.no, S.V0, S.D0, D.eta])
theorem ent_apply : E (28, onBDD T.apply) := byEv Hents21 60 fun args t h => by
  obtain ⟨x, a, b, rfl, rfl⟩ := onBDD_eq h
  exact ev_apply x a b
abbrev HL22 : Tab := (28, onBDD T.apply) :: HL21
theorem Hents22 : ∀ p ∈ HL22, E p := entries_cons ent_apply Hents21
set_option maxHeartbeats 4000000 in
theorem ev_keeps (a b : D) : evFn Tryd.prog ext (tab HL22) 60 30 [a.agg, b.agg] = (T.keeps a b).val :=
  Eq.trans (b := 
    (bif !S.whole a then 
     (bif !S.zero a then some (Value.tuple #[Value.bool false, Value.int IntKind.i64 5]) else 
      (bif !S.whole b then 
       (bif !S.zero b then some (Value.tuple #[Value.bool false, Value.int IntKind.i64 5]) else 
        (bif S.zero a then some (Value.tuple #[Value.bool true, Value.int IntKind.i64 0]) else 
         (bif a.c == 2 then some (Value.tuple #[Value.bool true, Value.int IntKind.i64 0]) else 
          (bif S.zero b then some (Value.tuple #[Value.bool false, Value.int IntKind.i64 0]) else 
           (bif b.c != 1 then some (Value.tuple #[Value.bool false, Value.int IntKind.i64 0]) else 
            (bif b.e != a.e then some (Value.tuple #[Value.bool false, Value.int IntKind.i64 0]) else 
             (bif !S.isA a == S.isA b then some (Value.tuple #[Value.bool false, Value.int IntKind.i64 0]) else 
              (bif S.isA a then 
               (bif S.alike a.g b.g then some (Value.tuple #[Value.bool (S.alike a.t b.t), Value.int IntKind.i64 0]) else some (Value.tuple #[Value.bool false, Value.int IntKind.i64 0])) else 
               (bif a.w == 2 then some (Value.tuple #[Value.bool true, Value.int IntKind.i64 0]) else 
                (bif b.w == 1 then some (Value.tuple #[Value.bool (S.alike a.v b.v), Value.int IntKind.i64 0]) else some (Value.tuple #[Value.bool false, Value.int IntKind.i64 0]))))))))))) else 
       (bif S.zero a then some (Value.tuple #[Value.bool true, Value.int IntKind.i64 0]) else 
        (bif a.c == 2 then some (Value.tuple #[Value.bool true, Value.int IntKind.i64 0]) else 
         (bif S.zero b then some (Value.tuple #[Value.bool false, Value.int IntKind.i64 0]) else 
          (bif b.c != 1 then some (Value.tuple #[Value.bool false, Value.int IntKind.i64 0]) else 
           (bif b.e != a.e then some (Value.tuple #[Value.bool false, Value.int IntKind.i64 0]) else 
            (bif !S.isA a == S.isA b then some (Value.tuple #[Value.bool false, Value.int IntKind.i64 0]) else 
             (bif S.isA a then 
              (bif S.alike a.g b.g then some (Value.tuple #[Value.bool (S.alike a.t b.t), Value.int IntKind.i64 0]) else some (Value.tuple #[Value.bool false, Value.int IntKind.i64 0])) else 
              (bif a.w == 2 then some (Value.tuple #[Value.bool true, Value.int IntKind.i64 0]) else 
               (bif b.w == 1 then some (Value.tuple #[Value.bool (S.alike a.v b.v), Value.int IntKind.i64 0]) else some (Value.tuple #[Value.bool false, Value.int IntKind.i64 0])))))))))))) else 
     (bif !S.whole b then 
      (bif !S.zero b then some (Value.tuple #[Value.bool false, Value.int IntKind.i64 5]) else 
       (bif S.zero a then some (Value.tuple #[Value.bool true, Value.int IntKind.i64 0]) else 
        (bif a.c == 2 then some (Value.tuple #[Value.bool true, Value.int IntKind.i64 0]) else 
         (bif S.zero b then some (Value.tuple #[Value.bool false, Value.int IntKind.i64 0]) else 
          (bif b.c != 1 then some (Value.tuple #[Value.bool false, Value.int IntKind.i64 0]) else 
           (bif b.e != a.e then some (Value.tuple #[Value.bool false, Value.int IntKind.i64 0]) else 
            (bif !S.isA a == S.isA b then some (Value.tuple #[Value.bool false, Value.int IntKind.i64 0]) else 
             (bif S.isA a then 
              (bif S.alike a.g b.g then some (Value.tuple #[Value.bool (S.alike a.t b.t), Value.int IntKind.i64 0]) else some (Value.tuple #[Value.bool false, Value.int IntKind.i64 0])) else 
              (bif a.w == 2 then some (Value.tuple #[Value.bool true, Value.int IntKind.i64 0]) else 
               (bif b.w == 1 then some (Value.tuple #[Value.bool (S.alike a.v b.v), Value.int IntKind.i64 0]) else some (Value.tuple #[Value.bool false, Value.int IntKind.i64 0]))))))))))) else 
      (bif S.zero a then some (Value.tuple #[Value.bool true, Value.int IntKind.i64 0]) else 
       (bif a.c == 2 then some (Value.tuple #[Value.bool true, Value.int IntKind.i64 0]) else 
        (bif S.zero b then some (Value.tuple #[Value.bool false, Value.int IntKind.i64 0]) else 
         (bif b.c != 1 then some (Value.tuple #[Value.bool false, Value.int IntKind.i64 0]) else 
          (bif b.e != a.e then some (Value.tuple #[Value.bool false, Value.int IntKind.i64 0]) else 
           (bif !S.isA a == S.isA b then some (Value.tuple #[Value.bool false, Value.int IntKind.i64 0]) else 
            (bif S.isA a then 
             (bif S.alike a.g b.g then some (Value.tuple #[Value.bool (S.alike a.t b.t), Value.int IntKind.i64 0]) else some (Value.tuple #[Value.bool false, Value.int IntKind.i64 0])) else 
             (bif a.w == 2 then some (Value.tuple #[Value.bool true, Value.int IntKind.i64 0]) else 
              (bif b.w == 1 then some (Value.tuple #[Value.bool (S.alike a.v b.v), Value.int IntKind.i64 0]) else some (Value.tuple #[Value.bool false, Value.int IntKind.i64 0]))))))))))))) (by kernel_rfl) (by
    simp only [T.keeps, DT.val_node, DT.val_leaf, DT.bind, DT.val_bad]
    repeat' (first | (with_reducible refine bif_neq (fun h => ?_) (fun h => ?_)) | (with_reducible refine bif_and (fun h => ?_) (fun h => ?_)) | (with_reducible refine bif_eq (fun h => ?_) (fun h => ?_)))
    all_goals first | (simp only [*, S.keeps, S.okK, cond_true, cond_false, Bool.and_true, Bool.true_and, Bool.and_false, Bool.false_and, Bool.or_true, Bool.true_or, Bool.or_false, Bool.false_or, Bool.not_true, Bool.not_false, beq_self_eq_true, bne_self_eq_false, Bool.not_not]; done) | (exfalso; simp_all; done) | (simp_all [S.keeps, S.okK]; done) | grind [S.keeps, S.okK])
theorem ent_keeps : E (30, onDD T.keeps) := byEv Hents22 60 fun args t h => by
  obtain ⟨a, b, rfl, rfl⟩ := onDD_eq h
  exact ev_keeps a b
abbrev HL23 : Tab := (30, onDD T.keeps) :: HL22
theorem Hents23 : ∀ p ∈ HL23, E p := entries_cons ent_keeps Hents22
set_option maxHeartbeats 4000000 in
theorem ev_eqV (a b : V) : evFn Tryd.prog ext (tab HL23) 40 29 [a.agg, b.agg] = (T.eqV a b).val :=
  Eq.trans (b := 
    (bif (↑a.n : Int) == (↑b.n : Int) then 
     (bif a.k == b.k then 
      (bif a.b == b.b then 
       (bif a.s.toList == b.s.toList then some (Value.bool (a.id == b.id)) else some (Value.bool false)) else some (Value.bool false)) else some (Value.bool false)) else 
     (bif FloatKind.f64.format.order a.n a.n != some Ordering.eq then 
      (bif FloatKind.f64.format.order b.n b.n != some Ordering.eq then 
       (bif a.k == b.k then 
        (bif a.b == b.b then 
         (bif a.s.toList == b.s.toList then some (Value.bool (a.id == b.id)) else some (Value.bool false)) else some (Value.bool false)) else some (Value.bool false)) else some (Value.bool false)) else some (Value.bool false)))) (by kernel_rfl) (by
    simp only [T.eqV, T.B, DT.val_node, DT.val_leaf, DT.bind, DT.val_bad]
    repeat' (first | (with_reducible refine bif_neq (fun h => ?_) (fun h => ?_)) | (with_reducible refine bif_and (fun h => ?_) (fun h => ?_)) | (with_reducible refine bif_eq (fun h => ?_) (fun h => ?_)))
    all_goals first | (simp only [*, S.eqV, S.nan, cond_true, cond_false, Bool.and_true, Bool.true_and, Bool.and_false, Bool.false_and, Bool.or_true, Bool.true_or, Bool.or_false, Bool.false_or, Bool.not_true, Bool.not_false, beq_self_eq_true, bne_self_eq_false, Bool.not_not]; done) | (exfalso; simp_all; done) | (simp_all [S.eqV, S.nan]; done) | grind [S.eqV, S.nan])
theorem ent_eqV : E (29, onVV T.eqV) := byEv Hents23 40 fun args t h => by
  obtain ⟨a, b, rfl, rfl⟩ := onVV_eq h
  exact ev_eqV a b
abbrev HL24 : Tab := (29, onVV T.eqV) :: HL23
theorem Hents24 : ∀ p ∈ HL24, E p := entries_cons ent_eqV Hents23
set_option maxHeartbeats 4000000 in
theorem ev_eqD (a b : D) : evFn Tryd.prog ext (tab HL24) 40 17 [a.agg, b.agg] = (T.eqD a b).val :=
  Eq.trans (b := 
    (bif S.eqV a.v b.v then 
     (bif S.eqV a.g b.g then 
      (bif S.eqV a.t b.t then 
       (bif a.w == b.w then 
        (bif a.e == b.e then some (Value.bool (a.c == b.c)) else some (Value.bool false)) else some (Value.bool false)) else some (Value.bool false)) else some (Value.bool false)) else some (Value.bool false))) (by kernel_rfl) (by
    simp only [T.eqD, T.B, DT.val_node, DT.val_leaf, DT.bind, DT.val_bad]
    repeat' (first | (with_reducible refine bif_neq (fun h => ?_) (fun h => ?_)) | (with_reducible refine bif_and (fun h => ?_) (fun h => ?_)) | (with_reducible refine bif_eq (fun h => ?_) (fun h => ?_)))
    all_goals first | (simp only [*, S.eqD, cond_true, cond_false, Bool.and_true, Bool.true_and, Bool.and_false, Bool.false_and, Bool.or_true, Bool.true_or, Bool.or_false, Bool.false_or, Bool.not_true, Bool.not_false, beq_self_eq_true, bne_self_eq_false, Bool.not_not]; done) | (exfalso; simp_all; done) | (simp_all [S.eqD]; done) | grind [S.eqD])
theorem ent_eqD : E (17, onDD T.eqD) := byEv Hents24 40 fun args t h => by
  obtain ⟨a, b, rfl, rfl⟩ := onDD_eq h
  exact ev_eqD a b
abbrev HL25 : Tab := (17, onDD T.eqD) :: HL24
theorem Hents25 : ∀ p ∈ HL25, E p := entries_cons ent_eqD Hents24
end Go.Proofs.YtaojjpdlfnphiaaDoor.PDescKinds
