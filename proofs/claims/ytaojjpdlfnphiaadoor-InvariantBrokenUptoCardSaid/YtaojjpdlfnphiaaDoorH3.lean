/- Contracts by evaluation: what each function of a list answers. Written by a program of this session. -/
import Derived.Test.YtaojjpdlfnphiaaDoorH2
namespace Go.Proofs.YtaojjpdlfnphiaaDoor.PDescKinds
open Go.RowKit Go.Ev
set_option linter.unusedSimpArgs false
set_option linter.unusedVariables false
set_option maxRecDepth 100000
set_option maxHeartbeats 4000000 in
theorem ev_awake : evFn Tryd.prog ext (tab HL25) 80 27 [] = ((T.B true)).val :=
  Eq.trans (b := some (Value.bool true)) (by kernel_rfl) (by
    rfl)
theorem ent_awake : E (27, on0 (T.B true)) := byEv Hents25 80 fun args t h => by
  obtain ⟨rfl, rfl⟩ := on0_eq h
  exact ev_awake 
abbrev HL26 : Tab := (27, on0 (T.B true)) :: HL25
theorem Hents26 : ∀ p ∈ HL26, E p := entries_cons ent_awake Hents25
set_option maxHeartbeats 4000000 in
theorem ev_takes (x : Bool) (a b : D) : evFn Tryd.prog ext (tab HL26) 80 4 [.bool x, a.agg, b.agg] = ((fun _ _ _ => T.B true) x a b).val :=
  Eq.trans (b := 
    (bif S.okA a b then 
     (bif !(S.apply x a b).snd then some (Value.bool (S.eqD (S.apply x a b).fst a)) else 
      (bif S.okA (S.apply x a b).fst b then 
       (bif !S.whole (S.apply x a b).fst then some (Value.bool false) else 
        (bif !(S.apply x (S.apply x a b).fst b).snd then some (Value.bool false) else 
         (bif !S.eqD (S.apply x (S.apply x a b).fst b).fst (S.apply x a b).fst then some (Value.bool false) else 
          (bif b.v.k != 0 then 
           (bif !S.eqV (S.apply x a b).fst.v b.v then some (Value.bool false) else 
            (bif b.g.k != 0 then 
             (bif !S.eqV (S.apply x a b).fst.g b.g then some (Value.bool false) else 
              (bif b.t.k != 0 then 
               (bif !S.eqV (S.apply x a b).fst.t b.t then some (Value.bool false) else 
                (bif b.w == 0 then 
                 (bif b.e == 0 then 
                  (bif b.c == 0 then some (Value.bool true) else some (Value.bool ((S.apply x a b).fst.c == b.c))) else 
                  (bif (S.apply x a b).fst.e == b.e then 
                   (bif b.c == 0 then some (Value.bool true) else some (Value.bool ((S.apply x a b).fst.c == b.c))) else some (Value.bool false))) else 
                 (bif (S.apply x a b).fst.w == b.w then 
                  (bif b.e == 0 then 
                   (bif b.c == 0 then some (Value.bool true) else some (Value.bool ((S.apply x a b).fst.c == b.c))) else 
                   (bif (S.apply x a b).fst.e == b.e then 
                    (bif b.c == 0 then some (Value.bool true) else some (Value.bool ((S.apply x a b).fst.c == b.c))) else some (Value.bool false))) else some (Value.bool false)))) else 
               (bif b.w == 0 then 
                (bif b.e == 0 then 
                 (bif b.c == 0 then some (Value.bool true) else some (Value.bool ((S.apply x a b).fst.c == b.c))) else 
                 (bif (S.apply x a b).fst.e == b.e then 
                  (bif b.c == 0 then some (Value.bool true) else some (Value.bool ((S.apply x a b).fst.c == b.c))) else some (Value.bool false))) else 
                (bif (S.apply x a b).fst.w == b.w then 
                 (bif b.e == 0 then 
                  (bif b.c == 0 then some (Value.bool true) else some (Value.bool ((S.apply x a b).fst.c == b.c))) else 
                  (bif (S.apply x a b).fst.e == b.e then 
                   (bif b.c == 0 then some (Value.bool true) else some (Value.bool ((S.apply x a b).fst.c == b.c))) else some (Value.bool false))) else some (Value.bool false))))) else 
             (bif b.t.k != 0 then 
              (bif !S.eqV (S.apply x a b).fst.t b.t then some (Value.bool false) else 
               (bif b.w == 0 then 
                (bif b.e == 0 then 
                 (bif b.c == 0 then some (Value.bool true) else some (Value.bool ((S.apply x a b).fst.c == b.c))) else 
                 (bif (S.apply x a b).fst.e == b.e then 
                  (bif b.c == 0 then some (Value.bool true) else some (Value.bool ((S.apply x a b).fst.c == b.c))) else some (Value.bool false))) else 
                (bif (S.apply x a b).fst.w == b.w then 
                 (bif b.e == 0 then 
                  (bif b.c == 0 then some (Value.bool true) else some (Value.bool ((S.apply x a b).fst.c == b.c))) else 
                  (bif (S.apply x a b).fst.e == b.e then 
                   (bif b.c == 0 then some (Value.bool true) else some (Value.bool ((S.apply x a b).fst.c == b.c))) else some (Value.bool false))) else some (Value.bool false)))) else 
              (bif b.w == 0 then 
               (bif b.e == 0 then 
                (bif b.c == 0 then some (Value.bool true) else some (Value.bool ((S.apply x a b).fst.c == b.c))) else 
                (bif (S.apply x a b).fst.e == b.e then 
                 (bif b.c == 0 then some (Value.bool true) else some (Value.bool ((S.apply x a b).fst.c == b.c))) else some (Value.bool false))) else 
               (bif (S.apply x a b).fst.w == b.w then 
                (bif b.e == 0 then 
                 (bif b.c == 0 then some (Value.bool true) else some (Value.bool ((S.apply x a b).fst.c == b.c))) else 
                 (bif (S.apply x a b).fst.e == b.e then 
                  (bif b.c == 0 then some (Value.bool true) else some (Value.bool ((S.apply x a b).fst.c == b.c))) else some (Value.bool false))) else some (Value.bool false)))))) else 
           (bif b.g.k != 0 then 
            (bif !S.eqV (S.apply x a b).fst.g b.g then some (Value.bool false) else 
             (bif b.t.k != 0 then 
              (bif !S.eqV (S.apply x a b).fst.t b.t then some (Value.bool false) else 
               (bif b.w == 0 then 
                (bif b.e == 0 then 
                 (bif b.c == 0 then some (Value.bool true) else some (Value.bool ((S.apply x a b).fst.c == b.c))) else 
                 (bif (S.apply x a b).fst.e == b.e then 
                  (bif b.c == 0 then some (Value.bool true) else some (Value.bool ((S.apply x a b).fst.c == b.c))) else some (Value.bool false))) else 
                (bif (S.apply x a b).fst.w == b.w then 
                 (bif b.e == 0 then 
                  (bif b.c == 0 then some (Value.bool true) else some (Value.bool ((S.apply x a b).fst.c == b.c))) else 
                  (bif (S.apply x a b).fst.e == b.e then 
                   (bif b.c == 0 then some (Value.bool true) else some (Value.bool ((S.apply x a b).fst.c == b.c))) else some (Value.bool false))) else some (Value.bool false)))) else 
              (bif b.w == 0 then 
               (bif b.e == 0 then 
                (bif b.c == 0 then some (Value.bool true) else some (Value.bool ((S.apply x a b).fst.c == b.c))) else 
                (bif (S.apply x a b).fst.e == b.e then 
                 (bif b.c == 0 then some (Value.bool true) else some (Value.bool ((S.apply x a b).fst.c == b.c))) else some (Value.bool false))) else 
               (bif (S.apply x a b).fst.w == b.w then 
                (bif b.e == 0 then 
                 (bif b.c == 0 then some (Value.bool true) else some (Value.bool ((S.apply x a b).fst.c == b.c))) else 
                 (bif (S.apply x a b).fst.e == b.e then 
                  (bif b.c == 0 then some (Value.bool true) else some (Value.bool ((S.apply x a b).fst.c == b.c))) else some (Value.bool false))) else some (Value.bool false))))) else 
            (bif b.t.k != 0 then 
             (bif !S.eqV (S.apply x a b).fst.t b.t then some (Value.bool false) else 
              (bif b.w == 0 then 
               (bif b.e == 0 then 
                (bif b.c == 0 then some (Value.bool true) else some (Value.bool ((S.apply x a b).fst.c == b.c))) else 
                (bif (S.apply x a b).fst.e == b.e then 
                 (bif b.c == 0 then some (Value.bool true) else some (Value.bool ((S.apply x a b).fst.c == b.c))) else some (Value.bool false))) else 
               (bif (S.apply x a b).fst.w == b.w then 
                (bif b.e == 0 then 
                 (bif b.c == 0 then some (Value.bool true) else some (Value.bool ((S.apply x a b).fst.c == b.c))) else 
                 (bif (S.apply x a b).fst.e == b.e then 
                  (bif b.c == 0 then some (Value.bool true) else some (Value.bool ((S.apply x a b).fst.c == b.c))) else some (Value.bool false))) else some (Value.bool false)))) else 
             (bif b.w == 0 then 
              (bif b.e == 0 then 
               (bif b.c == 0 then some (Value.bool true) else some (Value.bool ((S.apply x a b).fst.c == b.c))) else 
               (bif (S.apply x a b).fst.e == b.e then 
                (bif b.c == 0 then some (Value.bool true) else some (Value.bool ((S.apply x a b).fst.c == b.c))) else some (Value.bool false))) else 
              (bif (S.apply x a b).fst.w == b.w then 
               (bif b.e == 0 then 
                (bif b.c == 0 then some (Value.bool true) else some (Value.bool ((S.apply x a b).fst.c == b.c))) else 
                (bif (S.apply x a b).fst.e == b.e then 
                 (bif b.c == 0 then some (Value.bool true) else some (Value.bool ((S.apply x a b).fst.c == b.c))) else some (Value.bool false))) else some (Value.bool false))))))))) else 
       (bif !S.whole (S.apply x a b).fst then some (Value.bool false) else some (Value.bool false)))) else some (Value.bool (S.eqD S.D0 (D.mk (V.mk 0 false 0 (ByteArray.mk #[]) 0) (V.mk 0 false 0 (ByteArray.mk #[]) 0) (V.mk 0 false 0 (ByteArray.mk #[]) 0) 0 0 0))))) (by kernel_rfl) (by
    simp only [T.B, DT.val_leaf]
    cases ho : S.okA a b
    · simp only [cond_false, cond_true, Bool.not_true, Bool.not_false]
      exact congrArg (fun z => some (Value.bool z)) (S.eqD_refl S.D0)
    · cases h2 : (S.apply x a b).2
      · simp only [cond_true, cond_false, Bool.not_false, S.takes_no ho h2]
      · obtain ⟨k1, k2, k3, k4, k5, k6, k7, k8, k9, k10⟩ := S.takes_yes ho h2
        simp only [cond_true, cond_false, Bool.not_true, k1, k2, k3, k4]
        repeat' (first | (with_reducible refine bif_neq (fun h => ?_) (fun h => ?_)) | (with_reducible refine bif_and (fun h => ?_) (fun h => ?_)) | (with_reducible refine bif_eq (fun h => ?_) (fun h => ?_)))
        all_goals simp_all)
theorem ent_takes : E (4, onBDD (fun _ _ _ => T.B true)) := byEv Hents26 80 fun args t h => by
  obtain ⟨x, a, b, rfl, rfl⟩ := onBDD_eq h
  exact ev_takes x a b
abbrev HL27 : Tab := (4, onBDD (fun _ _ _ => T.B true)) :: HL26
theorem Hents27 : ∀ p ∈ HL27, E p := entries_cons ent_takes Hents26
end Go.Proofs.YtaojjpdlfnphiaaDoor.PDescKinds
