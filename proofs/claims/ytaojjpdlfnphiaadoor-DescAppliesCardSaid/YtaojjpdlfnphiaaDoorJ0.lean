/- Contracts by evaluation: what each function of a list answers. Written by a program of this session. -/
import Derived.Test.YtaojjpdlfnphiaaDoorG4
import Derived.Test.YtaojjpdlfnphiaaDoorP3
namespace Go.Proofs.YtaojjpdlfnphiaaDoor.PDescKinds
open Go.RowKit Go.Ev
set_option linter.unusedSimpArgs false
set_option linter.unusedVariables false
set_option maxRecDepth 100000
abbrev JL0 : Tab := AL
theorem Jents0 : ∀ p ∈ JL0, E p := entsAL
set_option maxHeartbeats 4000000 in
theorem ev_kinds (d : D) (hd : d.wf) : evFn Tryd.prog ext (tab JL0) 90 3 [d.agg] = ((fun _ => T.B true) d).val :=
  Eq.trans (b := 
    (bif !(S.err (S.check d) == 0) == R.check d then some (Value.bool false) else 
     (bif !R.check d then 
      (bif S.err (S.check d) != 5 then some (Value.bool false) else 
       (bif S.err (S.check d) != 5 then some (Value.bool false) else 
        (bif !S.eqD (S.compl d) (D.mk (V.mk 0 false 0 (ByteArray.mk #[]) 0) (V.mk 0 false 0 (ByteArray.mk #[]) 0) (V.mk 0 false 0 (ByteArray.mk #[]) 0) 0 0 0) then some (Value.bool false) else 
         (bif R.check d then 
          (bif S.err (S.check d) != 0 then some (Value.bool false) else 
           (bif !S.eqD (S.compl d) (R.filled d) then some (Value.bool false) else 
            (bif S.isA d == R.isA d then 
             (bif S.isD d == R.isD d then 
              (bif S.isG d == R.isG d then 
               (bif S.whole d == R.whole d then 
                (bif S.eqD (S.freezeD d) (R.freezeD d) then some (Value.bool (S.err (S.whole d) == S.err (R.whole d))) else some (Value.bool false)) else some (Value.bool false)) else some (Value.bool false)) else some (Value.bool false)) else some (Value.bool false)))) else 
          (bif S.isA d == R.isA d then 
           (bif S.isD d == R.isD d then 
            (bif S.isG d == R.isG d then 
             (bif S.whole d == R.whole d then 
              (bif S.eqD (S.freezeD d) (R.freezeD d) then some (Value.bool (S.err (S.whole d) == S.err (R.whole d))) else some (Value.bool false)) else some (Value.bool false)) else some (Value.bool false)) else some (Value.bool false)) else some (Value.bool false)))))) else 
      (bif R.check d then 
       (bif S.err (S.check d) != 0 then some (Value.bool false) else 
        (bif !S.eqD (S.compl d) (R.filled d) then some (Value.bool false) else 
         (bif S.isA d == R.isA d then 
          (bif S.isD d == R.isD d then 
           (bif S.isG d == R.isG d then 
            (bif S.whole d == R.whole d then 
             (bif S.eqD (S.freezeD d) (R.freezeD d) then some (Value.bool (S.err (S.whole d) == S.err (R.whole d))) else some (Value.bool false)) else some (Value.bool false)) else some (Value.bool false)) else some (Value.bool false)) else some (Value.bool false)))) else 
       (bif S.isA d == R.isA d then 
        (bif S.isD d == R.isD d then 
         (bif S.isG d == R.isG d then 
          (bif S.whole d == R.whole d then 
           (bif S.eqD (S.freezeD d) (R.freezeD d) then some (Value.bool (S.err (S.whole d) == S.err (R.whole d))) else some (Value.bool false)) else some (Value.bool false)) else some (Value.bool false)) else some (Value.bool false)) else some (Value.bool false)))))) (by kernel_rfl) (by
    have e1 : R.freezeD d = S.freezeD d := by unfold R.freezeD S.freezeD; rw [R.whole_eq hd, R.isD_eq hd]
    have e2 : S.eqD S.D0 (D.mk (V.mk 0 false 0 (ByteArray.mk #[]) 0) (V.mk 0 false 0 (ByteArray.mk #[]) 0) (V.mk 0 false 0 (ByteArray.mk #[]) 0) 0 0 0) = true := S.eqD_refl S.D0
    simp only [T.B, DT.val_leaf, R.check_eq hd, R.isA_eq hd, R.isD_eq hd, R.isG_eq hd, R.whole_eq hd, e1]
    cases hc : S.check d
    · have e3 : S.compl d = S.D0 := by unfold S.compl; rw [hc]; rfl
      rw [e3]
      simp [S.err, e2, S.eqD_refl]
    · have e3 : S.compl d = S.complete d := by unfold S.compl; rw [hc]; rfl
      rw [e3, R.filled_eq hd hc]
      simp [S.err, S.eqD_refl])
set_option maxHeartbeats 4000000 in
theorem ev_applies (x : Bool) (a b : D) (ha : a.wf) (hb : b.wf) : evFn Tryd.prog ext (tab JL0) 90 7 [.bool x, a.agg, b.agg] = ((fun _ _ _ => T.B true) x a b).val :=
  Eq.trans (b := 
    (bif S.okA a b then 
     (bif R.okA a b then 
      (bif S.check a && S.check b then 
       (bif S.okK a b then 
        (bif R.okK a b then 
         (bif !S.eqD (S.apply x a b).fst (R.apply x a b).fst then some (Value.bool false) else 
          (bif !(S.apply x a b).snd == (R.apply x a b).snd then some (Value.bool false) else 
           (bif !S.keeps a b == R.keeps a b then some (Value.bool false) else 
            (bif !R.check a then 
             (bif !S.equal a b then some (Value.bool (0 == 5)) else some (Value.bool false)) else 
             (bif !R.check b then 
              (bif !S.equal a b then some (Value.bool (0 == 5)) else some (Value.bool false)) else 
              (bif S.equal a b == R.isDD a b then some (Value.bool (0 == 0)) else some (Value.bool false))))))) else 
         (bif !S.eqD (S.apply x a b).fst (R.apply x a b).fst then some (Value.bool false) else 
          (bif !(S.apply x a b).snd == (R.apply x a b).snd then some (Value.bool false) else 
           (bif !S.keeps a b == false then some (Value.bool false) else some (Value.bool false))))) else 
        (bif R.okK a b then 
         (bif !S.eqD (S.apply x a b).fst (R.apply x a b).fst then some (Value.bool false) else 
          (bif !(S.apply x a b).snd == (R.apply x a b).snd then some (Value.bool false) else 
           (bif !false == R.keeps a b then some (Value.bool false) else some (Value.bool false)))) else 
         (bif !S.eqD (S.apply x a b).fst (R.apply x a b).fst then some (Value.bool false) else 
          (bif !(S.apply x a b).snd == (R.apply x a b).snd then some (Value.bool false) else 
           (bif !R.check a then 
            (bif !S.equal a b then some (Value.bool (0 == 5)) else some (Value.bool false)) else 
            (bif !R.check b then 
             (bif !S.equal a b then some (Value.bool (0 == 5)) else some (Value.bool false)) else 
             (bif S.equal a b == R.isDD a b then some (Value.bool (0 == 0)) else some (Value.bool false)))))))) else 
       (bif S.okK a b then 
        (bif R.okK a b then 
         (bif !S.eqD (S.apply x a b).fst (R.apply x a b).fst then some (Value.bool false) else 
          (bif !(S.apply x a b).snd == (R.apply x a b).snd then some (Value.bool false) else 
           (bif !S.keeps a b == R.keeps a b then some (Value.bool false) else 
            (bif !R.check a then some (Value.bool (5 == 5)) else 
             (bif !R.check b then some (Value.bool (5 == 5)) else 
              (bif false == R.isDD a b then some (Value.bool (5 == 0)) else some (Value.bool false))))))) else 
         (bif !S.eqD (S.apply x a b).fst (R.apply x a b).fst then some (Value.bool false) else 
          (bif !(S.apply x a b).snd == (R.apply x a b).snd then some (Value.bool false) else 
           (bif !S.keeps a b == false then some (Value.bool false) else some (Value.bool false))))) else 
        (bif R.okK a b then 
         (bif !S.eqD (S.apply x a b).fst (R.apply x a b).fst then some (Value.bool false) else 
          (bif !(S.apply x a b).snd == (R.apply x a b).snd then some (Value.bool false) else 
           (bif !false == R.keeps a b then some (Value.bool false) else some (Value.bool false)))) else 
         (bif !S.eqD (S.apply x a b).fst (R.apply x a b).fst then some (Value.bool false) else 
          (bif !(S.apply x a b).snd == (R.apply x a b).snd then some (Value.bool false) else 
           (bif !R.check a then some (Value.bool (5 == 5)) else 
            (bif !R.check b then some (Value.bool (5 == 5)) else 
             (bif false == R.isDD a b then some (Value.bool (5 == 0)) else some (Value.bool false))))))))) else 
      (bif S.check a && S.check b then 
       (bif S.okK a b then 
        (bif R.okK a b then 
         (bif !S.eqD (S.apply x a b).fst S.D0 then some (Value.bool false) else 
          (bif !(S.apply x a b).snd == false then some (Value.bool false) else some (Value.bool false))) else 
         (bif !S.eqD (S.apply x a b).fst S.D0 then some (Value.bool false) else 
          (bif !(S.apply x a b).snd == false then some (Value.bool false) else some (Value.bool false)))) else 
        (bif R.okK a b then 
         (bif !S.eqD (S.apply x a b).fst S.D0 then some (Value.bool false) else 
          (bif !(S.apply x a b).snd == false then some (Value.bool false) else some (Value.bool false))) else 
         (bif !S.eqD (S.apply x a b).fst S.D0 then some (Value.bool false) else 
          (bif !(S.apply x a b).snd == false then some (Value.bool false) else some (Value.bool false))))) else 
       (bif S.okK a b then 
        (bif R.okK a b then 
         (bif !S.eqD (S.apply x a b).fst S.D0 then some (Value.bool false) else 
          (bif !(S.apply x a b).snd == false then some (Value.bool false) else some (Value.bool false))) else 
         (bif !S.eqD (S.apply x a b).fst S.D0 then some (Value.bool false) else 
          (bif !(S.apply x a b).snd == false then some (Value.bool false) else some (Value.bool false)))) else 
        (bif R.okK a b then 
         (bif !S.eqD (S.apply x a b).fst S.D0 then some (Value.bool false) else 
          (bif !(S.apply x a b).snd == false then some (Value.bool false) else some (Value.bool false))) else 
         (bif !S.eqD (S.apply x a b).fst S.D0 then some (Value.bool false) else 
          (bif !(S.apply x a b).snd == false then some (Value.bool false) else some (Value.bool false))))))) else 
     (bif R.okA a b then 
      (bif S.check a && S.check b then 
       (bif S.okK a b then 
        (bif R.okK a b then 
         (bif !S.eqD S.D0 (R.apply x a b).fst then some (Value.bool false) else 
          (bif !false == (R.apply x a b).snd then some (Value.bool false) else some (Value.bool false))) else 
         (bif !S.eqD S.D0 (R.apply x a b).fst then some (Value.bool false) else 
          (bif !false == (R.apply x a b).snd then some (Value.bool false) else some (Value.bool false)))) else 
        (bif R.okK a b then 
         (bif !S.eqD S.D0 (R.apply x a b).fst then some (Value.bool false) else 
          (bif !false == (R.apply x a b).snd then some (Value.bool false) else some (Value.bool false))) else 
         (bif !S.eqD S.D0 (R.apply x a b).fst then some (Value.bool false) else 
          (bif !false == (R.apply x a b).snd then some (Value.bool false) else some (Value.bool false))))) else 
       (bif S.okK a b then 
        (bif R.okK a b then 
         (bif !S.eqD S.D0 (R.apply x a b).fst then some (Value.bool false) else 
          (bif !false == (R.apply x a b).snd then some (Value.bool false) else some (Value.bool false))) else 
         (bif !S.eqD S.D0 (R.apply x a b).fst then some (Value.bool false) else 
          (bif !false == (R.apply x a b).snd then some (Value.bool false) else some (Value.bool false)))) else 
        (bif R.okK a b then 
         (bif !S.eqD S.D0 (R.apply x a b).fst then some (Value.bool false) else 
          (bif !false == (R.apply x a b).snd then some (Value.bool false) else some (Value.bool false))) else 
         (bif !S.eqD S.D0 (R.apply x a b).fst then some (Value.bool false) else 
          (bif !false == (R.apply x a b).snd then some (Value.bool false) else some (Value.bool false)))))) else 
      (bif S.check a && S.check b then 
       (bif S.okK a b then 
        (bif R.okK a b then 
         (bif !S.keeps a b == R.keeps a b then some (Value.bool false) else 
          (bif !R.check a then 
           (bif !S.equal a b then some (Value.bool (0 == 5)) else some (Value.bool false)) else 
           (bif !R.check b then 
            (bif !S.equal a b then some (Value.bool (0 == 5)) else some (Value.bool false)) else 
            (bif S.equal a b == R.isDD a b then some (Value.bool (0 == 0)) else some (Value.bool false))))) else 
         (bif !S.keeps a b == false then some (Value.bool false) else some (Value.bool false))) else 
        (bif R.okK a b then 
         (bif !false == R.keeps a b then some (Value.bool false) else some (Value.bool false)) else 
         (bif !R.check a then 
          (bif !S.equal a b then some (Value.bool (0 == 5)) else some (Value.bool false)) else 
          (bif !R.check b then 
           (bif !S.equal a b then some (Value.bool (0 == 5)) else some (Value.bool false)) else 
           (bif S.equal a b == R.isDD a b then some (Value.bool (0 == 0)) else some (Value.bool false)))))) else 
       (bif S.okK a b then 
        (bif R.okK a b then 
         (bif !S.keeps a b == R.keeps a b then some (Value.bool false) else 
          (bif !R.check a then some (Value.bool (5 == 5)) else 
           (bif !R.check b then some (Value.bool (5 == 5)) else 
            (bif false == R.isDD a b then some (Value.bool (5 == 0)) else some (Value.bool false))))) else 
         (bif !S.keeps a b == false then some (Value.bool false) else some (Value.bool false))) else 
        (bif R.okK a b then 
         (bif !false == R.keeps a b then some (Value.bool false) else some (Value.bool false)) else 
         (bif !R.check a then some (Value.bool (5 == 5)) else 
          (bif !R.check b then some (Value.bool (5 == 5)) else 
           (bif false == R.isDD a b then some (Value.bool (5 == 0)) else some (Value.bool false)))))))))) (by kernel_rfl) (by
    have h1 := R.okA_eq ha hb
    have h2 := R.okK_eq ha hb
    have e0 : ∀ z : D, S.eqD z z = true := S.eqD_refl
    simp only [T.B, DT.val_leaf, h1, h2, R.check_eq ha, R.check_eq hb]
    cases ho : S.okA a b <;> cases hk : S.okK a b <;> cases hca : S.check a <;> cases hcb : S.check b
    all_goals (try rw [R.apply_eq ha hb ho])
    all_goals (try rw [← R.keeps_eq ha hb hk])
    all_goals (try rw [R.isDD_eq hca hcb])
    all_goals simp [e0])
end Go.Proofs.YtaojjpdlfnphiaaDoor.PDescKinds
