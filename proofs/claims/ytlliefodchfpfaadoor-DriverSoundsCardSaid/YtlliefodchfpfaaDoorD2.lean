/- driver.Sound, cameoref27.Sound: what they answer. -/
import Derived.Test.YtlliefodchfpfaaDoorD1
set_option linter.unusedSimpArgs false
set_option linter.unusedVariables false
set_option linter.unusedSectionVars false
namespace Go.Proofs.YtlliefodchfpfaaDoor.PDescKinds
open Go.RowKit Go.Ev
set_option maxRecDepth 100000
abbrev AL : Tab := KkL2 ++ HL9 ++ JL7
theorem entsAL : ∀ p ∈ AL, E p := fun p hp => by
  rcases List.mem_append.1 hp with hp | hp
  · rcases List.mem_append.1 hp with hp | hp
    · exact Kkents2 p hp
    · exact Hents9 p hp
  · exact Jents7 p hp
abbrev SL (n : Nat) (g : Nat → Int) : TabS := [(31, fun args _ => ixC n g args)]
theorem sSL (A : Option Addr) (n c : Nat) (g : Nat → Int) : letI := rowL A n c g; ∀ p ∈ SL n g, EntryS Tryd.prog (InvL A n c g) p := fun p hp => by
  obtain rfl := List.mem_singleton.1 hp
  exact ix_ent A n c g
namespace R
def tail (x : Stp) (bodies : Int) : Bool :=
  bif x.code == 1 then good x.val else bif x.code == 4 then decide (x.n ≥ 0) && decide (x.n < bodies) else bif x.code == 46 || x.code == 47 then decide (x.n ≥ 0)
  else bif x.code == 10 then !x.flag || (!S.there x.desc.g && !S.there x.desc.t) else bif x.code == 11 then !S.there x.desc.v && (x.desc.w == 0 && (!S.there x.desc.g && !S.there x.desc.t)) else true
def pre (x : Stp) (n : Nat) : Bool := S.head x && (!(decide ((n : Int) > 1024)) && (S.keyOk x.key && check x.desc))
def regs (g : Nat → Int) (n : Nat) (z : Bool) : Bool := (seek (fun i => bif S.reg (g i) then none else some false) n 0).getD z
/-- cameoref27.Sound -/
def sound (x : Stp) (n : Nat) (g : Nat → Int) (bodies : Int) : Bool := bif pre x n then regs g n (tail x bodies) else false
end R
theorem keyEta (k : K) : K.mk k.s k.n = k := rfl
set_option maxHeartbeats 4000000 in
theorem sd_eq (x : Stp) (A : Option Addr) (n c : Nat) (g : Nat → Int) (b : Int) : letI := rowL A n c g
    evK Tryd.prog ext (tab2 AL (SL n g)) 80 107 (seqL (bodyOf Tryd.f5)) (⟨argS [.arr (x.cells [0]), .val (.int .i64 b)], fun _ => none, 0⟩) (grab Tryd.prog Tryd.f5 [] [] 0) = some (.ret (.val (.bool (S.sound x n g b)))) := by
  refine Eq.trans (b := (bif decide (x.code < 1) then some (Res.ret (SV.val (Value.bool false))) else 
     (bif decide (x.code > 65) then some (Res.ret (SV.val (Value.bool false))) else 
      (bif decide (x.tg ≥ 0) then 
       (bif !decide (x.tg < 32) then some (Res.ret (SV.val (Value.bool false))) else 
        (bif decide (x.a ≥ 0) then 
         (bif !decide (x.a < 32) then some (Res.ret (SV.val (Value.bool false))) else 
          (bif decide (x.b ≥ 0) then 
           (bif !decide (x.b < 32) then some (Res.ret (SV.val (Value.bool false))) else 
            (bif decide (x.c ≥ 0) then 
             (bif !decide (x.c < 32) then some (Res.ret (SV.val (Value.bool false))) else 
              (bif decide ((↑n : Int) > 1024) then some (Res.ret (SV.val (Value.bool false))) else 
               (bif decide (n ≤ 1024) then 
                (bif decide (S.bad g n ≥ 0) then some (Res.ret (SV.val (Value.bool false))) else 
                 (bif S.keyOk x.key then 
                  (bif S.check x.desc then 
                   (bif x.code == 1 then 
                    (bif S.good x.val then some (Res.ret (SV.val (Value.bool (0 == 0)))) else some (Res.ret (SV.val (Value.bool (5 == 0))))) else 
                    (bif x.code == 4 then 
                     (bif decide (x.n ≥ 0) then some (Res.ret (SV.val (Value.bool (decide (x.n < b))))) else some (Res.ret (SV.val (Value.bool false)))) else 
                     (bif x.code == 46 then some (Res.ret (SV.val (Value.bool (decide (x.n ≥ 0))))) else 
                      (bif x.code == 47 then some (Res.ret (SV.val (Value.bool (decide (x.n ≥ 0))))) else 
                       (bif x.code == 10 then 
                        (bif !x.flag then some (Res.ret (SV.val (Value.bool true))) else 
                         (bif !(x.desc.g.k != 0) then some (Res.ret (SV.val (Value.bool !x.desc.t.k != 0))) else some (Res.ret (SV.val (Value.bool false))))) else 
                        (bif x.code == 11 then some (Res.ret (SV.val (Value.bool (S.isG x.desc)))) else some (Res.ret (SV.val (Value.bool true))))))))) else some (Res.ret (SV.val (Value.bool false)))) else some (Res.ret (SV.val (Value.bool false))))) else none))) else some (Res.ret (SV.val (Value.bool false))))) else some (Res.ret (SV.val (Value.bool false))))) else some (Res.ret (SV.val (Value.bool false))))) else some (Res.ret (SV.val (Value.bool false))))))) (by kernel_rfl) ?_
  repeat' (first | (with_reducible refine bif_neq (fun h => ?_) (fun h => ?_)) | (with_reducible refine bif_and (fun h => ?_) (fun h => ?_)) | (with_reducible refine bif_eq (fun h => ?_) (fun h => ?_)))
  all_goals first | (simp only [*, S.sound, S.head, S.tail, S.reg, S.there, cond_true, cond_false, Bool.and_true, Bool.true_and, Bool.and_false, Bool.false_and, Bool.or_true, Bool.true_or, Bool.or_false, Bool.false_or, Bool.not_true, Bool.not_false, beq_self_eq_true, bne_self_eq_false, Bool.not_not]; done) | (exfalso; simp only [decide_eq_true_eq, decide_eq_false_iff_not] at *; omega) | rfl | (simp_all [S.sound, S.head, S.tail, S.reg, S.there]; done) | (exfalso; simp_all; omega) | grind [S.sound, S.head, S.tail, S.reg, S.there]
abbrev RdH (x : Stp) (b : Int) (i : Nat) : Cut := ⟨[(1, .val (.int .i64 b)), (2, .ptr 0 0), (5, .val (.int .i64 (i : Int)))], [(0, ⟨33, x.cells [0]⟩)]⟩
abbrev RdN (x : Stp) (b : Int) (i : Nat) : Cut := ⟨[(1, .val (.int .i64 b)), (2, .ptr 0 0), (5, .val (.int .i64 (IntKind.i64.wrap ((i : Int) + 1))))], [(0, ⟨33, x.cells [0]⟩)]⟩
set_option maxHeartbeats 4000000 in
theorem rd_pre (x : Stp) (A : Option Addr) (n c : Nat) (g : Nat → Int) (b : Int) : letI := rowL A n c g
    evK Tryd.prog ext (tab2 AL (SL n g)) 80 137 (seqL (preOf (bodyOf Tryd.f6))) (⟨argS [.arr (x.cells [0]), .val (.int .i64 b)], fun _ => none, 0⟩) (grab Tryd.prog Tryd.f6 [1, 2, 5] [0] 1) =
    bif R.pre x n then some (.cut .normal (RdH x b 0)) else some (.ret (.val (.bool false))) := by
  refine Eq.trans (b := (bif decide (x.code < 1) then some (Res.ret (SV.val (Value.bool false))) else 
     (bif decide (x.code > 65) then some (Res.ret (SV.val (Value.bool false))) else 
      (bif decide (x.tg ≥ 0) then 
       (bif !decide (x.tg < 32) then some (Res.ret (SV.val (Value.bool false))) else 
        (bif decide (x.a ≥ 0) then 
         (bif !decide (x.a < 32) then some (Res.ret (SV.val (Value.bool false))) else 
          (bif decide (x.b ≥ 0) then 
           (bif !decide (x.b < 32) then some (Res.ret (SV.val (Value.bool false))) else 
            (bif decide (x.c ≥ 0) then 
             (bif !decide (x.c < 32) then some (Res.ret (SV.val (Value.bool false))) else 
              (bif decide ((↑n : Int) > 1024) then some (Res.ret (SV.val (Value.bool false))) else 
               (bif !S.keyOk x.key then some (Res.ret (SV.val (Value.bool false))) else 
                (bif !R.check x.desc then some (Res.ret (SV.val (Value.bool false))) else (some (Res.cut .normal (RdH x b 0))))))) else some (Res.ret (SV.val (Value.bool false))))) else some (Res.ret (SV.val (Value.bool false))))) else some (Res.ret (SV.val (Value.bool false))))) else some (Res.ret (SV.val (Value.bool false))))))) (by kernel_rfl) ?_
  generalize (some (Res.cut .normal (RdH x b 0)) : Option Res) = C
  generalize (some (Res.ret (.val (.bool false))) : Option Res) = D
  repeat' (first | (with_reducible refine bif_neq (fun h => ?_) (fun h => ?_)) | (with_reducible refine bif_and (fun h => ?_) (fun h => ?_)) | (with_reducible refine bif_eq (fun h => ?_) (fun h => ?_)))
  all_goals first | (simp only [*, R.pre, S.head, S.reg, cond_true, cond_false, Bool.and_true, Bool.true_and, Bool.and_false, Bool.false_and, Bool.or_true, Bool.true_or, Bool.or_false, Bool.false_or, Bool.not_true, Bool.not_false, beq_self_eq_true, bne_self_eq_false, Bool.not_not]; done) | (exfalso; simp only [decide_eq_true_eq, decide_eq_false_iff_not] at *; omega) | rfl | (simp_all [R.pre, S.head, S.reg]; done) | (exfalso; simp_all; omega) | grind [R.pre, S.head, S.reg]
theorem rd_round (x : Stp) (A : Option Addr) (n c : Nat) (g : Nat → Int) (b : Int) (i : Nat) : letI := rowL A n c g
    evK Tryd.prog ext (tab2 AL (SL n g)) 80 137 (seqL (flat (roundOf (bodyOf Tryd.f6)))) ((RdH x b i).st 1) (grab Tryd.prog Tryd.f6 [1, 2, 5] [0] 1) = (bif decide ((↑i : Int) < (↑n : Int)) then 
     (bif decide (0 ≤ (↑i : Int)) && decide ((↑i : Int) < (↑n : Int)) then 
      (bif decide (g (↑i : Int).toNat ≥ 0) then 
       (bif !decide (g (↑i : Int).toNat < 32) then some (Res.ret (SV.val (Value.bool false))) else (some (Res.cut .normal (RdN x b i)))) else some (Res.ret (SV.val (Value.bool false)))) else none) else (some (Res.cut (.exit 0) (RdH x b i)))) := by kernel_rfl
set_option maxHeartbeats 4000000 in
theorem rd_post (x : Stp) (A : Option Addr) (n c : Nat) (g : Nat → Int) (b : Int) (i : Nat) : letI := rowL A n c g
    evK Tryd.prog ext (tab2 AL (SL n g)) 80 137 (seqL (postOf (bodyOf Tryd.f6))) ((RdH x b i).st 1) (grab Tryd.prog Tryd.f6 [1, 2, 5] [0] 1) = some (.ret (.val (.bool (R.tail x b)))) := by
  refine Eq.trans (b := (bif x.code == 1 then some (Res.ret (SV.val (Value.bool (R.good x.val)))) else 
     (bif x.code == 4 then 
      (bif decide (x.n ≥ 0) then some (Res.ret (SV.val (Value.bool (decide (x.n < b))))) else some (Res.ret (SV.val (Value.bool false)))) else 
      (bif x.code == 46 then some (Res.ret (SV.val (Value.bool (decide (x.n ≥ 0))))) else 
       (bif x.code == 47 then some (Res.ret (SV.val (Value.bool (decide (x.n ≥ 0))))) else 
        (bif x.code == 10 then 
         (bif !x.flag then some (Res.ret (SV.val (Value.bool true))) else 
          (bif !S.there x.desc.g then some (Res.ret (SV.val (Value.bool !S.there x.desc.t))) else some (Res.ret (SV.val (Value.bool false))))) else 
         (bif x.code == 11 then 
          (bif !S.there x.desc.v then 
           (bif x.desc.w == 0 then 
            (bif !S.there x.desc.g then some (Res.ret (SV.val (Value.bool !S.there x.desc.t))) else some (Res.ret (SV.val (Value.bool false)))) else some (Res.ret (SV.val (Value.bool false)))) else some (Res.ret (SV.val (Value.bool false)))) else some (Res.ret (SV.val (Value.bool true)))))))))) (by kernel_rfl) ?_
  repeat' (first | (with_reducible refine bif_neq (fun h => ?_) (fun h => ?_)) | (with_reducible refine bif_and (fun h => ?_) (fun h => ?_)) | (with_reducible refine bif_eq (fun h => ?_) (fun h => ?_)))
  all_goals first | (simp only [*, R.tail, S.there, cond_true, cond_false, Bool.and_true, Bool.true_and, Bool.and_false, Bool.false_and, Bool.or_true, Bool.true_or, Bool.or_false, Bool.false_or, Bool.not_true, Bool.not_false, beq_self_eq_true, bne_self_eq_false, Bool.not_not]; done) | (exfalso; simp only [decide_eq_true_eq, decide_eq_false_iff_not] at *; omega) | rfl | (simp_all [R.tail, S.there]; done) | (exfalso; simp_all; omega) | grind [R.tail, S.there]
end Go.Proofs.YtlliefodchfpfaaDoor.PDescKinds
