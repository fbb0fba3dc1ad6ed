/- DescFrozen: what is frozen stays. -/
import Derived.Test.YtaojjpdlfnphiaaDoorK0
set_option linter.unusedSimpArgs false
set_option linter.unusedVariables false
set_option linter.unusedSectionVars false
namespace Go.Proofs.YtaojjpdlfnphiaaDoor.PDescKinds
open Go.RowKit Go.Ev
namespace S
theorem freeze_ok {z : D} (h : whole z = true) : okA z (freezeD z) = true ∧ (apply true z (freezeD z)).2 = true ∧ Ice (apply true z (freezeD z)).1 := by
  have hcz := check_whole h
  have e0 : (bif whole z then (1 : Int) else 0) = 1 := by rw [h]; rfl
  have a0 : absent V0 = true := by decide +kernel
  have t0 : there V0 = false := rfl
  have cal0 : callable V0 = true := by unfold callable; rw [a0]; rfl
  have okv0 : okv V0 = true := okv_callable cal0
  have hisD : isD z = hasD z := by unfold isD; rw [hcz]; rfl
  have ef : freezeD z = ⟨V0, V0, V0, bif hasD z then 1 else 0, 0, 1⟩ := by unfold freezeD; rw [h, hisD]; rfl
  rw [ef]
  have hcf : check ⟨V0, V0, V0, bif hasD z then 1 else 0, 0, 1⟩ = true := by
    rw [check_eq]
    simp only [okv0, cal0, hasA, t0]
    cases hasD z <;> decide +kernel
  have hDf : hasD (⟨V0, V0, V0, bif hasD z then 1 else 0, 0, 1⟩ : D) = hasD z := by
    show (there V0 || (bif hasD z then (1 : Int) else 0) != 0) = hasD z
    cases hasD z <;> rfl
  have hAf : hasA (⟨V0, V0, V0, bif hasD z then 1 else 0, 0, 1⟩ : D) = false := rfl
  have hkf := kindN_of hcf
  rw [hDf, hAf] at hkf
  have hkz := kindN_whole h
  have hk : kindN (⟨V0, V0, V0, bif hasD z then 1 else 0, 0, 1⟩ : D) = 0 ∨ kindN (⟨V0, V0, V0, bif hasD z then 1 else 0, 0, 1⟩ : D) = kindN z := by
    rw [hkf, hkz]
    cases hasD z
    · exact .inl rfl
    · exact .inr rfl
  have hok : okA z ⟨V0, V0, V0, bif hasD z then 1 else 0, 0, 1⟩ = true := by unfold okA; rw [hcf, h]; rfl
  have hb : barred z ⟨V0, V0, V0, bif hasD z then 1 else 0, 0, 1⟩ = false := by
    unfold barred
    rw [hkf, hkz]
    simp only [t0]
    cases hasD z <;> simp
  have hap : apply true z ⟨V0, V0, V0, bif hasD z then 1 else 0, 0, 1⟩ = (over z ⟨V0, V0, V0, bif hasD z then 1 else 0, 0, 1⟩, true) := by
    unfold apply
    rw [whole_zero h, hb]
    simp only [cond_false, Bool.and_false]
    have : (kindN (⟨V0, V0, V0, bif hasD z then 1 else 0, 0, 1⟩ : D) != 0 && kindN (⟨V0, V0, V0, bif hasD z then 1 else 0, 0, 1⟩ : D) != kindN z) = false := by
      rcases hk with e | e <;> simp [e]
    rw [this]
    rfl
  refine ⟨hok, by rw [hap], ?_⟩
  rw [hap]
  refine ⟨over_whole h hcf hk, rfl, fun hD => ?_⟩
  rw [hasD_over, hDf, Bool.or_self] at hD
  show orT z.w (bif hasD z then 1 else 0) = 1
  rw [hD]
  rfl
end S
namespace Frozen
section
variable (A : Option Addr) (n c : Nat) (g : Nat → D)
set_option maxRecDepth 100000 in
theorem pre_ev (z : D) : letI := rowD A n c g
    evK Tryd.prog ext (tab FL) 90 74 (seqL Frozen.pre) ⟨argS [.val z.agg, .xs [0]], fun _ => none, 0⟩ (grab Tryd.prog Tryd.f6 [1,7,9] [2] 3) =
    (bif S.err (S.whole z) != 0 then some (Res.ret (SV.val (Value.bool !S.whole z))) else
     (bif S.okA z (S.freezeD z) then
      (bif !(S.apply true z (S.freezeD z)).snd then some (Res.ret (SV.val (Value.bool false))) else some (Res.cut Ex.normal (hd (S.apply true z (S.freezeD z)).fst 0))) else some (Res.ret (SV.val (Value.bool false))))) := by kernel_rfl
set_option maxRecDepth 100000 in
theorem round_ev (a : D) (i : Int) : letI := rowD A n c g
    evK Tryd.prog ext (tab FL) 90 74 (seqL (flat Frozen.round)) ((Frozen.hd a i).st 3) (grab Tryd.prog Tryd.f6 [1,7,9] [2] 3) =
    (bif decide (i < (n : Int)) then
     (bif decide (0 ≤ i) && decide (i < (n : Int)) then
      (bif S.okA a (g i.toNat) then
       (bif S.check a && S.check (S.apply (i.tmod 2 == 0) a (g i.toNat)).fst then
        (bif !S.equal a (S.apply (i.tmod 2 == 0) a (g i.toNat)).fst then some (Res.ret (SV.val (Value.bool false))) else some (Res.cut Ex.normal (hd (S.apply (i.tmod 2 == 0) a (g i.toNat)).fst (IntKind.i64.wrap (i + 1))))) else some (Res.ret (SV.val (Value.bool false)))) else some (Res.cut Ex.normal (hd a (IntKind.i64.wrap (i + 1))))) else none) else some (Res.cut (Ex.exit 0) (hd a i))) := by kernel_rfl
set_option maxRecDepth 100000 in
theorem post_ev (a : D) (i : Int) : letI := rowD A n c g
    evK Tryd.prog ext (tab FL) 90 74 (seqL Frozen.post) ((Frozen.hd a i).st 3) (grab Tryd.prog Tryd.f6 [1,7,9] [2] 3) = some (Res.ret (SV.val (Value.bool true))) := by kernel_rfl
/-- What stands while the law runs. -/
def Inv (w : World) : Prop := Tabs w ∧ @XOk (rowD A n c g) w
theorem inv_stable : Stable (Inv A n c g) := fun w w' h hb => ⟨tabs_stable _ _ h.1 hb, @XOk.below (rowD A n c g) _ _ h.2 hb⟩
theorem given : @GivenSound (rowD A n c g) Tryd.prog (Inv A n c g) (tab FL) := letI := rowD A n c g; tab_sound fun p hp => (entsFL p hp).mono (J := Inv A n c g) fun w h => h.1
def Post (w0 : World) : Ending → World → Prop := fun e w' => e = .returned (.bool true) ∧ Below w0.heap.size w0 w'
theorem calls (hn : (n : Int) ≤ 9223372036854775807) (z : D) (w : World) (ht : Tabs w) (hx : @XOk (rowD A n c g) w) :
    Calls Tryd.prog 6 #[z.agg, .slice A n c] w (Post w) := by
  letI := rowD A n c g
  have hI : Inv A n c g w := ⟨ht, hx⟩
  have hs := inv_stable A n c g
  have hXO : ∀ w, Inv A n c g w → XOk w := fun _ h => h.2
  have hG := given A n c g
  refine calls_of_wp Tryd.func6 (c := Tryd.f6.body.getD .skip) (by kernel_rfl) ?_
  refine wpL_flat _ ?_
  show wpL Tryd.prog Frozen.code _ _ _
  rw [Frozen.split, wpL_app]
  have hst := start_sound (fn := Tryd.f6) [.val z.agg, .xs [0]] (fun x hx => by
    simp only [List.mem_cons, List.not_mem_nil, or_false] at hx
    rcases hx with rfl | rfl
    · exact ok_val _ _
    · exact ok_xs) w (fun _ => 0)
  have hret : ∀ (b : Bool), b = true → ∀ (m' : Nat → Nat) (a' : Act) (w' : World), a'.defers = [] → (results Tryd.f6 a'.tmps).run Tryd.prog w' = .ok ((SV.val (.bool b)).den m') w' → Below w.heap.size w w' → bodyPost Tryd.prog Tryd.f6 (Post w) .ret a' w' := by
    intro b hb m' a' w' h1 h2 h3
    subst hb
    rw [den_val] at h2
    exact ⟨h1, _, h2, rfl, h3⟩
  -- the loop
  have loop : ∀ (k : Nat) (i : Int) (a : D), 0 ≤ i → i ≤ n → (n : Int) - i < k → S.Ice a → ∀ (m : Nat → Nat) (act : Act) (w' : World), SR w 74 m ((hd a i).st 3) act w' →
      Code.rounds Tryd.prog Frozen.round (Exit.inBlock 0 (Exit.then (wpL Tryd.prog Frozen.post (bodyPost Tryd.prog Tryd.f6 (Post w))) (bodyPost Tryd.prog Tryd.f6 (Post w)))) k act w' := by
    intro k
    induction k with
    | zero => intro i a h0 h1 h2; exfalso; omega
    | succ k ih =>
      intro i a h0 h1 h2 hice m act w' hr
      rw [rounds_succ]
      refine wpL_flat _ ?_
      have hev := round_ev A n c g a i
      by_cases hlt : i < n
      · have e1 : decide (i < (n : Int)) = true := decide_eq_true hlt
        have e2 : decide (0 ≤ i) = true := decide_eq_true h0
        have hw : IntKind.i64.wrap (i + 1) = i + 1 := by rw [IntKind.wrap_i64]; omega
        rw [e1, e2, hw] at hev
        simp only [cond_true, Bool.and_self] at hev
        cases ho : S.okA a (g i.toNat) with
        | false =>
          rw [ho] at hev
          refine piece mixed ext_sound hs hXO hG hev hI hr (fun v hv => by cases hv) ?_
          intro ex d hd m' a' w'' hr'
          cases hd
          exact ih (i + 1) a (by omega) (by omega) (by omega) hice m' a' w'' hr'
        | true =>
          obtain ⟨hc, heq, hice'⟩ := hice.step (i.tmod 2 == 0) ho
          rw [ho, S.check_whole hice.whole, hc, heq] at hev
          refine piece mixed ext_sound hs hXO hG hev hI hr (fun v hv => by cases hv) ?_
          intro ex d hd m' a' w'' hr'
          cases hd
          exact ih (i + 1) _ (by omega) (by omega) (by omega) hice' m' a' w'' hr'
      · have e1 : decide (i < (n : Int)) = false := decide_eq_false hlt
        rw [e1] at hev
        refine piece mixed ext_sound hs hXO hG hev hI hr (fun v hv => by cases hv) ?_
        intro ex d hd m' a' w'' hr'
        cases hd
        simp only [Ex.out, Exit.then, Exit.inBlock, if_true]
        refine piece mixed ext_sound hs hXO hG (post_ev A n c g a i) hI hr' (fun v hv => ?_) (fun ex d hd => by cases hd)
        cases hv
        exact hret true rfl
  have hev := pre_ev A n c g z
  cases hwz : S.whole z with
  | false =>
    rw [hwz] at hev
    refine piece mixed ext_sound hs hXO hG hev hI hst (fun v hv => ?_) (fun ex d hd => by cases hd)
    cases hv
    exact hret _ rfl
  | true =>
    obtain ⟨ho, h2, hice⟩ := S.freeze_ok hwz
    rw [hwz, ho, h2] at hev
    refine piece mixed ext_sound hs hXO hG hev hI hst (fun v hv => by cases hv) ?_
    intro ex d hd m' a' w' hr'
    cases hd
    show wpL Tryd.prog (Code.block 0 (.loop Frozen.round) :: Frozen.post) _ a' w'
    simp only [wpL]
    refine wp_block (wp_loop_rounds (n + 1) ?_)
    exact loop (n + 1) 0 _ (by omega) (by omega) (by omega) hice m' a' w' hr'
end
end Frozen
end Go.Proofs.YtaojjpdlfnphiaaDoor.PDescKinds
