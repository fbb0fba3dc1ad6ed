/- cameolaw10.InvariantPatches: pieces of its regions, by computing. -/
import Derived.Test.YtaojjpdlfnphiaaS2
set_option linter.unusedSimpArgs false
set_option linter.unusedVariables false
set_option linter.unusedSectionVars false
namespace Go.Ev
open Go.RowKit
section
variable [XEnv] {P : Program} {X : ExtFn} {G : GFn} {I : World → Prop} {w0 : World} {N : Nat} {call : CallFn} {os : Array Oper} {rest : List Oper} {Q : Exit → Act → World → Prop}
theorem opsR_sound (hX : ExtSound P X) (hI : I w0) (hs : Stable I) (hXO : ∀ w, I w → XOk w) (hcall : CallSound P I call) : ∀ (l : List Oper) (st st' : St) (m : Nat → Nat) (a : Act) (w : World), evOps P X call os N l st = some st' → SR w0 N m st a w →
    (∀ m' a' w', SR w0 N m' st' a' w' → wpList P os Q rest a' w') → wpList P os Q (l ++ rest) a w
  | [], st, st', m, a, w, h, hr, k => by
    simp only [evOps, Option.some.injEq] at h
    subst h
    exact k m a w hr
  | o :: r, st, st', m, a, w, h, hr, k => by
    unfold evOps at h
    cases hdg : dstOk N o.dst && knownG os st.tmps o with
    | false => rw [hdg] at h; cases h
    | true =>
      rw [hdg] at h
      rw [Bool.and_eq_true] at hdg
      obtain ⟨hd, hgk⟩ := hdg
      simp only [cond_true] at h
      show wpList P os Q (o :: (r ++ rest)) a w
      unfold wpList
      rw [want_eq hr.ar.tm o hgk]
      cases hw : wantS os st.tmps o with
      | true =>
        rw [hw] at h
        simp only [cond_true] at h
        simp only [if_true]
        split at h
        · rename_i v e he
          refine .inl (op_sound hX hI hs hXO hcall he (fun _ => hr.fresh _ (Nat.le_refl _)) (fun _ => hr.fresh) hr.ar.look_ok hr.ar.eval hr.mr ?_)
          intro m' w' hag hmr hv hg hall
          have hf := hall hr.fresh
          exact opsR_sound hX hI hs hXO hcall r _ st' m' _ w' h ⟨hmr, hr.ar.put hag hg hd hv, hf.1⟩ k
        · cases h
      | false =>
        rw [hw] at h
        simp only [cond_false] at h
        simp only [Bool.false_eq_true, if_false]
        exact opsR_sound hX hI hs hXO hcall r _ st' m _ w h ⟨hr.mr, (den_val m undef) ▸ hr.ar.put (v := .val undef) (Agree.refl _ _) (Grows.refl _) hd (ok_val _ _), hr.fresh⟩ k
/-- Operations of a region, by computing. -/
theorem opsPiece {m : Nat → Nat} {st : St} {a : Act} {w : World} (hmix : P.follows .mixedOrders = true) (hX : ExtSound P X) (hs : Stable I) (hXO : ∀ w, I w → XOk w) (hG : GivenSound P I G) {k : Nat} {l : List Oper} {ts bs : List Nat} {next : Nat} {c : Cut}
    (h : evOpsK P X (callWithK P G (evK P X G k)) os N l st (fun st => cutS ts bs next st) = some c) (hI : I w0) (hr : SR w0 N m st a w)
    (hk : ∀ m' a' w', SR w0 N m' (c.st next) a' w' → wpList P os Q rest a' w') : wpList P os Q (l ++ rest) a w := by
  rw [evOpsK_eq (callWithK_eq (fun N c st κ => evK_eq k N c st κ))] at h
  obtain ⟨st', h1, h2⟩ := Option.bind_eq_some_iff.1 h
  exact opsR_sound hX hI hs hXO (call_sound hs hG (ev_sound hmix hX hs hXO hG k).1) l st st' m a w h1 hr fun m' a' w' hr' => hk m' a' w' (cut_sound h2 hr')
end
end Go.Ev
