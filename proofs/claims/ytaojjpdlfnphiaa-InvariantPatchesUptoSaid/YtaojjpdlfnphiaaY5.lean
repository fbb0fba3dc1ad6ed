/- Tools for regions that draw and whose last store writes what their loads read; slices of own rows. -/
import Derived.Test.YtaojjpdlfnphiaaY4
import Derived.Test.YtaojjpdlfnphiaaWLast
set_option linter.unusedSimpArgs false
set_option linter.unusedVariables false
set_option linter.unusedSectionVars false
namespace Go.Ev
open Go.RowKit Go.Proofs.YtaojjpdlfnphiaaW.PrintLast Go.Proofs.Ytaojjpdlfnphiaa.PDescKinds
section
variable [XEnv] {P : Program} {ops : Array Oper} {N : Nat} {m : Nat → Nat} {S : World → Prop} {Q : Act → World → Prop} {ds : List Nat}
/-- Operations taken first, one behind the other. -/
def takesL (P : Program) (ops : Array Oper) (ds : List Nat) (N : Nat) : List Nat → (Nat → SV) → Array Bool → Option ((Nat → SV) × Array Bool)
  | [], t, l => some (t, l)
  | i :: r, t, l => match ops[i]? with
    | some o => bif o.guard.isNone && ((Region.free .any ops l i && (Region.ready .any ops l).contains i) && ((Go.Proofs.YtaojjpdlfnphiaaW.PrintLast.Region.closedB .any ops l && Go.Proofs.YtaojjpdlfnphiaaW.PrintLast.Region.lastB .any ops l ds i) && dstOk N o.dst)) then
        match evP P (look t) o with
        | some v => takesL P ops ds N r (putS t o.dst v) (l.setIfInBounds i true)
        | none => none
      else none
    | none => none
theorem takesL_sound (hS : ∀ w, S w → XOk w) (hns : Region.noSelect ops = true) : ∀ (is : List Nat) (t t' : Nat → SV) (l l' : Array Bool) (fuel : Nat) (a : Act) (w : World), takesL P ops ds N is t l = some (t', l') → AR N m t (fun _ => none) a → S w →
    (∀ a', AR N m t' (fun _ => none) a' → wpAnyLast P .any ops (onlyN Q) S ds fuel l' a' w) → wpAnyLast P .any ops (onlyN Q) S ds (is.length + fuel) l a w
  | [], t, t', l, l', fuel, a, w, h, har, hSw, k => by
    simp only [takesL, Option.some.injEq, Prod.mk.injEq] at h
    obtain ⟨rfl, rfl⟩ := h
    simpa using k a har
  | i :: r, t, t', l, l', fuel, a, w, h, har, hSw, k => by
    unfold takesL at h
    split at h
    · rename_i o ho
      cases hc : (o.guard.isNone && ((Region.free .any ops l i && (Region.ready .any ops l).contains i) && ((Go.Proofs.YtaojjpdlfnphiaaW.PrintLast.Region.closedB .any ops l && Go.Proofs.YtaojjpdlfnphiaaW.PrintLast.Region.lastB .any ops l ds i) && dstOk N o.dst))) with
      | false => rw [hc] at h; cases h
      | true =>
        rw [hc] at h
        simp only [cond_true] at h
        simp only [Bool.and_eq_true] at hc
        obtain ⟨hg, ⟨hf, hr⟩, ⟨hcl, hla⟩, hd⟩ := hc
        split at h
        · rename_i v hv
          have hgn : o.guard = none := by simpa using hg
          have hy : YieldsIf P ops S o (v.den m) a := .inl ⟨by simp [Region.wanted, hgn], fun w' hw' => (evP_run (m := m) (hS w' hw') (fun x => har.look_ok x) (fun x hk => har.eval x hk) hv).1⟩
          have hvok := (evP_run (m := m) (hS w hSw) (fun x => har.look_ok x) (fun x hk => har.eval x hk) hv).2
          rw [show (i :: r).length + fuel = (r.length + fuel) + 1 by simp only [List.length_cons]; omega]
          refine wpAnyLast_take ho hns hf hr hcl hla (fun c a w h => h.elim) hy hSw ?_
          exact takesL_sound hS hns r _ t' _ l' fuel _ w h (har.put (Agree.refl _ _) (Grows.refl _) hd hvok) hSw k
        · cases h
    · cases h
theorem takesL_cut (hS : ∀ w, S w → XOk w) (hns : Region.noSelect ops = true) {is : List Nat} {t : Nat → SV} {l l' : Array Bool} {ns : List Nat} {vs : List SV} {fuel : Nat} {a : Act} {w : World}
    (h : (takesL P ops ds N is t l).map (fun p => (ns.map p.1, p.2)) = some (vs, l')) (har : AR N m t (fun _ => none) a) (hw : S w)
    (k : ∀ a' t', AR N m t' (fun _ => none) a' → ns.map t' = vs → wpAnyLast P .any ops (onlyN Q) S ds fuel l' a' w) : wpAnyLast P .any ops (onlyN Q) S ds (is.length + fuel) l a w := by
  obtain ⟨⟨t', l2⟩, h1, h2⟩ := Option.map_eq_some_iff.1 h
  simp only [Prod.mk.injEq] at h2
  obtain ⟨h2, rfl⟩ := h2
  exact takesL_sound hS hns is t t' l l2 fuel a w h1 har hw fun a' har' => k a' t' har' h2
end
end Go.Ev
namespace Go.Proofs.Ytaojjpdlfnphiaa.PDescKinds
open Go.RowKit Go.Ev Go.Proofs.YtaojjpdlfnphiaaW.PrintLast
/-- A region that draws, over its last stores. -/
theorem region_last {id : Nat} {ops : Array Oper} {Q : Exit → Act → World → Prop} (S : World → Prop) (ds : List Nat) {a : Act} {w : World}
    (h : wpAnyLast Try.prog .any ops (onlyN fun a w => Q .normal a w) S ds ops.size (Array.replicate ops.size false) a { w with drawn := w.drawn + 1 }) : (Code.region id ops true).wp Try.prog Q a w :=
  wp_mono (wp_region_last mixed h) fun e a w h => by cases e <;> first | exact h | exact h.elim
/-- What an act holds. -/
structure Kp (N : Nat) (ts : List (Nat × Value)) (a : Act) : Prop where
  size : a.tmps.size = N
  defers : a.defers = []
  vals : ∀ p ∈ ts, a.tmps.getD p.1 undef = p.2
section
variable {N : Nat} {ts us : List (Nat × Value)} {a : Act} {w w1 : World} {Q : Exit → Act → World → Prop}
theorem Kp.put (h : Kp N ts a) {d : Nat} {v : Value} (hd : (decide (d < N) && ts.all fun p => d != p.1) = true) : Kp N ((d, v) :: ts) (a.put (some d) v) := by
  simp only [Bool.and_eq_true, decide_eq_true_eq, List.all_eq_true, bne_iff_ne] at hd
  obtain ⟨h1, h2, h3, h4⟩ := put_all a N d v h.size hd.1
  refine ⟨h1, h2.trans h.defers, fun p hp => ?_⟩
  rcases List.mem_cons.1 hp with rfl | hp
  · exact h3
  · exact (h4 p.1 (hd.2 p hp)).trans (h.vals p hp)
theorem Kp.get (h : Kp N ts a) {d : Nat} {v : Value} (hm : (d, v) ∈ ts) : a.eval (.tmp d) = v := h.vals _ hm
theorem Kp.sub (h : Kp N ts a) (hs : ∀ p ∈ us, p ∈ ts) : Kp N us a := ⟨h.size, h.defers, fun p hp => h.vals p (hs p hp)⟩
theorem Kp.join (h : Kp N ts a) (h2 : Kp N us a) : Kp N (ts ++ us) a := ⟨h.size, h.defers, fun p hp => (List.mem_append.1 hp).elim (h.vals p) (h2.vals p)⟩
theorem Kp.moved {a' : Act} (h : Kp N ts a) (hs : a'.tmps.size = N) (hd : a'.defers = []) (hk : ∀ p ∈ ts, a'.tmps.getD p.1 undef = a.tmps.getD p.1 undef) : Kp N ts a' := ⟨hs, hd, fun p hp => (hk p hp).trans (h.vals p hp)⟩
theorem Kp.ar [XEnv] {m : Nat → Nat} {ss : List (Nat × SV)} (h : Kp N ts a) (w : World) (hs : ∀ p ∈ ss, (p.1, p.2.den m) ∈ ts ∧ p.2.ok fun _ => none) : AR N m (pickT ss) (fun _ => none) a :=
  ar_of w h.size h.defers (fun p hp => h.vals (p.1, p.2.den m) (hs p hp).1) fun p hp => (hs p hp).2
end
/-- One operation that yields. -/
theorem wpList_val {os : Array Oper} {rest : List Oper} {o : Oper} {a : Act} {w : World} {Q : Exit → Act → World → Prop} {v : Value} (hg : o.guard = none) (hr : (execOp a.eval o).run Try.prog w = .ok (.value v) w) (k : wpList Try.prog os Q rest (a.put o.dst v) w) : wpList Try.prog os Q (o :: rest) a w := by
  refine wpList_plain hg fun K hK => ?_
  unfold Oper.wp
  rw [hr, Oper.upon_value]
  exact hK _ _ k
theorem run_sl_h {o : Oper} {a : Act} {w : World} {t x y : Nat} {A : Option Addr} {n c j s : Nat} (ho : o.op = .slice t (.tmp x) none (some (.tmp y)) none) (ht : Try.prog.underlying t = some (.slice (Try.prog.elem t))) (hz : pureRun Try.prog (sizeOf (Try.prog.elem t)) = some s)
    (hx : a.eval (.tmp x) = .slice A n c) (hy : a.eval (.tmp y) = .int .i64 (j : Int)) (hj : j ≤ c) : (execOp a.eval o).run Try.prog w = .ok (.value (sliced A 0 j c s)) w := by
  have hs := pureRun_run _ hz w
  unfold execOp
  simp only [ho, Option.map_none, Option.map_some, hx, hy, Sem.run_bind, run_sliceAt_slice (h := ht), run_slice_h (ht := ht) (h0 := (by omega : (0 : Int) ≤ (j : Int))) (h2 := (by omega : (j : Int) ≤ (c : Int))), hs, Result.andThen_ok, Int.toNat_natCast, Sem.run_pure]
theorem run_sl_l {o : Oper} {a : Act} {w : World} {t x y : Nat} {A : Option Addr} {n c j s : Nat} (ho : o.op = .slice t (.tmp x) (some (.tmp y)) none none) (ht : Try.prog.underlying t = some (.slice (Try.prog.elem t))) (hz : pureRun Try.prog (sizeOf (Try.prog.elem t)) = some s)
    (hx : a.eval (.tmp x) = .slice A n c) (hy : a.eval (.tmp y) = .int .i64 (j : Int)) (hj : j ≤ n) : (execOp a.eval o).run Try.prog w = .ok (.value (sliced A j n c s)) w := by
  have hs := pureRun_run _ hz w
  unfold execOp
  simp only [ho, Option.map_none, Option.map_some, hx, hy, Sem.run_bind, run_sliceAt_slice (h := ht), run_slice_l (ht := ht) (h0 := (by omega : (0 : Int) ≤ (j : Int))) (h1 := (by omega : (j : Int) ≤ (n : Int))), hs, Result.andThen_ok, Int.toNat_natCast, Sem.run_pure]
end Go.Proofs.Ytaojjpdlfnphiaa.PDescKinds
