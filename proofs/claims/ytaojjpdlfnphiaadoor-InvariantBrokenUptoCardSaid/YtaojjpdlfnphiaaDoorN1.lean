/- Functions with loops: how a run goes on behind a piece that was computed. -/
import Derived.Test.YtaojjpdlfnphiaaDoorEvF
import Derived.Test.YtaojjpdlfnphiaaDoorH3
import Derived.Test.YtaojjpdlfnphiaaDoorG4
import Derived.Test.YtaojjpdlfnphiaaDoorP3
set_option linter.unusedSimpArgs false
set_option linter.unusedVariables false
set_option linter.unusedSectionVars false
namespace Go.Ev
open Go.RowKit
section
variable [XEnv]
/-- What is still to be done: a list of codes, or more rounds of a loop. -/
inductive Fr where
  | rest (l : List Code)
  | loop (id : Nat) (r : Code) (k : Nat)
def cont (P : Program) (B : Exit → Act → World → Prop) : List Fr → Exit → Act → World → Prop
  | [] => B
  | .rest l :: fs => Exit.then (wpL P l (cont P B fs)) (cont P B fs)
  | .loop id r k :: fs => Exit.then (Code.rounds P r (Exit.inBlock id (cont P B fs)) k) (Exit.inBlock id (cont P B fs))
theorem cont_ret {P : Program} {B : Exit → Act → World → Prop} {a : Act} {w : World} (h : B .ret a w) : ∀ fs, cont P B fs .ret a w
  | [] => h
  | .rest _ :: fs => cont_ret h fs
  | .loop _ _ _ :: fs => cont_ret h fs
/-- What must stand for pieces to be computed. -/
structure Ctx (P : Program) (X : ExtFn) (G : GFn) (I : World → Prop) : Prop where
  mix : P.follows .mixedOrders = true
  hX : ExtSound P X
  hs : Stable I
  hXO : ∀ w, I w → XOk w
  hG : GivenSound P I G
def Ended (w0 : World) (v : SV) : Ending → World → Prop := fun e w' => (∃ m, e = .returned (v.den m)) ∧ Below w0.heap.size w0 w'
section
variable {P : Program} {X : ExtFn} {G : GFn} {I : World → Prop} {N : Nat} {fn : Func} {v : SV} {fs : List Fr} {l : List Code} {st : St} {k : Nat} {ts bs : List Nat} {next : Nat} {c : Cut} {ex : Ex}
def Runs (P : Program) (I : World → Prop) (N : Nat) (fn : Func) (v : SV) (fs : List Fr) (l : List Code) (st : St) : Prop :=
  ∀ w0, I w0 → ∀ (m : Nat → Nat) (a : Act) (w : World), SR w0 N m st a w → wpL P l (cont P (bodyPost P fn (Ended w0 v)) fs) a w
def RunsX (P : Program) (I : World → Prop) (N : Nat) (fn : Func) (v : SV) (fs : List Fr) (e : Exit) (st : St) : Prop :=
  ∀ w0, I w0 → ∀ (m : Nat → Nat) (a : Act) (w : World), SR w0 N m st a w → cont P (bodyPost P fn (Ended w0 v)) fs e a w
theorem Runs.ret (C : Ctx P X G I) (h : evK P X G k N (seqL l) st (grab P fn ts bs next) = some (.ret v)) : Runs P I N fn v fs l st := fun w0 hI m a w hr => by
  refine piece C.mix C.hX C.hs C.hXO C.hG h hI hr (fun v' hv m' a' w' h1 h2 h3 => ?_) (fun ex d hd => by cases hd)
  cases hv
  exact cont_ret ⟨h1, _, h2, ⟨m', rfl⟩, h3⟩ fs
theorem Runs.step (C : Ctx P X G I) (h : evK P X G k N (seqL l) st (grab P fn ts bs next) = some (.cut ex c)) (hk : RunsX P I N fn v fs ex.out (c.st next)) : Runs P I N fn v fs l st := fun w0 hI m a w hr => by
  refine piece C.mix C.hX C.hs C.hXO C.hG h hI hr (fun v' hv => by cases hv) (fun ex d hd m' a' w' hr' => ?_)
  cases hd
  exact hk w0 hI m' a' w' hr'
theorem Runs.app {l2 : List Code} (h : Runs P I N fn v (.rest l2 :: fs) l st) : Runs P I N fn v fs (l ++ l2) st := fun w0 hI m a w hr => (wpL_app l l2).2 (h w0 hI m a w hr)
theorem RunsX.rest (h : Runs P I N fn v fs l st) : RunsX P I N fn v (.rest l :: fs) .normal st := h
theorem RunsX.exit_rest {i : Nat} (h : RunsX P I N fn v fs (.exit i) st) : RunsX P I N fn v (.rest l :: fs) (.exit i) st := h
theorem RunsX.again {id : Nat} {r : Code} {n : Nat} (h : Runs P I N fn v (.loop id r n :: fs) (flat r) st) : RunsX P I N fn v (.loop id r (n + 1) :: fs) .normal st := fun w0 hI m a w hr => by
  show Code.rounds P r _ (n + 1) a w
  rw [rounds_succ]
  exact wpL_flat _ (h w0 hI m a w hr)
theorem RunsX.out {id : Nat} {r : Code} {n : Nat} (h : RunsX P I N fn v fs .normal st) : RunsX P I N fn v (.loop id r n :: fs) (.exit id) st := fun w0 hI m a w hr => by
  have := h w0 hI m a w hr
  simpa only [cont, Exit.then, Exit.inBlock, if_true] using this
theorem Runs.loop {id : Nat} {r : Code} (n : Nat) (h : Runs P I N fn v (.loop id r n :: .rest l :: fs) (flat r) st) : Runs P I N fn v fs (.block id (.loop r) :: l) st := fun w0 hI m a w hr => by
  simp only [wpL]
  refine wp_block (wp_loop_rounds (n + 1) ?_)
  rw [rounds_succ]
  exact wpL_flat _ (h w0 hI m a w hr)
theorem Runs.cond {c : Operand} {t e : Code} {b : Bool} (hb : look st.tmps c = .val (.bool b)) (h : Runs P I N fn v (.rest l :: fs) (flat (bif b then t else e)) st) : Runs P I N fn v fs (.cond c t e :: l) st := fun w0 hI m a w hr => by
  simp only [wpL]
  have hv : a.eval c = .bool b := by rw [hr.ar.eval c (by rw [hb]; rfl), hb, den_val]
  have := h w0 hI m a w hr
  cases b with
  | true => exact wp_cond hv (wpL_flat _ this)
  | false => exact wp_cond hv (wpL_flat _ this)
theorem Runs.calls {f : FuncId} {body : Code} {args : List SV} (hf : P.funcs[f]? = some fn) (hb : fn.body = some body) (hN : args.length + (fn.ntmps - args.length) = N) (hok : ∀ x ∈ args, x.ok fun _ => none)
    (h : Runs P I N fn v [] (flat body) ⟨argS args, fun _ => none, 0⟩) (w : World) (hI : I w) (m : Nat → Nat) : Calls P f (args.map (SV.den m)).toArray w (Ended w v) := by
  refine calls_of_wp hf hb (wpL_flat _ ?_)
  have := start_sound (fn := fn) args hok w m
  rw [hN] at this
  exact h w hI m _ _ this
/-- A contract, out of how its function runs. -/
theorem EntryS.of {f : FuncId} {g : List SV → Option (DT SV)} (h : ∀ args t v, g args = some t → t.val = some v → (v.ok fun _ => none) ∧ (∀ x ∈ args, x.ok fun _ => none) ∧ ∀ w m, I w → Calls P f (args.map (SV.den m)).toArray w (Ended w v)) (hs : Stable I) : EntryS P I (f, fun args _ => g args) := fun args mem t v h1 h2 h3 => by
  obtain ⟨hf, _, hc⟩ := h args t v h1 h2
  refine ⟨SV.ok_grows (fun b hb => (by cases hb)) hf, fun w0 m w hI hm => Calls.mono (hc w m (hs _ _ hI hm.below)) fun e w' ⟨⟨m', he⟩, hb⟩ => ⟨?_, hb⟩⟩
  rw [he, SV.den_agree (mem := fun _ => none) (m := m) (m' := m') (fun b hb => by cases hb) hf]
/-- The first place at which something is found. -/
def seek {α : Type} (p : Nat → Option α) : Nat → Nat → Option α
  | 0, _ => none
  | k + 1, i => match p i with
    | some v => some v
    | none => seek p k (i + 1)
/-- One round of a search: what is found ends the function. -/
def toR (d : Cut) : Option SV → Res
  | some u => .ret u
  | none => .cut .normal d
theorem Runs.seek {α : Type} (C : Ctx P X G I) {id : Nat} {r : Code} {n : Nat} {p : Nat → Option α} {f : α → SV} {hd : Nat → Cut} {z : α} {c' : Cut}
    (hround : ∀ i, i < n → evK P X G k N (seqL (flat r)) ((hd i).st next) (grab P fn ts bs next) = some (toR (hd (i + 1)) ((p i).map f)))
    (hend : evK P X G k N (seqL (flat r)) ((hd n).st next) (grab P fn ts bs next) = some (.cut (.exit id) c'))
    (hpost : Ev.seek p n 0 = none → RunsX P I N fn (f z) fs .normal (c'.st next)) : ∀ (j i : Nat), i + j = n → Ev.seek p n 0 = Ev.seek p j i → Runs P I N fn (f ((Ev.seek p j i).getD z)) (.loop id r j :: fs) (flat r) ((hd i).st next)
  | 0, i, hi, he => by
    obtain rfl : i = n := by omega
    exact Runs.step C hend (RunsX.out (hpost he))
  | j + 1, i, hi, he => by
    have h := hround i (by omega)
    simp only [Ev.seek] at he ⊢
    cases hp : p i with
    | some u =>
      rw [hp] at h
      exact Runs.ret C h
    | none =>
      rw [hp] at h he
      exact Runs.step C h (RunsX.again (Runs.seek C hround hend hpost j (i + 1) (by omega) he))
/-! ### A list of codes, split at its first loop -/
def hasLoop : List Code → Bool
  | [] => false
  | .block _ (.loop _) :: _ => true
  | _ :: r => hasLoop r
def preOf : List Code → List Code
  | [] => []
  | .block _ (.loop _) :: _ => []
  | x :: r => x :: preOf r
def postOf : List Code → List Code
  | [] => []
  | .block _ (.loop _) :: r => r
  | _ :: r => postOf r
def roundOf : List Code → Code
  | [] => .skip
  | .block _ (.loop c) :: _ => c
  | _ :: r => roundOf r
def idOf : List Code → Nat
  | [] => 0
  | .block i (.loop _) :: _ => i
  | _ :: r => idOf r
theorem split_loop : ∀ l : List Code, hasLoop l = true → l = preOf l ++ Code.block (idOf l) (.loop (roundOf l)) :: postOf l
  | [], h => by cases h
  | x :: r, h => by
    have ih := split_loop r
    unfold hasLoop at h
    split at h
    · cases ‹_ = []›
    · rename_i heq
      cases heq
      rfl
    · rename_i y r' hne heq
      cases heq
      have e := ih h
      unfold preOf postOf roundOf idOf
      split
      · cases ‹_ = []›
      · rename_i q _ heq
        cases heq
        exact absurd rfl (hne _ _)
      · rename_i heq
        cases heq
        rw [List.cons_append, ← e]
theorem Runs.looped (C : Ctx P X G I) (hl : hasLoop l = true) (n : Nat) (hpre : evK P X G k N (seqL (preOf l)) st (grab P fn ts bs next) = some (.cut .normal c))
    (h : Runs P I N fn v (.loop (idOf l) (roundOf l) n :: .rest (postOf l) :: fs) (flat (roundOf l)) (c.st next)) : Runs P I N fn v fs l st := by
  rw [split_loop l hl]
  exact Runs.app (Runs.step C hpre (RunsX.rest (Runs.loop n h)))
/-- A function, or the rest of one, that searches. -/
theorem Runs.seekFn {α : Type} (C : Ctx P X G I) (hl : hasLoop l = true) {n : Nat} {p : Nat → Option α} {f : α → SV} {hd : Nat → Cut} {z : α} {c' : Cut}
    (hpre : evK P X G k N (seqL (preOf l)) st (grab P fn ts bs next) = some (.cut .normal (hd 0)))
    (hround : ∀ i, i < n → evK P X G k N (seqL (flat (roundOf l))) ((hd i).st next) (grab P fn ts bs next) = some (toR (hd (i + 1)) ((p i).map f)))
    (hend : evK P X G k N (seqL (flat (roundOf l))) ((hd n).st next) (grab P fn ts bs next) = some (.cut (.exit (idOf l)) c'))
    (hpost : Ev.seek p n 0 = none → Runs P I N fn (f z) fs (postOf l) (c'.st next)) : Runs P I N fn (f ((Ev.seek p n 0).getD z)) fs l st :=
  Runs.looped C hl n hpre (Runs.seek C hround hend (fun h => RunsX.rest (hpost h)) n 0 (by omega) rfl)
end
end
end Go.Ev

/-! #### part B0 -/
set_option linter.unusedSimpArgs false
set_option linter.unusedVariables false
set_option linter.unusedSectionVars false
namespace Go.Proofs.YtaojjpdlfnphiaaDoor.PDescKinds
open Go.RowKit Go.Ev
structure K where
  s : ByteArray
  n : Int
structure Pr where
  k : K
  d : D
/-- A shape; where its properties stand. -/
structure Sh where
  cl : Int
  p : V
  x : Bool
  A : Option Addr
  n : Nat
  c : Nat
  g : Nat → Pr
/-- A moment. -/
structure Mo where
  A : Option Addr
  n : Nat
  c : Nat
  g : Nat → Sh
def K.agg (k : K) : Value := .agg #[.string k.s, .int .i64 k.n]
def V.cells (v : V) : List SV := [.val (.int .i64 v.k), .val (.bool v.b), .val (.float .f64 v.n), .val (.string v.s), .val (.int .i64 v.id)]
/-- A descriptor's cells. -/
def D.cells (d : D) : List SV := [.val (.int .i64 d.v.k), .val (.bool d.v.b), .val (.float .f64 d.v.n), .val (.string d.v.s), .val (.int .i64 d.v.id),
  .val (.int .i64 d.g.k), .val (.bool d.g.b), .val (.float .f64 d.g.n), .val (.string d.g.s), .val (.int .i64 d.g.id), .val (.int .i64 d.t.k), .val (.bool d.t.b), .val (.float .f64 d.t.n), .val (.string d.t.s), .val (.int .i64 d.t.id), .val (.int .i64 d.w), .val (.int .i64 d.e), .val (.int .i64 d.c)]
def Pr.cells (q : Pr) : List SV := [.val (.string q.k.s), .val (.int .i64 q.k.n), .val (.int .i64 q.d.v.k), .val (.bool q.d.v.b), .val (.float .f64 q.d.v.n), .val (.string q.d.v.s), .val (.int .i64 q.d.v.id),
  .val (.int .i64 q.d.g.k), .val (.bool q.d.g.b), .val (.float .f64 q.d.g.n), .val (.string q.d.g.s), .val (.int .i64 q.d.g.id), .val (.int .i64 q.d.t.k), .val (.bool q.d.t.b), .val (.float .f64 q.d.t.n), .val (.string q.d.t.s), .val (.int .i64 q.d.t.id), .val (.int .i64 q.d.w), .val (.int .i64 q.d.e), .val (.int .i64 q.d.c)]
def Pr.agg (q : Pr) : Value := .agg #[.string q.k.s, .int .i64 q.k.n, .int .i64 q.d.v.k, .bool q.d.v.b, .float .f64 q.d.v.n, .string q.d.v.s, .int .i64 q.d.v.id,
  .int .i64 q.d.g.k, .bool q.d.g.b, .float .f64 q.d.g.n, .string q.d.g.s, .int .i64 q.d.g.id, .int .i64 q.d.t.k, .bool q.d.t.b, .float .f64 q.d.t.n, .string q.d.t.s, .int .i64 q.d.t.id, .int .i64 q.d.w, .int .i64 q.d.e, .int .i64 q.d.c]
def shCells (cl : Int) (p : V) (x : Bool) (r : List Nat) : List SV := [.val (.int .i64 cl), .val (.int .i64 p.k), .val (.bool p.b), .val (.float .f64 p.n), .val (.string p.s), .val (.int .i64 p.id), .val (.bool x), .xs r]
/-- The rows of moments, and a box. -/
@[instance_reducible] def rowsB (M : Nat → Mo) (bx : XR) : XEnv := ⟨fun r => match r with
  | [k] => ⟨(M k).A, 8, (M k).n, (M k).c, fun j => shCells ((M k).g j).cl ((M k).g j).p ((M k).g j).x [k, j]⟩
  | [k, j] => ⟨((M k).g j).A, 20, ((M k).g j).n, ((M k).g j).c, fun i => (((M k).g j).g i).cells⟩
  | _ => bx⟩
/-! ### Shapes of arguments -/
/-- A shape as it is handed on: its fields, and whose properties it has. -/
structure SA where
  cl : Int
  p : V
  x : Bool
  a : Nat
  b : Nat
def SA.sv (q : SA) : SV := .arr (shCells q.cl q.p q.x [q.a, q.b])
/-- The same as a shape, its properties out of the moments. -/
def SA.sh (M : Nat → Mo) (q : SA) : Sh := ⟨q.cl, q.p, q.x, ((M q.a).g q.b).A, ((M q.a).g q.b).n, ((M q.a).g q.b).c, ((M q.a).g q.b).g⟩
def cutSV : List SV → Option (V × List SV)
  | .val (.int .i64 k) :: .val (.bool b) :: .val (.float .f64 n) :: .val (.string s) :: .val (.int .i64 id) :: r => some (⟨k, b, n, s, id⟩, r)
  | _ => none
theorem cutSV_eq {l r : List SV} {v : V} (h : cutSV l = some (v, r)) : l = .val (.int .i64 v.k) :: .val (.bool v.b) :: .val (.float .f64 v.n) :: .val (.string v.s) :: .val (.int .i64 v.id) :: r := by
  unfold cutSV at h
  split at h
  · simp only [Option.some.injEq, Prod.mk.injEq] at h
    obtain ⟨rfl, rfl⟩ := h
    rfl
  · cases h
def getSA : SV → Option SA
  | .arr (.val (.int .i64 cl) :: l) => match cutSV l with
    | some (p, r) => match r with
      | [.val (.bool x), .xs [a, b]] => some ⟨cl, p, x, a, b⟩
      | _ => none
    | none => none
  | _ => none
theorem getSA_sv {s : SV} {q : SA} (h : getSA s = some q) : s = q.sv := by
  unfold getSA at h
  split at h
  · split at h
    · rename_i cl l p r hl
      split at h
      · simp only [Option.some.injEq] at h
        subst h
        rw [cutSV_eq hl]
        rfl
      · cases h
    · cases h
  · cases h
def getK : Value → Option K
  | .agg a => match a.toList with
    | [.string s, .int .i64 n] => some ⟨s, n⟩
    | _ => none
  | _ => none
theorem getK_agg {x : Value} {v : K} (h : getK x = some v) : x = v.agg := by
  unfold getK at h
  split at h
  · rename_i a
    split at h
    · rename_i ha
      simp only [Option.some.injEq] at h
      subst h
      unfold K.agg
      rw [← ha]
    · cases h
  · cases h
/-! Contracts over shapes -/
def onSh (f : SA → DT SV) : List SV → Option (DT SV)
  | [x] => match getSA x with
    | some q => some (f q)
    | none => none
  | _ => none
def onShSh (f : SA → SA → DT SV) : List SV → Option (DT SV)
  | [x, y] => match getSA x with
    | some q => match getSA y with
      | some r => some (f q r)
      | none => none
    | none => none
  | _ => none
def onShK (f : SA → K → DT SV) : List SV → Option (DT SV)
  | [x, .val y] => match getSA x with
    | some q => match getK y with
      | some r => some (f q r)
      | none => none
    | none => none
  | _ => none
def onM (f : Nat → DT SV) : List SV → Option (DT SV)
  | [.xs [a]] => some (f a)
  | _ => none
def onMM (f : Nat → Nat → DT SV) : List SV → Option (DT SV)
  | [.xs [a], .xs [b]] => some (f a b)
  | _ => none
def onPK (f : Nat → Nat → K → DT SV) : List SV → Option (DT SV)
  | [.xs [a, b], .val y] => match getK y with
    | some r => some (f a b r)
    | none => none
  | _ => none
theorem onSh_eq {f : SA → DT SV} {l : List SV} {t : DT SV} (h : onSh f l = some t) : ∃ q : SA, l = [q.sv] ∧ t = f q := by
  unfold onSh at h
  split at h
  · split at h
    · rename_i q hq
      simp only [Option.some.injEq] at h
      exact ⟨q, by rw [getSA_sv hq], h.symm⟩
    · cases h
  · cases h
theorem onShSh_eq {f : SA → SA → DT SV} {l : List SV} {t : DT SV} (h : onShSh f l = some t) : ∃ q r : SA, l = [q.sv, r.sv] ∧ t = f q r := by
  unfold onShSh at h
  split at h
  · split at h
    · rename_i q hq
      split at h
      · rename_i r hr
        simp only [Option.some.injEq] at h
        exact ⟨q, r, by rw [getSA_sv hq, getSA_sv hr], h.symm⟩
      · cases h
    · cases h
  · cases h
theorem onShK_eq {f : SA → K → DT SV} {l : List SV} {t : DT SV} (h : onShK f l = some t) : ∃ (q : SA) (k : K), l = [q.sv, .val k.agg] ∧ t = f q k := by
  unfold onShK at h
  split at h
  · split at h
    · rename_i q hq
      split at h
      · rename_i r hr
        simp only [Option.some.injEq] at h
        exact ⟨q, r, by rw [getSA_sv hq, getK_agg hr], h.symm⟩
      · cases h
    · cases h
  · cases h
theorem onM_eq {f : Nat → DT SV} {l : List SV} {t : DT SV} (h : onM f l = some t) : ∃ a, l = [.xs [a]] ∧ t = f a := by
  unfold onM at h
  split at h
  · simp only [Option.some.injEq] at h
    exact ⟨_, rfl, h.symm⟩
  · cases h
theorem onMM_eq {f : Nat → Nat → DT SV} {l : List SV} {t : DT SV} (h : onMM f l = some t) : ∃ a b, l = [.xs [a], .xs [b]] ∧ t = f a b := by
  unfold onMM at h
  split at h
  · simp only [Option.some.injEq] at h
    exact ⟨_, _, rfl, h.symm⟩
  · cases h
theorem onPK_eq {f : Nat → Nat → K → DT SV} {l : List SV} {t : DT SV} (h : onPK f l = some t) : ∃ a b k, l = [.xs [a, b], .val k.agg] ∧ t = f a b k := by
  unfold onPK at h
  split at h
  · split at h
    · rename_i r hr
      simp only [Option.some.injEq] at h
      exact ⟨_, _, r, by rw [getK_agg hr], h.symm⟩
    · cases h
  · cases h
/-- Moments that can be: lengths are numbers. -/
def Fit (M : Nat → Mo) : Prop := ∀ k, ((M k).n : Int) ≤ 9223372036854775807 ∧ ∀ j, (((M k).g j).n : Int) ≤ 9223372036854775807
end Go.Proofs.YtaojjpdlfnphiaaDoor.PDescKinds

/-! #### part B1 -/
set_option linter.unusedSimpArgs false
set_option linter.unusedVariables false
set_option linter.unusedSectionVars false
namespace Go.Proofs.YtaojjpdlfnphiaaDoor.PDescKinds
open Go.RowKit Go.Ev
namespace S
/-- invariant.same. -/
def eqC (a b : V) : Bool := a.k == b.k && (a.b == b.b && (a.s.toList == b.s.toList && (a.id == b.id && numSame a.n b.n)))
/-- invariant.alike. -/
def alikeC (a b : D) : Bool := eqC a.v b.v && (eqC a.g b.g && (eqC a.t b.t && (a.w == b.w && (a.e == b.e && a.c == b.c))))
end S
namespace R
/-- Above infinity's bits, the sign left out. -/
def big (a : Nat) : Bool := decide (IntKind.u64.wrap (↑(BitVec.ofInt IntKind.u64.bits (a : Int) &&& ~~~BitVec.ofInt IntKind.u64.bits 9223372036854775808).toNat : Int) > 9218868437227405312)
/-- cameoref02.Same. -/
def num2 (a b : Nat) : Bool := (big a && big b) || ((a : Int) == (b : Int))
/-- cameoref10.Eq. -/
def eqR (a b : V) : Bool := a.k == b.k && (a.b == b.b && (a.s.toList == b.s.toList && (a.id == b.id && num2 a.n b.n)))
/-- cameoref10.EqDesc. -/
def eqDR (a b : D) : Bool := eqR a.v b.v && (eqR a.g b.g && (eqR a.t b.t && (a.w == b.w && (a.e == b.e && a.c == b.c))))
end R
namespace T
def eqC (a b : V) : DT Value := B (S.eqC a b)
def alikeC (a b : D) : DT Value := B (S.alikeC a b)
def num2 (a b : Nat) : DT Value := B (R.num2 a b)
def eqR (a b : V) : DT Value := B (R.eqR a b)
def eqDR (a b : D) : DT Value := B (R.eqDR a b)
end T
end Go.Proofs.YtaojjpdlfnphiaaDoor.PDescKinds

/-! #### part Bv0 -/
namespace Go.Proofs.YtaojjpdlfnphiaaDoor.PDescKinds
open Go.RowKit Go.Ev
set_option linter.unusedSimpArgs false
set_option linter.unusedVariables false
set_option maxRecDepth 100000
abbrev BvL0 : Tab := AL
theorem Bvents0 : ∀ p ∈ BvL0, E p := entsAL
set_option maxHeartbeats 4000000 in
theorem ev_num2 (a b : Nat) : evFn Tryd.prog ext (tab BvL0) 40 86 [.float .f64 a, .float .f64 b] = (T.num2 a b).val :=
  Eq.trans (b := 
    (bif decide (IntKind.u64.wrap (↑(BitVec.ofInt IntKind.u64.bits (↑a : Int) &&& ~~~BitVec.ofInt IntKind.u64.bits 9223372036854775808).toNat : Int) > 9218868437227405312) then 
     (bif decide (IntKind.u64.wrap (↑(BitVec.ofInt IntKind.u64.bits (↑b : Int) &&& ~~~BitVec.ofInt IntKind.u64.bits 9223372036854775808).toNat : Int) > 9218868437227405312) then some (Value.bool true) else some (Value.bool ((↑a : Int) == (↑b : Int)))) else some (Value.bool ((↑a : Int) == (↑b : Int))))) (by kernel_rfl) (by
    simp only [T.num2, T.B, DT.val_node, DT.val_leaf, DT.bind, DT.val_bad]
    repeat' (with_reducible refine bif_eq (fun h => ?_) (fun h => ?_))
    all_goals first | (simp only [*, R.num2, R.big, cond_true, cond_false, Bool.and_true, Bool.true_and, Bool.and_false, Bool.false_and, Bool.or_true, Bool.true_or, Bool.or_false, Bool.false_or]; done) | (simp_all [R.num2, R.big]; done) | grind [R.num2, R.big])
theorem ent_num2 : E (86, onFF T.num2) := byEv Bvents0 40 fun args t h => by
  obtain ⟨a, b, rfl, rfl⟩ := onFF_eq h
  exact ev_num2 a b
abbrev BvL1 : Tab := (86, onFF T.num2) :: BvL0
theorem Bvents1 : ∀ p ∈ BvL1, E p := entries_cons ent_num2 Bvents0
set_option maxHeartbeats 4000000 in
theorem ev_eqC (a b : V) : evFn Tryd.prog ext (tab BvL1) 40 77 [a.agg, b.agg] = (T.eqC a b).val :=
  Eq.trans (b := 
    (bif a.k == b.k then 
     (bif a.b == b.b then 
      (bif a.s.toList == b.s.toList then 
       (bif a.id == b.id then some (Value.bool (S.numSame a.n b.n)) else some (Value.bool false)) else some (Value.bool false)) else some (Value.bool false)) else some (Value.bool false))) (by kernel_rfl) (by
    simp only [T.eqC, T.B, DT.val_node, DT.val_leaf, DT.bind, DT.val_bad]
    repeat' (with_reducible refine bif_eq (fun h => ?_) (fun h => ?_))
    all_goals first | (simp only [*, S.eqC, cond_true, cond_false, Bool.and_true, Bool.true_and, Bool.and_false, Bool.false_and, Bool.or_true, Bool.true_or, Bool.or_false, Bool.false_or]; done) | (simp_all [S.eqC]; done) | grind [S.eqC])
theorem ent_eqC : E (77, onVV T.eqC) := byEv Bvents1 40 fun args t h => by
  obtain ⟨a, b, rfl, rfl⟩ := onVV_eq h
  exact ev_eqC a b
abbrev BvL2 : Tab := (77, onVV T.eqC) :: BvL1
theorem Bvents2 : ∀ p ∈ BvL2, E p := entries_cons ent_eqC Bvents1
set_option maxHeartbeats 4000000 in
theorem ev_alikeC (a b : D) : evFn Tryd.prog ext (tab BvL2) 40 80 [a.agg, b.agg] = (T.alikeC a b).val :=
  Eq.trans (b := 
    (bif S.eqC a.v b.v then 
     (bif S.eqC a.g b.g then 
      (bif S.eqC a.t b.t then 
       (bif a.w == b.w then 
        (bif a.e == b.e then some (Value.bool (a.c == b.c)) else some (Value.bool false)) else some (Value.bool false)) else some (Value.bool false)) else some (Value.bool false)) else some (Value.bool false))) (by kernel_rfl) (by
    simp only [T.alikeC, T.B, DT.val_node, DT.val_leaf, DT.bind, DT.val_bad]
    repeat' (with_reducible refine bif_eq (fun h => ?_) (fun h => ?_))
    all_goals first | (simp only [*, S.alikeC, cond_true, cond_false, Bool.and_true, Bool.true_and, Bool.and_false, Bool.false_and, Bool.or_true, Bool.true_or, Bool.or_false, Bool.false_or]; done) | (simp_all [S.alikeC]; done) | grind [S.alikeC])
theorem ent_alikeC : E (80, onDD T.alikeC) := byEv Bvents2 40 fun args t h => by
  obtain ⟨a, b, rfl, rfl⟩ := onDD_eq h
  exact ev_alikeC a b
abbrev BvL3 : Tab := (80, onDD T.alikeC) :: BvL2
theorem Bvents3 : ∀ p ∈ BvL3, E p := entries_cons ent_alikeC Bvents2
set_option maxHeartbeats 4000000 in
theorem ev_eqR (a b : V) : evFn Tryd.prog ext (tab BvL3) 40 47 [a.agg, b.agg] = (T.eqR a b).val :=
  Eq.trans (b := 
    (bif a.k == b.k then 
     (bif a.b == b.b then 
      (bif a.s.toList == b.s.toList then 
       (bif a.id == b.id then some (Value.bool (R.num2 a.n b.n)) else some (Value.bool false)) else some (Value.bool false)) else some (Value.bool false)) else some (Value.bool false))) (by kernel_rfl) (by
    simp only [T.eqR, T.B, DT.val_node, DT.val_leaf, DT.bind, DT.val_bad]
    repeat' (with_reducible refine bif_eq (fun h => ?_) (fun h => ?_))
    all_goals first | (simp only [*, R.eqR, cond_true, cond_false, Bool.and_true, Bool.true_and, Bool.and_false, Bool.false_and, Bool.or_true, Bool.true_or, Bool.or_false, Bool.false_or]; done) | (simp_all [R.eqR]; done) | grind [R.eqR])
theorem ent_eqR : E (47, onVV T.eqR) := byEv Bvents3 40 fun args t h => by
  obtain ⟨a, b, rfl, rfl⟩ := onVV_eq h
  exact ev_eqR a b
abbrev BvL4 : Tab := (47, onVV T.eqR) :: BvL3
theorem Bvents4 : ∀ p ∈ BvL4, E p := entries_cons ent_eqR Bvents3
set_option maxHeartbeats 4000000 in
theorem ev_eqDR (a b : D) : evFn Tryd.prog ext (tab BvL4) 40 109 [a.agg, b.agg] = (T.eqDR a b).val :=
  Eq.trans (b := 
    (bif R.eqR a.v b.v then 
     (bif R.eqR a.g b.g then 
      (bif R.eqR a.t b.t then 
       (bif a.w == b.w then 
        (bif a.e == b.e then some (Value.bool (a.c == b.c)) else some (Value.bool false)) else some (Value.bool false)) else some (Value.bool false)) else some (Value.bool false)) else some (Value.bool false))) (by kernel_rfl) (by
    simp only [T.eqDR, T.B, DT.val_node, DT.val_leaf, DT.bind, DT.val_bad]
    repeat' (with_reducible refine bif_eq (fun h => ?_) (fun h => ?_))
    all_goals first | (simp only [*, R.eqDR, cond_true, cond_false, Bool.and_true, Bool.true_and, Bool.and_false, Bool.false_and, Bool.or_true, Bool.true_or, Bool.or_false, Bool.false_or]; done) | (simp_all [R.eqDR]; done) | grind [R.eqDR])
theorem ent_eqDR : E (109, onDD T.eqDR) := byEv Bvents4 40 fun args t h => by
  obtain ⟨a, b, rfl, rfl⟩ := onDD_eq h
  exact ev_eqDR a b
abbrev BvL5 : Tab := (109, onDD T.eqDR) :: BvL4
theorem Bvents5 : ∀ p ∈ BvL5, E p := entries_cons ent_eqDR Bvents4
end Go.Proofs.YtaojjpdlfnphiaaDoor.PDescKinds

/-! #### part B2 -/
set_option linter.unusedSimpArgs false
set_option linter.unusedVariables false
set_option linter.unusedSectionVars false
namespace Go.Proofs.YtaojjpdlfnphiaaDoor.PDescKinds
open Go.RowKit Go.Ev
namespace S
def keq (a b : K) : Bool := a.s == b.s && (a.n == b.n && true)
/-- The first place of a list of n at which p holds; -1. -/
def idx (p : Nat → Bool) (n : Nat) : Int := (seek (fun i => bif p i then some (i : Int) else none) n 0).getD (-1)
def find (s : Sh) (k : K) : Int := idx (fun i => keq (s.g i).k k) s.n
/-- Is some property of a not one of b? -/
def freshAt (b a : Sh) : Int := idx (fun i => decide (find b (a.g i).k < 0)) a.n
def confAt (s : Sh) : Int := idx (fun i => (s.g i).d.c != 1) s.n
def thawAt (s : Sh) : Int := idx (fun i => (s.g i).d.g.k == 0 && ((s.g i).d.t.k == 0 && (s.g i).d.w != 1)) s.n
end S
namespace S
theorem seek_some {α : Type} {p : Nat → Option α} {v : α} : ∀ (k i : Nat), seek p k i = some v → ∃ j, i ≤ j ∧ j < i + k ∧ p j = some v
  | 0, _, h => by cases h
  | k + 1, i, h => by
    simp only [seek] at h
    cases hp : p i with
    | some u =>
      rw [hp] at h
      cases h
      exact ⟨i, Nat.le_refl _, by omega, hp⟩
    | none =>
      rw [hp] at h
      obtain ⟨j, h1, h2, h3⟩ := seek_some k (i + 1) h
      exact ⟨j, by omega, by omega, h3⟩
theorem seek_none {α : Type} {p : Nat → Option α} : ∀ (k i : Nat), seek p k i = none ↔ ∀ j, i ≤ j → j < i + k → p j = none
  | 0, i => by simp only [seek, true_iff]; intro j h1 h2; omega
  | k + 1, i => by
    simp only [seek]
    cases hp : p i with
    | some u =>
      simp only [reduceCtorEq, false_iff]
      intro h
      have := h i (Nat.le_refl _) (by omega)
      rw [hp] at this
      cases this
    | none =>
      simp only
      rw [seek_none k (i + 1)]
      constructor
      · intro h j h1 h2
        by_cases e : j = i
        · rw [e, hp]
        · exact h j (by omega) (by omega)
      · intro h j h1 h2
        exact h j (by omega) (by omega)
theorem seek_congr {α : Type} {p q : Nat → Option α} : ∀ (k i : Nat), (∀ j, i ≤ j → j < i + k → p j = q j) → seek p k i = seek q k i
  | 0, _, _ => rfl
  | k + 1, i, h => by
    simp only [seek]
    rw [h i (Nat.le_refl _) (by omega), seek_congr k (i + 1) fun j h1 h2 => h j (by omega) (by omega)]
theorem idx_some {p : Nat → Bool} {n : Nat} (h : 0 ≤ idx p n) : ∃ j : Nat, idx p n = j ∧ j < n ∧ p j = true := by
  unfold idx at h ⊢
  cases hs : seek (fun i => bif p i then some (i : Int) else none) n 0 with
  | none => rw [hs] at h; exact absurd h (by decide)
  | some v =>
    obtain ⟨j, _, h2, h3⟩ := seek_some n 0 hs
    cases hp : p j with
    | false => rw [hp] at h3; cases h3
    | true =>
      rw [hp] at h3
      cases h3
      exact ⟨j, rfl, by omega, hp⟩
theorem idx_none {p : Nat → Bool} {n : Nat} (h : idx p n < 0) : ∀ j, j < n → p j = false := by
  unfold idx at h
  cases hs : seek (fun i => bif p i then some (i : Int) else none) n 0 with
  | some v =>
    obtain ⟨j, _, h2, h3⟩ := seek_some n 0 hs
    cases hp : p j with
    | false => rw [hp] at h3; cases h3
    | true =>
      rw [hp] at h3
      cases h3
      rw [hs] at h
      simp only [Option.getD_some] at h
      omega
  | none =>
    intro j hj
    have := (seek_none n 0).1 hs j (Nat.zero_le _) (by omega)
    cases hp : p j with
    | false => rfl
    | true => rw [hp] at this; cases this
theorem idx_congr {p q : Nat → Bool} {n : Nat} (h : ∀ j, j < n → p j = q j) : idx p n = idx q n := by
  unfold idx
  rw [seek_congr n 0 fun j _ h2 => by rw [h j (by omega)]]
/-- Behind 'there is none' the place is one. -/
theorem find_cond {α : Type} (s : Sh) (k : K) (x y z : α) : (bif decide (find s k < 0) then x else bif decide (0 ≤ find s k) && decide (find s k < (s.n : Int)) then y else z) = bif decide (find s k < 0) then x else y := by
  by_cases h : find s k < 0
  · rw [decide_eq_true h]; rfl
  · obtain ⟨j, h1, h2, _⟩ := idx_some (p := fun i => keq (s.g i).k k) (n := s.n) (by unfold find at h; omega)
    have h1 : find s k = j := h1
    rw [decide_eq_false h, h1, decide_eq_true (show (0 : Int) ≤ (j : Int) by omega), decide_eq_true (show (j : Int) < (s.n : Int) by omega)]
    rfl
end S
/-- A function with nothing captured. -/
def isFn : SV → Nat → Bool
  | .val (.func (.func f) x y) => fun n => Nat.beq f n && (x.isEmpty && y.isEmpty)
  | _ => fun _ => false
def fnv (n : Nat) : SV := .val (.func (.func n) #[] #[])
theorem isFn_eq {s : SV} {n : Nat} (h : isFn s n = true) : s = fnv n := by
  unfold isFn at h
  split at h
  · simp only [Bool.and_eq_true] at h
    obtain ⟨h1, h2, h3⟩ := h
    have := Nat.eq_of_beq_eq_true h1
    subst this
    simp only [Array.isEmpty_iff] at h2 h3
    subst h2 h3
    rfl
  · cases h
/-! The contract of slices.IndexFunc, by the function it is handed -/
def keyAt (mem : Mem) : List SV → Option K
  | [.ptr q off] => match mem q with
    | some k => match k.cells with
      | [.val (.string s), .val (.int .i64 n)] => bif Nat.beq off 0 then some ⟨s, n⟩ else none
      | _ => none
    | none => none
  | _ => none
def shapeAt (mem : Mem) : List SV → Option SA
  | [.ptr q off] => match mem q with
    | some k => bif Nat.beq off 0 then getSA (.arr k.cells) else none
    | none => none
  | _ => none
def idxC (M : Nat → Mo) : List SV → Mem → Option (DT SV)
  | [.xs [a, b], .fn f l], mem => bif Nat.beq f 119 then
      match keyAt mem l with
      | some k => some (.leaf (.val (.int .i64 (S.find ((M a).g b) k))))
      | none => none
    else bif Nat.beq f 105 then
      match shapeAt mem l with
      | some q => some (.leaf (.val (.int .i64 (S.freshAt (q.sh M) ((M a).g b)))))
      | none => none
    else none
  | [.xs [a, b], .val v], mem => bif isFn (.val v) 83 then some (.leaf (.val (.int .i64 (S.confAt ((M a).g b)))))
    else bif isFn (.val v) 84 then some (.leaf (.val (.int .i64 (S.thawAt ((M a).g b)))))
    else none
  | _, _ => none
/-- The same, of the keys' function alone. -/
def idxA (M : Nat → Mo) : List SV → Mem → Option (DT SV)
  | [.xs [a, b], .fn f l], mem => bif Nat.beq f 119 then
      match keyAt mem l with
      | some k => some (.leaf (.val (.int .i64 (S.find ((M a).g b) k))))
      | none => none
    else none
  | _, _ => none
theorem keyAt_eq {mem : Mem} {l : List SV} {k : K} (h : keyAt mem l = some k) : ∃ q blk, l = [.ptr q 0] ∧ mem q = some blk ∧ blk.cells = [.val (.string k.s), .val (.int .i64 k.n)] := by
  unfold keyAt at h
  split at h
  · rename_i q off
    split at h
    · rename_i blk hq
      split at h
      · rename_i s n hc
        cases ho : Nat.beq off 0 with
        | false => rw [ho] at h; cases h
        | true =>
          rw [ho] at h
          simp only [cond_true, Option.some.injEq] at h
          subst h
          have := Nat.eq_of_beq_eq_true ho
          subst this
          exact ⟨q, blk, rfl, hq, hc⟩
      · cases h
    · cases h
  · cases h
theorem shapeAt_eq {mem : Mem} {l : List SV} {k : SA} (h : shapeAt mem l = some k) : ∃ q blk, l = [.ptr q 0] ∧ mem q = some blk ∧ blk.cells = shCells k.cl k.p k.x [k.a, k.b] := by
  unfold shapeAt at h
  split at h
  · rename_i q off
    split at h
    · rename_i blk hq
      cases ho : Nat.beq off 0 with
      | false => rw [ho] at h; cases h
      | true =>
        rw [ho] at h
        simp only [cond_true] at h
        have := Nat.eq_of_beq_eq_true ho
        subst this
        have := getSA_sv h
        unfold SA.sv at this
        exact ⟨q, blk, rfl, hq, SV.arr.inj this⟩
    · cases h
  · cases h
theorem idxA_eq {M : Nat → Mo} {args : List SV} {mem : Mem} {t : DT SV} (h : idxA M args mem = some t) :
    ∃ a b l k, args = [.xs [a, b], .fn 119 l] ∧ keyAt mem l = some k ∧ t = .leaf (.val (.int .i64 (S.find ((M a).g b) k))) := by
  unfold idxA at h
  split at h
  · rename_i a b f l
    cases hf : Nat.beq f 119 with
    | false => rw [hf] at h; cases h
    | true =>
      rw [hf] at h
      simp only [cond_true] at h
      have := Nat.eq_of_beq_eq_true hf
      subst this
      split at h
      · rename_i k hk
        cases h
        exact ⟨a, b, l, k, rfl, hk, rfl⟩
      · cases h
  · cases h
theorem idxC_eq {M : Nat → Mo} {args : List SV} {mem : Mem} {t : DT SV} (h : idxC M args mem = some t) :
    (∃ a b l k, args = [.xs [a, b], .fn 119 l] ∧ keyAt mem l = some k ∧ t = .leaf (.val (.int .i64 (S.find ((M a).g b) k)))) ∨
    (∃ a b l q, args = [.xs [a, b], .fn 105 l] ∧ shapeAt mem l = some q ∧ t = .leaf (.val (.int .i64 (S.freshAt (q.sh M) ((M a).g b))))) ∨
    (∃ a b, args = [.xs [a, b], fnv 83] ∧ t = .leaf (.val (.int .i64 (S.confAt ((M a).g b))))) ∨
    (∃ a b, args = [.xs [a, b], fnv 84] ∧ t = .leaf (.val (.int .i64 (S.thawAt ((M a).g b))))) := by
  unfold idxC at h
  split at h
  · rename_i a b f l
    cases hf : Nat.beq f 119 with
    | true =>
      rw [hf] at h
      simp only [cond_true] at h
      have := Nat.eq_of_beq_eq_true hf
      subst this
      split at h
      · rename_i k hk
        cases h
        exact .inl ⟨a, b, l, k, rfl, hk, rfl⟩
      · cases h
    | false =>
      rw [hf] at h
      simp only [cond_false] at h
      cases hf : Nat.beq f 105 with
      | false => rw [hf] at h; cases h
      | true =>
        rw [hf] at h
        simp only [cond_true] at h
        have := Nat.eq_of_beq_eq_true hf
        subst this
        split at h
        · rename_i k hk
          cases h
          exact .inr (.inl ⟨a, b, l, k, rfl, hk, rfl⟩)
        · cases h
  · rename_i a b v
    cases hf : isFn (.val v) 83 with
    | true =>
      rw [hf] at h
      cases h
      have := isFn_eq hf
      rw [this]
      exact .inr (.inr (.inl ⟨a, b, rfl, rfl⟩))
    | false =>
      rw [hf] at h
      simp only [cond_false] at h
      cases hf : isFn (.val v) 84 with
      | true =>
        rw [hf] at h
        cases h
        have := isFn_eq hf
        rw [this]
        exact .inr (.inr (.inr ⟨a, b, rfl, rfl⟩))
      | false => rw [hf] at h; cases h
  · cases h
/-! Boxes -/
def Simple (s : SV) : Prop := (∃ v, s = .val v) ∨ ∃ a b, s = .xs [a, b]
theorem Simple.ok [XEnv] {s : SV} (h : Simple s) (mem : Mem) : s.ok mem := by
  rcases h with ⟨v, rfl⟩ | ⟨a, b, rfl⟩
  · exact ok_val _ _
  · exact ok_xs
theorem Simple.den {M : Nat → Mo} {bx bx' : XR} {s : SV} (h : Simple s) (m m' : Nat → Nat) : @SV.den (rowsB M bx') m' s = @SV.den (rowsB M bx) m s := by
  rcases h with ⟨v, rfl⟩ | ⟨a, b, rfl⟩
  · rw [@den_val (rowsB M bx'), @den_val (rowsB M bx)]
  · rw [@den_xs (rowsB M bx'), @den_xs (rowsB M bx)]
    rfl
theorem simple_sh (cl : Int) (p : V) (x : Bool) (a b : Nat) : ∀ s ∈ shCells cl p x [a, b], Simple s := by
  intro s hs
  simp only [shCells, List.mem_cons, List.not_mem_nil, or_false] at hs
  rcases hs with rfl | rfl | rfl | rfl | rfl | rfl | rfl | rfl <;> first | exact .inl ⟨_, rfl⟩ | exact .inr ⟨_, _, rfl⟩
theorem simple_key (k : K) : ∀ s ∈ [SV.val (.string k.s), SV.val (.int .i64 k.n)], Simple s := by
  intro s hs
  simp only [List.mem_cons, List.not_mem_nil, or_false] at hs
  rcases hs with rfl | rfl <;> exact .inl ⟨_, rfl⟩
theorem simple_pr (q : Pr) : ∀ s ∈ q.cells, Simple s := by
  intro s hs
  simp only [Pr.cells, List.mem_cons, List.not_mem_nil, or_false] at hs
  rcases hs with rfl | rfl | rfl | rfl | rfl | rfl | rfl | rfl | rfl | rfl | rfl | rfl | rfl | rfl | rfl | rfl | rfl | rfl | rfl | rfl <;> exact .inl ⟨_, rfl⟩
theorem xrow_env {M : Nat → Mo} {bx bx' : XR} {w : World} {x : XR} (hs : ∀ j, ∀ s ∈ x.g j, Simple s) (h : @XRow (rowsB M bx) w x) : @XRow (rowsB M bx') w x := by
  intro j hj
  obtain ⟨h1, h2, a, h3, h4, h5⟩ := h j hj
  refine ⟨h1, fun s hm mem => @Simple.ok (rowsB M bx') _ (hs j s hm) mem, a, h3, h4, fun k s hk m => ?_⟩
  rw [h5 k s hk m, (hs j s (List.mem_of_getElem? hk)).den]
theorem xok_box {M : Nat → Mo} {bx bx' : XR} {w : World} (h : @XOk (rowsB M bx) w) (hb : @XRow (rowsB M bx') w bx') : @XOk (rowsB M bx') w := by
  intro r
  match r with
  | [k] => exact xrow_env (fun j => simple_sh _ _ _ _ _) (h [k])
  | [k, j] => exact xrow_env (fun i => simple_pr _) (h [k, j])
  | [] => exact hb
  | _ :: _ :: _ :: _ => exact hb
theorem box_row {M : Nat → Mo} {bx bx' : XR} {w0 w : World} {m : Nat → Nat} {mem : Mem} {q : Nat} {blk : Blk} (hm : @MR (rowsB M bx) w0 m mem w) (hq : mem q = some blk) (hs : ∀ s ∈ blk.cells, Simple s) :
    @XRow (rowsB M bx') w ⟨some ⟨m q, 0, none⟩, blk.cells.length, 1, 1, fun _ => blk.cells⟩ := by
  obtain ⟨h1, h2, h3⟩ := @MR.blk (rowsB M bx) _ _ _ _ hm q blk hq
  intro j hj
  have hj : j < 1 := hj
  obtain rfl : j = 0 := by omega
  refine ⟨rfl, fun s hm mem => @Simple.ok (rowsB M bx') _ (hs s hm) mem, _, rfl, (Array.getElem?_eq_some_iff.1 h2).1, fun k s hk m' => ?_⟩
  have hk : blk.cells[k]? = some s := hk
  rw [add_none, cell_of_row w (m q) _ _ blk.ty (0, 0) h2, (hs s (List.mem_of_getElem? hk)).den (bx := bx) m m']
  simp [hk]
namespace S
/-- invariant.lost. -/
def lost (b a : Sh) : Bool := (seek (fun i => bif (b.g i).d.c != 1 || find b (b.g i).k != (i : Int) then none else
  bif decide (find a (b.g i).k < 0) then some true else
  bif okK (b.g i).d (a.g (find a (b.g i).k).toNat).d then (bif keeps (b.g i).d (a.g (find a (b.g i).k).toNat).d then none else some true) else some true) b.n 0).getD false
/-- The rules of invariant.Broken. -/
def ruleC (b a : Sh) : Int := bif a.cl != b.cl then 2 else bif !b.x && a.x then 3 else bif !b.x && !eqC a.p b.p then 4 else bif !b.x && decide (0 ≤ freshAt b a) then 5 else bif lost b a then 6 else 0
def brokenC (b a : Mo) : Int × Int := (seek (fun i => bif decide ((a.n : Int) ≤ (i : Int)) then some ((i : Int) + 1, 1) else
  bif ruleC (b.g i) (a.g i) != 0 then some ((i : Int) + 1, ruleC (b.g i) (a.g i)) else none) b.n 0).getD (0, 0)
def sameP (a b : Sh) : Bool := bif (a.n : Int) != (b.n : Int) then false else (seek (fun i => bif keq (a.g i).k (b.g i).k && alikeC (a.g i).d (b.g i).d then none else some false) a.n 0).getD true
def sameSh (a b : Sh) : Bool := a.cl == b.cl && (eqC a.p b.p && (a.x == b.x && sameP a b))
def sameC (a b : Mo) : Bool := bif (a.n : Int) != (b.n : Int) then false else (seek (fun i => bif sameSh (a.g i) (b.g i) then none else some false) a.n 0).getD true
end S
def onFS (n : Nat) (f : Nat → Nat → Nat → Nat → DT SV) : List SV → Option (DT SV)
  | [.xs [a, b], .xs [c, d], s] => bif isFn s n then some (f a b c d) else none
  | _ => none
theorem onFS_eq {n : Nat} {f : Nat → Nat → Nat → Nat → DT SV} {l : List SV} {t : DT SV} (h : onFS n f l = some t) : ∃ a b c d, l = [.xs [a, b], .xs [c, d], fnv n] ∧ t = f a b c d := by
  unfold onFS at h
  split at h
  · rename_i a b c d s
    cases hf : isFn s n with
    | true =>
      rw [hf] at h
      simp only [cond_true, Option.some.injEq] at h
      exact ⟨a, b, c, d, by rw [isFn_eq hf], h.symm⟩
    | false => rw [hf] at h; cases h
  · cases h
def onFM (n : Nat) (f : Nat → Nat → DT SV) : List SV → Option (DT SV)
  | [.xs [a], .xs [b], s] => bif isFn s n then some (f a b) else none
  | _ => none
theorem onFM_eq {n : Nat} {f : Nat → Nat → DT SV} {l : List SV} {t : DT SV} (h : onFM n f l = some t) : ∃ a b, l = [.xs [a], .xs [b], fnv n] ∧ t = f a b := by
  unfold onFM at h
  split at h
  · rename_i a b s
    cases hf : isFn s n with
    | true =>
      rw [hf] at h
      simp only [cond_true, Option.some.injEq] at h
      exact ⟨a, b, by rw [isFn_eq hf], h.symm⟩
    | false => rw [hf] at h; cases h
  · cases h
abbrev LB (b : Bool) : DT SV := .leaf (.val (.bool b))
abbrev LI (i : Int) : DT SV := .leaf (.val (.int .i64 i))
abbrev LII (p : Int × Int) : DT SV := .leaf (.val (.tuple #[.int .i64 p.1, .int .i64 p.2]))
noncomputable def bodyOf (fn : Func) : List Code := flat (fn.body.getD .skip)
/-- A contract that asks nothing of memory. -/
abbrev noMem (g : List SV → Option (DT SV)) : List SV → Mem → Option (DT SV) := fun args _ => g args
/-! Words for rounds -/
theorem dlt {i n : Nat} (h : i < n) : decide ((i : Int) < (n : Int)) = true := decide_eq_true (by omega)
theorem dge (i : Nat) : decide (0 ≤ (i : Int)) = true := decide_eq_true (by omega)
theorem dnl (n : Nat) : decide ((n : Int) < (n : Int)) = false := decide_eq_false (by omega)
theorem wr {i n : Nat} (h : i < n) (hn : (n : Int) ≤ 9223372036854775807) : IntKind.i64.wrap ((i : Int) + 1) = ((i + 1 : Nat) : Int) := by rw [IntKind.wrap_i64]; omega
theorem cnd_and {α : Type} (a b : Bool) (x y : α) : (bif a && b then x else y) = bif a then (bif b then x else y) else y := by cases a <;> rfl
theorem cnd_or {α : Type} (a b : Bool) (x y : α) : (bif a || b then x else y) = bif a then x else (bif b then x else y) := by cases a <;> rfl
theorem cnd_not {α : Type} (a : Bool) (x y : α) : (bif !a then x else y) = bif a then y else x := by cases a <;> rfl
theorem some_cond {α : Type} (c : Bool) (x y : α) : some (bif c then x else y) = bif c then some x else some y := by cases c <;> rfl
theorem map_cond {α β : Type} (f : α → β) (c : Bool) (x y : Option α) : Option.map f (bif c then x else y) = bif c then Option.map f x else Option.map f y := by cases c <;> rfl
theorem toR_cond (d : Cut) (c : Bool) (x y : Option SV) : toR d (bif c then x else y) = bif c then toR d x else toR d y := by cases c <;> rfl
theorem toR_some (d : Cut) (x : SV) : toR d (some x) = .ret x := rfl
theorem toR_none (d : Cut) : toR d none = .cut .normal d := rfl
/-! What stands -/
def Inv (M : Nat → Mo) (bx : XR) (w : World) : Prop := Tabs w ∧ @XOk (rowsB M bx) w
theorem inv_stable (M : Nat → Mo) (bx : XR) : Stable (Inv M bx) := fun w w' h hb => ⟨tabs_stable _ _ h.1 hb, @XOk.below (rowsB M bx) _ _ h.2 hb⟩
abbrev Ent (M : Nat → Mo) (bx : XR) (p : Nat × (List SV → Mem → Option (DT SV))) : Prop := @EntryS (rowsB M bx) Tryd.prog (Inv M bx) p
theorem ctxB (M : Nat → Mo) (bx : XR) {LA : Tab} (hA : ∀ p ∈ LA, E p) {LS : TabS} (h : ∀ p ∈ LS, Ent M bx p) : @Ctx (rowsB M bx) Tryd.prog ext (tab2 LA LS) (Inv M bx) :=
  letI := rowsB M bx
  ⟨mixed, ext_sound, inv_stable M bx, fun _ h => h.2, tab2_sound (fun p hp => (hA p hp).mono (J := Inv M bx) fun w h => h.1) h⟩
theorem retPre [XEnv] {P : Program} {X : ExtFn} {G : GFn} {I : World → Prop} {N : Nat} {fn : Func} {v : SV} {fs : List Fr} {l : List Code} {st : St} {k : Nat} {ts bs : List Nat} {next : Nat} (C : Ctx P X G I) (hl : hasLoop l = true)
    (h : evK P X G k N (seqL (preOf l)) st (grab P fn ts bs next) = some (.ret v)) : Runs P I N fn v fs l st := by
  rw [split_loop l hl]
  exact Runs.app (Runs.ret C h)
theorem cond2 [XEnv] {P : Program} {I : World → Prop} {N : Nat} {fn : Func} {v : SV} {fs : List Fr} {l : List Code} {st : St} {c : Operand} {t e : Code} {b : Bool} (hb : Ev.look st.tmps c = .val (.bool b))
    (ht : b = true → Runs P I N fn v (.rest l :: fs) (flat t) st) (hf : b = false → Runs P I N fn v (.rest l :: fs) (flat e) st) : Runs P I N fn v fs (.cond c t e :: l) st := by
  refine Runs.cond hb ?_
  cases b with
  | true => exact ht rfl
  | false => exact hf rfl
theorem entsS_nil {M : Nat → Mo} {bx : XR} : ∀ p ∈ ([] : TabS), Ent M bx p := fun p hp => (by cases hp)
theorem entsS_cons {M : Nat → Mo} {bx : XR} {q} {l : TabS} (h : Ent M bx q) (hl : ∀ p ∈ l, Ent M bx p) : ∀ p ∈ q :: l, Ent M bx p := fun p hp => by
  rcases List.mem_cons.1 hp with rfl | hp
  · exact h
  · exact hl p hp
theorem ok_K [XEnv] (k : K) : (SV.val k.agg).ok fun _ => none := ok_val _ _
theorem ok_sa [XEnv] (q : SA) (mem : Mem) : q.sv.ok mem := by
  show (SV.arr (shCells _ _ _ _)).ok mem
  rw [ok_arr]
  intro x hx
  simp only [shCells, List.mem_cons, List.not_mem_nil, or_false] at hx
  rcases hx with rfl | rfl | rfl | rfl | rfl | rfl | rfl | rfl <;> first | exact ok_val _ _ | exact ok_xs
end Go.Proofs.YtaojjpdlfnphiaaDoor.PDescKinds

/-! #### part B3 -/
set_option linter.unusedSimpArgs false
set_option linter.unusedVariables false
set_option linter.unusedSectionVars false
namespace Go.Proofs.YtaojjpdlfnphiaaDoor.PDescKinds
open Go.RowKit Go.Ev
set_option maxRecDepth 100000 in
theorem find48_pre (M : Nat → Mo) (bx : XR) (a b : Nat) (k : K) : letI := rowsB M bx
    evK Tryd.prog ext (tab2 AL []) 80 20 (seqL (preOf (bodyOf Tryd.f48))) (⟨argS [.xs [a, b], .val k.agg], fun _ => none, 0⟩) (grab Tryd.prog Tryd.f48 [0, 3, 5] [0] 1) =
    some (Res.cut Ex.normal (Cut.mk [(0, SV.xs [a, b]), (3, SV.ptr 0 0), (5, SV.val (Value.int IntKind.i64 0))] [(0, Blk.mk 64 [SV.val (Value.string k.s), SV.val (Value.int IntKind.i64 k.n)])])) := by kernel_rfl
set_option maxRecDepth 100000 in
theorem find48_round (M : Nat → Mo) (bx : XR) (a b : Nat) (k : K) (i : Nat) : letI := rowsB M bx
    evK Tryd.prog ext (tab2 AL []) 80 20 (seqL (flat (roundOf (bodyOf Tryd.f48)))) ((⟨[(0, .xs [a, b]), (3, .ptr 0 0), (5, .val (.int .i64 (i : Int)))], [(0, ⟨64, [.val (.string k.s), .val (.int .i64 k.n)]⟩)]⟩ : Cut).st 1) (grab Tryd.prog Tryd.f48 [0, 3, 5] [0] 1) =
    (bif decide ((↑i : Int) < (↑((M a).g b).n : Int)) then 
     (bif decide (0 ≤ (↑i : Int)) && decide ((↑i : Int) < (↑((M a).g b).n : Int)) then 
      (bif (((M a).g b).g i).k.s == k.s && ((((M a).g b).g i).k.n == k.n && true) then some (Res.ret (SV.val (Value.int IntKind.i64 (↑i : Int)))) else some (Res.cut Ex.normal (Cut.mk [(0, SV.xs [a, b]), (3, SV.ptr 0 0), (5, SV.val (Value.int IntKind.i64 (IntKind.i64.wrap ((↑i : Int) + 1))))] [(0, Blk.mk 64 [SV.val (Value.string k.s), SV.val (Value.int IntKind.i64 k.n)])]))) else none) else some (Res.cut (Ex.exit 0) (Cut.mk [(0, SV.xs [a, b]), (3, SV.ptr 0 0), (5, SV.val (Value.int IntKind.i64 (↑i : Int)))] [(0, Blk.mk 64 [SV.val (Value.string k.s), SV.val (Value.int IntKind.i64 k.n)])]))) := by kernel_rfl
set_option maxRecDepth 100000 in
theorem find48_post (M : Nat → Mo) (bx : XR) (a b : Nat) (k : K) (i : Nat) : letI := rowsB M bx
    evK Tryd.prog ext (tab2 AL []) 80 20 (seqL (postOf (bodyOf Tryd.f48))) ((⟨[(0, .xs [a, b]), (3, .ptr 0 0), (5, .val (.int .i64 (i : Int)))], [(0, ⟨64, [.val (.string k.s), .val (.int .i64 k.n)]⟩)]⟩ : Cut).st 1) (grab Tryd.prog Tryd.f48 [0, 3, 5] [0] 1) =
    some (Res.ret (SV.val (Value.int IntKind.i64 (-1)))) := by kernel_rfl
set_option maxRecDepth 100000 in
theorem run_find48 (M : Nat → Mo) (bx : XR) (hM : Fit M) (a b : Nat) (k : K) : letI := rowsB M bx
    Runs Tryd.prog (Inv M bx) 20 Tryd.f48 ((fun x : Int => SV.val (.int .i64 x)) ((seek (fun i => bif S.keq (((M a).g b).g i).k k then some (i : Int) else none) (((M a).g b).n) 0).getD (-1))) [] (bodyOf Tryd.f48) (⟨argS [.xs [a, b], .val k.agg], fun _ => none, 0⟩) := by
  letI := rowsB M bx
  have C := ctxB M bx entsAL entsS_nil
  refine Runs.seekFn C (n := ((M a).g b).n) (p := fun i => bif S.keq (((M a).g b).g i).k k then some (i : Int) else none) (f := (fun x : Int => SV.val (.int .i64 x))) (z := (-1)) (hd := fun i => (⟨[(0, .xs [a, b]), (3, .ptr 0 0), (5, .val (.int .i64 (i : Int)))], [(0, ⟨64, [.val (.string k.s), .val (.int .i64 k.n)]⟩)]⟩ : Cut)) (c' := (fun i : Nat => (⟨[(0, .xs [a, b]), (3, .ptr 0 0), (5, .val (.int .i64 (i : Int)))], [(0, ⟨64, [.val (.string k.s), .val (.int .i64 k.n)]⟩)]⟩ : Cut)) (((M a).g b).n)) (by kernel_rfl) (find48_pre M bx a b k) (fun i hi => ?_) ?_ (fun _ => Runs.ret C (find48_post M bx a b k (((M a).g b).n)))
  · refine (find48_round M bx a b k i).trans ?_
    simp only [dlt hi, dge, wr hi ((hM a).2 b), cond_true, cond_false, Bool.and_self, Bool.true_and, map_cond, toR_cond, some_cond, Option.map_some, Option.map_none, toR_some, toR_none, cnd_and, cnd_or, cnd_not, S.keq, S.eqC, S.alikeC]
    first | done | rfl
  · refine (find48_round M bx a b k (((M a).g b).n)).trans ?_
    simp only [dnl, cond_false]
    rfl
theorem ent_find48 (M : Nat → Mo) (bx : XR) (hM : Fit M) : Ent M bx (48, noMem (onPK fun a b k => LI (S.find ((M a).g b) k))) := by
  letI := rowsB M bx
  refine EntryS.of (fun args t v h1 h2 => ?_) (inv_stable M bx)
  obtain ⟨a, b, k, rfl, rfl⟩ := onPK_eq h1
  cases h2
  refine ⟨ok_val _ _, ?_, fun w m hI => Runs.calls (body := Tryd.f48.body.getD .skip) Tryd.func48 (by kernel_rfl) (by kernel_rfl) ?_ (run_find48 M bx hM a b k) w hI m⟩ <;>
  · intro x hx
    simp only [List.mem_cons, List.not_mem_nil, or_false] at hx
    rcases hx with rfl | rfl <;> first | exact ok_val _ _ | exact ok_xs
set_option maxRecDepth 100000 in
theorem idx119_pre (M : Nat → Mo) (bx : XR) (a b : Nat) (k : K) : letI := rowsB M ⟨bx.A, 2, 1, 1, fun _ => [.val (.string k.s), .val (.int .i64 k.n)]⟩
    evK Tryd.prog ext (tab2 AL []) 80 19 (seqL (preOf (bodyOf Tryd.f110))) (⟨argS [.xs [a, b], .fn 119 [.xp [0, 0, 0] 0 0]], fun _ => none, 0⟩) (grab Tryd.prog Tryd.f110 [0, 1, 7, 8] [] 0) =
    some (Res.cut Ex.normal (Cut.mk [(0, SV.xs [a, b]), (1, SV.fn 119 [SV.xp [0, 0, 0] 0 0]), (7, SV.val (Value.int IntKind.i64 (↑((M a).g b).n : Int))), (8, SV.val (Value.int IntKind.i64 0))] [])) := by kernel_rfl
set_option maxRecDepth 100000 in
theorem idx119_round (M : Nat → Mo) (bx : XR) (a b : Nat) (k : K) (i : Nat) : letI := rowsB M ⟨bx.A, 2, 1, 1, fun _ => [.val (.string k.s), .val (.int .i64 k.n)]⟩
    evK Tryd.prog ext (tab2 AL []) 80 19 (seqL (flat (roundOf (bodyOf Tryd.f110)))) ((⟨[(0, .xs [a, b]), (1, .fn 119 [.xp [0, 0, 0] 0 0]), (7, .val (.int .i64 ((M a).g b).n)), (8, .val (.int .i64 (i : Int)))], []⟩ : Cut).st 0) (grab Tryd.prog Tryd.f110 [0, 1, 7, 8] [] 0) =
    (bif decide ((↑i : Int) < (↑((M a).g b).n : Int)) then 
     (bif decide (0 ≤ (↑i : Int)) && decide ((↑i : Int) < (↑((M a).g b).n : Int)) then 
      (bif (((M a).g b).g i).k.s == k.s && ((((M a).g b).g i).k.n == k.n && true) then some (Res.ret (SV.val (Value.int IntKind.i64 (↑i : Int)))) else some (Res.cut Ex.normal (Cut.mk [(0, SV.xs [a, b]), (1, SV.fn 119 [SV.xp [0, 0, 0] 0 0]), (7, SV.val (Value.int IntKind.i64 (↑((M a).g b).n : Int))), (8, SV.val (Value.int IntKind.i64 (IntKind.i64.wrap ((↑i : Int) + 1))))] []))) else none) else some (Res.cut (Ex.exit 0) (Cut.mk [(0, SV.xs [a, b]), (1, SV.fn 119 [SV.xp [0, 0, 0] 0 0]), (7, SV.val (Value.int IntKind.i64 (↑((M a).g b).n : Int))), (8, SV.val (Value.int IntKind.i64 (↑i : Int)))] []))) := by kernel_rfl
set_option maxRecDepth 100000 in
theorem idx119_post (M : Nat → Mo) (bx : XR) (a b : Nat) (k : K) (i : Nat) : letI := rowsB M ⟨bx.A, 2, 1, 1, fun _ => [.val (.string k.s), .val (.int .i64 k.n)]⟩
    evK Tryd.prog ext (tab2 AL []) 80 19 (seqL (postOf (bodyOf Tryd.f110))) ((⟨[(0, .xs [a, b]), (1, .fn 119 [.xp [0, 0, 0] 0 0]), (7, .val (.int .i64 ((M a).g b).n)), (8, .val (.int .i64 (i : Int)))], []⟩ : Cut).st 0) (grab Tryd.prog Tryd.f110 [0, 1, 7, 8] [] 0) =
    some (Res.ret (SV.val (Value.int IntKind.i64 (-1)))) := by kernel_rfl
set_option maxRecDepth 100000 in
theorem run_idx119 (M : Nat → Mo) (bx : XR) (hM : Fit M) (a b : Nat) (k : K) : letI := rowsB M ⟨bx.A, 2, 1, 1, fun _ => [.val (.string k.s), .val (.int .i64 k.n)]⟩
    Runs Tryd.prog (Inv M ⟨bx.A, 2, 1, 1, fun _ => [.val (.string k.s), .val (.int .i64 k.n)]⟩) 19 Tryd.f110 ((fun x : Int => SV.val (.int .i64 x)) ((seek (fun i => bif S.keq (((M a).g b).g i).k k then some (i : Int) else none) (((M a).g b).n) 0).getD (-1))) [] (bodyOf Tryd.f110) (⟨argS [.xs [a, b], .fn 119 [.xp [0, 0, 0] 0 0]], fun _ => none, 0⟩) := by
  letI := rowsB M ⟨bx.A, 2, 1, 1, fun _ => [.val (.string k.s), .val (.int .i64 k.n)]⟩
  have C := ctxB M ⟨bx.A, 2, 1, 1, fun _ => [.val (.string k.s), .val (.int .i64 k.n)]⟩ entsAL entsS_nil
  refine Runs.seekFn C (n := ((M a).g b).n) (p := fun i => bif S.keq (((M a).g b).g i).k k then some (i : Int) else none) (f := (fun x : Int => SV.val (.int .i64 x))) (z := (-1)) (hd := fun i => (⟨[(0, .xs [a, b]), (1, .fn 119 [.xp [0, 0, 0] 0 0]), (7, .val (.int .i64 ((M a).g b).n)), (8, .val (.int .i64 (i : Int)))], []⟩ : Cut)) (c' := (fun i : Nat => (⟨[(0, .xs [a, b]), (1, .fn 119 [.xp [0, 0, 0] 0 0]), (7, .val (.int .i64 ((M a).g b).n)), (8, .val (.int .i64 (i : Int)))], []⟩ : Cut)) (((M a).g b).n)) (by kernel_rfl) (idx119_pre M bx a b k) (fun i hi => ?_) ?_ (fun _ => Runs.ret C (idx119_post M bx a b k (((M a).g b).n)))
  · refine (idx119_round M bx a b k i).trans ?_
    simp only [dlt hi, dge, wr hi ((hM a).2 b), cond_true, cond_false, Bool.and_self, Bool.true_and, map_cond, toR_cond, some_cond, Option.map_some, Option.map_none, toR_some, toR_none, cnd_and, cnd_or, cnd_not, S.keq, S.eqC, S.alikeC]
    first | done | rfl
  · refine (idx119_round M bx a b k (((M a).g b).n)).trans ?_
    simp only [dnl, cond_false]
    rfl
theorem ent_idxA (M : Nat → Mo) (bx : XR) (hM : Fit M) : Ent M bx (110, idxA M) := by
  letI := rowsB M bx
  intro args mem t v h1 h2 hok
  obtain ⟨a, b, l, k, rfl, hk, rfl⟩ := idxA_eq h1
  obtain ⟨q, blk, rfl, hq, hc⟩ := keyAt_eq hk
  cases h2
  refine ⟨ok_val _ _, fun w0 m w hI hm => ?_⟩
  · have hw : Inv M bx w := inv_stable M bx _ _ hI hm.below
    have hw' : Inv M ⟨some ⟨m q, 0, none⟩, 2, 1, 1, fun _ => [.val (.string k.s), .val (.int .i64 k.n)]⟩ w := ⟨hw.1, xok_box hw.2 (by
      have := box_row (bx' := ⟨some ⟨m q, 0, none⟩, 2, 1, 1, fun _ => [.val (.string k.s), .val (.int .i64 k.n)]⟩) hm hq (by rw [hc]; exact simple_key k)
      rw [hc] at this
      exact this)⟩
    have := @Runs.calls (rowsB M ⟨some ⟨m q, 0, none⟩, 2, 1, 1, fun _ => [.val (.string k.s), .val (.int .i64 k.n)]⟩) Tryd.prog (Inv M ⟨some ⟨m q, 0, none⟩, 2, 1, 1, fun _ => [.val (.string k.s), .val (.int .i64 k.n)]⟩) 19 Tryd.f110 _ 110 (Tryd.f110.body.getD .skip) [.xs [a, b], .fn 119 [.xp [0, 0, 0] 0 0]] Tryd.func110 (by kernel_rfl) (by kernel_rfl) (by
      letI := rowsB M ⟨some ⟨m q, 0, none⟩, 2, 1, 1, fun _ => [.val (.string k.s), .val (.int .i64 k.n)]⟩
      intro x hx
      simp only [List.mem_cons, List.not_mem_nil, or_false] at hx
      rcases hx with rfl | rfl
      · exact ok_xs
      · exact ok_fn.2 (fun c hc => by
          simp only [List.mem_cons, List.not_mem_nil, or_false] at hc
          subst hc
          exact ok_xp.2 (show 0 < 1 by decide))) (run_idx119 M ⟨some ⟨m q, 0, none⟩, 2, 1, 1, fun _ => [.val (.string k.s), .val (.int .i64 k.n)]⟩ hM a b k) w hw' m
    have hargs : (List.map (@SV.den (rowsB M ⟨some ⟨m q, 0, none⟩, 2, 1, 1, fun _ => [.val (.string k.s), .val (.int .i64 k.n)]⟩) m) [SV.xs [a, b], SV.fn 119 [SV.xp [0, 0, 0] 0 0]]) = (List.map (@SV.den (rowsB M bx) m) [SV.xs [a, b], SV.fn 119 [SV.ptr q 0]]) := by
      simp only [List.map_cons, List.map_nil, @den_xs (rowsB M ⟨some ⟨m q, 0, none⟩, 2, 1, 1, fun _ => [.val (.string k.s), .val (.int .i64 k.n)]⟩), @den_xs (rowsB M bx), @den_fn (rowsB M ⟨some ⟨m q, 0, none⟩, 2, 1, 1, fun _ => [.val (.string k.s), .val (.int .i64 k.n)]⟩), @den_fn (rowsB M bx), @den_xp (rowsB M ⟨some ⟨m q, 0, none⟩, 2, 1, 1, fun _ => [.val (.string k.s), .val (.int .i64 k.n)]⟩), @den_ptr (rowsB M bx)]
      rfl
    rw [hargs] at this
    refine Calls.mono this fun e w' ⟨⟨m', he⟩, hb⟩ => ⟨?_, hb⟩
    rw [he, @den_val (rowsB M ⟨some ⟨m q, 0, none⟩, 2, 1, 1, fun _ => [.val (.string k.s), .val (.int .i64 k.n)]⟩), @den_val (rowsB M bx)]
    rfl
set_option maxRecDepth 100000 in
theorem idx105_pre (M : Nat → Mo) (bx : XR) (a b : Nat) (q : SA) : letI := rowsB M ⟨bx.A, 8, 1, 1, fun _ => shCells q.cl q.p q.x [q.a, q.b]⟩
    evK Tryd.prog ext (tab2 AL [(110, idxA M)]) 80 19 (seqL (preOf (bodyOf Tryd.f110))) (⟨argS [.xs [a, b], .fn 105 [.xp [0, 0, 0] 0 0]], fun _ => none, 0⟩) (grab Tryd.prog Tryd.f110 [0, 1, 7, 8] [] 0) =
    some (Res.cut Ex.normal (Cut.mk [(0, SV.xs [a, b]), (1, SV.fn 105 [SV.xp [0, 0, 0] 0 0]), (7, SV.val (Value.int IntKind.i64 (↑((M a).g b).n : Int))), (8, SV.val (Value.int IntKind.i64 0))] [])) := by kernel_rfl
set_option maxRecDepth 100000 in
theorem idx105_round (M : Nat → Mo) (bx : XR) (a b : Nat) (q : SA) (i : Nat) : letI := rowsB M ⟨bx.A, 8, 1, 1, fun _ => shCells q.cl q.p q.x [q.a, q.b]⟩
    evK Tryd.prog ext (tab2 AL [(110, idxA M)]) 80 19 (seqL (flat (roundOf (bodyOf Tryd.f110)))) ((⟨[(0, .xs [a, b]), (1, .fn 105 [.xp [0, 0, 0] 0 0]), (7, .val (.int .i64 ((M a).g b).n)), (8, .val (.int .i64 (i : Int)))], []⟩ : Cut).st 0) (grab Tryd.prog Tryd.f110 [0, 1, 7, 8] [] 0) =
    (bif decide ((↑i : Int) < (↑((M a).g b).n : Int)) then 
     (bif decide (0 ≤ (↑i : Int)) && decide ((↑i : Int) < (↑((M a).g b).n : Int)) then 
      (bif decide (S.find ((M q.a).g q.b) (K.mk (((M a).g b).g i).k.s (((M a).g b).g i).k.n) < 0) then some (Res.ret (SV.val (Value.int IntKind.i64 (↑i : Int)))) else some (Res.cut Ex.normal (Cut.mk [(0, SV.xs [a, b]), (1, SV.fn 105 [SV.xp [0, 0, 0] 0 0]), (7, SV.val (Value.int IntKind.i64 (↑((M a).g b).n : Int))), (8, SV.val (Value.int IntKind.i64 (IntKind.i64.wrap ((↑i : Int) + 1))))] []))) else none) else some (Res.cut (Ex.exit 0) (Cut.mk [(0, SV.xs [a, b]), (1, SV.fn 105 [SV.xp [0, 0, 0] 0 0]), (7, SV.val (Value.int IntKind.i64 (↑((M a).g b).n : Int))), (8, SV.val (Value.int IntKind.i64 (↑i : Int)))] []))) := by kernel_rfl
set_option maxRecDepth 100000 in
theorem idx105_post (M : Nat → Mo) (bx : XR) (a b : Nat) (q : SA) (i : Nat) : letI := rowsB M ⟨bx.A, 8, 1, 1, fun _ => shCells q.cl q.p q.x [q.a, q.b]⟩
    evK Tryd.prog ext (tab2 AL [(110, idxA M)]) 80 19 (seqL (postOf (bodyOf Tryd.f110))) ((⟨[(0, .xs [a, b]), (1, .fn 105 [.xp [0, 0, 0] 0 0]), (7, .val (.int .i64 ((M a).g b).n)), (8, .val (.int .i64 (i : Int)))], []⟩ : Cut).st 0) (grab Tryd.prog Tryd.f110 [0, 1, 7, 8] [] 0) =
    some (Res.ret (SV.val (Value.int IntKind.i64 (-1)))) := by kernel_rfl
set_option maxRecDepth 100000 in
theorem run_idx105 (M : Nat → Mo) (bx : XR) (hM : Fit M) (a b : Nat) (q : SA) : letI := rowsB M ⟨bx.A, 8, 1, 1, fun _ => shCells q.cl q.p q.x [q.a, q.b]⟩
    Runs Tryd.prog (Inv M ⟨bx.A, 8, 1, 1, fun _ => shCells q.cl q.p q.x [q.a, q.b]⟩) 19 Tryd.f110 ((fun x : Int => SV.val (.int .i64 x)) ((seek (fun i => bif decide (S.find (q.sh M) (((M a).g b).g i).k < 0) then some (i : Int) else none) (((M a).g b).n) 0).getD (-1))) [] (bodyOf Tryd.f110) (⟨argS [.xs [a, b], .fn 105 [.xp [0, 0, 0] 0 0]], fun _ => none, 0⟩) := by
  letI := rowsB M ⟨bx.A, 8, 1, 1, fun _ => shCells q.cl q.p q.x [q.a, q.b]⟩
  have C := ctxB M ⟨bx.A, 8, 1, 1, fun _ => shCells q.cl q.p q.x [q.a, q.b]⟩ entsAL (entsS_cons (ent_idxA M ⟨bx.A, 8, 1, 1, fun _ => shCells q.cl q.p q.x [q.a, q.b]⟩ hM) entsS_nil)
  refine Runs.seekFn C (n := ((M a).g b).n) (p := fun i => bif decide (S.find (q.sh M) (((M a).g b).g i).k < 0) then some (i : Int) else none) (f := (fun x : Int => SV.val (.int .i64 x))) (z := (-1)) (hd := fun i => (⟨[(0, .xs [a, b]), (1, .fn 105 [.xp [0, 0, 0] 0 0]), (7, .val (.int .i64 ((M a).g b).n)), (8, .val (.int .i64 (i : Int)))], []⟩ : Cut)) (c' := (fun i : Nat => (⟨[(0, .xs [a, b]), (1, .fn 105 [.xp [0, 0, 0] 0 0]), (7, .val (.int .i64 ((M a).g b).n)), (8, .val (.int .i64 (i : Int)))], []⟩ : Cut)) (((M a).g b).n)) (by kernel_rfl) (idx105_pre M bx a b q) (fun i hi => ?_) ?_ (fun _ => Runs.ret C (idx105_post M bx a b q (((M a).g b).n)))
  · refine (idx105_round M bx a b q i).trans ?_
    simp only [dlt hi, dge, wr hi ((hM a).2 b), cond_true, cond_false, Bool.and_self, Bool.true_and, map_cond, toR_cond, some_cond, Option.map_some, Option.map_none, toR_some, toR_none, cnd_and, cnd_or, cnd_not, S.keq, S.eqC, S.alikeC]
    first | done | rfl
  · refine (idx105_round M bx a b q (((M a).g b).n)).trans ?_
    simp only [dnl, cond_false]
    rfl
set_option maxRecDepth 100000 in
theorem idx83_pre (M : Nat → Mo) (bx : XR) (a b : Nat) : letI := rowsB M bx
    evK Tryd.prog ext (tab2 AL []) 80 19 (seqL (preOf (bodyOf Tryd.f110))) (⟨argS [.xs [a, b], fnv 83], fun _ => none, 0⟩) (grab Tryd.prog Tryd.f110 [0, 1, 7, 8] [] 0) =
    some (Res.cut Ex.normal (Cut.mk [(0, SV.xs [a, b]), (1, SV.val (Value.func (Fn.func 83) #[] #[])), (7, SV.val (Value.int IntKind.i64 (↑((M a).g b).n : Int))), (8, SV.val (Value.int IntKind.i64 0))] [])) := by kernel_rfl
set_option maxRecDepth 100000 in
theorem idx83_round (M : Nat → Mo) (bx : XR) (a b : Nat) (i : Nat) : letI := rowsB M bx
    evK Tryd.prog ext (tab2 AL []) 80 19 (seqL (flat (roundOf (bodyOf Tryd.f110)))) ((⟨[(0, .xs [a, b]), (1, fnv 83), (7, .val (.int .i64 ((M a).g b).n)), (8, .val (.int .i64 (i : Int)))], []⟩ : Cut).st 0) (grab Tryd.prog Tryd.f110 [0, 1, 7, 8] [] 0) =
    (bif decide ((↑i : Int) < (↑((M a).g b).n : Int)) then 
     (bif decide (0 ≤ (↑i : Int)) && decide ((↑i : Int) < (↑((M a).g b).n : Int)) then 
      (bif (((M a).g b).g i).d.c != 1 then some (Res.ret (SV.val (Value.int IntKind.i64 (↑i : Int)))) else some (Res.cut Ex.normal (Cut.mk [(0, SV.xs [a, b]), (1, SV.val (Value.func (Fn.func 83) #[] #[])), (7, SV.val (Value.int IntKind.i64 (↑((M a).g b).n : Int))), (8, SV.val (Value.int IntKind.i64 (IntKind.i64.wrap ((↑i : Int) + 1))))] []))) else none) else some (Res.cut (Ex.exit 0) (Cut.mk [(0, SV.xs [a, b]), (1, SV.val (Value.func (Fn.func 83) #[] #[])), (7, SV.val (Value.int IntKind.i64 (↑((M a).g b).n : Int))), (8, SV.val (Value.int IntKind.i64 (↑i : Int)))] []))) := by kernel_rfl
set_option maxRecDepth 100000 in
theorem idx83_post (M : Nat → Mo) (bx : XR) (a b : Nat) (i : Nat) : letI := rowsB M bx
    evK Tryd.prog ext (tab2 AL []) 80 19 (seqL (postOf (bodyOf Tryd.f110))) ((⟨[(0, .xs [a, b]), (1, fnv 83), (7, .val (.int .i64 ((M a).g b).n)), (8, .val (.int .i64 (i : Int)))], []⟩ : Cut).st 0) (grab Tryd.prog Tryd.f110 [0, 1, 7, 8] [] 0) =
    some (Res.ret (SV.val (Value.int IntKind.i64 (-1)))) := by kernel_rfl
set_option maxRecDepth 100000 in
theorem run_idx83 (M : Nat → Mo) (bx : XR) (hM : Fit M) (a b : Nat) : letI := rowsB M bx
    Runs Tryd.prog (Inv M bx) 19 Tryd.f110 ((fun x : Int => SV.val (.int .i64 x)) ((seek (fun i => bif (((M a).g b).g i).d.c != 1 then some (i : Int) else none) (((M a).g b).n) 0).getD (-1))) [] (bodyOf Tryd.f110) (⟨argS [.xs [a, b], fnv 83], fun _ => none, 0⟩) := by
  letI := rowsB M bx
  have C := ctxB M bx entsAL entsS_nil
  refine Runs.seekFn C (n := ((M a).g b).n) (p := fun i => bif (((M a).g b).g i).d.c != 1 then some (i : Int) else none) (f := (fun x : Int => SV.val (.int .i64 x))) (z := (-1)) (hd := fun i => (⟨[(0, .xs [a, b]), (1, fnv 83), (7, .val (.int .i64 ((M a).g b).n)), (8, .val (.int .i64 (i : Int)))], []⟩ : Cut)) (c' := (fun i : Nat => (⟨[(0, .xs [a, b]), (1, fnv 83), (7, .val (.int .i64 ((M a).g b).n)), (8, .val (.int .i64 (i : Int)))], []⟩ : Cut)) (((M a).g b).n)) (by kernel_rfl) (idx83_pre M bx a b) (fun i hi => ?_) ?_ (fun _ => Runs.ret C (idx83_post M bx a b (((M a).g b).n)))
  · refine (idx83_round M bx a b i).trans ?_
    simp only [dlt hi, dge, wr hi ((hM a).2 b), cond_true, cond_false, Bool.and_self, Bool.true_and, map_cond, toR_cond, some_cond, Option.map_some, Option.map_none, toR_some, toR_none, cnd_and, cnd_or, cnd_not, S.keq, S.eqC, S.alikeC]
    first | done | rfl
  · refine (idx83_round M bx a b (((M a).g b).n)).trans ?_
    simp only [dnl, cond_false]
    rfl
set_option maxRecDepth 100000 in
theorem idx84_pre (M : Nat → Mo) (bx : XR) (a b : Nat) : letI := rowsB M bx
    evK Tryd.prog ext (tab2 AL []) 80 19 (seqL (preOf (bodyOf Tryd.f110))) (⟨argS [.xs [a, b], fnv 84], fun _ => none, 0⟩) (grab Tryd.prog Tryd.f110 [0, 1, 7, 8] [] 0) =
    some (Res.cut Ex.normal (Cut.mk [(0, SV.xs [a, b]), (1, SV.val (Value.func (Fn.func 84) #[] #[])), (7, SV.val (Value.int IntKind.i64 (↑((M a).g b).n : Int))), (8, SV.val (Value.int IntKind.i64 0))] [])) := by kernel_rfl
set_option maxRecDepth 100000 in
theorem idx84_round (M : Nat → Mo) (bx : XR) (a b : Nat) (i : Nat) : letI := rowsB M bx
    evK Tryd.prog ext (tab2 AL []) 80 19 (seqL (flat (roundOf (bodyOf Tryd.f110)))) ((⟨[(0, .xs [a, b]), (1, fnv 84), (7, .val (.int .i64 ((M a).g b).n)), (8, .val (.int .i64 (i : Int)))], []⟩ : Cut).st 0) (grab Tryd.prog Tryd.f110 [0, 1, 7, 8] [] 0) =
    (bif decide ((↑i : Int) < (↑((M a).g b).n : Int)) then 
     (bif decide (0 ≤ (↑i : Int)) && decide ((↑i : Int) < (↑((M a).g b).n : Int)) then 
      (bif (((M a).g b).g i).d.g.k == 0 then 
       (bif (((M a).g b).g i).d.t.k == 0 then 
        (bif (((M a).g b).g i).d.w != 1 then some (Res.ret (SV.val (Value.int IntKind.i64 (↑i : Int)))) else some (Res.cut Ex.normal (Cut.mk [(0, SV.xs [a, b]), (1, SV.val (Value.func (Fn.func 84) #[] #[])), (7, SV.val (Value.int IntKind.i64 (↑((M a).g b).n : Int))), (8, SV.val (Value.int IntKind.i64 (IntKind.i64.wrap ((↑i : Int) + 1))))] []))) else some (Res.cut Ex.normal (Cut.mk [(0, SV.xs [a, b]), (1, SV.val (Value.func (Fn.func 84) #[] #[])), (7, SV.val (Value.int IntKind.i64 (↑((M a).g b).n : Int))), (8, SV.val (Value.int IntKind.i64 (IntKind.i64.wrap ((↑i : Int) + 1))))] []))) else some (Res.cut Ex.normal (Cut.mk [(0, SV.xs [a, b]), (1, SV.val (Value.func (Fn.func 84) #[] #[])), (7, SV.val (Value.int IntKind.i64 (↑((M a).g b).n : Int))), (8, SV.val (Value.int IntKind.i64 (IntKind.i64.wrap ((↑i : Int) + 1))))] []))) else none) else some (Res.cut (Ex.exit 0) (Cut.mk [(0, SV.xs [a, b]), (1, SV.val (Value.func (Fn.func 84) #[] #[])), (7, SV.val (Value.int IntKind.i64 (↑((M a).g b).n : Int))), (8, SV.val (Value.int IntKind.i64 (↑i : Int)))] []))) := by kernel_rfl
set_option maxRecDepth 100000 in
theorem idx84_post (M : Nat → Mo) (bx : XR) (a b : Nat) (i : Nat) : letI := rowsB M bx
    evK Tryd.prog ext (tab2 AL []) 80 19 (seqL (postOf (bodyOf Tryd.f110))) ((⟨[(0, .xs [a, b]), (1, fnv 84), (7, .val (.int .i64 ((M a).g b).n)), (8, .val (.int .i64 (i : Int)))], []⟩ : Cut).st 0) (grab Tryd.prog Tryd.f110 [0, 1, 7, 8] [] 0) =
    some (Res.ret (SV.val (Value.int IntKind.i64 (-1)))) := by kernel_rfl
set_option maxRecDepth 100000 in
theorem run_idx84 (M : Nat → Mo) (bx : XR) (hM : Fit M) (a b : Nat) : letI := rowsB M bx
    Runs Tryd.prog (Inv M bx) 19 Tryd.f110 ((fun x : Int => SV.val (.int .i64 x)) ((seek (fun i => bif (((M a).g b).g i).d.g.k == 0 && ((((M a).g b).g i).d.t.k == 0 && (((M a).g b).g i).d.w != 1) then some (i : Int) else none) (((M a).g b).n) 0).getD (-1))) [] (bodyOf Tryd.f110) (⟨argS [.xs [a, b], fnv 84], fun _ => none, 0⟩) := by
  letI := rowsB M bx
  have C := ctxB M bx entsAL entsS_nil
  refine Runs.seekFn C (n := ((M a).g b).n) (p := fun i => bif (((M a).g b).g i).d.g.k == 0 && ((((M a).g b).g i).d.t.k == 0 && (((M a).g b).g i).d.w != 1) then some (i : Int) else none) (f := (fun x : Int => SV.val (.int .i64 x))) (z := (-1)) (hd := fun i => (⟨[(0, .xs [a, b]), (1, fnv 84), (7, .val (.int .i64 ((M a).g b).n)), (8, .val (.int .i64 (i : Int)))], []⟩ : Cut)) (c' := (fun i : Nat => (⟨[(0, .xs [a, b]), (1, fnv 84), (7, .val (.int .i64 ((M a).g b).n)), (8, .val (.int .i64 (i : Int)))], []⟩ : Cut)) (((M a).g b).n)) (by kernel_rfl) (idx84_pre M bx a b) (fun i hi => ?_) ?_ (fun _ => Runs.ret C (idx84_post M bx a b (((M a).g b).n)))
  · refine (idx84_round M bx a b i).trans ?_
    simp only [dlt hi, dge, wr hi ((hM a).2 b), cond_true, cond_false, Bool.and_self, Bool.true_and, map_cond, toR_cond, some_cond, Option.map_some, Option.map_none, toR_some, toR_none, cnd_and, cnd_or, cnd_not, S.keq, S.eqC, S.alikeC]
    first | done | rfl
  · refine (idx84_round M bx a b (((M a).g b).n)).trans ?_
    simp only [dnl, cond_false]
    rfl
theorem ent_idxC (M : Nat → Mo) (bx : XR) (hM : Fit M) : Ent M bx (110, idxC M) := by
  letI := rowsB M bx
  intro args mem t v h1 h2 hok
  rcases idxC_eq h1 with ⟨a, b, l, k, rfl, hk, rfl⟩ | ⟨a, b, l, k, rfl, hk, rfl⟩ | ⟨a, b, rfl, rfl⟩ | ⟨a, b, rfl, rfl⟩
  · exact ent_idxA M bx hM [.xs [a, b], .fn 119 l] mem _ v (by
      show (match keyAt mem l with
        | some k => some (DT.leaf (SV.val (.int .i64 (S.find ((M a).g b) k))))
        | none => none) = _
      rw [hk]) h2 hok
  · obtain ⟨q, blk, rfl, hq, hc⟩ := shapeAt_eq hk
    cases h2
    refine ⟨ok_val _ _, fun w0 m w hI hm => ?_⟩
    have hw : Inv M bx w := inv_stable M bx _ _ hI hm.below
    have hw' : Inv M ⟨some ⟨m q, 0, none⟩, 8, 1, 1, fun _ => shCells k.cl k.p k.x [k.a, k.b]⟩ w := ⟨hw.1, xok_box hw.2 (by
      have := box_row (bx' := ⟨some ⟨m q, 0, none⟩, 8, 1, 1, fun _ => shCells k.cl k.p k.x [k.a, k.b]⟩) hm hq (by rw [hc]; exact simple_sh _ _ _ _ _)
      rw [hc] at this
      exact this)⟩
    have := @Runs.calls (rowsB M ⟨some ⟨m q, 0, none⟩, 8, 1, 1, fun _ => shCells k.cl k.p k.x [k.a, k.b]⟩) Tryd.prog (Inv M ⟨some ⟨m q, 0, none⟩, 8, 1, 1, fun _ => shCells k.cl k.p k.x [k.a, k.b]⟩) 19 Tryd.f110 _ 110 (Tryd.f110.body.getD .skip) [.xs [a, b], .fn 105 [.xp [0, 0, 0] 0 0]] Tryd.func110 (by kernel_rfl) (by kernel_rfl) (by
      letI := rowsB M ⟨some ⟨m q, 0, none⟩, 8, 1, 1, fun _ => shCells k.cl k.p k.x [k.a, k.b]⟩
      intro x hx
      simp only [List.mem_cons, List.not_mem_nil, or_false] at hx
      rcases hx with rfl | rfl
      · exact ok_xs
      · exact ok_fn.2 (fun c hc => by
          simp only [List.mem_cons, List.not_mem_nil, or_false] at hc
          subst hc
          exact ok_xp.2 (show 0 < 1 by decide))) (run_idx105 M ⟨some ⟨m q, 0, none⟩, 8, 1, 1, fun _ => shCells k.cl k.p k.x [k.a, k.b]⟩ hM a b k) w hw' m
    have hargs : (List.map (@SV.den (rowsB M ⟨some ⟨m q, 0, none⟩, 8, 1, 1, fun _ => shCells k.cl k.p k.x [k.a, k.b]⟩) m) [SV.xs [a, b], SV.fn 105 [SV.xp [0, 0, 0] 0 0]]) = (List.map (@SV.den (rowsB M bx) m) [SV.xs [a, b], SV.fn 105 [SV.ptr q 0]]) := by
      simp only [List.map_cons, List.map_nil, @den_xs (rowsB M ⟨some ⟨m q, 0, none⟩, 8, 1, 1, fun _ => shCells k.cl k.p k.x [k.a, k.b]⟩), @den_xs (rowsB M bx), @den_fn (rowsB M ⟨some ⟨m q, 0, none⟩, 8, 1, 1, fun _ => shCells k.cl k.p k.x [k.a, k.b]⟩), @den_fn (rowsB M bx), @den_xp (rowsB M ⟨some ⟨m q, 0, none⟩, 8, 1, 1, fun _ => shCells k.cl k.p k.x [k.a, k.b]⟩), @den_ptr (rowsB M bx)]
      rfl
    rw [hargs] at this
    refine Calls.mono this fun e w' ⟨⟨m', he⟩, hb⟩ => ⟨?_, hb⟩
    rw [he, @den_val (rowsB M ⟨some ⟨m q, 0, none⟩, 8, 1, 1, fun _ => shCells k.cl k.p k.x [k.a, k.b]⟩), @den_val (rowsB M bx)]
    rfl
  · cases h2
    refine ⟨ok_val _ _, fun w0 m w hI hm => ?_⟩
    have := @Runs.calls (rowsB M bx) Tryd.prog (Inv M bx) 19 Tryd.f110 _ 110 (Tryd.f110.body.getD .skip) [.xs [a, b], fnv 83] Tryd.func110 (by kernel_rfl) (by kernel_rfl) (by
      intro x hx
      simp only [List.mem_cons, List.not_mem_nil, or_false] at hx
      rcases hx with rfl | rfl
      · exact ok_xs
      · exact ok_val _ _) (run_idx83 M bx hM a b) w (inv_stable M bx _ _ hI hm.below) m
    refine Calls.mono this fun e w' ⟨⟨m', he⟩, hb⟩ => ⟨?_, hb⟩
    rw [he, @den_val (rowsB M bx), @den_val (rowsB M bx)]
    rfl
  · cases h2
    refine ⟨ok_val _ _, fun w0 m w hI hm => ?_⟩
    have := @Runs.calls (rowsB M bx) Tryd.prog (Inv M bx) 19 Tryd.f110 _ 110 (Tryd.f110.body.getD .skip) [.xs [a, b], fnv 84] Tryd.func110 (by kernel_rfl) (by kernel_rfl) (by
      intro x hx
      simp only [List.mem_cons, List.not_mem_nil, or_false] at hx
      rcases hx with rfl | rfl
      · exact ok_xs
      · exact ok_val _ _) (run_idx84 M bx hM a b) w (inv_stable M bx _ _ hI hm.below) m
    refine Calls.mono this fun e w' ⟨⟨m', he⟩, hb⟩ => ⟨?_, hb⟩
    rw [he, @den_val (rowsB M bx), @den_val (rowsB M bx)]
    rfl
end Go.Proofs.YtaojjpdlfnphiaaDoor.PDescKinds

