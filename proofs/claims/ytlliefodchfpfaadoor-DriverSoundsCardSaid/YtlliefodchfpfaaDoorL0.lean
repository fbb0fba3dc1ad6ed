/- Functions with loops: how a run goes on behind a piece that was computed. -/
import Derived.Test.YtlliefodchfpfaaDoorEvF
set_option linter.unusedSimpArgs false
set_option linter.unusedVariables false
set_option linter.unusedSectionVars false
namespace Go.Ev
open Go.RowKit
section
variable [XEnv]
/-- What is still to be done: a list of codes, or more rounds of a loop. -/
inductive Fr where
  | rest (l : List Code)
  | loop (id : Nat) (r : Code) (k : Nat)
  | blk (id : Nat)
def cont (P : Program) (B : Exit → Act → World → Prop) : List Fr → Exit → Act → World → Prop
  | [] => B
  | .rest l :: fs => Exit.then (wpL P l (cont P B fs)) (cont P B fs)
  | .loop id r k :: fs => Exit.then (Code.rounds P r (Exit.inBlock id (cont P B fs)) k) (Exit.inBlock id (cont P B fs))
  | .blk id :: fs => Exit.inBlock id (cont P B fs)
theorem cont_ret {P : Program} {B : Exit → Act → World → Prop} {a : Act} {w : World} (h : B .ret a w) : ∀ fs, cont P B fs .ret a w
  | [] => h
  | .rest _ :: fs => cont_ret h fs
  | .loop _ _ _ :: fs => cont_ret h fs
  | .blk _ :: fs => cont_ret h fs
/-- What must stand for pieces to be computed. -/
structure Ctx (P : Program) (X : ExtFn) (G : GFn) (I : World → Prop) : Prop where
  mix : P.follows .mixedOrders = true
  hX : ExtSound P X
  hs : Stable I
  hXO : ∀ w, I w → XOk w
  hG : GivenSound P I G
def Ended (w0 : World) (v : SV) : Ending → World → Prop := fun e w' => (∃ m, e = .returned (v.den m)) ∧ Below w0.heap.size w0 w'
section
variable {P : Program} {X : ExtFn} {G : GFn} {I : World → Prop} {N : Nat} {fn : Func} {v : SV} {fs : List Fr} {l : List Code} {st : St} {k : Nat} {ts bs : List Nat} {next : Nat} {c : Cut} {ex : Ex}
def Runs (P : Program) (I : World → Prop) (N : Nat) (fn : Func) (v : SV) (fs : List Fr) (l : List Code) (st : St) : Prop :=
  ∀ w0, I w0 → ∀ (m : Nat → Nat) (a : Act) (w : World), SR w0 N m st a w → wpL P l (cont P (bodyPost P fn (Ended w0 v)) fs) a w
def RunsX (P : Program) (I : World → Prop) (N : Nat) (fn : Func) (v : SV) (fs : List Fr) (e : Exit) (st : St) : Prop :=
  ∀ w0, I w0 → ∀ (m : Nat → Nat) (a : Act) (w : World), SR w0 N m st a w → cont P (bodyPost P fn (Ended w0 v)) fs e a w
theorem Runs.ret (C : Ctx P X G I) (h : evK P X G k N (seqL l) st (grab P fn ts bs next) = some (.ret v)) : Runs P I N fn v fs l st := fun w0 hI m a w hr => by
  refine piece C.mix C.hX C.hs C.hXO C.hG h hI hr (fun v' hv m' a' w' h1 h2 h3 => ?_) (fun ex d hd => by cases hd)
  cases hv
  exact cont_ret ⟨h1, _, h2, ⟨m', rfl⟩, h3⟩ fs
theorem Runs.step (C : Ctx P X G I) (h : evK P X G k N (seqL l) st (grab P fn ts bs next) = some (.cut ex c)) (hk : RunsX P I N fn v fs ex.out (c.st next)) : Runs P I N fn v fs l st := fun w0 hI m a w hr => by
  refine piece C.mix C.hX C.hs C.hXO C.hG h hI hr (fun v' hv => by cases hv) (fun ex d hd m' a' w' hr' => ?_)
  cases hd
  exact hk w0 hI m' a' w' hr'
theorem Runs.app {l2 : List Code} (h : Runs P I N fn v (.rest l2 :: fs) l st) : Runs P I N fn v fs (l ++ l2) st := fun w0 hI m a w hr => (wpL_app l l2).2 (h w0 hI m a w hr)
theorem RunsX.rest (h : Runs P I N fn v fs l st) : RunsX P I N fn v (.rest l :: fs) .normal st := h
theorem RunsX.exit_rest {i : Nat} (h : RunsX P I N fn v fs (.exit i) st) : RunsX P I N fn v (.rest l :: fs) (.exit i) st := h
theorem RunsX.again {id : Nat} {r : Code} {n : Nat} (h : Runs P I N fn v (.loop id r n :: fs) (flat r) st) : RunsX P I N fn v (.loop id r (n + 1) :: fs) .normal st := fun w0 hI m a w hr => by
  show Code.rounds P r _ (n + 1) a w
  rw [rounds_succ]
  exact wpL_flat _ (h w0 hI m a w hr)
theorem RunsX.out {id : Nat} {r : Code} {n : Nat} (h : RunsX P I N fn v fs .normal st) : RunsX P I N fn v (.loop id r n :: fs) (.exit id) st := fun w0 hI m a w hr => by
  have := h w0 hI m a w hr
  simpa only [cont, Exit.then, Exit.inBlock, if_true] using this
theorem Runs.nil (h : RunsX P I N fn v fs .normal st) : Runs P I N fn v fs [] st := h
theorem Runs.block {id : Nat} {c : Code} (h : Runs P I N fn v (.blk id :: .rest l :: fs) (flat c) st) : Runs P I N fn v fs (.block id c :: l) st := fun w0 hI m a w hr => by
  simp only [wpL]
  exact wp_block (wpL_flat _ (h w0 hI m a w hr))
theorem RunsX.blk_normal {id : Nat} (h : RunsX P I N fn v fs .normal st) : RunsX P I N fn v (.blk id :: fs) .normal st := h
theorem RunsX.blk_exit {id : Nat} (h : RunsX P I N fn v fs .normal st) : RunsX P I N fn v (.blk id :: fs) (.exit id) st := fun w0 hI m a w hr => by
  have := h w0 hI m a w hr
  simpa only [cont, Exit.inBlock, if_true] using this
theorem Runs.loop {id : Nat} {r : Code} (n : Nat) (h : Runs P I N fn v (.loop id r n :: .rest l :: fs) (flat r) st) : Runs P I N fn v fs (.block id (.loop r) :: l) st := fun w0 hI m a w hr => by
  simp only [wpL]
  refine wp_block (wp_loop_rounds (n + 1) ?_)
  rw [rounds_succ]
  exact wpL_flat _ (h w0 hI m a w hr)
theorem Runs.cond {c : Operand} {t e : Code} {b : Bool} (hb : look st.tmps c = .val (.bool b)) (h : Runs P I N fn v (.rest l :: fs) (flat (bif b then t else e)) st) : Runs P I N fn v fs (.cond c t e :: l) st := fun w0 hI m a w hr => by
  simp only [wpL]
  have hv : a.eval c = .bool b := by rw [hr.ar.eval c (by rw [hb]; rfl), hb, den_val]
  have := h w0 hI m a w hr
  cases b with
  | true => exact wp_cond hv (wpL_flat _ this)
  | false => exact wp_cond hv (wpL_flat _ this)
theorem Runs.calls {f : FuncId} {body : Code} {args : List SV} (hf : P.funcs[f]? = some fn) (hb : fn.body = some body) (hN : args.length + (fn.ntmps - args.length) = N) (hok : ∀ x ∈ args, x.ok fun _ => none)
    (h : Runs P I N fn v [] (flat body) ⟨argS args, fun _ => none, 0⟩) (w : World) (hI : I w) (m : Nat → Nat) : Calls P f (args.map (SV.den m)).toArray w (Ended w v) := by
  refine calls_of_wp hf hb (wpL_flat _ ?_)
  have := start_sound (fn := fn) args hok w m
  rw [hN] at this
  exact h w hI m _ _ this
/-- A contract, out of how its function runs. -/
theorem EntryS.of {f : FuncId} {g : List SV → Option (DT SV)} (h : ∀ args t v, g args = some t → t.val = some v → (v.ok fun _ => none) ∧ (∀ x ∈ args, x.ok fun _ => none) ∧ ∀ w m, I w → Calls P f (args.map (SV.den m)).toArray w (Ended w v)) (hs : Stable I) : EntryS P I (f, fun args _ => g args) := fun args mem t v h1 h2 h3 => by
  obtain ⟨hf, _, hc⟩ := h args t v h1 h2
  refine ⟨SV.ok_grows (fun b hb => (by cases hb)) hf, fun w0 m w hI hm => Calls.mono (hc w m (hs _ _ hI hm.below)) fun e w' ⟨⟨m', he⟩, hb⟩ => ⟨?_, hb⟩⟩
  rw [he, SV.den_agree (mem := fun _ => none) (m := m) (m' := m') (fun b hb => by cases hb) hf]
/-- The first place at which something is found. -/
def seek {α : Type} (p : Nat → Option α) : Nat → Nat → Option α
  | 0, _ => none
  | k + 1, i => match p i with
    | some v => some v
    | none => seek p k (i + 1)
/-- One round of a search: what is found ends the function. -/
def toR (d : Cut) : Option SV → Res
  | some u => .ret u
  | none => .cut .normal d
theorem Runs.seek {α : Type} (C : Ctx P X G I) {id : Nat} {r : Code} {n : Nat} {p : Nat → Option α} {f : α → SV} {hd : Nat → Cut} {z : α} {c' : Cut}
    (hround : ∀ i, i < n → evK P X G k N (seqL (flat r)) ((hd i).st next) (grab P fn ts bs next) = some (toR (hd (i + 1)) ((p i).map f)))
    (hend : evK P X G k N (seqL (flat r)) ((hd n).st next) (grab P fn ts bs next) = some (.cut (.exit id) c'))
    (hpost : Ev.seek p n 0 = none → RunsX P I N fn (f z) fs .normal (c'.st next)) : ∀ (j i : Nat), i + j = n → Ev.seek p n 0 = Ev.seek p j i → Runs P I N fn (f ((Ev.seek p j i).getD z)) (.loop id r j :: fs) (flat r) ((hd i).st next)
  | 0, i, hi, he => by
    obtain rfl : i = n := by omega
    exact Runs.step C hend (RunsX.out (hpost he))
  | j + 1, i, hi, he => by
    have h := hround i (by omega)
    simp only [Ev.seek] at he ⊢
    cases hp : p i with
    | some u =>
      rw [hp] at h
      exact Runs.ret C h
    | none =>
      rw [hp] at h he
      exact Runs.step C h (RunsX.again (Runs.seek C hround hend hpost j (i + 1) (by omega) he))
/-! ### A list of codes, split at its first loop -/
def hasLoop : List Code → Bool
  | [] => false
  | .block _ (.loop _) :: _ => true
  | _ :: r => hasLoop r
def preOf : List Code → List Code
  | [] => []
  | .block _ (.loop _) :: _ => []
  | x :: r => x :: preOf r
def postOf : List Code → List Code
  | [] => []
  | .block _ (.loop _) :: r => r
  | _ :: r => postOf r
def roundOf : List Code → Code
  | [] => .skip
  | .block _ (.loop c) :: _ => c
  | _ :: r => roundOf r
def idOf : List Code → Nat
  | [] => 0
  | .block i (.loop _) :: _ => i
  | _ :: r => idOf r
theorem split_loop : ∀ l : List Code, hasLoop l = true → l = preOf l ++ Code.block (idOf l) (.loop (roundOf l)) :: postOf l
  | [], h => by cases h
  | x :: r, h => by
    have ih := split_loop r
    unfold hasLoop at h
    split at h
    · cases ‹_ = []›
    · rename_i heq
      cases heq
      rfl
    · rename_i y r' hne heq
      cases heq
      have e := ih h
      unfold preOf postOf roundOf idOf
      split
      · cases ‹_ = []›
      · rename_i q _ heq
        cases heq
        exact absurd rfl (hne _ _)
      · rename_i heq
        cases heq
        rw [List.cons_append, ← e]
theorem Runs.looped (C : Ctx P X G I) (hl : hasLoop l = true) (n : Nat) (hpre : evK P X G k N (seqL (preOf l)) st (grab P fn ts bs next) = some (.cut .normal c))
    (h : Runs P I N fn v (.loop (idOf l) (roundOf l) n :: .rest (postOf l) :: fs) (flat (roundOf l)) (c.st next)) : Runs P I N fn v fs l st := by
  rw [split_loop l hl]
  exact Runs.app (Runs.step C hpre (RunsX.rest (Runs.loop n h)))
/-- A function, or the rest of one, that searches. -/
theorem Runs.seekFn {α : Type} (C : Ctx P X G I) (hl : hasLoop l = true) {n : Nat} {p : Nat → Option α} {f : α → SV} {hd : Nat → Cut} {z : α} {c' : Cut}
    (hpre : evK P X G k N (seqL (preOf l)) st (grab P fn ts bs next) = some (.cut .normal (hd 0)))
    (hround : ∀ i, i < n → evK P X G k N (seqL (flat (roundOf l))) ((hd i).st next) (grab P fn ts bs next) = some (toR (hd (i + 1)) ((p i).map f)))
    (hend : evK P X G k N (seqL (flat (roundOf l))) ((hd n).st next) (grab P fn ts bs next) = some (.cut (.exit (idOf l)) c'))
    (hpost : Ev.seek p n 0 = none → Runs P I N fn (f z) fs (postOf l) (c'.st next)) : Runs P I N fn (f ((Ev.seek p n 0).getD z)) fs l st :=
  Runs.looped C hl n hpre (Runs.seek C hround hend (fun h => RunsX.rest (hpost h)) n 0 (by omega) rfl)
end
end
end Go.Ev
