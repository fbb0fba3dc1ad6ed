import Derived.Test.YtaojjpdlfnphiaaDoorEvC
set_option linter.unusedSimpArgs false
set_option linter.unusedVariables false
set_option linter.unusedSectionVars false
namespace Go.Ev
open Go.RowKit
/-! ### Decision trees: what an evaluation over open Bools comes to -/
inductive DT (α : Type) where
  | leaf (a : α)
  | node (c : Bool) (t f : DT α)
  | bad
namespace DT
variable {α β R : Type}
def run : DT α → (α → Option R) → Option R
  | leaf a, κ => κ a
  | node c t f, κ => bif c then t.run κ else f.run κ
  | bad, _ => none
def val : DT α → Option α
  | leaf a => some a
  | node c t f => bif c then t.val else f.val
  | bad => none
theorem run_eq (κ : α → Option R) : ∀ t : DT α, t.run κ = t.val.bind κ
  | leaf _ => rfl
  | node c t f => by cases c <;> simp only [run, val, cond_true, cond_false, run_eq κ t, run_eq κ f]
  | bad => rfl
def bind : DT α → (α → DT β) → DT β
  | leaf a, g => g a
  | node c t f, g => node c (t.bind g) (f.bind g)
  | bad, _ => bad
theorem val_bind (g : α → DT β) : ∀ t : DT α, (t.bind g).val = t.val.bind fun a => (g a).val
  | leaf _ => rfl
  | node c t f => by cases c <;> simp only [bind, val, cond_true, cond_false, val_bind g t, val_bind g f]
  | bad => rfl
theorem val_leaf (a : α) : (leaf a).val = some a := rfl
theorem val_node (c : Bool) (t f : DT α) : (node c t f).val = bif c then t.val else f.val := rfl
theorem val_bad : (bad : DT α).val = none := rfl
end DT
abbrev GFn := FuncId → Option (List Value → Option (DT Value))
inductive Ex where
  | normal
  | exit (id : Nat)
  | ret
def Ex.out : Ex → Exit
  | .normal => .normal
  | .exit i => .exit i
  | .ret => .ret
def resOne (P : Program) (st : St) : ResultVar → Option SV
  | .tmp t => some (st.tmps t)
  | .cell a t => match st.tmps a with
    | .ptr b off => match st.mem b with
      | some k => evLoad P t k off
      | none => none
    | _ => none
def resAll (P : Program) (st : St) : List ResultVar → Option (List SV)
  | [] => some []
  | r :: l => match resOne P st r with
    | some v => match resAll P st l with
      | some vs => some (v :: vs)
      | none => none
    | none => none
def resS (P : Program) (fn : Func) (st : St) : Option SV :=
  match resAll P st fn.results.toList with
  | some [] => some (.val (.tuple #[]))
  | some (v :: l) => match l with
    | [] => some v
    | _ :: _ => match vals? (v :: l) with
      | some vs => some (.val (.tuple vs.toArray))
      | none => none
  | none => none
def argS (args : List SV) (t : Nat) : SV := args.getD t (.val undef)
def bodyWith (P : Program) (evk : Nat → Code → St → Option (Ex × St)) (fn : Func) (c : Code) (args : List SV) (mem : Mem) (id : Nat) : Option (SV × Mem × Nat) :=
  match evk (args.length + (fn.ntmps - args.length)) c ⟨argS args, mem, id⟩ with
  | some (ex, st) => match ex with
    | .exit _ => none
    | .normal => match resS P fn st with
      | some v => some (v, st.mem, st.next)
      | none => none
    | .ret => match resS P fn st with
      | some v => some (v, st.mem, st.next)
      | none => none
  | none => none
def callWith (P : Program) (G : GFn) (evk : Nat → Code → St → Option (Ex × St)) (f : FuncId) (args : List SV) (mem : Mem) (id : Nat) : Option (SV × Mem × Nat) :=
  match G f with
  | some g => match vals? args with
    | some vs => match g vs with
      | some t => match t.val with
        | some v => some (.val v, mem, id)
        | none => none
      | none => none
    | none => none
  | none => match P.funcs[f]? with
    | some fn => match fn.body with
      | some c => bodyWith P evk fn c args mem id
      | none => none
    | none => none
def ev (P : Program) (X : ExtFn) (G : GFn) : Nat → Nat → Code → St → Option (Ex × St)
  | 0, _, _, _ => none
  | k + 1, N, c, st => match c with
    | .skip => some (.normal, st)
    | .label _ => some (.normal, st)
    | .ret => some (.ret, st)
    | .exit id => some (.exit id, st)
    | .seq a b => match ev P X G k N a st with
      | some (.normal, st') => ev P X G k N b st'
      | r => r
    | .cond c a b => match look st.tmps c with
      | .val (.bool t) => bif t then ev P X G k N a st else ev P X G k N b st
      | _ => none
    | .block id c => match ev P X G k N c st with
      | some (.exit i, st') => bif Nat.beq i id then some (.normal, st') else some (.exit i, st')
      | r => r
    | .loop c => match ev P X G k N c st with
      | some (.normal, st') => ev P X G k N (.loop c) st'
      | r => r
    | .region _ ops draw => bif draw then
        match evDraw P X (callWith P G (ev P X G k)) ops N st with
        | some st' => some (.normal, st')
        | none => none
      else match evOps P X (callWith P G (ev P X G k)) ops N ops.toList st with
        | some st' => some (.normal, st')
        | none => none
    | _ => none
/-- Contracts, of functions that read and write nothing of their callers. -/
def GivenSound (P : Program) (I : World → Prop) (G : GFn) : Prop :=
  ∀ f g, G f = some g → ∀ args t v, g args = some t → t.val = some v → ∀ w, I w → Calls P f args.toArray w (fun e w' => e = .returned v ∧ Below w.heap.size w w')
section
variable {P : Program} {X : ExtFn} {G : GFn} {I : World → Prop} {w0 : World}
def EvSound (P : Program) (X : ExtFn) (G : GFn) (I : World → Prop) (k : Nat) : Prop :=
  ∀ N c st ex st', ev P X G k N c st = some (ex, st') → ∀ w0 m a w (Q : Exit → Act → World → Prop), I w0 → SR w0 N m st a w →
    (∀ m' a' w', Later st m st' m' → SR w0 N m' st' a' w' → Q ex.out a' w') → c.wp P Q a w
theorem res_one {N : Nat} {m : Nat → Nat} {st : St} {a : Act} {w : World} (hr : SR w0 N m st a w) {r : ResultVar} {v : SV} (h : resOne P st r = some v) :
    ((match r with
    | .tmp t => pure (a.tmps.getD t undef)
    | .cell x t => do loadVar t (← asAddr (a.tmps.getD x undef)) : Sem Value)).run P w = .ok (v.den m) w ∧ v.ok st.mem := by
  cases r with
  | tmp t =>
    simp only [resOne, Option.some.injEq] at h
    subst h
    refine ⟨?_, hr.ar.ok t⟩
    simp only [Sem.run_pure, hr.ar.tm t]
  | cell x t =>
    simp only [resOne] at h
    split at h
    · rename_i b off hx
      split at h
      · rename_i k hk
        obtain ⟨_, h2, h3⟩ := hr.mr.blk b k hk
        obtain ⟨hl, hok⟩ := load_sound (P := P) h h2 h3
        refine ⟨?_, hok⟩
        have h4 : a.tmps.getD x undef = .pointer (some ⟨m b, off, none⟩) := by rw [hr.ar.tm x, hx, den_ptr]
        simp only [Instr.loadAt, Instr.sureAddr, Sem.run_bind, Sem.run_pure, Result.andThen_ok] at hl
        simp only [h4, asAddr, Sem.run_bind, Sem.run_pure, Result.andThen_ok, hl]
      · cases h
    · cases h
theorem res_all {N : Nat} {m : Nat → Nat} {st : St} {a : Act} {w : World} (hr : SR w0 N m st a w) : ∀ (l : List ResultVar) (vs : List SV), resAll P st l = some vs →
    (l.mapM (fun
      | .tmp t => pure (a.tmps.getD t undef)
      | .cell x t => do loadVar t (← asAddr (a.tmps.getD x undef)) : ResultVar → Sem Value)).run P w = .ok (vs.map (SV.den m)) w ∧ ∀ v ∈ vs, v.ok st.mem
  | [], vs, h => by
    simp only [resAll, Option.some.injEq] at h
    subst h
    exact ⟨rfl, fun v hv => (by cases hv)⟩
  | r :: l, vs, h => by
    unfold resAll at h
    split at h
    · rename_i v hv
      split at h
      · rename_i us hus
        simp only [Option.some.injEq] at h
        subst h
        obtain ⟨h1, h2⟩ := res_one (P := P) hr hv
        obtain ⟨h3, h4⟩ := res_all hr l us hus
        refine ⟨?_, fun x hx => ?_⟩
        · rw [List.mapM_cons]
          rw [Sem.run_bind]
          cases r with
          | tmp t =>
            simp only at h1 ⊢
            rw [h1]
            simp only [Result.andThen_ok, Sem.run_bind, h3, Sem.run_pure, List.map_cons]
          | cell x t =>
            simp only at h1 ⊢
            rw [h1]
            simp only [Result.andThen_ok, Sem.run_bind, h3, Sem.run_pure, List.map_cons]
        · rcases List.mem_cons.1 hx with rfl | hx
          · exact h2
          · exact h4 x hx
      · cases h
    · cases h
theorem res_sound {N : Nat} {m : Nat → Nat} {fn : Func} {st : St} {a : Act} {w : World} (hr : SR w0 N m st a w) {v : SV} (h : resS P fn st = some v) : (results fn a.tmps).run P w = .ok (v.den m) w ∧ v.ok st.mem := by
  unfold resS at h
  have hres : ∀ vs us, resAll P st fn.results.toList = some vs → vs.map (SV.den m) = us → (results fn a.tmps).run P w = .ok (if h : us.toArray.size = 1 then us.toArray[0] else .tuple us.toArray) w := fun vs us hvs hus => by
    have h1 := (res_all (P := P) hr _ _ hvs).1
    rw [hus] at h1
    unfold results
    rw [Sem.run_bind, Array.mapM_eq_mapM_toList]
    rw [Sem.run_map]
    have h2 := h1
    generalize hgen : (List.mapM _ fn.results.toList : Sem (List Value)) = s
    have h3 : s.run P w = .ok us w := by rw [← hgen, ← h2]; rfl
    rw [h3]
    rfl
  split at h
  · rename_i hvs
    simp only [Option.some.injEq] at h
    subst h
    refine ⟨?_, ok_val _ _⟩
    rw [hres _ _ hvs rfl]
    rfl
  · rename_i u l hvs
    have hok := (res_all (P := P) hr _ _ hvs).2
    split at h
    · simp only [Option.some.injEq] at h
      subst h
      refine ⟨?_, hok _ (by simp)⟩
      rw [hres _ _ hvs rfl]
      rfl
    · split at h
      · rename_i us hus
        simp only [Option.some.injEq] at h
        subst h
        refine ⟨?_, ok_val _ _⟩
        rw [hres _ _ hvs (vals_den m _ hus)]
        have hl : us.length ≠ 1 := by
          have := congrArg List.length (vals_den m _ hus)
          simp at this
          omega
        rw [dif_neg (by simpa using hl)]
        rfl
      · cases h
  · cases h
theorem body_sound {k : Nat} (hk : EvSound P X G I k) {f : FuncId} {fn : Func} {c : Code} (hfn : P.funcs[f]? = some fn) (hc : fn.body = some c) {args : List SV} {mem mem' : Mem} {id id' : Nat} {v : SV}
    (h : bodyWith P (ev P X G k) fn c args mem id = some (v, mem', id')) (hfr : ∀ b, id ≤ b → mem b = none) {w0 w : World} {m : Nat → Nat} (hI : I w0) (hmr : MR w0 m mem w) (hok : ∀ x ∈ args, x.ok mem) :
    Calls P f (args.map (SV.den m)).toArray w (CallPost w0 m mem id v mem' id') := by
  have key : ∀ {st : St} {w2 : World} {a2 : Act} {m2 : Nat → Nat}, Later ⟨argS args, mem, id⟩ m st m2 → SR w0 (args.length + (fn.ntmps - args.length)) m2 st a2 w2 → ∀ {u : SV}, resS P fn st = some u → (v, mem', id') = (u, st.mem, st.next) →
      a2.defers = [] ∧ ∃ x, (results fn a2.tmps).run P w2 = .ok x w2 ∧ CallPost w0 m mem id v mem' id' (.returned x) w2 := fun {st w2 a2 m2} hl hr {u} hu he => by
    simp only [Prod.mk.injEq] at he
    obtain ⟨rfl, rfl, rfl⟩ := he
    obtain ⟨h1, h2⟩ := res_sound (P := P) hr hu
    exact ⟨hr.ar.defers, _, h1, m2, hl.agree, hr.mr, h2, hl.grows, hr.fresh, hl.le, rfl⟩
  refine calls_of_wp hfn hc ?_
  unfold bodyWith at h
  split at h
  · rename_i ex st hev
    refine hk _ _ _ _ _ hev w0 m _ w _ hI ⟨hmr, ⟨by simp, rfl, fun t => ?_, fun t => ?_⟩, hfr⟩ ?_
    · simp only [argS]
      by_cases ht : t < args.length
      · simp [ht, List.getD_eq_getElem?_getD, Array.getElem?_append]
      · simp only [List.getD_eq_getElem?_getD, List.getElem?_eq_none (Nat.le_of_not_lt ht), Option.getD_none, SV.den, Array.getD_eq_getD_getElem?, Array.getElem?_append, List.size_toArray, List.length_map, ht, if_false, Array.getElem?_replicate]
        split <;> rfl
    · simp only [argS]
      rw [List.getD_eq_getElem?_getD]
      cases hq : args[t]? with
      | none => exact ok_val _ _
      | some x => exact hok x (List.mem_of_getElem? hq)
    · intro m2 a2 w2 hl hr
      split at h
      · cases h
      · split at h
        · rename_i u hu
          simp only [Option.some.injEq] at h
          exact key hl hr hu h.symm
        · cases h
      · split at h
        · rename_i u hu
          simp only [Option.some.injEq] at h
          exact key hl hr hu h.symm
        · cases h
  · cases h
theorem call_sound {k : Nat} (hs : Stable I) (hG : GivenSound P I G) (hk : EvSound P X G I k) : CallSound P I (callWith P G (ev P X G k)) := by
  intro f args mem id v mem' id' h hfr w0 m w hI hmr hok
  unfold callWith at h
  split at h
  · rename_i g hg
    split at h
    · rename_i vs hvs
      split at h
      · rename_i u hu
        split at h
        · rename_i x hx
          simp only [Option.some.injEq, Prod.mk.injEq] at h
          obtain ⟨rfl, rfl, rfl⟩ := h
          rw [vals_den m _ hvs]
          refine Calls.mono (hG f g hg vs u x hu hx w (hs _ _ hI hmr.below)) ?_
          rintro e w' ⟨rfl, hb⟩
          exact ⟨m, Agree.refl _ _, hmr.step hb, ok_val _ _, Grows.refl _, hfr, Nat.le_refl _, (den_val _ _).symm ▸ rfl⟩
        · cases h
      · cases h
    · cases h
  · split at h
    · rename_i fn hfn
      split at h
      · rename_i c hc
        exact body_sound hk hfn hc h hfr hI hmr hok
      · cases h
    · cases h
theorem ev_sound (hmix : P.follows .mixedOrders = true) (hX : ExtSound P X) (hs : Stable I) (hG : GivenSound P I G) : ∀ k, EvSound P X G I k ∧ ∀ N c st ex st', ev P X G k N (.loop c) st = some (ex, st') → ∀ w0 m a w (Q : Exit → Act → World → Prop), I w0 → SR w0 N m st a w →
    (∀ m' a' w', Later st m st' m' → SR w0 N m' st' a' w' → Q ex.out a' w') → Code.rounds P c Q k a w
  | 0 => ⟨fun _ _ _ _ _ h => (by cases h), fun _ _ _ _ _ h => (by cases h)⟩
  | k + 1 => by
    obtain ⟨ih, il⟩ := ev_sound hmix hX hs hG k
    have hcall := call_sound hs hG ih
    have hloop : ∀ N c st ex st', ev P X G (k + 1) N (.loop c) st = some (ex, st') → ∀ w0 m a w (Q : Exit → Act → World → Prop), I w0 → SR w0 N m st a w →
        (∀ m' a' w', Later st m st' m' → SR w0 N m' st' a' w' → Q ex.out a' w') → Code.rounds P c Q (k + 1) a w := by
      intro N c st ex st' h w0 m a w Q hI hr hq
      simp only [ev] at h
      rw [rounds_succ]
      split at h
      · rename_i st1 h1
        refine ih _ _ _ _ _ h1 w0 m a w _ hI hr fun m1 a1 w1 hl1 hr1 => ?_
        exact il _ _ _ _ _ h w0 m1 a1 w1 Q hI hr1 fun m2 a2 w2 hl2 hr2 => hq m2 a2 w2 (hl1.trans hl2) hr2
      · rename_i hne
        refine ih _ _ _ _ _ h w0 m a w _ hI hr fun m1 a1 w1 hl1 hr1 => ?_
        have := hq m1 a1 w1 hl1 hr1
        cases ex with
        | normal => exact absurd h (fun h => hne _ h)
        | exit i => exact this
        | ret => exact this
    refine ⟨?_, hloop⟩
    intro N c st ex st' h w0 m a w Q hI hr hq
    cases c with
    | skip =>
      simp only [ev, Option.some.injEq, Prod.mk.injEq] at h
      obtain ⟨rfl, rfl⟩ := h
      exact wp_skip (hq m a w (Later.refl _ _) hr)
    | label l =>
      simp only [ev, Option.some.injEq, Prod.mk.injEq] at h
      obtain ⟨rfl, rfl⟩ := h
      exact wp_label (hq m a w (Later.refl _ _) hr)
    | ret =>
      simp only [ev, Option.some.injEq, Prod.mk.injEq] at h
      obtain ⟨rfl, rfl⟩ := h
      exact wp_ret (hq m a w (Later.refl _ _) hr)
    | exit id =>
      simp only [ev, Option.some.injEq, Prod.mk.injEq] at h
      obtain ⟨rfl, rfl⟩ := h
      exact wp_exit (hq m a w (Later.refl _ _) hr)
    | seq x y =>
      simp only [ev] at h
      refine wp_seq ?_
      split at h
      · rename_i st1 h1
        refine ih _ _ _ _ _ h1 w0 m a w _ hI hr fun m1 a1 w1 hl1 hr1 => ?_
        exact ih _ _ _ _ _ h w0 m1 a1 w1 Q hI hr1 fun m2 a2 w2 hl2 hr2 => hq m2 a2 w2 (hl1.trans hl2) hr2
      · rename_i hne
        refine ih _ _ _ _ _ h w0 m a w _ hI hr fun m1 a1 w1 hl1 hr1 => ?_
        have := hq m1 a1 w1 hl1 hr1
        cases ex with
        | normal => exact absurd h (fun h => hne _ h)
        | exit i => exact this
        | ret => exact this
    | cond x y z =>
      simp only [ev] at h
      split at h
      · rename_i t ht
        refine wp_cond (t := t) (by rw [hr.ar.eval x, ht, den_val]) ?_
        cases t
        · exact ih _ _ _ _ _ h w0 m a w Q hI hr hq
        · exact ih _ _ _ _ _ h w0 m a w Q hI hr hq
      · cases h
    | block id x =>
      simp only [ev] at h
      refine wp_block ?_
      split at h
      · rename_i i st1 h1
        refine ih _ _ _ _ _ h1 w0 m a w _ hI hr fun m1 a1 w1 hl1 hr1 => ?_
        cases hb : Nat.beq i id with
        | true =>
          rw [hb] at h
          simp only [cond_true, Option.some.injEq, Prod.mk.injEq] at h
          obtain ⟨rfl, rfl⟩ := h
          simp only [Ex.out, Exit.inBlock, Nat.eq_of_beq_eq_true hb, if_true]
          exact hq m1 a1 w1 hl1 hr1
        | false =>
          rw [hb] at h
          simp only [cond_false, Option.some.injEq, Prod.mk.injEq] at h
          obtain ⟨rfl, rfl⟩ := h
          have : i ≠ id := Nat.ne_of_beq_eq_false hb
          simp only [Ex.out, Exit.inBlock, this, if_false]
          exact hq m1 a1 w1 hl1 hr1
      · rename_i hne
        refine ih _ _ _ _ _ h w0 m a w _ hI hr fun m1 a1 w1 hl1 hr1 => ?_
        have := hq m1 a1 w1 hl1 hr1
        cases ex with
        | normal => exact this
        | exit i => exact absurd h (fun h => hne _ _ h)
        | ret => exact this
    | loop x => exact wp_loop_rounds (k + 1) (hloop N x st ex st' h w0 m a w Q hI hr hq)
    | region id ops draw =>
      simp only [ev] at h
      cases draw with
      | true =>
        simp only [cond_true] at h
        split at h
        · rename_i st1 h1
          simp only [Option.some.injEq, Prod.mk.injEq] at h
          obtain ⟨rfl, rfl⟩ := h
          exact draw_sound hmix hX hI hs hcall h1 hr hq
        · cases h
      | false =>
        simp only [cond_false] at h
        split at h
        · rename_i st1 h1
          simp only [Option.some.injEq, Prod.mk.injEq] at h
          obtain ⟨rfl, rfl⟩ := h
          exact wp_region_list (ops_sound hX hI hs hcall _ _ _ m a w h1 hr hq)
        · cases h
    | rangeFunc f p x y => simp only [ev] at h; cases h
    | scope x => simp only [ev] at h; cases h
    | goto l => simp only [ev] at h; cases h
    | refuse why => simp only [ev] at h; cases h
/-- A function that takes and gives values alone: its contract, by computing. -/
theorem ev_given (hmix : P.follows .mixedOrders = true) (hX : ExtSound P X) (hs : Stable I) (hG : GivenSound P I G) {k : Nat} {f : FuncId} {fn : Func} {c : Code} {args : List Value} {v : Value} {mem' : Mem} {id' : Nat}
    (hf : P.funcs[f]? = some fn) (hc : fn.body = some c) (h : bodyWith P (ev P X G k) fn c (args.map .val) (fun _ => none) 0 = some (.val v, mem', id')) (w : World) (hI : I w) :
    Calls P f args.toArray w (fun e w' => e = .returned v ∧ Below w.heap.size w w') := by
  have := body_sound (ev_sound hmix hX hs hG k).1 hf hc h (fun _ _ => rfl) hI (MR.start w (fun _ => 0)) (fun x hx => by
    simp only [List.mem_map] at hx
    obtain ⟨y, _, rfl⟩ := hx
    exact ok_val _ _)
  rw [show (args.map SV.val).map (SV.den fun _ => 0) = args by rw [List.map_map, show (SV.den (fun _ => 0) ∘ SV.val) = _root_.id from funext fun x => den_val _ x]; exact List.map_id _] at this
  refine Calls.mono this ?_
  rintro e w' ⟨m', _, hr, _, _, _, _, rfl⟩
  exact ⟨rfl, hr.below⟩
end
end Go.Ev
