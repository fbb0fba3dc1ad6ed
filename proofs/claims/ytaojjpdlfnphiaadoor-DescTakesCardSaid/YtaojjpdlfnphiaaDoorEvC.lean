import Derived.Test.YtaojjpdlfnphiaaDoorEvB
set_option linter.unusedSimpArgs false
set_option linter.unusedVariables false
set_option linter.unusedSectionVars false
namespace Go.Ev
open Go.RowKit
theorem mask_bit {done : List Nat} {i : Nat} : ∀ (l : List Edge), (maskOf done l).testBit i = true → ∃ e ∈ l, Region.binds .any e = true ∧ (e.on = i ∨ (done.getD e.on 0).testBit i = true)
  | [], h => by simp [maskOf] at h
  | e :: r, h => by
    unfold maskOf at h
    cases hb : Region.binds .any e with
    | false =>
      rw [hb] at h
      obtain ⟨e', h1, h2⟩ := mask_bit r h
      exact ⟨e', List.mem_cons_of_mem _ h1, h2⟩
    | true =>
      rw [hb] at h
      simp only [cond_true, Nat.testBit_or, Bool.or_eq_true] at h
      rcases h with (h | h) | h
      · rw [Nat.testBit_two_pow] at h
        exact ⟨e, List.mem_cons_self, hb, .inl (by simpa using h)⟩
      · exact ⟨e, List.mem_cons_self, hb, .inr h⟩
      · obtain ⟨e', h1, h2⟩ := mask_bit r h
        exact ⟨e', List.mem_cons_of_mem _ h1, h2⟩
theorem clo_spec : ∀ (l : List Oper) (done : List Nat), ∃ r, cloL l done = done ++ r ∧ r.length = l.length ∧ ∀ n o, l[n]? = some o → r[n]? = some (maskOf (done ++ r.take n) o.after.toList)
  | [], done => ⟨[], by simp [cloL], rfl, fun n o h => by simp at h⟩
  | o :: l, done => by
    obtain ⟨r, h1, h2, h3⟩ := clo_spec l (done ++ [maskOf done o.after.toList])
    refine ⟨maskOf done o.after.toList :: r, by simp [cloL, h1], by simp [h2], fun n o' hn => ?_⟩
    cases n with
    | zero =>
      simp only [List.getElem?_cons_zero, Option.some.injEq] at hn
      subst hn
      simp
    | succ n =>
      simp only [List.getElem?_cons_succ] at hn ⊢
      rw [h3 n o' hn]
      simp
/-- What holds of what has come up: with each its needs. -/
def Closed (ops : Array Oper) (l : Array Bool) : Prop := ∀ j o e, l.getD j false = true → ops[j]? = some o → e ∈ o.after → Region.binds .any e = true → l.getD e.on false = true
theorem clo_step {ops : Array Oper} {i j : Nat} (hb : ((cloL ops.toList []).getD j 0).testBit i = true) : ∃ o, ops[j]? = some o ∧ ∃ e ∈ o.after, Region.binds .any e = true ∧ (e.on = i ∨ (e.on < j ∧ ((cloL ops.toList []).getD e.on 0).testBit i = true)) := by
  obtain ⟨r, h1, h2, h3⟩ := clo_spec ops.toList []
  rw [List.nil_append] at h1
  rw [h1] at hb ⊢
  cases ho : ops[j]? with
  | none =>
    have : r[j]? = none := List.getElem?_eq_none (by rw [h2, Array.length_toList]; exact Array.getElem?_eq_none_iff.1 ho)
    rw [List.getD_eq_getElem?_getD, this] at hb
    simp at hb
  | some o =>
    have h4 := h3 j o (by simpa using ho)
    rw [List.getD_eq_getElem?_getD, h4, Option.getD_some, List.nil_append] at hb
    obtain ⟨e, h5, h6, h7⟩ := mask_bit _ hb
    refine ⟨o, rfl, e, by simpa using h5, h6, ?_⟩
    rcases h7 with h7 | h7
    · exact .inl h7
    · refine .inr ?_
      rw [List.getD_eq_getElem?_getD] at h7
      by_cases hlt : e.on < j
      · rw [List.getElem?_take_of_lt hlt] at h7
        exact ⟨hlt, by rw [List.getD_eq_getElem?_getD]; exact h7⟩
      · rw [List.getElem?_eq_none (by simp; omega)] at h7
        simp at h7
theorem clo_listed {ops : Array Oper} {l : Array Bool} (hc : Closed ops l) {i : Nat} : ∀ (j : Nat), ((cloL ops.toList []).getD j 0).testBit i = true → l.getD j false = true → l.getD i false = true := by
  intro j
  induction j using Nat.strongRecOn with
  | _ j ih =>
    intro hb hl
    obtain ⟨o, ho, e, he, hbi, h⟩ := clo_step hb
    have h1 := hc j o e hl ho he hbi
    rcases h with h | ⟨hlt, h⟩
    · exact h ▸ h1
    · exact ih e.on hlt h h1
theorem clo_ready {ops : Array Oper} {l : Array Bool} (hc : Closed ops l) {i j : Nat} (hr : i ∈ Region.ready .any ops l) (hb : ((cloL ops.toList []).getD i 0).testBit j = true) : l.getD j false = true := by
  obtain ⟨_, o, ho, hall⟩ := mem_ready.1 hr
  obtain ⟨o', ho', e, he, hbi, h⟩ := clo_step hb
  rw [ho] at ho'
  cases ho'
  have h1 := hall e he hbi
  rcases h with h | ⟨_, h⟩
  · exact h ▸ h1
  · exact clo_listed hc _ h h1
theorem deps_spec : ∀ (l : List Oper) (k : Nat), depsOk l k = true → ∀ n o, l[n]? = some o → ∀ e ∈ o.after, e.on < k + n
  | [], _, _, n, o, hn => by simp at hn
  | x :: l, k, h, n, o, hn => by
    simp only [depsOk, Bool.and_eq_true] at h
    cases n with
    | zero =>
      simp only [List.getElem?_cons_zero, Option.some.injEq] at hn
      subst hn
      intro e he
      exact Nat.le_of_ble_eq_true (List.all_eq_true.1 h.1 e (by simpa using he))
    | succ n =>
      simp only [List.getElem?_cons_succ] at hn
      intro e he
      have := deps_spec l (k + 1) h.2 n o hn e he
      omega
/-- Somebody is ready while somebody waits. -/
theorem ready_some {ops : Array Oper} {l : Array Bool} (hd : depsOk ops.toList 0 = true) (hsz : l.size = ops.size) : ∀ j, j < ops.size → l.getD j false = false → Region.ready .any ops l ≠ [] := by
  intro j
  induction j using Nat.strongRecOn with
  | _ j ih =>
    intro hj hl hr
    have ho : ops[j]? = some ops[j] := Array.getElem?_eq_getElem hj
    by_cases h : ∀ e ∈ ops[j].after, Region.binds .any e = true → l.getD e.on false = true
    · have : j ∈ Region.ready .any ops l := mem_ready.2 ⟨by
        have : l[j]? = some false := by
          have hlt : j < l.size := by omega
          rw [Array.getD_eq_getD_getElem?, Array.getElem?_eq_getElem hlt] at hl
          rw [Array.getElem?_eq_getElem hlt]
          simpa using hl
        simp [this], _, ho, h⟩
      rw [hr] at this
      cases this
    · have : ∃ e ∈ ops[j].after, l.getD e.on false = false := by
        refine Classical.byContradiction fun hn => h fun e he _ => ?_
        cases hq : l.getD e.on false with
        | true => rfl
        | false => exact absurd ⟨e, he, hq⟩ hn
      obtain ⟨e, he, hq⟩ := this
      have hlt := deps_spec ops.toList 0 hd j ops[j] (by simp [ho]) e he
      exact ih e.on (by omega) (by omega) hq hr
theorem inCall_congr {call : CallFn} {f : FuncId} {args : List SV} {mem mem' : Mem} {id : Nat} {v : SV} {e : Eff} (h : inCall call f args mem id = some (v, e)) (hne : ∀ mm nn, e ≠ .all mm nn) : inCall call f args mem' id = some (v, e) := by
  unfold inCall at h ⊢
  cases hv : args.all SV.isVal with
  | true => rw [hv] at h; exact h
  | false =>
    rw [hv] at h
    simp only [cond_false] at h
    split at h
    · simp only [Option.some.injEq, Prod.mk.injEq] at h
      exact absurd h.2.symm (hne _ _)
    · cases h
theorem doCall_congr {P : Program} {X : ExtFn} {call : CallFn} {f : FuncId} {args : List SV} {mem mem' : Mem} {id : Nat} {v : SV} {e : Eff} (h : doCall P X call f args mem id = some (v, e)) (hne : ∀ mm nn, e ≠ .all mm nn) : doCall P X call f args mem' id = some (v, e) := by
  unfold doCall at h ⊢
  split
  · rename_i g hg
    rw [hg] at h
    exact h
  · rename_i hg
    rw [hg] at h
    simp only at h
    cases hen : enters P f with
    | false => rw [hen] at h; cases h
    | true =>
      rw [hen] at h
      exact inCall_congr h hne
section
variable {P : Program} {X : ExtFn} {call : CallFn} {ρ ρ' : Operand → SV} {mem mem' : Mem} {id : Nat} {o : Oper} {v : SV} {e : Eff}
theorem evGen_congr (h : evGen P call ρ mem id o = some (v, e)) (hne : ∀ mm nn, e ≠ .all mm nn) (hρ : ∀ x ∈ o.op.operands, ρ' x = ρ x) : evGen P call ρ' mem' id o = some (v, e) := by
  unfold evGen at h ⊢
  have h1 : o.op.operands.toList.all (fun x => (ρ' x).isVal) = o.op.operands.toList.all (fun x => (ρ x).isVal) := by
    rw [Bool.eq_iff_iff, List.all_eq_true, List.all_eq_true]
    constructor
    · intro hh x hx
      rw [← hρ x (by simpa using hx)]
      exact hh x hx
    · intro hh x hx
      rw [hρ x (by simpa using hx)]
      exact hh x hx
  rw [h1]
  cases hc : (o.op.operands.toList.all (fun x => (ρ x).isVal) && noSelect o.op) with
  | false => rw [hc] at h; cases h
  | true =>
    rw [hc] at h
    simp only [cond_true] at h ⊢
    rw [Bool.and_eq_true] at hc
    have hns : ∀ cs b, o.op ≠ .select cs b := fun cs b hh => by rw [hh] at hc; cases hc.2
    have h2 : execOp (fun x => (ρ' x).un) o = execOp (fun x => (ρ x).un) o := execOp_congr o hns fun x hx => by rw [hρ x hx]
    rw [h2]
    split
    · rename_i u hp; rw [hp] at h; exact h
    · rename_i hp; rw [hp] at h; exact h
    · rename_i f args hp
      rw [hp] at h
      exact inCall_congr h hne
    · rename_i x1 x2 x3
      split at h
      · rename_i u hq; exact absurd hq (x1 u)
      · rename_i hq; exact absurd hq x2
      · rename_i f args hq; exact absurd hq (x3 f args)
      · cases h
def touchR (ρ : Operand → SV) (o : Oper) : List Nat :=
  match o.op with
  | .load _ x => match ρ x with
    | .ptr b _ => [b]
    | _ => []
  | .store _ x _ => match ρ x with
    | .ptr b _ => [b]
    | _ => []
  | _ => []
theorem evOp_congr (h : evOp P X call ρ mem id o = some (v, e)) (hne : ∀ mm nn, e ≠ .all mm nn) (hρ : ∀ x ∈ o.op.operands, ρ' x = ρ x) (hmem : ∀ b ∈ touchR ρ o, mem' b = mem b) : evOp P X call ρ' mem' id o = some (v, e) := by
  obtain ⟨dst, op, type, pos, after, guard⟩ := o
  have hgen : ∀ {o : Oper}, evGen P call ρ mem id o = some (v, e) → (∀ x ∈ o.op.operands, ρ' x = ρ x) → evGen P call ρ' mem' id o = some (v, e) := fun h hρ => evGen_congr h hne hρ
  cases op
  case move x => simp only [evOp] at h ⊢; rw [hρ x (by simp [Op.operands])]; exact h
  case assign x => simp only [evOp] at h ⊢; rw [hρ x (by simp [Op.operands])]; exact h
  case pick c x y => simp only [evOp] at h ⊢; rw [hρ c (by simp [Op.operands]), hρ x (by simp [Op.operands]), hρ y (by simp [Op.operands])]; exact h
  case alloc t => simp only [evOp] at h ⊢; exact h
  case box t x => simp only [evOp] at h ⊢; rw [hρ x (by simp [Op.operands])]; exact h
  case load t x =>
    simp only [evOp] at h ⊢
    rw [hρ x (by simp [Op.operands])]
    cases hx : ρ x with
    | ptr b off =>
      rw [hx] at h
      simp only at h ⊢
      rw [hmem b (by simp [touchR, hx])]
      exact h
    | _ => rw [hx] at h; exact h
  case store t x y =>
    simp only [evOp] at h ⊢
    rw [hρ x (by simp [Op.operands]), hρ y (by simp [Op.operands])]
    cases hx : ρ x with
    | ptr b off =>
      rw [hx] at h
      simp only at h ⊢
      rw [hmem b (by simp [touchR, hx])]
      exact h
    | _ => rw [hx] at h; exact h
  case fieldAddr s x i => simp only [evOp] at h ⊢; rw [hρ x (by simp [Op.operands])]; exact h
  case nilCheck x =>
    simp only [evOp] at h ⊢
    rw [hρ x (by simp [Op.operands])]
    cases hx : ρ x with
    | ptr b off => rw [hx] at h; exact h
    | _ => rw [hx] at h; exact hgen h hρ
  case call c =>
    simp only [evOp] at h ⊢
    have hargs : c.args.toList.map ρ' = c.args.toList.map ρ := List.map_congr_left fun x hx => hρ x (by simp only [Op.operands, Call.operands]; simp at hx; simp [hx])
    obtain ⟨cal, as, ts⟩ := c
    simp only at h hargs ⊢
    rw [hargs]
    cases cal with
    | value f =>
      cases f with
      | func g => exact doCall_congr h hne
      | _ => exact hgen h hρ
    | builtin b =>
      simp only at h ⊢
      cases hl : lenOf P b ts (as.toList.map ρ) with
      | some v => rw [hl] at h; exact h
      | none => rw [hl] at h; exact hgen h hρ
    | invoke r n => exact hgen h hρ
  case build t ps =>
    simp only [evOp] at h ⊢
    have hp : partsS ρ' ps = partsS ρ ps := List.map_congr_left fun p hp => by rw [hρ p.2 (by simp only [Op.operands, List.mem_toArray, List.mem_map]; exact ⟨p, hp, rfl⟩)]
    rw [hp]
    cases hv : (partsS ρ ps).all (fun p => p.2.isVal) with
    | true => rw [hv] at h; exact hgen h hρ
    | false => rw [hv] at h; exact h
  case buildSlice t n ps =>
    simp only [evOp] at h ⊢
    have hp : partsS ρ' ps = partsS ρ ps := List.map_congr_left fun p hp => by rw [hρ p.2 (by simp only [Op.operands, List.mem_toArray, List.mem_map]; exact ⟨p, hp, rfl⟩)]
    rw [hp]
    exact h
  case indexAddr t x i =>
    simp only [evOp] at h ⊢
    rw [hρ x (by simp [Op.operands]), hρ i (by simp [Op.operands])]
    exact h
  case binOp bop t x y yt =>
    simp only [evOp] at h ⊢
    rw [hρ x (by simp [Op.operands]), hρ y (by simp [Op.operands])]
    exact h
  all_goals (simp only [evOp] at h ⊢; exact hgen h hρ)
end

theorem one_dst {P : Program} {X : ExtFn} {call : CallFn} {ops : Array Oper} {N : Nat} {tmps : Nat → SV} {mem : Mem} {id : Nat} {o : Oper} {e : Evt} (h : evOne P X call ops N tmps mem id o = some e) : e.dst = o.dst ∧ dstOk N o.dst = true := by
  unfold evOne at h
  cases hd : dstOk N o.dst with
  | false => rw [hd] at h; cases h
  | true =>
    rw [hd] at h
    simp only [cond_true] at h
    refine ⟨?_, rfl⟩
    cases hw : wantS ops tmps o with
    | false =>
      rw [hw] at h
      simp only [cond_false, Option.some.injEq] at h
      subst h
      rfl
    | true =>
      rw [hw] at h
      simp only [cond_true] at h
      split at h
      · rename_i v f hf
        unfold effEvt at h
        split at h
        · cases h; rfl
        · split at h
          · cases h; rfl
          · cases h
        · cases h; rfl
        · cases h
      · cases h
/-- What an event tells of its operation. -/
theorem one_spec {P : Program} {X : ExtFn} {call : CallFn} {ops : Array Oper} {N : Nat} {tmps : Nat → SV} {mem : Mem} {id : Nat} {o : Oper} {e : Evt} (h : evOne P X call ops N tmps mem id o = some e) :
    (∀ c k, e.wr = some (c, k) → c ∈ e.foot) ∧
    ((wantS ops tmps o = false ∧ e.v = .val undef ∧ e.wr = none) ∨
    (wantS ops tmps o = true ∧ ∃ f, evOp P X call (look tmps) mem id o = some (e.v, f) ∧ (∀ mm nn, f ≠ .all mm nn) ∧ (∀ M : Mem, f.mem M id = e.mem M) ∧ ((∃ k, f = .new k) → mem id = none ∧ id ∈ e.foot) ∧ ∀ b ∈ touchS tmps o, b ∈ e.foot)) := by
  unfold evOne at h
  cases hd : dstOk N o.dst with
  | false => rw [hd] at h; cases h
  | true =>
    rw [hd] at h
    simp only [cond_true] at h
    cases hw : wantS ops tmps o with
    | false =>
      rw [hw] at h
      simp only [cond_false, Option.some.injEq] at h
      subst h
      exact ⟨fun c k hk => (by cases hk), .inl ⟨rfl, rfl, rfl⟩⟩
    | true =>
      rw [hw] at h
      simp only [cond_true] at h
      split at h
      · rename_i v f hf
        unfold effEvt at h
        split at h
        · cases h
          exact ⟨fun c k hk => (by cases hk), .inr ⟨rfl, _, hf, fun _ _ hh => (by cases hh), fun _ => rfl, fun ⟨_, hh⟩ => (by cases hh), fun b hb => hb⟩⟩
        · split at h
          · rename_i hid
            cases h
            exact ⟨fun c k hk => (by cases hk; exact List.mem_cons_self), .inr ⟨rfl, _, hf, fun _ _ hh => (by cases hh), fun _ => rfl, fun _ => ⟨hid, List.mem_cons_self⟩, fun b hb => List.mem_cons_of_mem _ hb⟩⟩
          · cases h
        · cases h
          exact ⟨fun c k hk => (by cases hk; exact List.mem_cons_self), .inr ⟨rfl, _, hf, fun _ _ hh => (by cases hh), fun _ => rfl, fun ⟨_, hh⟩ => (by cases hh), fun b hb => List.mem_cons_of_mem _ hb⟩⟩
        · cases h
      · cases h
theorem want_congr {ops : Array Oper} {tmps tmps' : Nat → SV} {o : Oper} (h : ∀ t ∈ o.looksAt ops, tmps' t = tmps t) : wantS ops tmps' o = wantS ops tmps o := by
  unfold wantS
  cases hg : o.guard with
  | none => rfl
  | some g =>
    obtain ⟨j, want⟩ := g
    have : yieldS ops tmps' j = yieldS ops tmps j := by
      unfold yieldS
      cases ho : ops[j]? with
      | none => rfl
      | some oj =>
        simp only
        cases hd : oj.dst with
        | none => rfl
        | some t =>
          simp only
          rw [h t (by simp [Oper.looksAt, hg, ho, hd])]
    simp only [this]
section
variable {P : Program} {X : ExtFn} {call : CallFn} {I : World → Prop} {N : Nat} {ops : Array Oper} {Q : Exit → Act → World → Prop} {w0 : World}
/-- Where a region that draws stands. -/
def DInv (w0 : World) (N : Nat) (ops : Array Oper) (es : List Evt) (st0 : St) (m0 : Nat → Nat) (l : Array Bool) (a : Act) (w : World) : Prop :=
  l.size = ops.size ∧ Closed ops l ∧ ∃ m, Agree st0.mem m0 m ∧ MR w0 m (fun b => lastM (fun j => l.getD j false) b 0 es (st0.mem b)) w ∧
    AR N m (fun t => lastV (fun j => l.getD j false) t 0 es (st0.tmps t)) (fun b => lastM (fun j => l.getD j false) b 0 es (st0.mem b)) a ∧
    Grows st0.mem (fun b => lastM (fun j => l.getD j false) b 0 es (st0.mem b))
theorem closed_set {l : Array Bool} (hc : Closed ops l) {i : Nat} (hr : i ∈ Region.ready .any ops l) : Closed ops (l.setIfInBounds i true) := by
  intro j o e hj ho he hb
  refine getD_set_true ?_
  by_cases h : j = i
  · subst h
    obtain ⟨_, o', ho', hall⟩ := mem_ready.1 hr
    rw [ho] at ho'
    cases ho'
    exact hall e he hb
  · rw [getD_set_ne _ (Ne.symm h)] at hj
    exact hc j o e hj ho he hb
theorem draw_step (hX : ExtSound P X) (hI : I w0) (hs : Stable I) (hcall : CallSound P I call) {es : List Evt} {st0 : St} {m0 : Nat → Nat} (hlen : es.length = ops.size)
    (hev : ∀ n o, ops[n]? = some o → ∃ e, es[n]? = some e ∧ evOne P X call ops N (fun t => lastV (fun i => decide (i < n)) t 0 es (st0.tmps t)) (fun b => lastM (fun i => decide (i < n)) b 0 es (st0.mem b)) (st0.next + n) o = some e)
    (hto : tmpsOk ops (cloL ops.toList []) = true) (hmo : memOk es (cloL ops.toList []) = true) {l : Array Bool} {a : Act} {w : World} {i : Nat} (hi : i ∈ Region.ready .any ops l) (h : DInv w0 N ops es st0 m0 l a w) :
    wpOp P ops Q i (DInv w0 N ops es st0 m0 (l.setIfInBounds i true)) a w := by
  obtain ⟨hsz, hc, m, hag, hmr, har, hgr⟩ := h
  obtain ⟨hun, o, ho, hneeds⟩ := mem_ready.1 hi
  have hilt : i < ops.size := (Array.getElem?_eq_some_iff.1 ho).1
  have hunf : l.getD i false = false := by
    have : i < l.size := by omega
    rw [Array.getD_eq_getD_getElem?, Array.getElem?_eq_getElem this] at hun ⊢
    simpa using hun
  obtain ⟨e, hei, hone⟩ := hev i o ho
  obtain ⟨hdst, hdok⟩ := one_dst hone
  have hdn : ∀ {n : Nat} {e' : Evt}, es[n]? = some e' → ∃ o', ops[n]? = some o' ∧ e'.dst = o'.dst := fun {n e'} hn => by
    have hlt : n < ops.size := by rw [← hlen]; exact (List.getElem?_eq_some_iff.1 hn).1
    obtain ⟨e2, h1, h2⟩ := hev n _ (Array.getElem?_eq_getElem hlt)
    rw [hn] at h1
    cases h1
    exact ⟨_, Array.getElem?_eq_getElem hlt, (one_dst h2).1⟩
  have hpair : ∀ {x y : Nat} {ox oy : Oper}, x < y → ops[x]? = some ox → ops[y]? = some oy → ((cloL ops.toList []).getD y 0).testBit x = true ∨ Oper.apart ops ox oy = true := fun {x y ox oy} hxy hx hy => by
    have h1 := List.all_eq_true.1 hto y (List.mem_range.2 (Array.getElem?_eq_some_iff.1 hy).1)
    have h2 := List.all_eq_true.1 h1 x (List.mem_range.2 hxy)
    rw [hx, hy] at h2
    simpa [Bool.or_eq_true] using h2
  have hpairM : ∀ {x y : Nat} {ex ey : Evt}, x < y → es[x]? = some ex → es[y]? = some ey → (farE ex ey = true ∧ farE ey ex = true) ∨ ((cloL ops.toList []).getD y 0).testBit x = true := fun {x y ex ey} hxy hx hy => by
    have h1 := List.all_eq_true.1 hmo y (List.mem_range.2 (List.getElem?_eq_some_iff.1 hy).1)
    have h2 := List.all_eq_true.1 h1 x (List.mem_range.2 hxy)
    rw [hx, hy] at h2
    simpa [Bool.or_eq_true, Bool.and_eq_true] using h2
  -- what this one looks at is as the text has it
  have hlook : ∀ t ∈ o.looksAt ops, lastV (fun j => l.getD j false) t 0 es (st0.tmps t) = lastV (fun j => decide (j < i)) t 0 es (st0.tmps t) := fun t ht => lastV_congr es 0 _ fun n e' hn hd' => by
    simp only [Nat.zero_add]
    obtain ⟨o', ho', hd2⟩ := hdn hn
    rcases Nat.lt_trichotomy n i with hlt | heq | hgt
    · rw [decide_eq_true hlt]
      rcases hpair hlt ho' ho with hb | hap
      · exact clo_ready hc hi hb
      · exact absurd ht ((Oper.apart_spec hap).1 t (hd2 ▸ hd'))
    · subst heq; rw [hunf]; simp
    · rw [decide_eq_false (by omega)]
      rcases hpair hgt ho ho' with hb | hap
      · cases hq : l.getD n false with
        | false => rfl
        | true => rw [clo_listed hc n hb hq] at hunf; cases hunf
      · exact absurd ht ((Oper.apart_spec hap).2.2 t (hd2 ▸ hd'))
  have hfoot : ∀ b ∈ e.foot, lastM (fun j => l.getD j false) b 0 es (st0.mem b) = lastM (fun j => decide (j < i)) b 0 es (st0.mem b) := fun b hb => lastM_congr es 0 _ fun n e' k hn hw' => by
    simp only [Nat.zero_add]
    have hfar : ∀ {x : Evt}, farE x e = true → x.wr = some (b, k) → False := fun {x} hf hx => by
      unfold farE at hf
      rw [hx] at hf
      have := List.all_eq_true.1 hf b hb
      simp at this
    rcases Nat.lt_trichotomy n i with hlt | heq | hgt
    · rw [decide_eq_true hlt]
      rcases hpairM hlt hn hei with hap | hb2
      · exact (hfar hap.1 hw').elim
      · exact clo_ready hc hi hb2
    · subst heq; rw [hunf]; simp
    · rw [decide_eq_false (by omega)]
      rcases hpairM hgt hei hn with hap | hb2
      · exact (hfar hap.2 hw').elim
      · cases hq : l.getD n false with
        | false => rfl
        | true => rw [clo_listed hc n hb2 hq] at hunf; cases hunf
  -- where it leads
  have hset : ∀ n, (l.setIfInBounds i true).getD n false = if n = i then true else l.getD n false := fun n => by
    by_cases hn : n = i
    · subst hn
      rw [if_pos rfl]
      have : n < l.size := by omega
      simp [this]
    · rw [if_neg hn, getD_set_ne _ (Ne.symm hn)]
  have htm : (fun t => lastV (fun j => (l.setIfInBounds i true).getD j false) t 0 es (st0.tmps t)) = putS (fun t => lastV (fun j => l.getD j false) t 0 es (st0.tmps t)) o.dst e.v := by
    funext t
    rw [putS_at]
    by_cases hd : o.dst = some t
    · rw [if_pos hd]
      refine lastV_at es 0 i e _ hei (by rw [Nat.zero_add, hset, if_pos rfl]) (hdst.trans hd) fun n' e' hn' hlt hS hd' => ?_
      rw [Nat.zero_add, hset, if_neg (by omega)] at hS
      obtain ⟨o', ho', hd2⟩ := hdn hn'
      rcases hpair hlt ho ho' with hb | hap
      · rw [clo_listed hc n' hb hS] at hunf; cases hunf
      · exact (Oper.apart_spec hap).2.1 t hd (hd2 ▸ hd')
    · rw [if_neg hd]
      refine lastV_congr es 0 _ fun n e' hn hd' => ?_
      rw [Nat.zero_add, hset, if_neg]
      rintro rfl
      rw [hei] at hn
      cases hn
      exact hd (hdst ▸ hd')
  have hmem : (fun b => lastM (fun j => (l.setIfInBounds i true).getD j false) b 0 es (st0.mem b)) = e.mem (fun b => lastM (fun j => l.getD j false) b 0 es (st0.mem b)) := by
    funext b
    rw [Evt.mem_at]
    have hsame : (∀ k, e.wr ≠ some (b, k)) → lastM (fun j => (l.setIfInBounds i true).getD j false) b 0 es (st0.mem b) = lastM (fun j => l.getD j false) b 0 es (st0.mem b) := fun hne =>
      lastM_congr es 0 _ fun n e' k hn hw' => by
        rw [Nat.zero_add, hset, if_neg]
        rintro rfl
        rw [hei] at hn
        cases hn
        exact hne k hw'
    cases hw : e.wr with
    | none => exact hsame (fun k hk => by rw [hw] at hk; cases hk)
    | some p =>
      obtain ⟨c, k⟩ := p
      simp only
      by_cases hcb : c = b
      · subst hcb
        rw [if_pos rfl]
        refine lastM_at es 0 i e _ hei (by rw [Nat.zero_add, hset, if_pos rfl]) hw fun n' e' k' hn' hlt hS hw' => ?_
        rw [Nat.zero_add, hset, if_neg (by omega)] at hS
        rcases hpairM hlt hei hn' with hap | hb
        · have hf := hap.2
          unfold farE at hf
          rw [hw'] at hf
          have hin : c ∈ e.foot := (one_spec hone).1 c k hw
          have := List.all_eq_true.1 hf c hin
          simp at this
        · rw [clo_listed hc n' hb hS] at hunf; cases hunf
      · rw [if_neg hcb]
        exact hsame (fun k' hk => by rw [hw] at hk; cases hk; exact hcb rfl)
  have hgrow : Grows (fun b => lastM (fun j => l.getD j false) b 0 es (st0.mem b)) (e.mem (fun b => lastM (fun j => l.getD j false) b 0 es (st0.mem b))) := fun b hb => by
    rw [Evt.mem_at]
    split
    · split
      · rfl
      · exact hb
    · exact hb
  have hgoal : ∀ m' w', Agree (fun b => lastM (fun j => l.getD j false) b 0 es (st0.mem b)) m m' → MR w0 m' (e.mem (fun b => lastM (fun j => l.getD j false) b 0 es (st0.mem b))) w' → e.v.ok (e.mem (fun b => lastM (fun j => l.getD j false) b 0 es (st0.mem b))) →
      DInv w0 N ops es st0 m0 (l.setIfInBounds i true) (a.put o.dst (e.v.den m')) w' := fun m' w' hag' hmr' hv => by
    refine ⟨by simpa using hsz, closed_set hc hi, m', hag.trans hgr hag', ?_⟩
    rw [htm, hmem]
    exact ⟨hmr', har.put hag' hgrow hdok hv, hgr.trans hgrow⟩
  unfold wpOp
  rw [ho]
  simp only
  rw [want_eq har.tm]
  have hwc := want_congr (tmps := fun t => lastV (fun i_1 => decide (i_1 < i)) t 0 es (st0.tmps t)) (tmps' := fun t => lastV (fun j => l.getD j false) t 0 es (st0.tmps t)) (ops := ops) (o := o) hlook
  rw [hwc]
  rcases (one_spec hone).2 with ⟨hw, hv, hwr⟩ | ⟨hw, f, hf, hnall, hfm, hnew, htouch⟩
  · rw [hw]
    simp only [Bool.false_eq_true, if_false]
    have hme : ∀ M : Mem, e.mem M = M := fun M => by unfold Evt.mem; rw [hwr]
    have := hgoal m w (Agree.refl _ _) (by rw [hme]; exact hmr) (by rw [hv]; exact ok_val _ _)
    rw [hv, den_val] at this
    exact this
  · rw [hw]
    simp only [if_true]
    refine .inl ?_
    have hρ : ∀ x ∈ o.op.operands, look (fun t => lastV (fun j => l.getD j false) t 0 es (st0.tmps t)) x = look (fun t => lastV (fun j => decide (j < i)) t 0 es (st0.tmps t)) x := fun x hx => by
      cases x with
      | tmp t => exact hlook t (List.mem_append_left _ (List.mem_filterMap.2 ⟨.tmp t, by simpa using hx, rfl⟩))
      | const v => rfl
      | global g => rfl
      | func g => rfl
    have hf' := evOp_congr (ρ' := look (fun t => lastV (fun j => l.getD j false) t 0 es (st0.tmps t))) (mem' := fun b => lastM (fun j => l.getD j false) b 0 es (st0.mem b)) hf hnall hρ (fun b hb => hfoot b (htouch b hb))
    refine op_sound hX hI hs hcall hf' (fun hk => ?_) (fun ⟨mm, nn, hh⟩ => absurd hh (hnall mm nn)) har.look_ok har.eval hmr ?_
    · obtain ⟨h1, h2⟩ := hnew hk
      show lastM (fun j => l.getD j false) (st0.next + i) 0 es (st0.mem (st0.next + i)) = none
      rw [hfoot _ h2]
      exact h1
    · intro m' w' hag' hmr' hv _ _
      rw [hfm] at hmr' hv
      exact hgoal m' w' hag' hmr' hv
theorem draw_any (hX : ExtSound P X) (hI : I w0) (hs : Stable I) (hcall : CallSound P I call) {es : List Evt} {st0 : St} {m0 : Nat → Nat} (hlen : es.length = ops.size)
    (hev : ∀ n o, ops[n]? = some o → ∃ e, es[n]? = some e ∧ evOne P X call ops N (fun t => lastV (fun i => decide (i < n)) t 0 es (st0.tmps t)) (fun b => lastM (fun i => decide (i < n)) b 0 es (st0.mem b)) (st0.next + n) o = some e)
    (hdo : depsOk ops.toList 0 = true) (hto : tmpsOk ops (cloL ops.toList []) = true) (hmo : memOk es (cloL ops.toList []) = true)
    (hQ : ∀ l a w, (∀ j, j < ops.size → l.getD j false = true) → DInv w0 N ops es st0 m0 l a w → Q .normal a w) : ∀ (fuel : Nat) (l : Array Bool) (a : Act) (w : World), l.toList.countP (fun b => b) + fuel = ops.size → DInv w0 N ops es st0 m0 l a w → wpAny P .any ops Q fuel l a w
  | 0, l, a, w, hcnt, h => by
    have hall : ∀ j, j < ops.size → l.getD j false = true := fun j hj => by
      have hsz := h.1
      have h1 : l.toList.countP (fun b => b) = l.toList.length := by rw [Array.length_toList]; omega
      have h2 := List.countP_eq_length.1 h1
      have hj' : j < l.size := by omega
      rw [Array.getD_eq_getD_getElem?, Array.getElem?_eq_getElem hj']
      exact h2 _ (by simp)
    refine ⟨?_, hQ l a w hall h⟩
    refine List.eq_nil_iff_forall_not_mem.2 fun i hi => ?_
    obtain ⟨hun, o, ho, _⟩ := mem_ready.1 hi
    have hilt := (Array.getElem?_eq_some_iff.1 ho).1
    have h3 := hall i hilt
    have : i < l.size := by have := h.1; omega
    rw [Array.getD_eq_getD_getElem?, Array.getElem?_eq_getElem this] at hun h3
    simp at hun h3
    rw [hun] at h3
    cases h3
  | fuel + 1, l, a, w, hcnt, h => by
    refine ⟨fun hr => hQ l a w (fun j hj => ?_) h, fun i hi => ?_⟩
    · cases hq : l.getD j false with
      | true => rfl
      | false => exact absurd hr (ready_some hdo h.1 j hj hq)
    · refine wpOp_mono ?_ (draw_step hX hI hs hcall hlen hev hto hmo hi h)
      intro a' w' h'
      refine draw_any hX hI hs hcall hlen hev hdo hto hmo hQ fuel _ a' w' ?_ h'
      obtain ⟨hun, o, ho, _⟩ := mem_ready.1 hi
      have hilt := (Array.getElem?_eq_some_iff.1 ho).1
      have hil : i < l.toList.length := by have := h.1; rw [Array.length_toList]; omega
      have hli : l.toList[i] = false := by
        have : i < l.size := by simpa using hil
        rw [Array.getD_eq_getD_getElem?, Array.getElem?_eq_getElem this] at hun
        simpa using hun
      rw [Array.toList_setIfInBounds, List.countP_set hil, hli]
      simp only [Bool.false_eq_true, if_false, if_true]
      omega
/-- A region that draws, walked in the text's order. -/
theorem draw_sound (hmix : P.follows .mixedOrders = true) (hX : ExtSound P X) (hI : I w0) (hs : Stable I) (hcall : CallSound P I call) {rid : Nat} {st st' : St} {m : Nat → Nat} {a : Act} {w : World} (h : evDraw P X call ops N st = some st') (hr : SR w0 N m st a w)
    (k : ∀ m' a' w', Later st m st' m' → SR w0 N m' st' a' w' → Q .normal a' w') : (Code.region rid ops true).wp P Q a w := by
  unfold evDraw at h
  split at h
  · rename_i es tmps' mem' hes
    cases hck : (depsOk ops.toList 0 && tmpsOk ops (cloL ops.toList []) && memOk es (cloL ops.toList []) && wrOk es (st.next + ops.size)) with
    | false => rw [hck] at h; cases h
    | true =>
      rw [hck] at h
      simp only [cond_true, Option.some.injEq] at h
      subst h
      simp only [Bool.and_eq_true] at hck
      obtain ⟨⟨⟨hdo, hto⟩, hmo⟩, hwo⟩ := hck
      obtain ⟨r, h1, h2, h3, h4, h5⟩ := seq_spec _ _ _ _ _ _ _ _ hes
      rw [List.nil_append] at h1
      subst h1
      have hlen : es.length = ops.size := by rw [h2, Array.length_toList]
      have hev : ∀ n o, ops[n]? = some o → ∃ e, es[n]? = some e ∧ evOne P X call ops N (fun t => lastV (fun i => decide (i < n)) t 0 es (st.tmps t)) (fun b => lastM (fun i => decide (i < n)) b 0 es (st.mem b)) (st.next + n) o = some e := fun n o hn => h5 n o (by simpa using hn)
      have hfill : ∀ (S : Nat → Bool), (∀ j, j < ops.size → S j = true) → (∀ t, lastV S t 0 es (st.tmps t) = tmps' t) ∧ (∀ b, lastM S b 0 es (st.mem b) = mem' b) := fun S hS => by
        refine ⟨fun t => ?_, fun b => ?_⟩
        · rw [h3]
          exact lastV_congr es 0 _ fun n e hn _ => by rw [Nat.zero_add]; exact hS n (by rw [← hlen]; exact (List.getElem?_eq_some_iff.1 hn).1)
        · rw [h4]
          exact lastM_congr es 0 _ fun n e k hn _ => by rw [Nat.zero_add]; exact hS n (by rw [← hlen]; exact (List.getElem?_eq_some_iff.1 hn).1)
      have hnone : ∀ (S : Nat → Bool), (∀ j, S j = false) → (∀ t, lastV S t 0 es (st.tmps t) = st.tmps t) ∧ (∀ b, lastM S b 0 es (st.mem b) = st.mem b) := fun S hS => by
        have e1 : S = fun _ => false := funext hS
        subst e1
        refine ⟨fun t => ?_, fun b => ?_⟩
        · have : ∀ (q : List Evt) (j : Nat) (d : SV), lastV (fun _ => false) t j q d = d := by
            intro q
            induction q with
            | nil => intro j d; rfl
            | cons y q ih => intro j d; simp [lastV, ih]
          exact this _ _ _
        · have : ∀ (q : List Evt) (j : Nat) (d : Option Blk), lastM (fun _ => false) b j q d = d := by
            intro q
            induction q with
            | nil => intro j d; rfl
            | cons y q ih =>
              intro j d
              simp only [lastM, Bool.false_eq_true, false_and, if_false]
              rw [ih]
              split <;> rfl
          exact this _ _ _
      refine wp_region_any hmix (draw_any hX hI hs hcall (st0 := st) (m0 := m) hlen hev hdo hto hmo ?_ ops.size _ a _ (by simp [List.countP_replicate]) ?_)
      · rintro l a' w' hall ⟨_, _, m', hag, hmr, har, hgr⟩
        obtain ⟨e1, e2⟩ := hfill (fun j => l.getD j false) hall
        have e1' : (fun t => lastV (fun j => l.getD j false) t 0 es (st.tmps t)) = tmps' := funext e1
        have e2' : (fun b => lastM (fun j => l.getD j false) b 0 es (st.mem b)) = mem' := funext e2
        rw [e2'] at hmr hgr
        rw [e1', e2'] at har
        refine k m' a' w' ⟨hag, hgr, Nat.le_add_right _ _⟩ ⟨hmr, har, fun b hb => ?_⟩
        show mem' b = none
        have hb : st.next + ops.size ≤ b := hb
        rw [h4, lastM_congr (S' := fun _ => false) es 0 _ (fun n e k hn hw => by
          have := List.all_eq_true.1 hwo e (List.mem_of_getElem? hn)
          rw [hw] at this
          have := Nat.le_of_ble_eq_true this
          omega), (hnone (fun _ => false) (fun _ => rfl)).2]
        exact hr.fresh b (by omega)
      · have hz : ∀ j, (Array.replicate ops.size false).getD j false = false := fun j => by
          simp only [Array.getD_eq_getD_getElem?, Array.getElem?_replicate]
          split <;> rfl
        obtain ⟨e1, e2⟩ := hnone (fun j => (Array.replicate ops.size false).getD j false) hz
        have e1' : (fun t => lastV (fun j => (Array.replicate ops.size false).getD j false) t 0 es (st.tmps t)) = st.tmps := funext e1
        have e2' : (fun b => lastM (fun j => (Array.replicate ops.size false).getD j false) b 0 es (st.mem b)) = st.mem := funext e2
        refine ⟨by simp, fun j o e hj => ?_, m, Agree.refl _ _, ?_⟩
        · rw [hz] at hj; cases hj
        · rw [e1', e2']
          exact ⟨hr.mr.drew, hr.ar, Grows.refl _⟩
  · cases h
end
end Go.Ev
