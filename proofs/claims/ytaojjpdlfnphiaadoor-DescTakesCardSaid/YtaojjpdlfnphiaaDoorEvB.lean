import Derived.Test.YtaojjpdlfnphiaaDoorEvA
set_option linter.unusedSimpArgs false
set_option linter.unusedVariables false
set_option linter.unusedSectionVars false
namespace Go.Ev
open Go.RowKit
structure St where
  tmps : Nat → SV
  mem : Mem
  next : Nat
def look (tmps : Nat → SV) : Operand → SV
  | .tmp t => tmps t
  | .const v => .val v
  | .global g => .val (.pointer (some ⟨g, 0, none⟩))
  | .func f => .val (.func (.func f) #[] #[])
def boolOf : SV → Option Bool
  | .val (.bool b) => some b
  | _ => none
def yieldS (ops : Array Oper) (tmps : Nat → SV) (j : Nat) : Option Bool :=
  match ops[j]? with
  | some oj => match oj.dst with
    | some t => boolOf (tmps t)
    | none => none
  | none => none
def wantS (ops : Array Oper) (tmps : Nat → SV) (o : Oper) : Bool :=
  match o.guard with
  | none => true
  | some (j, want) => match yieldS ops tmps j with
    | some b => match want with
      | true => b
      | false => !b
    | none => false
def dstOk (N : Nat) : Option Tmp → Bool
  | none => true
  | some d => Nat.blt d N
def putS (tmps : Nat → SV) : Option Tmp → SV → (Nat → SV)
  | none, _ => tmps
  | some d, v => upd tmps d v
def evOps (P : Program) (X : ExtFn) (call : CallFn) (ops : Array Oper) (N : Nat) : List Oper → St → Option St
  | [], st => some st
  | o :: r, st => bif dstOk N o.dst then
      bif wantS ops st.tmps o then
        match evOp P X call (look st.tmps) st.mem st.next o with
        | some (v, e) => evOps P X call ops N r ⟨putS st.tmps o.dst v, e.mem st.mem st.next, e.next st.next⟩
        | none => none
      else evOps P X call ops N r ⟨putS st.tmps o.dst (.val undef), st.mem, st.next⟩
    else none
/-! ### The activation behind -/
structure AR (N : Nat) (m : Nat → Nat) (tmps : Nat → SV) (mem : Mem) (a : Act) : Prop where
  size : a.tmps.size = N
  defers : a.defers = []
  tm : ∀ t, a.tmps.getD t undef = (tmps t).den m
  ok : ∀ t, (tmps t).ok mem
structure SR (w0 : World) (N : Nat) (m : Nat → Nat) (st : St) (a : Act) (w : World) : Prop where
  mr : MR w0 m st.mem w
  ar : AR N m st.tmps st.mem a
  fresh : ∀ b, st.next ≤ b → st.mem b = none
structure Later (st : St) (m : Nat → Nat) (st' : St) (m' : Nat → Nat) : Prop where
  agree : Agree st.mem m m'
  grows : Grows st.mem st'.mem
  le : st.next ≤ st'.next
theorem Later.refl (st : St) (m : Nat → Nat) : Later st m st m := ⟨Agree.refl _ _, Grows.refl _, Nat.le_refl _⟩
theorem Later.trans {s1 s2 s3 : St} {m1 m2 m3 : Nat → Nat} (h : Later s1 m1 s2 m2) (k : Later s2 m2 s3 m3) : Later s1 m1 s3 m3 :=
  ⟨h.agree.trans h.grows k.agree, h.grows.trans k.grows, Nat.le_trans h.le k.le⟩
section
variable {P : Program} {X : ExtFn} {call : CallFn} {I : World → Prop} {N : Nat} {m m' : Nat → Nat} {tmps : Nat → SV} {mem mem' : Mem} {a : Act} {ops : Array Oper} {o : Oper} {w0 w : World} {Q : Exit → Act → World → Prop}
theorem AR.eval (h : AR N m tmps mem a) (x : Operand) : a.eval x = (look tmps x).den m := by
  cases x with
  | tmp t => exact h.tm t
  | const v => exact (den_val _ _).symm
  | global g => exact (den_val _ _).symm
  | func f => exact (den_val _ _).symm
theorem AR.look_ok (h : AR N m tmps mem a) (x : Operand) : (look tmps x).ok mem := by
  cases x with
  | tmp t => exact h.ok t
  | const v => exact ok_val _ _
  | global g => exact ok_val _ _
  | func f => exact ok_val _ _
theorem AR.put (h : AR N m tmps mem a) (hag : Agree mem m m') (hg : Grows mem mem') {d : Option Tmp} (hd : dstOk N d = true) {v : SV} (hv : v.ok mem') : AR N m' (putS tmps d v) mem' (a.put d (v.den m')) := by
  cases d with
  | none => exact ⟨h.size, h.defers, fun t => by rw [show (a.put none (v.den m')) = a from rfl, h.tm t]; exact (SV.den_agree hag (h.ok t)).symm, fun t => SV.ok_grows hg (h.ok t)⟩
  | some d =>
    have hlt : d < N := Nat.le_of_ble_eq_true hd
    refine ⟨by simp [Act.put, h.size], h.defers, fun t => ?_, fun t => ?_⟩
    · show (a.tmps.setIfInBounds d (v.den m')).getD t undef = (upd tmps d v t).den m'
      by_cases e : t = d
      · subst e
        rw [upd_self]
        simp [h.size, hlt]
      · rw [upd_ne _ _ e]
        have h1 := h.tm t
        have h2 := SV.den_agree hag (h.ok t)
        rw [h2, ← h1]
        simp [Array.getElem?_setIfInBounds_ne (Ne.symm e)]
    · show (upd tmps d v t).ok mem'
      by_cases e : t = d
      · subst e; rw [upd_self]; exact hv
      · rw [upd_ne _ _ e]; exact SV.ok_grows hg (h.ok t)
theorem yield_eq (htm : ∀ t, a.tmps.getD t undef = (tmps t).den m) (j : Nat) : yielded ops a.tmps j = yieldS ops tmps j := by
  unfold yielded yieldS
  cases ops[j]? with
  | none => rfl
  | some oj =>
    simp only [Option.bind_some]
    cases oj.dst with
    | none => rfl
    | some t =>
      simp only [Option.bind_some]
      have := htm t
      rw [Array.getD_eq_getD_getElem?] at this
      cases hq : a.tmps[t]? with
      | none =>
        rw [hq] at this
        simp only [Option.getD_none] at this
        cases hs : tmps t with
        | val v => rw [hs, den_val] at this; subst this; rfl
        | _ => rfl
      | some u =>
        rw [hq] at this
        simp only [Option.getD_some] at this
        subst this
        cases hs : tmps t with
        | val v => simp only [den_val]; cases v <;> rfl
        | ptr b off => simp only [den_ptr]; rfl
        | slc b off n c => simp only [den_slc]; rfl
        | arr l => simp only [den_arr]; rfl
theorem want_eq (htm : ∀ t, a.tmps.getD t undef = (tmps t).den m) (o : Oper) : Region.wanted o (yielded ops a.tmps) = wantS ops tmps o := by
  unfold Region.wanted wantS
  cases o.guard with
  | none => rfl
  | some g =>
    obtain ⟨j, want⟩ := g
    simp only [yield_eq htm]
    cases yieldS ops tmps j with
    | none => rfl
    | some b => cases b <;> cases want <;> rfl
theorem ops_sound (hX : ExtSound P X) (hI : I w0) (hs : Stable I) (hcall : CallSound P I call) : ∀ (l : List Oper) (st st' : St) (m : Nat → Nat) (a : Act) (w : World), evOps P X call ops N l st = some st' → SR w0 N m st a w →
    (∀ m' a' w', Later st m st' m' → SR w0 N m' st' a' w' → Q .normal a' w') → wpList P ops Q l a w
  | [], st, st', m, a, w, h, hr, k => by
    simp only [evOps, Option.some.injEq] at h
    subst h
    exact k m a w (Later.refl _ _) hr
  | o :: r, st, st', m, a, w, h, hr, k => by
    unfold evOps at h
    cases hd : dstOk N o.dst with
    | false => rw [hd] at h; cases h
    | true =>
      rw [hd] at h
      simp only [cond_true] at h
      unfold wpList
      rw [want_eq hr.ar.tm]
      cases hw : wantS ops st.tmps o with
      | true =>
        rw [hw] at h
        simp only [cond_true] at h
        simp only [if_true]
        split at h
        · rename_i v e he
          refine .inl (op_sound hX hI hs hcall he (fun _ => hr.fresh _ (Nat.le_refl _)) (fun _ => hr.fresh) hr.ar.look_ok hr.ar.eval hr.mr ?_)
          intro m' w' hag hmr hv hg hall
          have hf := hall hr.fresh
          exact ops_sound hX hI hs hcall r _ st' m' _ w' h ⟨hmr, hr.ar.put hag hg hd hv, hf.1⟩ (fun m2 a2 w2 hl hr2 => k m2 a2 w2 (Later.trans ⟨hag, hg, hf.2⟩ hl) hr2)
        · cases h
      | false =>
        rw [hw] at h
        simp only [cond_false] at h
        simp only [Bool.false_eq_true, if_false]
        exact ops_sound hX hI hs hcall r _ st' m _ w h ⟨hr.mr, (den_val m undef) ▸ hr.ar.put (v := .val undef) (Agree.refl _ _) (Grows.refl _) hd (ok_val _ _), hr.fresh⟩ (fun m2 a2 w2 hl hr2 => k m2 a2 w2 ⟨hl.agree, hl.grows, hl.le⟩ hr2)
end
/-! ### A region that draws its order -/
structure Evt where
  dst : Option Tmp
  v : SV
  wr : Option (Nat × Blk)
  foot : List Nat
def touchS (tmps : Nat → SV) (o : Oper) : List Nat :=
  match o.op with
  | .load _ x => match look tmps x with
    | .ptr b _ => [b]
    | _ => []
  | .store _ x _ => match look tmps x with
    | .ptr b _ => [b]
    | _ => []
  | _ => []
def effEvt (mem : Mem) (id : Nat) (d : Option Tmp) (t : List Nat) (v : SV) : Eff → Option Evt
  | .non => some ⟨d, v, none, t⟩
  | .new k => match mem id with
    | none => some ⟨d, v, some (id, k), id :: t⟩
    | some _ => none
  | .put b k => some ⟨d, v, some (b, k), b :: t⟩
  | .all _ _ => none
def evOne (P : Program) (X : ExtFn) (call : CallFn) (ops : Array Oper) (N : Nat) (tmps : Nat → SV) (mem : Mem) (id : Nat) (o : Oper) : Option Evt :=
  bif dstOk N o.dst then
    bif wantS ops tmps o then
      match evOp P X call (look tmps) mem id o with
      | some (v, e) => effEvt mem id o.dst (touchS tmps o) v e
      | none => none
    else some ⟨o.dst, .val undef, none, []⟩
  else none
def Evt.mem (e : Evt) (mem : Mem) : Mem :=
  match e.wr with
  | none => mem
  | some (b, k) => upd mem b (some k)
def evSeq (P : Program) (X : ExtFn) (call : CallFn) (ops : Array Oper) (N : Nat) : List Oper → Nat → (Nat → SV) → Mem → List Evt → Option (List Evt × (Nat → SV) × Mem)
  | [], _, tmps, mem, acc => some (acc, tmps, mem)
  | o :: r, id, tmps, mem, acc => match evOne P X call ops N tmps mem id o with
    | some e => evSeq P X call ops N r (id + 1) (putS tmps e.dst e.v) (e.mem mem) (acc ++ [e])
    | none => none
def maskOf (done : List Nat) : List Edge → Nat
  | [] => 0
  | e :: r => bif Region.binds .any e then (2 ^ e.on ||| done.getD e.on 0) ||| maskOf done r else maskOf done r
def cloL : List Oper → List Nat → List Nat
  | [], done => done
  | o :: r, done => cloL r (done ++ [maskOf done o.after.toList])
def depsOk : List Oper → Nat → Bool
  | [], _ => true
  | o :: r, i => o.after.toList.all (fun e => Nat.blt e.on i) && depsOk r (i + 1)
def tmpsOk (ops : Array Oper) (clo : List Nat) : Bool :=
  (List.range ops.size).all fun j => (List.range j).all fun i => (clo.getD j 0).testBit i || match ops[i]?, ops[j]? with
    | some x, some y => Oper.apart ops x y
    | _, _ => true
def farE (x y : Evt) : Bool :=
  match x.wr with
  | none => true
  | some (b, _) => y.foot.all fun c => !(Nat.beq c b)
def memOk (es : List Evt) (clo : List Nat) : Bool :=
  (List.range es.length).all fun j => (List.range j).all fun i => match es[i]?, es[j]? with
    | some x, some y => (farE x y && farE y x) || (clo.getD j 0).testBit i
    | _, _ => true
def wrOk (es : List Evt) (n : Nat) : Bool := es.all fun e => match e.wr with
  | some (c, _) => Nat.blt c n
  | none => true
def evDraw (P : Program) (X : ExtFn) (call : CallFn) (ops : Array Oper) (N : Nat) (st : St) : Option St :=
  match evSeq P X call ops N ops.toList st.next st.tmps st.mem [] with
  | some (es, tmps, mem) => bif depsOk ops.toList 0 && tmpsOk ops (cloL ops.toList []) && memOk es (cloL ops.toList []) && wrOk es (st.next + ops.size) then some ⟨tmps, mem, st.next + ops.size⟩ else none
  | none => none
/-- What is there when the events of a set have come up. -/
def lastV (S : Nat → Bool) (t : Nat) : Nat → List Evt → SV → SV
  | _, [], d => d
  | i, e :: r, d => lastV S t (i + 1) r (if S i = true ∧ e.dst = some t then e.v else d)
def lastM (S : Nat → Bool) (b : Nat) : Nat → List Evt → Option Blk → Option Blk
  | _, [], d => d
  | i, e :: r, d => lastM S b (i + 1) r (match e.wr with
    | some (c, k) => if S i = true ∧ c = b then some k else d
    | none => d)
theorem lastV_congr {S S' : Nat → Bool} {t : Nat} : ∀ (es : List Evt) (i : Nat) (d : SV), (∀ n e, es[n]? = some e → e.dst = some t → S (i + n) = S' (i + n)) → lastV S t i es d = lastV S' t i es d
  | [], _, _, _ => rfl
  | e :: r, i, d, h => by
    have h0 := h 0 e rfl
    simp only [lastV]
    have : (if S i = true ∧ e.dst = some t then e.v else d) = (if S' i = true ∧ e.dst = some t then e.v else d) := by
      by_cases hd : e.dst = some t
      · rw [Nat.add_zero] at h0; rw [h0 hd]
      · simp [hd]
    rw [this]
    exact lastV_congr r (i + 1) _ fun n e' hn hd => by have := h (n + 1) e' hn hd; rwa [show i + (n + 1) = i + 1 + n by omega] at this
theorem lastM_congr {S S' : Nat → Bool} {b : Nat} : ∀ (es : List Evt) (i : Nat) (d : Option Blk), (∀ n e k, es[n]? = some e → e.wr = some (b, k) → S (i + n) = S' (i + n)) → lastM S b i es d = lastM S' b i es d
  | [], _, _, _ => rfl
  | e :: r, i, d, h => by
    have h0 := h 0 e
    simp only [lastM]
    have : (match e.wr with
      | some (c, k) => if S i = true ∧ c = b then some k else d
      | none => d) = (match e.wr with
      | some (c, k) => if S' i = true ∧ c = b then some k else d
      | none => d) := by
      cases hw : e.wr with
      | none => rfl
      | some p =>
        obtain ⟨c, k⟩ := p
        simp only
        by_cases hc : c = b
        · subst hc
          have := h0 k rfl hw
          rw [Nat.add_zero] at this
          rw [this]
        · simp [hc]
    rw [this]
    exact lastM_congr r (i + 1) _ fun n e' k hn hd => by have := h (n + 1) e' k hn hd; rwa [show i + (n + 1) = i + 1 + n by omega] at this
/-- The last one that has come up. -/
theorem lastV_at {S : Nat → Bool} {t : Nat} : ∀ (es : List Evt) (i n : Nat) (e : Evt) (d : SV), es[n]? = some e → S (i + n) = true → e.dst = some t → (∀ n' e', es[n']? = some e' → n < n' → S (i + n') = true → e'.dst ≠ some t) → lastV S t i es d = e.v
  | [], _, _, _, _, h, _, _, _ => by cases h
  | x :: r, i, 0, e, d, h, hS, hd, hl => by
    simp only [List.getElem?_cons_zero, Option.some.injEq] at h
    subst h
    rw [Nat.add_zero] at hS
    simp only [lastV]
    rw [if_pos ⟨hS, hd⟩]
    have : lastV S t (i + 1) r x.v = lastV (fun _ => false) t (i + 1) r x.v := lastV_congr r (i + 1) _ fun n' e' hn' hd' => by
      cases hq : S (i + 1 + n') with
      | false => rfl
      | true => exact absurd hd' (hl (n' + 1) e' hn' (by omega) (by rwa [show i + (n' + 1) = i + 1 + n' by omega]))
    rw [this]
    have : ∀ (l : List Evt) (j : Nat) (d : SV), lastV (fun _ => false) t j l d = d := by
      intro l
      induction l with
      | nil => intro j d; rfl
      | cons y l ih => intro j d; simp [lastV, ih]
    exact this _ _ _
  | x :: r, i, n + 1, e, d, h, hS, hd, hl => by
    simp only [lastV]
    exact lastV_at r (i + 1) n e _ h (by rwa [show i + 1 + n = i + (n + 1) by omega]) hd fun n' e' hn' hlt hS' => hl (n' + 1) e' hn' (by omega) (by rwa [show i + (n' + 1) = i + 1 + n' by omega])
theorem lastM_at {S : Nat → Bool} {b : Nat} {k : Blk} : ∀ (es : List Evt) (i n : Nat) (e : Evt) (d : Option Blk), es[n]? = some e → S (i + n) = true → e.wr = some (b, k) → (∀ n' e' k', es[n']? = some e' → n < n' → S (i + n') = true → e'.wr ≠ some (b, k')) → lastM S b i es d = some k
  | [], _, _, _, _, h, _, _, _ => by cases h
  | x :: r, i, 0, e, d, h, hS, hd, hl => by
    simp only [List.getElem?_cons_zero, Option.some.injEq] at h
    subst h
    rw [Nat.add_zero] at hS
    simp only [lastM, hd]
    rw [if_pos ⟨hS, trivial⟩]
    have : lastM S b (i + 1) r (some k) = lastM (fun _ => false) b (i + 1) r (some k) := lastM_congr r (i + 1) _ fun n' e' k' hn' hd' => by
      cases hq : S (i + 1 + n') with
      | false => rfl
      | true => exact absurd hd' (hl (n' + 1) e' k' hn' (by omega) (by rwa [show i + (n' + 1) = i + 1 + n' by omega]))
    rw [this]
    have : ∀ (l : List Evt) (j : Nat) (d : Option Blk), lastM (fun _ => false) b j l d = d := by
      intro l
      induction l with
      | nil => intro j d; rfl
      | cons y l ih =>
        intro j d
        simp only [lastM, Bool.false_eq_true, false_and, if_false]
        rw [ih]
        split <;> rfl
    exact this _ _ _
  | x :: r, i, n + 1, e, d, h, hS, hd, hl => by
    simp only [lastM]
    exact lastM_at r (i + 1) n e _ h (by rwa [show i + 1 + n = i + (n + 1) by omega]) hd fun n' e' k' hn' hlt hS' => hl (n' + 1) e' k' hn' (by omega) (by rwa [show i + (n' + 1) = i + 1 + n' by omega])
theorem putS_at (tmps : Nat → SV) (d : Option Tmp) (v : SV) (t : Nat) : putS tmps d v t = if d = some t then v else tmps t := by
  cases d with
  | none => simp [putS]
  | some d =>
    show upd tmps d v t = _
    by_cases h : t = d
    · subst h; simp [upd_self]
    · rw [upd_ne _ _ h, if_neg (fun e => h (Option.some.inj e).symm)]
theorem Evt.mem_at (e : Evt) (mem : Mem) (b : Nat) : e.mem mem b = match e.wr with
    | some (c, k) => if c = b then some k else mem b
    | none => mem b := by
  unfold Evt.mem
  cases e.wr with
  | none => rfl
  | some p =>
    obtain ⟨c, k⟩ := p
    simp only
    by_cases h : b = c
    · subst h; simp [upd_self]
    · rw [upd_ne _ _ h, if_neg (Ne.symm h)]
/-- The events of the text's order, each seen from where the text has come. -/
theorem seq_spec {P : Program} {X : ExtFn} {call : CallFn} {ops : Array Oper} {N : Nat} : ∀ (l : List Oper) (id : Nat) (tmps : Nat → SV) (mem : Mem) (acc es : List Evt) (tmps' : Nat → SV) (mem' : Mem),
    evSeq P X call ops N l id tmps mem acc = some (es, tmps', mem') → ∃ r, es = acc ++ r ∧ r.length = l.length ∧ (∀ t, tmps' t = lastV (fun _ => true) t 0 r (tmps t)) ∧ (∀ b, mem' b = lastM (fun _ => true) b 0 r (mem b)) ∧
      ∀ n o, l[n]? = some o → ∃ e, r[n]? = some e ∧ evOne P X call ops N (fun t => lastV (fun i => decide (i < n)) t 0 r (tmps t)) (fun b => lastM (fun i => decide (i < n)) b 0 r (mem b)) (id + n) o = some e
  | [], id, tmps, mem, acc, es, tmps', mem', h => by
    simp only [evSeq, Option.some.injEq, Prod.mk.injEq] at h
    obtain ⟨rfl, rfl, rfl⟩ := h
    exact ⟨[], by simp, rfl, fun _ => rfl, fun _ => rfl, fun n o hn => by simp at hn⟩
  | o :: l, id, tmps, mem, acc, es, tmps', mem', h => by
    unfold evSeq at h
    split at h
    · rename_i e he
      obtain ⟨r, h1, h2, h3, h4, h5⟩ := seq_spec l (id + 1) _ _ _ es tmps' mem' h
      have shV : ∀ (S : Nat → Bool) (t : Nat) (d : SV) (q : List Evt) (j : Nat), lastV S t (j + 1) q d = lastV (fun i => S (i + 1)) t j q d := by
        intro S t d q
        induction q generalizing d with
        | nil => intro j; rfl
        | cons y q ih => intro j; simp only [lastV]; rw [ih]
      have shM : ∀ (S : Nat → Bool) (b : Nat) (d : Option Blk) (q : List Evt) (j : Nat), lastM S b (j + 1) q d = lastM (fun i => S (i + 1)) b j q d := by
        intro S t d q
        induction q generalizing d with
        | nil => intro j; rfl
        | cons y q ih => intro j; simp only [lastM]; rw [ih]
      refine ⟨e :: r, by rw [h1, List.append_assoc]; rfl, by simp [h2], fun t => ?_, fun b => ?_, fun n o' hn => ?_⟩
      · rw [h3]
        simp only [lastV, true_and]
        rw [shV, putS_at]
      · rw [h4]
        simp only [lastM, true_and]
        rw [shM, Evt.mem_at]
      · cases n with
        | zero =>
          simp only [List.getElem?_cons_zero, Option.some.injEq] at hn
          subst hn
          refine ⟨e, rfl, ?_⟩
          have e1 : (fun t => lastV (fun i => decide (i < 0)) t 0 (e :: r) (tmps t)) = tmps := by
            funext t
            have : ∀ (q : List Evt) (j : Nat) (d : SV), lastV (fun i => decide (i < 0)) t j q d = d := by
              intro q
              induction q with
              | nil => intro j d; rfl
              | cons y q ih => intro j d; simp [lastV] at ih ⊢; exact ih _ _
            exact this _ _ _
          have e2 : (fun b => lastM (fun i => decide (i < 0)) b 0 (e :: r) (mem b)) = mem := by
            funext b
            have : ∀ (q : List Evt) (j : Nat) (d : Option Blk), lastM (fun i => decide (i < 0)) b j q d = d := by
              intro q
              induction q with
              | nil => intro j d; rfl
              | cons y q ih =>
                intro j d
                simp only [lastM, Nat.not_lt_zero, decide_false, Bool.false_eq_true, false_and, if_false] at ih ⊢
                rw [ih]
                split <;> rfl
            exact this _ _ _
          rw [e1, e2]
          exact he
        | succ n =>
          simp only [List.getElem?_cons_succ] at hn
          obtain ⟨e', h6, h7⟩ := h5 n o' hn
          refine ⟨e', h6, ?_⟩
          have e1 : (fun t => lastV (fun i => decide (i < n + 1)) t 0 (e :: r) (tmps t)) = (fun t => lastV (fun i => decide (i < n)) t 0 r (putS tmps e.dst e.v t)) := by
            funext t
            simp only [lastV, Nat.zero_lt_succ, decide_true, true_and]
            rw [shV, putS_at]
            simp only [Nat.add_lt_add_iff_right]
          have e2 : (fun b => lastM (fun i => decide (i < n + 1)) b 0 (e :: r) (mem b)) = (fun b => lastM (fun i => decide (i < n)) b 0 r (e.mem mem b)) := by
            funext b
            simp only [lastM, Nat.zero_lt_succ, decide_true, true_and]
            rw [shM, Evt.mem_at]
            simp only [Nat.add_lt_add_iff_right]
          rw [e1, e2, show id + (n + 1) = id + 1 + n by omega]
          exact h7
    · cases h
end Go.Ev
