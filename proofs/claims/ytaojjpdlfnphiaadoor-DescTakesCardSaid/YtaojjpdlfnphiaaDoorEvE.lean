import Derived.Test.YtaojjpdlfnphiaaDoorEvD
set_option linter.unusedSimpArgs false
set_option linter.unusedVariables false
set_option linter.unusedSectionVars false
namespace Go.Ev
/-! ### The same, handed on: what is still open stands outside -/
section
variable {R : Type}
/-- A Bool that is asked for is asked once: behind it the temporary holds the answer. -/
def splitK (tmps : Nat → SV) (t : Nat) (κ : (Nat → SV) → Option R) : Option R :=
  match tmps t with
  | .val (.bool b) => bif b then κ (upd tmps t (.val (.bool true))) else κ (upd tmps t (.val (.bool false)))
  | _ => κ tmps
theorem upd_same {α : Type} (f : Nat → α) (t : Nat) (x : α) (h : f t = x) : upd f t x = f := by
  funext j
  by_cases e : j = t
  · subst e; rw [upd_self, h]
  · rw [upd_ne _ _ e]
theorem splitK_eq (tmps : Nat → SV) (t : Nat) (κ : (Nat → SV) → Option R) : splitK tmps t κ = κ tmps := by
  unfold splitK
  split
  · rename_i b h
    cases b
    · rw [upd_same _ _ _ h]; rfl
    · rw [upd_same _ _ _ h]; rfl
  · rfl
def splitG (ops : Array Oper) (tmps : Nat → SV) (o : Oper) (κ : (Nat → SV) → Option R) : Option R :=
  match o.guard with
  | none => κ tmps
  | some (j, _) => match ops[j]? with
    | some oj => match oj.dst with
      | some t => splitK tmps t κ
      | none => κ tmps
    | none => κ tmps
theorem splitG_eq (ops : Array Oper) (tmps : Nat → SV) (o : Oper) (κ : (Nat → SV) → Option R) : splitG ops tmps o κ = κ tmps := by
  unfold splitG
  split
  · rfl
  · split
    · split
      · exact splitK_eq _ _ _
      · rfl
    · rfl
def splitX (tmps : Nat → SV) (x : Operand) (κ : (Nat → SV) → Option R) : Option R :=
  match x with
  | .tmp t => splitK tmps t κ
  | _ => κ tmps
theorem splitX_eq (tmps : Nat → SV) (x : Operand) (κ : (Nat → SV) → Option R) : splitX tmps x κ = κ tmps := by
  unfold splitX
  split
  · exact splitK_eq _ _ _
  · rfl
def splitP (tmps : Nat → SV) (o : Oper) (κ : (Nat → SV) → Option R) : Option R :=
  match o.op with
  | .pick c _ _ => splitX tmps c κ
  | _ => κ tmps
theorem splitP_eq (tmps : Nat → SV) (o : Oper) (κ : (Nat → SV) → Option R) : splitP tmps o κ = κ tmps := by
  unfold splitP
  split
  · exact splitX_eq _ _ _
  · rfl
def binVK (P : Program) (op : BinOp) (t : TypeId) (x y : Operand) (a b : Value) (κ : Value → Option R) : Option R :=
  bif isEq op && (isAggV a && isAggV b) then match cmpV P op t x y a b with
    | some v => κ v
    | none => none
  else match isF64 a, isF64 b with
    | some m, some n => bif isQuo op then (bif (Ieee.double.div m n).isSome then κ (.float .f64 ((Ieee.double.div m n).getD 0)) else none)
      else match pureRun P (do eqGuard op t x y a b; binOp op t a b) with
        | some v => κ v
        | none => none
    | _, _ => match pureRun P (do eqGuard op t x y a b; binOp op t a b) with
      | some v => κ v
      | none => none
theorem binVK_eq (P : Program) (op : BinOp) (t : TypeId) (x y : Operand) (a b : Value) (κ : Value → Option R) : binVK P op t x y a b κ = (binV P op t x y a b).bind κ := by
  unfold binVK binV
  cases (isEq op && (isAggV a && isAggV b)) with
  | true => simp only [cond_true]; cases cmpV P op t x y a b <;> rfl
  | false =>
    simp only [cond_false]
    have hpl : (match pureRun P (do eqGuard op t x y a b; binOp op t a b) with
        | some v => κ v
        | none => none) = (pureRun P (do eqGuard op t x y a b; binOp op t a b)).bind κ := by
      cases pureRun P (do eqGuard op t x y a b; binOp op t a b) <;> rfl
    cases isF64 a with
    | none => exact hpl
    | some m =>
      cases isF64 b with
      | none => exact hpl
      | some n =>
        simp only
        cases isQuo op with
        | false => exact hpl
        | true =>
          simp only [cond_true, quoV]
          cases (Ieee.double.div m n).isSome <;> rfl
abbrev CallK (R : Type) := FuncId → List SV → Mem → Nat → (SV → Mem → Nat → Option R) → Option R
def inCallK (call : CallK R) (f : FuncId) (args : List SV) (mem : Mem) (id : Nat) (κ : SV → Eff → Option R) : Option R :=
  bif args.all SV.isVal then call f args (fun _ => none) 0 (fun v _ _ => match v with
    | .val u => κ (.val u) .non
    | _ => none)
  else call f args mem id (fun v m n => κ v (.all m n))
def doCallK (P : Program) (X : ExtFn) (call : CallK R) (f : FuncId) (args : List SV) (mem : Mem) (id : Nat) (κ : SV → Eff → Option R) : Option R :=
  match X f with
  | some g => match vals? args with
    | some vs => match g vs with
      | some v => κ (.val v) .non
      | none => none
    | none => none
  | none => bif enters P f then inCallK call f args mem id κ else none
def evGenK (P : Program) (call : CallK R) (ρ : Operand → SV) (mem : Mem) (id : Nat) (o : Oper) (κ : SV → Eff → Option R) : Option R :=
  bif o.op.operands.toList.all (fun x => (ρ x).isVal) && noSelect o.op then
    match pureRun P (execOp (fun x => (ρ x).un) o) with
    | some (.value v) => κ (.val v) .non
    | some .skip => κ (.val undef) .non
    | some (.enter f args) => inCallK call f (args.toList.map .val) mem id κ
    | _ => none
  else none
def evOpK (P : Program) (X : ExtFn) (call : CallK R) (ρ : Operand → SV) (mem : Mem) (id : Nat) (o : Oper) (κ : SV → Eff → Option R) : Option R :=
  match o.op with
  | .move x => κ (ρ x) .non
  | .assign x => κ (ρ x) .non
  | .pick c a b => match ρ c with
    | .val (.bool t) => bif t then κ (ρ a) .non else κ (ρ b) .non
    | _ => none
  | .alloc t => match pureRun P (zeroValue t) with
    | some z => κ (.ptr id 0) (.new ⟨t, (SV.val z).cells⟩)
    | none => none
  | .box t x => κ (.ptr id 0) (.new ⟨t, (ρ x).cells⟩)
  | .load t x => match ρ x with
    | .ptr b off => match mem b with
      | some k => match evLoad P t k off with
        | some v => κ v .non
        | none => none
      | none => none
    | _ => none
  | .store t x y => match ρ x with
    | .ptr b off => match mem b with
      | some k => match evStore P t k off (ρ y) with
        | some k' => κ (.val undef) (.put b k')
        | none => none
      | none => none
    | _ => none
  | .fieldAddr s x i => match ρ x with
    | .ptr b off => match fieldOff P s i with
      | some d => κ (.ptr b (off + d)) .non
      | none => none
    | _ => none
  | .nilCheck x => match ρ x with
    | .ptr b off => κ (.ptr b off) .non
    | _ => evGenK P call ρ mem id o κ
  | .call c => match c.callee with
    | .value (.func f) => doCallK P X call f (c.args.toList.map ρ) mem id κ
    | .builtin b => match lenOf P b c.argTypes (c.args.toList.map ρ) with
      | some v => κ v .non
      | none => evGenK P call ρ mem id o κ
    | _ => evGenK P call ρ mem id o κ
  | .binOp op t x y _ => match ρ x with
    | .val a => match ρ y with
      | .val b => binVK P op t x y a b fun v => κ (.val v) .non
      | _ => none
    | _ => none
  | .build t ps => bif (partsS ρ ps).all (fun p => p.2.isVal) then evGenK P call ρ mem id o κ else match buildArr P t (partsS ρ ps) with
    | some v => κ v .non
    | none => none
  | .buildSlice t n ps => match buildRow P t n (partsS ρ ps) with
    | some k => κ (.slc id 0 n n) (.new k)
    | none => none
  | .indexAddr t x i => match idxAddr P t (ρ x) (ρ i) with
    | some v => κ v .non
    | none => none
  | _ => evGenK P call ρ mem id o κ
def evOpsK (P : Program) (X : ExtFn) (call : CallK R) (ops : Array Oper) (N : Nat) : List Oper → St → (St → Option R) → Option R
  | [], st, κ => κ st
  | o :: r, st, κ => bif dstOk N o.dst then
      splitG ops st.tmps o fun tm => bif wantS ops tm o then
        splitP tm o fun tm => evOpK P X call (look tm) st.mem st.next o fun v e => evOpsK P X call ops N r ⟨putS tm o.dst v, e.mem st.mem st.next, e.next st.next⟩ κ
      else evOpsK P X call ops N r ⟨putS tm o.dst (.val undef), st.mem, st.next⟩ κ
    else none
def evOneK (P : Program) (X : ExtFn) (call : CallK R) (ops : Array Oper) (N : Nat) (tmps : Nat → SV) (mem : Mem) (id : Nat) (o : Oper) (κ : (Nat → SV) → Evt → Option R) : Option R :=
  bif dstOk N o.dst then
    splitG ops tmps o fun tm => bif wantS ops tm o then
      splitP tm o fun tm => evOpK P X call (look tm) mem id o fun v e => match effEvt mem id o.dst (touchS tm o) v e with
        | some t => κ tm t
        | none => none
    else κ tm ⟨o.dst, .val undef, none, []⟩
  else none
def evSeqK (P : Program) (X : ExtFn) (call : CallK R) (ops : Array Oper) (N : Nat) : List Oper → Nat → (Nat → SV) → Mem → List Evt → (List Evt → (Nat → SV) → Mem → Option R) → Option R
  | [], _, tmps, mem, acc, κ => κ acc tmps mem
  | o :: r, id, tmps, mem, acc, κ => evOneK P X call ops N tmps mem id o fun tm e => evSeqK P X call ops N r (id + 1) (putS tm e.dst e.v) (e.mem mem) (acc ++ [e]) κ
def evDrawK (P : Program) (X : ExtFn) (call : CallK R) (ops : Array Oper) (N : Nat) (st : St) (κ : St → Option R) : Option R :=
  evSeqK P X call ops N ops.toList st.next st.tmps st.mem [] fun es tmps mem =>
    bif depsOk ops.toList 0 && tmpsOk ops (cloL ops.toList []) && memOk es (cloL ops.toList []) && wrOk es (st.next + ops.size) then κ ⟨tmps, mem, st.next + ops.size⟩ else none
def bodyWithK (P : Program) (evk : Nat → Code → St → (Ex → St → Option R) → Option R) (fn : Func) (c : Code) (args : List SV) (mem : Mem) (id : Nat) (κ : SV → Mem → Nat → Option R) : Option R :=
  evk (args.length + (fn.ntmps - args.length)) c ⟨argS args, mem, id⟩ fun ex st => match ex with
    | .exit _ => none
    | .normal => match resS P fn st with
      | some v => κ v st.mem st.next
      | none => none
    | .ret => match resS P fn st with
      | some v => κ v st.mem st.next
      | none => none
def callWithK (P : Program) (G : GFn) (evk : Nat → Code → St → (Ex → St → Option R) → Option R) (f : FuncId) (args : List SV) (mem : Mem) (id : Nat) (κ : SV → Mem → Nat → Option R) : Option R :=
  match G f with
  | some g => match vals? args with
    | some vs => match g vs with
      | some v => v.run fun v => κ (.val v) mem id
      | none => none
    | none => none
  | none => match P.funcs[f]? with
    | some fn => match fn.body with
      | some c => bodyWithK P evk fn c args mem id κ
      | none => none
    | none => none
def evK (P : Program) (X : ExtFn) (G : GFn) : Nat → Nat → Code → St → (Ex → St → Option R) → Option R
  | 0, _, _, _, _ => none
  | k + 1, N, c, st, κ => match c with
    | .skip => κ .normal st
    | .label _ => κ .normal st
    | .ret => κ .ret st
    | .exit id => κ (.exit id) st
    | .seq a b => evK P X G k N a st fun ex st' => match ex with
      | .normal => evK P X G k N b st' κ
      | .exit i => κ (.exit i) st'
      | .ret => κ .ret st'
    | .cond c a b => splitX st.tmps c fun tm => match look tm c with
      | .val (.bool t) => bif t then evK P X G k N a ⟨tm, st.mem, st.next⟩ κ else evK P X G k N b ⟨tm, st.mem, st.next⟩ κ
      | _ => none
    | .block id c => evK P X G k N c st fun ex st' => match ex with
      | .normal => κ .normal st'
      | .exit i => bif Nat.beq i id then κ .normal st' else κ (.exit i) st'
      | .ret => κ .ret st'
    | .loop c => evK P X G k N c st fun ex st' => match ex with
      | .normal => evK P X G k N (.loop c) st' κ
      | .exit i => κ (.exit i) st'
      | .ret => κ .ret st'
    | .region _ ops draw => bif draw then evDrawK P X (callWithK P G (evK P X G k)) ops N st (κ .normal)
      else evOpsK P X (callWithK P G (evK P X G k)) ops N ops.toList st (κ .normal)
    | _ => none
def CallEq (call : CallFn) (callK : CallK R) : Prop := ∀ f args mem id κ, callK f args mem id κ = (call f args mem id).bind fun p => κ p.1 p.2.1 p.2.2
variable {P : Program} {X : ExtFn} {G : GFn} {call : CallFn} {callK : CallK R}
theorem bif_bind {α β : Type} (b : Bool) (x y : Option α) (f : α → Option β) : (bif b then x else y).bind f = bif b then x.bind f else y.bind f := by cases b <;> rfl
theorem inCallK_eq (h : CallEq call callK) (f : FuncId) (args : List SV) (mem : Mem) (id : Nat) (κ : SV → Eff → Option R) : inCallK callK f args mem id κ = (inCall call f args mem id).bind fun p => κ p.1 p.2 := by
  unfold inCallK inCall
  rw [bif_bind, h, h]
  congr 1
  · cases call f args (fun _ => none) 0 with
    | none => rfl
    | some p =>
      obtain ⟨v, m, n⟩ := p
      cases v <;> rfl
  · cases call f args mem id with
    | none => rfl
    | some p => rfl
theorem doCallK_eq (h : CallEq call callK) (f : FuncId) (args : List SV) (mem : Mem) (id : Nat) (κ : SV → Eff → Option R) : doCallK P X callK f args mem id κ = (doCall P X call f args mem id).bind fun p => κ p.1 p.2 := by
  unfold doCallK doCall
  cases X f with
  | some g =>
    simp only
    cases vals? args with
    | none => rfl
    | some vs =>
      simp only
      cases g vs <;> rfl
  | none =>
    simp only
    rw [bif_bind, inCallK_eq h]
    rfl
theorem evGenK_eq (h : CallEq call callK) (ρ : Operand → SV) (mem : Mem) (id : Nat) (o : Oper) (κ : SV → Eff → Option R) : evGenK P callK ρ mem id o κ = (evGen P call ρ mem id o).bind fun p => κ p.1 p.2 := by
  unfold evGenK evGen
  rw [bif_bind]
  congr 1
  cases pureRun P (execOp (fun x => (ρ x).un) o) with
  | none => rfl
  | some n =>
    cases n <;> first
      | rfl
      | exact inCallK_eq h _ _ _ _ _
theorem evOpK_eq (h : CallEq call callK) (ρ : Operand → SV) (mem : Mem) (id : Nat) (o : Oper) (κ : SV → Eff → Option R) : evOpK P X callK ρ mem id o κ = (evOp P X call ρ mem id o).bind fun p => κ p.1 p.2 := by
  obtain ⟨dst, op, type, pos, after, guard⟩ := o
  have hg := fun o => evGenK_eq (P := P) h ρ mem id o κ
  cases op
  case move x => rfl
  case assign x => rfl
  case pick c x y =>
    simp only [evOpK, evOp]
    cases ρ c with
    | val v =>
      cases v <;> first
        | rfl
        | (simp only; rw [bif_bind]; rfl)
    | _ => rfl
  case alloc t =>
    simp only [evOpK, evOp]
    cases pureRun P (zeroValue t) <;> rfl
  case box t x => rfl
  case load t x =>
    simp only [evOpK, evOp]
    cases ρ x with
    | val v => rfl
    | slc b o n c => rfl
    | arr l => rfl
    | ptr b off =>
      simp only
      cases mem b with
      | none => rfl
      | some k =>
        simp only
        cases evLoad P t k off <;> rfl
  case store t x y =>
    simp only [evOpK, evOp]
    cases ρ x with
    | val v => rfl
    | slc b o n c => rfl
    | arr l => rfl
    | ptr b off =>
      simp only
      cases mem b with
      | none => rfl
      | some k =>
        simp only
        cases evStore P t k off (ρ y) <;> rfl
  case fieldAddr s x i =>
    simp only [evOpK, evOp]
    cases ρ x with
    | val v => rfl
    | slc b o n c => rfl
    | arr l => rfl
    | ptr b off =>
      simp only
      cases fieldOff P s i <;> rfl
  case nilCheck x =>
    simp only [evOpK, evOp]
    cases ρ x with
    | ptr b off => rfl
    | _ => exact hg _
  case call c =>
    simp only [evOpK, evOp]
    obtain ⟨cal, as, ts⟩ := c
    cases cal with
    | value f =>
      cases f with
      | func g => exact doCallK_eq h _ _ _ _ _
      | _ => exact hg _
    | builtin b =>
      simp only
      cases lenOf P b ts (as.toList.map ρ) with
      | some v => rfl
      | none => exact hg _
    | invoke r n => exact hg _
  case build t ps =>
    simp only [evOpK, evOp]
    rw [bif_bind, hg]
    cases buildArr P t (partsS ρ ps) <;> rfl
  case buildSlice t n ps =>
    simp only [evOpK, evOp]
    cases buildRow P t n (partsS ρ ps) <;> rfl
  case indexAddr t x i =>
    simp only [evOpK, evOp]
    cases idxAddr P t (ρ x) (ρ i) <;> rfl
  case binOp bop t x y yt =>
    simp only [evOpK, evOp]
    cases ρ x with
    | val p =>
      cases ρ y with
      | val q =>
        simp only
        rw [binVK_eq]
        cases binV P bop t x y p q <;> rfl
      | _ => rfl
    | _ => rfl
  all_goals (simp only [evOpK, evOp]; exact hg _)
theorem evOpsK_eq (h : CallEq call callK) {ops : Array Oper} {N : Nat} : ∀ (l : List Oper) (st : St) (κ : St → Option R), evOpsK P X callK ops N l st κ = (evOps P X call ops N l st).bind κ
  | [], _, _ => rfl
  | o :: r, st, κ => by
    unfold evOpsK evOps
    rw [bif_bind, bif_bind, splitG_eq, splitP_eq, evOpK_eq h, evOpsK_eq h r]
    congr 2
    cases evOp P X call (look st.tmps) st.mem st.next o with
    | none => rfl
    | some p => exact evOpsK_eq h r _ κ
theorem evOneK_eq (h : CallEq call callK) {ops : Array Oper} {N : Nat} (tmps : Nat → SV) (mem : Mem) (id : Nat) (o : Oper) (κ : (Nat → SV) → Evt → Option R) : evOneK P X callK ops N tmps mem id o κ = (evOne P X call ops N tmps mem id o).bind (κ tmps) := by
  unfold evOneK evOne
  rw [bif_bind, bif_bind, splitG_eq, splitP_eq, evOpK_eq h]
  congr 2
  cases evOp P X call (look tmps) mem id o with
  | none => rfl
  | some p =>
    simp only [Option.bind_some]
    cases effEvt mem id o.dst (touchS tmps o) p.1 p.2 <;> rfl
theorem evSeqK_eq (h : CallEq call callK) {ops : Array Oper} {N : Nat} : ∀ (l : List Oper) (id : Nat) (tmps : Nat → SV) (mem : Mem) (acc : List Evt) (κ : List Evt → (Nat → SV) → Mem → Option R),
    evSeqK P X callK ops N l id tmps mem acc κ = (evSeq P X call ops N l id tmps mem acc).bind fun p => κ p.1 p.2.1 p.2.2
  | [], _, _, _, _, _ => rfl
  | o :: r, id, tmps, mem, acc, κ => by
    unfold evSeqK evSeq
    rw [evOneK_eq h]
    cases evOne P X call ops N tmps mem id o with
    | none => rfl
    | some e => exact evSeqK_eq h r _ _ _ _ κ
theorem evDrawK_eq (h : CallEq call callK) {ops : Array Oper} {N : Nat} (st : St) (κ : St → Option R) : evDrawK P X callK ops N st κ = (evDraw P X call ops N st).bind κ := by
  unfold evDrawK evDraw
  rw [evSeqK_eq h]
  cases evSeq P X call ops N ops.toList st.next st.tmps st.mem [] with
  | none => rfl
  | some p =>
    simp only [Option.bind_some]
    rw [bif_bind]
    rfl
theorem bodyWithK_eq {evk : Nat → Code → St → Option (Ex × St)} {evkK : Nat → Code → St → (Ex → St → Option R) → Option R} (h : ∀ N c st κ, evkK N c st κ = (evk N c st).bind fun p => κ p.1 p.2) (fn : Func) (c : Code) (args : List SV) (mem : Mem) (id : Nat) (κ : SV → Mem → Nat → Option R) :
    bodyWithK P evkK fn c args mem id κ = (bodyWith P evk fn c args mem id).bind fun p => κ p.1 p.2.1 p.2.2 := by
  unfold bodyWithK bodyWith
  rw [h]
  cases evk (args.length + (fn.ntmps - args.length)) c ⟨argS args, mem, id⟩ with
  | none => rfl
  | some p =>
    obtain ⟨ex, st⟩ := p
    cases ex with
    | exit i => rfl
    | normal =>
      simp only [Option.bind_some]
      cases resS P fn st <;> rfl
    | ret =>
      simp only [Option.bind_some]
      cases resS P fn st <;> rfl
theorem callWithK_eq {evk : Nat → Code → St → Option (Ex × St)} {evkK : Nat → Code → St → (Ex → St → Option R) → Option R} (h : ∀ N c st κ, evkK N c st κ = (evk N c st).bind fun p => κ p.1 p.2) : CallEq (callWith P G evk) (callWithK P G evkK) := by
  intro f args mem id κ
  unfold callWithK callWith
  cases G f with
  | some g =>
    simp only
    cases vals? args with
    | none => rfl
    | some vs =>
      simp only
      cases g vs with
      | none => rfl
      | some t =>
        simp only
        rw [DT.run_eq]
        cases t.val <;> rfl
  | none =>
    simp only
    cases P.funcs[f]? with
    | none => rfl
    | some fn =>
      simp only
      cases fn.body with
      | none => rfl
      | some c => exact bodyWithK_eq h _ _ _ _ _ _
theorem evK_eq : ∀ (k N : Nat) (c : Code) (st : St) (κ : Ex → St → Option R), evK P X G k N c st κ = (ev P X G k N c st).bind fun p => κ p.1 p.2
  | 0, _, _, _, _ => rfl
  | k + 1, N, c, st, κ => by
    have ih := fun N c st κ => evK_eq k N c st κ
    have hc := callWithK_eq (P := P) (G := G) (evk := ev P X G k) (evkK := evK P X G k) ih
    cases c with
    | skip => rfl
    | label l => rfl
    | ret => rfl
    | exit id => rfl
    | seq a b =>
      simp only [evK, ev]
      rw [ih]
      cases ev P X G k N a st with
      | none => rfl
      | some p =>
        obtain ⟨ex, st'⟩ := p
        cases ex with
        | normal => exact ih _ _ _ _
        | exit i => rfl
        | ret => rfl
    | cond c a b =>
      simp only [evK, ev]
      rw [splitX_eq]
      cases look st.tmps c with
      | val v =>
        cases v <;> first
          | rfl
          | (simp only; rw [bif_bind, ih, ih])
      | _ => rfl
    | block id c =>
      simp only [evK, ev]
      rw [ih]
      cases ev P X G k N c st with
      | none => rfl
      | some p =>
        obtain ⟨ex, st'⟩ := p
        cases ex with
        | normal => rfl
        | exit i => simp only [Option.bind_some]; rw [bif_bind]; rfl
        | ret => rfl
    | loop c =>
      simp only [evK, ev]
      rw [ih]
      cases ev P X G k N c st with
      | none => rfl
      | some p =>
        obtain ⟨ex, st'⟩ := p
        cases ex with
        | normal => exact ih _ _ _ _
        | exit i => rfl
        | ret => rfl
    | region id ops draw =>
      simp only [evK, ev]
      rw [evDrawK_eq hc, evOpsK_eq hc]
      cases draw with
      | true =>
        simp only [cond_true]
        cases evDraw P X (callWith P G (ev P X G k)) ops N st <;> rfl
      | false =>
        simp only [cond_false]
        cases evOps P X (callWith P G (ev P X G k)) ops N ops.toList st <;> rfl
    | rangeFunc f p x y => rfl
    | scope x => rfl
    | goto l => rfl
    | refuse why => rfl
end
def asVal : SV → Mem → Nat → Option Value
  | .val v, _, _ => some v
  | _, _, _ => none
/-- What a function of values makes of its arguments. -/
def evFn (P : Program) (X : ExtFn) (G : GFn) (k : Nat) (f : FuncId) (args : List Value) : Option Value :=
  match P.funcs[f]? with
  | some fn => match fn.body with
    | some c => bodyWithK P (evK P X G k) fn c (args.map .val) (fun _ => none) 0 asVal
    | none => none
  | none => none
theorem evFn_sound {P : Program} {X : ExtFn} {G : GFn} {I : World → Prop} (hmix : P.follows .mixedOrders = true) (hX : ExtSound P X) (hs : Stable I) (hG : GivenSound P I G) {k : Nat} {f : FuncId} {args : List Value} {v : Value}
    (h : evFn P X G k f args = some v) (w : World) (hI : I w) : Calls P f args.toArray w (fun e w' => e = .returned v ∧ RowKit.Below w.heap.size w w') := by
  unfold evFn at h
  split at h
  · rename_i fn hf
    split at h
    · rename_i c hc
      rw [bodyWithK_eq (fun N c st κ => evK_eq k N c st κ)] at h
      cases hb : bodyWith P (ev P X G k) fn c (args.map .val) (fun _ => none) 0 with
      | none => rw [hb] at h; cases h
      | some p =>
        rw [hb] at h
        obtain ⟨u, m, n⟩ := p
        simp only [Option.bind_some] at h
        cases u with
        | val u =>
          simp only [asVal, Option.some.injEq] at h
          subst h
          exact ev_given hmix hX hs hG hf hc hb w hI
        | _ => cases h
    · cases h
  · cases h
end Go.Ev
