/- A small evaluator of the model's code, and its soundness against the kit's rules: a function is walked by computing. -/
import Derived.Orders
import Derived.LoopN
import Derived.Below
import Derived.Laws.CopyRow
import Derived.Laws.Rows
import Derived.Laws.Cells
import Derived.Laws.Sem
import Derived.Laws.StructEq
import Derived.KernelRfl
set_option linter.unusedSimpArgs false
set_option linter.unusedVariables false
set_option linter.unusedSectionVars false
namespace Go.Ev
open Go.RowKit
/-- A value; a pointer or a slice into memory that this call has made; a row of such. -/
inductive SV where
  | val (v : Value)
  | ptr (b off : Nat)
  | slc (b off len cap : Nat)
  | arr (l : List SV)
mutual
def SV.den (m : Nat → Nat) : SV → Value
  | .val v => v
  | .ptr b o => .pointer (some ⟨m b, o, none⟩)
  | .slc b o n c => .slice (some ⟨m b, o, none⟩) n c
  | .arr l => .agg (SV.denL m l).toArray
def SV.denL (m : Nat → Nat) : List SV → List Value
  | [] => []
  | s :: r => SV.den m s :: SV.denL m r
end
theorem denL_eq (m : Nat → Nat) : ∀ (l : List SV), SV.denL m l = l.map (SV.den m)
  | [] => rfl
  | s :: r => by simp only [SV.denL, List.map_cons, denL_eq m r]
theorem den_val (m : Nat → Nat) (v : Value) : (SV.val v).den m = v := by simp only [SV.den]
theorem den_ptr (m : Nat → Nat) (b o : Nat) : (SV.ptr b o).den m = .pointer (some ⟨m b, o, none⟩) := by simp only [SV.den]
theorem den_slc (m : Nat → Nat) (b o n c : Nat) : (SV.slc b o n c).den m = .slice (some ⟨m b, o, none⟩) n c := by simp only [SV.den]
theorem den_arr (m : Nat → Nat) (l : List SV) : (SV.arr l).den m = .agg (l.map (SV.den m)).toArray := by simp only [SV.den, denL_eq]
def SV.cells : SV → List SV
  | .val v => v.cells.toList.map .val
  | .arr l => l
  | .ptr b o => [.ptr b o]
  | .slc b o n c => [.slc b o n c]
def SV.isVal : SV → Bool
  | .val _ => true
  | _ => false
def SV.un : SV → Value
  | .val v => v
  | _ => undef
def SV.one : SV → Bool
  | .val v => v.oneCell'
  | .ptr _ _ => true
  | .slc _ _ _ _ => true
  | .arr _ => false
structure Blk where
  ty : TypeId
  cells : List SV
abbrev Mem := Nat → Option Blk
def upd {α : Type} (f : Nat → α) (i : Nat) (x : α) : Nat → α := fun j => bif Nat.beq j i then x else f j
theorem upd_self {α : Type} (f : Nat → α) (i : Nat) (x : α) : upd f i x i = x := by simp [upd]
theorem upd_ne {α : Type} (f : Nat → α) {i j : Nat} (x : α) (h : j ≠ i) : upd f i x j = f j := by
  have : Nat.beq j i = false := by
    cases hb : Nat.beq j i with
    | false => rfl
    | true => exact absurd (Nat.eq_of_beq_eq_true hb) h
  simp [upd, this]
inductive Eff where
  | non
  | new (k : Blk)
  | put (b : Nat) (k : Blk)
  | all (mem : Mem) (next : Nat)
def Eff.mem (mem : Mem) (id : Nat) : Eff → Mem
  | .non => mem
  | .new k => upd mem id (some k)
  | .put b k => upd mem b (some k)
  | .all m _ => m
def Eff.next (id : Nat) : Eff → Nat
  | .non => id
  | .put _ _ => id
  | .new _ => id + 1
  | .all _ n => n
/-- What runs without memory. -/
def pureRun {α : Type} (P : Program) : Sem α → Option α
  | .pure a => some a
  | .program k => pureRun P (k P)
  | .mark _ k => pureRun P k
  | _ => none
theorem pureRun_run {α : Type} {P : Program} {v : α} : ∀ (s : Sem α), pureRun P s = some v → ∀ w, s.run P w = .ok v w
  | .pure a, h, w => by simp only [pureRun, Option.some.injEq] at h; subst h; rfl
  | .program k, h, w => by
    simp only [pureRun] at h
    have := pureRun_run (k P) h w
    simpa [Sem.run] using this
  | .mark _ k, h, w => by
    simp only [pureRun] at h
    have := pureRun_run k h w
    simpa [Sem.run] using this
  | .load .., h, _ | .store .., h, _ | .new .., h, _ | .shape .., h, _ | .freeze .., h, _ | .frozen .., h, _ | .getObj .., h, _ | .setObj .., h, _ | .choose .., h, _ | .sys .., h, _ | .halt _, h, _ => by simp [pureRun] at h
def vals? : List SV → Option (List Value)
  | [] => some []
  | .val v :: r => match vals? r with
    | some l => some (v :: l)
    | none => none
  | .ptr _ _ :: _ => none
  | .slc _ _ _ _ :: _ => none
  | .arr _ :: _ => none
theorem vals_den (m : Nat → Nat) : ∀ (l : List SV) {vs : List Value}, vals? l = some vs → l.map (SV.den m) = vs
  | [], vs, h => by simp only [vals?, Option.some.injEq] at h; subst h; rfl
  | .val v :: r, vs, h => by
    unfold vals? at h
    split at h
    · rename_i l hl
      simp only [Option.some.injEq] at h
      subst h
      simp [den_val, vals_den m r hl]
    · cases h
  | .ptr _ _ :: _, vs, h => by simp [vals?] at h
  | .slc _ _ _ _ :: _, vs, h => by simp [vals?] at h
  | .arr _ :: _, vs, h => by simp [vals?] at h
def evLoad (P : Program) (t : TypeId) (k : Blk) (off : Nat) : Option SV :=
  match pureRun P (isAgg t) with
  | some true => match pureRun P (sizeOf t) with
    | some n => bif Nat.beq ((k.cells.drop off).take n).length n then
        match vals? ((k.cells.drop off).take n) with
        | some vs => some (.val (.agg vs.toArray))
        | none => some (.arr ((k.cells.drop off).take n))
      else none
    | none => none
  | some false => k.cells[off]?
  | none => none
def evStore (P : Program) (t : TypeId) (k : Blk) (off : Nat) (x : SV) : Option Blk :=
  match pureRun P (sizeOf t) with
  | some n => bif Nat.beq x.cells.length n && Nat.ble (off + n) k.cells.length && x.cells.all SV.one then
      some { ty := k.ty, cells := k.cells.take off ++ x.cells ++ k.cells.drop (off + n) }
    else none
  | none => none
def fieldOff (P : Program) (s : TypeId) (i : Nat) : Option Nat :=
  match pureRun P (underlying s) with
  | some (.struct fs) => match fs[i]? with
    | some f => match pureRun P (sizeOf f.type) with
      | some (_ + 1) => some f.offset
      | _ => none
    | none => none
  | _ => none
/-- '==' of two structs, as one Bool. -/
def eqFld (P : Program) (eqk : TypeId → Value → Value → Option Bool) (xs ys : Array Value) : List Field → Option Bool
  | [] => some true
  | f :: fs => bif f.name == "_" then eqFld P eqk xs ys fs else
    match pureRun P (part f.type xs f.offset) with
    | some a => match pureRun P (part f.type ys f.offset) with
      | some b => match eqk f.type a b with
        | some r => match eqFld P eqk xs ys fs with
          | some s => some (r && s)
          | none => none
        | none => none
      | none => none
    | none => none
def isAggV : Value → Bool
  | .agg _ => true
  | _ => false
def eqB (P : Program) : Nat → TypeId → Value → Value → Option Bool
  | 0, _, _, _ => none
  | d + 1, t, x, y => bif isAggV x && isAggV y then
      match P.underlying t with
      | some (.struct fs) => bif P.stoodInHeld t then none else eqFld P (eqB P d) x.cells y.cells fs.toList
      | _ => none
    else pureRun P (Op.equalIn (d + 1) t x y)
theorem eqFld_run {P : Program} {d : Nat} {eqk : TypeId → Value → Value → Option Bool} (h : ∀ t x y b, eqk t x y = some b → ∀ w, (Op.equalIn d t x y).run P w = .ok b w) {xs ys : Array Value} : ∀ (fs : List Field) (b : Bool), eqFld P eqk xs ys fs = some b → ∀ w, (Op.eqFields d xs ys fs).run P w = .ok b w
  | [], b, hb, w => by simp only [eqFld, Option.some.injEq] at hb; subst hb; simp [Op.eqFields]
  | f :: fs, b, hb, w => by
    unfold eqFld at hb
    cases hn : (f.name == "_") with
    | true =>
      rw [hn] at hb
      have : ¬ f.name ≠ "_" := by simpa using hn
      rw [Op.eqFields, if_neg this]
      exact eqFld_run h fs b hb w
    | false =>
      rw [hn] at hb
      have hn' : f.name ≠ "_" := by simpa using hn
      simp only [cond_false] at hb
      split at hb
      · rename_i a ha
        split at hb
        · rename_i c hc
          split at hb
          · rename_i r hr
            split at hb
            · rename_i s hs
              simp only [Option.some.injEq] at hb
              subst hb
              rw [Op.eqFields]
              simp only [if_pos hn', Sem.run_bind, pureRun_run _ ha w, pureRun_run _ hc w, h _ _ _ _ hr w, Result.andThen_ok]
              cases r
              · simp
              · simpa using eqFld_run h fs s hs w
            · cases hb
          · cases hb
        · cases hb
      · cases hb
theorem eqB_run {P : Program} : ∀ (d : Nat) (t : TypeId) (x y : Value) (b : Bool), eqB P d t x y = some b → ∀ w, (Op.equalIn d t x y).run P w = .ok b w
  | 0, _, _, _, _, h, _ => by simp [eqB] at h
  | d + 1, t, x, y, b, h, w => by
    unfold eqB at h
    cases hc : (isAggV x && isAggV y) with
    | false => rw [hc] at h; exact pureRun_run _ h w
    | true =>
      rw [hc] at h
      simp only [cond_true] at h
      rw [Bool.and_eq_true] at hc
      split at h
      · rename_i fs hu
        cases hp : P.stoodInHeld t with
        | true => rw [hp] at h; cases h
        | false =>
          rw [hp] at h
          simp only [cond_false] at h
          have hf : P.fieldsOf t = fs := by simp [Program.fieldsOf, hu]
          cases x <;> simp only [isAggV, Bool.false_eq_true, false_and] at hc
          cases y <;> simp only [isAggV, Bool.false_eq_true, and_false] at hc
          rw [run_equalIn_struct (P := P) w d t _ _ (by rw [hf]; exact hu) hp, hf]
          exact eqFld_run (eqB_run d) _ _ h w
      · cases h
/-- What a comparison of structs gives. -/
def cmpV (P : Program) (op : BinOp) (t : TypeId) (x y : Operand) (a b : Value) : Option Value :=
  match pureRun P (eqGuard op t x y a b) with
  | some _ => match eqB P 10000 t a b with
    | some r => match op with
      | .eql => some (.bool r)
      | .neq => some (.bool (!r))
      | _ => none
    | none => none
  | none => none
theorem cmpV_run {P : Program} {op : BinOp} {t : TypeId} {x y : Operand} {xs ys : Array Value} {v : Value} (h : cmpV P op t x y (.agg xs) (.agg ys) = some v) (w : World) :
    ((do eqGuard op t x y (.agg xs) (.agg ys); binOp op t (.agg xs) (.agg ys)) : Sem Value).run P w = .ok v w := by
  unfold cmpV at h
  split at h
  · rename_i u hg
    split at h
    · rename_i r hr
      have hr' := eqB_run 10000 t _ _ r hr w
      split at h
      · simp only [Option.some.injEq] at h
        subst h
        rw [Sem.run_bind, pureRun_run _ hg w, Result.andThen_ok, run_eql_struct, hr']
        rfl
      · simp only [Option.some.injEq] at h
        subst h
        rw [Sem.run_bind, pureRun_run _ hg w, Result.andThen_ok, run_neq_struct, hr']
        rfl
      · cases h
    · cases h
  · cases h
/-- A quotient of floats that is a number, or an infinity. -/
def quoV (a b : Nat) : Option Value := bif (Ieee.double.div a b).isSome then some (.float .f64 ((Ieee.double.div a b).getD 0)) else none
def isF64 : Value → Option Nat
  | .float .f64 a => some a
  | _ => none
def isEq : BinOp → Bool
  | .eql => true
  | .neq => true
  | _ => false
def isQuo : BinOp → Bool
  | .quo => true
  | _ => false
/-- Operators on pairs of values that don't go by the plain run. -/
def binV (P : Program) (op : BinOp) (t : TypeId) (x y : Operand) (a b : Value) : Option Value :=
  bif isEq op && (isAggV a && isAggV b) then cmpV P op t x y a b
  else match isF64 a, isF64 b with
    | some m, some n => bif isQuo op then quoV m n else pureRun P (do eqGuard op t x y a b; binOp op t a b)
    | _, _ => pureRun P (do eqGuard op t x y a b; binOp op t a b)
theorem binV_run {P : Program} {op : BinOp} {t : TypeId} {x y : Operand} {a b v : Value} (h : binV P op t x y a b = some v) (w : World) :
    ((do eqGuard op t x y a b; binOp op t a b) : Sem Value).run P w = .ok v w := by
  unfold binV at h
  cases hc : (isEq op && (isAggV a && isAggV b)) with
  | true =>
    rw [hc] at h
    simp only [cond_true] at h
    simp only [Bool.and_eq_true] at hc
    obtain ⟨_, ha, hb⟩ := hc
    cases a <;> simp only [isAggV, Bool.false_eq_true] at ha
    cases b <;> simp only [isAggV, Bool.false_eq_true] at hb
    exact cmpV_run h w
  | false =>
    rw [hc] at h
    simp only [cond_false] at h
    split at h
    · rename_i m n hm hn
      cases hq : isQuo op with
      | false => rw [hq] at h; exact pureRun_run _ h w
      | true =>
        rw [hq] at h
        simp only [cond_true, quoV] at h
        cases hd : Ieee.double.div m n with
        | none => rw [hd] at h; cases h
        | some r =>
          rw [hd] at h
          simp only [Option.isSome_some, cond_true, Option.getD_some, Option.some.injEq] at h
          subst h
          cases op <;> simp only [isQuo, Bool.false_eq_true] at hq
          have ha : a = .float .f64 m := by
            unfold isF64 at hm
            split at hm
            · cases hm; rfl
            · cases hm
          have hb : b = .float .f64 n := by
            unfold isF64 at hn
            split at hn
            · cases hn; rfl
            · cases hn
          subst ha hb
          simp [eqGuard, binOp, Op.floatArith, FloatKind.format, hd]
    · exact pureRun_run _ h w
/-- Rows that are built part by part, in order. -/
def seqParts (size n : Nat) : List (Nat × SV) → Nat → Option (List SV)
  | [], i => bif Nat.beq i n then some [] else none
  | (j, s) :: r, i => bif Nat.beq j i && Nat.beq s.cells.length size then
      match seqParts size n r (i + 1) with
      | some cs => some (s.cells ++ cs)
      | none => none
    else none
def buildArr (P : Program) (t : TypeId) (parts : List (Nat × SV)) : Option SV :=
  match pureRun P (underlying t) with
  | some (.array n elem) => match pureRun P (sizeOf elem) with
    | some size => match pureRun P (zeroValue t) with
      | some z => bif Nat.beq z.cells.size (n * size) then
          match seqParts size n parts 0 with
          | some cs => some (.arr cs)
          | none => none
        else none
      | none => none
    | none => none
  | _ => none
def buildRow (P : Program) (t : TypeId) (len : Nat) (parts : List (Nat × SV)) : Option Blk :=
  match pureRun P (underlying t) with
  | some (.slice elem) => match pureRun P (sizeOf elem) with
    | some size => bif Nat.ble (len * size) 16777216 && !(Nat.beq (len * size) 0) then
        match pureRun P (zeroValue elem) with
        | some _ => match seqParts size len parts 0 with
          | some cs => some ⟨elem, cs⟩
          | none => none
        | none => none
      else none
    | none => none
  | _ => none
def idxAddr (P : Program) (t : TypeId) (x i : SV) : Option SV :=
  match i with
  | .val (.int _ n) => match x with
    | .slc b off len _ => match pureRun P (underlying t) with
      | some (.slice elem) => match pureRun P (sizeOf elem) with
        | some size => bif decide (0 ≤ n) && decide (n < len) then some (.ptr b (off + n.toNat * size)) else none
        | none => none
      | _ => none
    | .ptr b off => match pureRun P (underlying t) with
      | some (.array len elem) => match pureRun P (sizeOf elem) with
        | some size => bif decide (0 ≤ n) && decide (n < len) then some (.ptr b (off + n.toNat * size)) else none
        | none => none
      | _ => none
    | _ => none
  | _ => none
def partsS (ρ : Operand → SV) (ps : Array (Nat × Operand)) : List (Nat × SV) := ps.toList.map fun p => (p.1, ρ p.2)
def lenOf (P : Program) (b : Builtin) (ts : Array TypeId) (args : List SV) : Option SV :=
  match b with
  | .len => match args with
    | [.slc _ _ n _] => match ts[0]? with
      | some t => match pureRun P (underlying t) with
        | some (.slice _) => some (.val (.int .i64 n))
        | _ => none
      | none => none
    | _ => none
  | _ => none
abbrev CallFn := FuncId → List SV → Mem → Nat → Option (SV × Mem × Nat)
/-- Functions without a body that are one step. -/
abbrev ExtFn := FuncId → Option (List Value → Option Value)
def enters (P : Program) (f : FuncId) : Bool :=
  match P.funcs[f]? with
  | some fn => fn.body.isSome && !(fn.name == "runtime.NumGoroutine")
  | none => false
def inCall (call : CallFn) (f : FuncId) (args : List SV) (mem : Mem) (id : Nat) : Option (SV × Eff) :=
  bif args.all SV.isVal then
    match call f args (fun _ => none) 0 with
    | some (.val v, _, _) => some (.val v, .non)
    | _ => none
  else match call f args mem id with
    | some (v, mem', id') => some (v, .all mem' id')
    | none => none
def doCall (P : Program) (X : ExtFn) (call : CallFn) (f : FuncId) (args : List SV) (mem : Mem) (id : Nat) : Option (SV × Eff) :=
  match X f with
  | some g => match vals? args with
    | some vs => match g vs with
      | some v => some (.val v, .non)
      | none => none
    | none => none
  | none => bif enters P f then inCall call f args mem id else none
def noSelect : Op → Bool
  | .select _ _ => false
  | _ => true
def evGen (P : Program) (call : CallFn) (ρ : Operand → SV) (mem : Mem) (id : Nat) (o : Oper) : Option (SV × Eff) :=
  bif o.op.operands.toList.all (fun x => (ρ x).isVal) && noSelect o.op then
    match pureRun P (execOp (fun x => (ρ x).un) o) with
    | some (.value v) => some (.val v, .non)
    | some .skip => some (.val undef, .non)
    | some (.enter f args) => inCall call f (args.toList.map .val) mem id
    | _ => none
  else none
def evOp (P : Program) (X : ExtFn) (call : CallFn) (ρ : Operand → SV) (mem : Mem) (id : Nat) (o : Oper) : Option (SV × Eff) :=
  match o.op with
  | .move x => some (ρ x, .non)
  | .assign x => some (ρ x, .non)
  | .pick c a b => match ρ c with
    | .val (.bool t) => bif t then some (ρ a, .non) else some (ρ b, .non)
    | _ => none
  | .alloc t => match pureRun P (zeroValue t) with
    | some z => some (.ptr id 0, .new ⟨t, (SV.val z).cells⟩)
    | none => none
  | .box t x => some (.ptr id 0, .new ⟨t, (ρ x).cells⟩)
  | .load t x => match ρ x with
    | .ptr b off => match mem b with
      | some k => match evLoad P t k off with
        | some v => some (v, .non)
        | none => none
      | none => none
    | _ => none
  | .store t x y => match ρ x with
    | .ptr b off => match mem b with
      | some k => match evStore P t k off (ρ y) with
        | some k' => some (.val undef, .put b k')
        | none => none
      | none => none
    | _ => none
  | .fieldAddr s x i => match ρ x with
    | .ptr b off => match fieldOff P s i with
      | some d => some (.ptr b (off + d), .non)
      | none => none
    | _ => none
  | .nilCheck x => match ρ x with
    | .ptr b off => some (.ptr b off, .non)
    | _ => evGen P call ρ mem id o
  | .call c => match c.callee with
    | .value (.func f) => doCall P X call f (c.args.toList.map ρ) mem id
    | .builtin b => match lenOf P b c.argTypes (c.args.toList.map ρ) with
      | some v => some (v, .non)
      | none => evGen P call ρ mem id o
    | _ => evGen P call ρ mem id o
  | .binOp op t x y _ => match ρ x with
    | .val a => match ρ y with
      | .val b => match binV P op t x y a b with
        | some v => some (.val v, .non)
        | none => none
      | _ => none
    | _ => none
  | .build t ps => bif (partsS ρ ps).all (fun p => p.2.isVal) then evGen P call ρ mem id o else match buildArr P t (partsS ρ ps) with
    | some v => some (v, .non)
    | none => none
  | .buildSlice t n ps => match buildRow P t n (partsS ρ ps) with
    | some k => some (.slc id 0 n n, .new k)
    | none => none
  | .indexAddr t x i => match idxAddr P t (ρ x) (ρ i) with
    | some v => some (v, .non)
    | none => none
  | _ => evGen P call ρ mem id o

/-! ### The world behind -/
mutual
def SV.ok (mem : Mem) : SV → Prop
  | .val _ => True
  | .ptr b _ => (mem b).isSome = true
  | .slc b _ _ _ => (mem b).isSome = true
  | .arr l => SV.okL mem l
def SV.okL (mem : Mem) : List SV → Prop
  | [] => True
  | s :: r => SV.ok mem s ∧ SV.okL mem r
end
theorem okL_iff (mem : Mem) : ∀ (l : List SV), SV.okL mem l ↔ ∀ c ∈ l, c.ok mem
  | [] => by simp [SV.okL]
  | s :: r => by simp [SV.okL, okL_iff mem r]
theorem ok_val (mem : Mem) (v : Value) : (SV.val v).ok mem := by simp only [SV.ok]
theorem ok_ptr {mem : Mem} {b o : Nat} : (SV.ptr b o).ok mem ↔ (mem b).isSome = true := by simp only [SV.ok]
theorem ok_slc {mem : Mem} {b o n c : Nat} : (SV.slc b o n c).ok mem ↔ (mem b).isSome = true := by simp only [SV.ok]
theorem ok_arr {mem : Mem} {l : List SV} : (SV.arr l).ok mem ↔ ∀ c ∈ l, c.ok mem := by simp only [SV.ok, okL_iff]
def Agree (mem : Mem) (m m' : Nat → Nat) : Prop := ∀ b, (mem b).isSome = true → m' b = m b
theorem Agree.refl (mem : Mem) (m : Nat → Nat) : Agree mem m m := fun _ _ => rfl
mutual
theorem SV.den_agree {mem : Mem} {m m' : Nat → Nat} (h : Agree mem m m') : ∀ {s : SV}, s.ok mem → s.den m' = s.den m
  | .val v, _ => by rw [den_val, den_val]
  | .ptr b o, hs => by rw [den_ptr, den_ptr, h b (ok_ptr.1 hs)]
  | .slc b o n c, hs => by rw [den_slc, den_slc, h b (ok_slc.1 hs)]
  | .arr l, hs => by rw [SV.den, SV.den, SV.denL_agree h (by simpa only [SV.ok] using hs)]
theorem SV.denL_agree {mem : Mem} {m m' : Nat → Nat} (h : Agree mem m m') : ∀ {l : List SV}, SV.okL mem l → SV.denL m' l = SV.denL m l
  | [], _ => by simp only [SV.denL]
  | s :: r, hs => by
    simp only [SV.okL] at hs
    simp only [SV.denL, SV.den_agree h hs.1, SV.denL_agree h hs.2]
end
theorem map_agree {mem : Mem} {m m' : Nat → Nat} (h : Agree mem m m') {l : List SV} (hs : ∀ c ∈ l, c.ok mem) : l.map (SV.den m') = l.map (SV.den m) :=
  List.map_congr_left fun c hc => SV.den_agree h (hs c hc)
structure MR (w0 : World) (m : Nat → Nat) (mem : Mem) (w : World) : Prop where
  below : Below w0.heap.size w0 w
  blk : ∀ b k, mem b = some k → w0.heap.size ≤ m b ∧ w.heap[m b]? = some (.cells (k.cells.map (SV.den m)).toArray k.ty (0, 0)) ∧ ∀ c ∈ k.cells, c.ok mem
  inj : ∀ b b' k k', mem b = some k → mem b' = some k' → m b = m b' → b = b'
theorem MR.start (w : World) (m : Nat → Nat) : MR w m (fun _ => none) w := ⟨Below.refl _ _, fun _ _ h => (by cases h), fun _ _ _ _ h => (by cases h)⟩
def Grows (mem mem' : Mem) : Prop := ∀ b, (mem b).isSome = true → (mem' b).isSome = true
theorem Grows.refl (mem : Mem) : Grows mem mem := fun _ h => h
theorem Grows.trans {a b c : Mem} (h : Grows a b) (k : Grows b c) : Grows a c := fun i hi => k i (h i hi)
mutual
theorem SV.ok_grows {mem mem' : Mem} (h : Grows mem mem') : ∀ {s : SV}, s.ok mem → s.ok mem'
  | .val v, _ => ok_val _ _
  | .ptr b o, hs => ok_ptr.2 (h b (ok_ptr.1 hs))
  | .slc b o n c, hs => ok_slc.2 (h b (ok_slc.1 hs))
  | .arr l, hs => by
    simp only [SV.ok] at hs ⊢
    exact SV.okL_grows h hs
theorem SV.okL_grows {mem mem' : Mem} (h : Grows mem mem') : ∀ {l : List SV}, SV.okL mem l → SV.okL mem' l
  | [], _ => by simp only [SV.okL]
  | s :: r, hs => by
    simp only [SV.okL] at hs ⊢
    exact ⟨SV.ok_grows h hs.1, SV.okL_grows h hs.2⟩
end
theorem Agree.trans {mem mem' : Mem} {m m' m'' : Nat → Nat} (h : Agree mem m m') (g : Grows mem mem') (k : Agree mem' m' m'') : Agree mem m m'' := fun b hb => (k b (g b hb)).trans (h b hb)
theorem grows_upd (mem : Mem) (b : Nat) (k : Blk) : Grows mem (upd mem b (some k)) := fun i hi => by
  by_cases h : i = b
  · subst h; simp [upd_self]
  · rw [upd_ne _ _ h]; exact hi
theorem cells_ok {mem : Mem} {s : SV} (h : s.ok mem) : ∀ c ∈ s.cells, c.ok mem := by
  cases s with
  | val v =>
    intro c hc
    simp only [SV.cells, List.mem_map] at hc
    obtain ⟨x, _, rfl⟩ := hc
    exact ok_val _ _
  | arr l => exact ok_arr.1 h
  | _ =>
    intro c hc
    simp only [SV.cells, List.mem_singleton] at hc
    subst hc
    exact h
theorem cells_den (m : Nat → Nat) (s : SV) : s.cells.map (SV.den m) = (s.den m).cells.toList := by
  cases s with
  | val v =>
    simp only [SV.cells, den_val, List.map_map]
    have : (SV.den m ∘ SV.val) = id := funext fun x => den_val m x
    rw [this, List.map_id]
  | arr l => rw [den_arr]; simp [SV.cells, Value.cells]
  | ptr b o => rw [den_ptr]; simp [SV.cells, Value.cells, den_ptr]
  | slc b o n c => rw [den_slc]; simp [SV.cells, Value.cells, den_slc]
theorem MR.alloc {w0 : World} {m : Nat → Nat} {mem : Mem} {w : World} (h : MR w0 m mem w) {id : Nat} (hid : mem id = none) (t : TypeId) {cells : List SV} (hc : ∀ c ∈ cells, c.ok mem) :
    MR w0 (upd m id w.heap.size) (upd mem id (some ⟨t, cells⟩)) (w.alloc (.cells (cells.map (SV.den m)).toArray t (0, 0))) ∧ Agree mem m (upd m id w.heap.size) := by
  have hag : Agree mem m (upd m id w.heap.size) := fun b hb => by
    rw [upd_ne]
    rintro rfl
    rw [hid] at hb
    cases hb
  refine ⟨⟨h.below.alloc h.below.size _, ?_, ?_⟩, hag⟩
  · intro b k hb
    by_cases e : b = id
    · subst e
      rw [upd_self] at hb ⊢
      simp only [Option.some.injEq] at hb
      subst hb
      refine ⟨h.below.size, ?_, fun c hcc => SV.ok_grows (grows_upd _ _ _) (hc c hcc)⟩
      simp only []
      rw [map_agree hag hc]
      exact Go.heap_alloc_new w _
    · rw [upd_ne _ _ e] at hb ⊢
      obtain ⟨h1, h2, h3⟩ := h.blk b k hb
      refine ⟨h1, ?_, fun c hcc => SV.ok_grows (grows_upd _ _ _) (h3 c hcc)⟩
      rw [map_agree hag h3, Below.heap_alloc _ _ _ (Array.getElem?_eq_some_iff.1 h2).1]
      exact h2
  · intro b b' k k' hb hb' he
    by_cases e : b = id
    · by_cases e' : b' = id
      · rw [e, e']
      · subst e
        rw [upd_self, upd_ne _ _ e'] at he
        rw [upd_ne _ _ e'] at hb'
        have := (Array.getElem?_eq_some_iff.1 (h.blk b' k' hb').2.1).1
        omega
    · by_cases e' : b' = id
      · subst e'
        rw [upd_self, upd_ne _ _ e] at he
        rw [upd_ne _ _ e] at hb
        have := (Array.getElem?_eq_some_iff.1 (h.blk b k hb).2.1).1
        omega
      · rw [upd_ne _ _ e] at hb he
        rw [upd_ne _ _ e'] at hb' he
        exact h.inj b b' k k' hb hb' he
theorem MR.put {w0 : World} {m : Nat → Nat} {mem : Mem} {w : World} (h : MR w0 m mem w) {b : Nat} {k : Blk} (hb : mem b = some k) {cells : List SV} (hc : ∀ c ∈ cells, c.ok mem) :
    MR w0 m (upd mem b (some ⟨k.ty, cells⟩)) (w.setRow (m b) (cells.map (SV.den m)).toArray) := by
  obtain ⟨h1, h2, _⟩ := h.blk b k hb
  refine ⟨?_, ?_, ?_⟩
  · refine h.below.trans ⟨rfl, rfl, rfl, by simp [World.setRow], fun i hi => setRow_other _ _ _ _ (by omega)⟩
  · intro b' k' hb'
    by_cases e : b' = b
    · subst e
      rw [upd_self] at hb'
      simp only [Option.some.injEq] at hb'
      subst hb'
      exact ⟨h1, setRow_heap _ _ _ _ _ _ h2, fun c hcc => SV.ok_grows (grows_upd _ _ _) (hc c hcc)⟩
    · rw [upd_ne _ _ e] at hb'
      obtain ⟨g1, g2, g3⟩ := h.blk b' k' hb'
      refine ⟨g1, ?_, fun c hcc => SV.ok_grows (grows_upd _ _ _) (g3 c hcc)⟩
      rw [setRow_other _ _ _ _ (fun he => e (h.inj b' b k' k hb' hb he))]
      exact g2
  · intro b1 b2 k1 k2 h3 h4 he
    have f : ∀ x kx, upd mem b (some ⟨k.ty, cells⟩) x = some kx → ∃ ky, mem x = some ky := fun x kx hx => by
      by_cases e : x = b
      · subst e; exact ⟨k, hb⟩
      · rw [upd_ne _ _ e] at hx; exact ⟨_, hx⟩
    obtain ⟨y1, q1⟩ := f _ _ h3
    obtain ⟨y2, q2⟩ := f _ _ h4
    exact h.inj _ _ _ _ q1 q2 he
/-- Memory that a call has left as it was. -/
theorem MR.step {w0 : World} {m : Nat → Nat} {mem : Mem} {w w' : World} (h : MR w0 m mem w) (hb : Below w.heap.size w w') : MR w0 m mem w' :=
  ⟨h.below.trans (hb.mono h.below.size), fun b k hk => by
    obtain ⟨h1, h2, h3⟩ := h.blk b k hk
    exact ⟨h1, (hb.block _ (Array.getElem?_eq_some_iff.1 h2).1).trans h2, h3⟩, h.inj⟩
theorem MR.drew {w0 : World} {m : Nat → Nat} {mem : Mem} {w : World} (h : MR w0 m mem w) : MR w0 m mem { w with drawn := w.drawn + 1 } :=
  ⟨⟨h.below.os, h.below.tape, h.below.output, h.below.size, h.below.block⟩, h.blk, h.inj⟩

def CallPost (w0 : World) (m : Nat → Nat) (mem : Mem) (id : Nat) (v : SV) (mem' : Mem) (id' : Nat) (e : Ending) (w' : World) : Prop :=
  ∃ m', Agree mem m m' ∧ MR w0 m' mem' w' ∧ v.ok mem' ∧ Grows mem mem' ∧ (∀ b, id' ≤ b → mem' b = none) ∧ id ≤ id' ∧ e = .returned (v.den m')
def CallSound (P : Program) (I : World → Prop) (call : CallFn) : Prop :=
  ∀ f args mem id v mem' id', call f args mem id = some (v, mem', id') → (∀ b, id ≤ b → mem b = none) → ∀ w0 m w, I w0 → MR w0 m mem w → (∀ x ∈ args, x.ok mem) →
    Calls P f (args.map (SV.den m)).toArray w (CallPost w0 m mem id v mem' id')
def ExtSound (P : Program) (X : ExtFn) : Prop :=
  ∀ f g, X f = some g → ∀ args v, g args = some v → ∀ w, (callFunc f args.toArray).run P w = .ok (.value v) w
/-- An invariant of the world that what happens above its blocks doesn't touch. -/
def Stable (I : World → Prop) : Prop := ∀ w w', I w → Below w.heap.size w w' → I w'
theorem run_enters {P : Program} {f : FuncId} (h : enters P f = true) (args : Array Value) (w : World) : (callFunc f args).run P w = .ok (.enter f args) w := by
  unfold enters at h
  split at h
  · rename_i fn hf
    simp only [Bool.and_eq_true, Bool.not_eq_true'] at h
    have h1 : fn.name ≠ "runtime.NumGoroutine" := by simpa using h.2
    have h2 : fn.body ≠ none := fun hb => by rw [hb] at h; simp at h
    simp [callFunc, hf, h1, h2]
  · cases h
section
variable {P : Program} {X : ExtFn} {call : CallFn} {I : World → Prop} {ρ : Operand → SV} {mem : Mem} {id : Nat} {o : Oper} {v : SV} {e : Eff} {a : Act} {w0 w : World} {m : Nat → Nat}
  {K : Act → World → Prop} {Q : Exit → Act → World → Prop}
theorem upon_enter_of (hI : I w0) (hs : Stable I) (hcall : CallSound P I call) {f : FuncId} {args : List SV} (h : inCall call f args mem id = some (v, e)) (hall : (∃ m n, e = .all m n) → ∀ b, id ≤ b → mem b = none)
    (hok : ∀ x ∈ args, x.ok mem) (hm : MR w0 m mem w)
    (k : ∀ m' w', Agree mem m m' → MR w0 m' (e.mem mem id) w' → v.ok (e.mem mem id) → Grows mem (e.mem mem id) → ((∀ b, id ≤ b → mem b = none) → (∀ b, e.next id ≤ b → e.mem mem id b = none) ∧ id ≤ e.next id) → K (a.put o.dst (v.den m')) w') :
    o.upon P a K Q (.ok (.enter f (args.map (SV.den m)).toArray) w) := by
  unfold inCall at h
  rw [Oper.upon_enter]
  cases hv : args.all SV.isVal with
  | true =>
    rw [hv] at h
    simp only [cond_true] at h
    split at h
    · rename_i u mem' id' hc
      simp only [Option.some.injEq, Prod.mk.injEq] at h
      obtain ⟨rfl, rfl⟩ := h
      refine Calls.mono (hcall _ _ _ _ _ _ _ hc (fun _ _ => rfl) w m w (hs _ _ hI hm.below) (MR.start w m) (fun x hx => ?_)) ?_
      · have := List.all_eq_true.1 hv x hx
        cases x with
        | val u => exact ok_val _ _
        | _ => simp [SV.isVal] at this
      · rintro e' w' ⟨m', _, hr, _, _, _, _, rfl⟩
        exact k m w' (Agree.refl _ _) (hm.step hr.below) trivial (Grows.refl _) (fun hf => ⟨hf, Nat.le_refl _⟩)
    · cases h
  | false =>
    rw [hv] at h
    simp only [cond_false] at h
    split at h
    · rename_i u mem' id' hc
      simp only [Option.some.injEq, Prod.mk.injEq] at h
      obtain ⟨rfl, rfl⟩ := h
      refine Calls.mono (hcall _ _ _ _ _ _ _ hc (hall ⟨_, _, rfl⟩) w0 m w hI hm hok) ?_
      rintro e' w' ⟨m', hag, hr, hvok, hg, hf, hle, rfl⟩
      exact k m' w' hag hr hvok hg (fun _ => ⟨hf, hle⟩)
    · cases h
theorem gen_sound (hI : I w0) (hs : Stable I) (hcall : CallSound P I call) (h : evGen P call ρ mem id o = some (v, e)) (hall : (∃ m n, e = .all m n) → ∀ b, id ≤ b → mem b = none)
    (he : ∀ x, a.eval x = (ρ x).den m) (hm : MR w0 m mem w)
    (k : ∀ m' w', Agree mem m m' → MR w0 m' (e.mem mem id) w' → v.ok (e.mem mem id) → Grows mem (e.mem mem id) → ((∀ b, id ≤ b → mem b = none) → (∀ b, e.next id ≤ b → e.mem mem id b = none) ∧ id ≤ e.next id) → K (a.put o.dst (v.den m')) w') :
    o.wp P a w K Q := by
  unfold evGen at h
  cases hc : (o.op.operands.toList.all (fun x => (ρ x).isVal) && noSelect o.op) with
  | false => rw [hc] at h; cases h
  | true =>
    rw [hc] at h
    simp only [cond_true] at h
    rw [Bool.and_eq_true] at hc
    obtain ⟨h1, h2⟩ := hc
    have hns : ∀ cs b, o.op ≠ .select cs b := fun cs b hh => by rw [hh] at h2; cases h2
    have hcongr : execOp a.eval o = execOp (fun x => (ρ x).un) o := execOp_congr o hns fun x hx => by
      have hv := List.all_eq_true.1 h1 x (by simpa using hx)
      rw [he x]
      cases hr : ρ x with
      | val u => rw [den_val]; rfl
      | _ => rw [hr] at hv; cases hv
    unfold Oper.wp
    rw [hcongr]
    split at h
    · rename_i u hp
      simp only [Option.some.injEq, Prod.mk.injEq] at h
      obtain ⟨rfl, rfl⟩ := h
      rw [pureRun_run _ hp w, Oper.upon_value]
      exact k m w (Agree.refl _ _) hm trivial (Grows.refl _) (fun hf => ⟨hf, Nat.le_refl _⟩)
    · rename_i hp
      simp only [Option.some.injEq, Prod.mk.injEq] at h
      obtain ⟨rfl, rfl⟩ := h
      rw [pureRun_run _ hp w, Oper.upon_skip]
      exact k m w (Agree.refl _ _) hm trivial (Grows.refl _) (fun hf => ⟨hf, Nat.le_refl _⟩)
    · rename_i f args hp
      rw [pureRun_run _ hp w]
      have ha : ((args.toList.map SV.val).map (SV.den m)).toArray = args := by
        rw [List.map_map]
        have : (SV.den m ∘ SV.val) = _root_.id := rfl
        rw [this, List.map_id]
      rw [← ha]
      refine upon_enter_of hI hs hcall h hall (fun x hx => ?_) hm k
      simp only [List.mem_map] at hx
      obtain ⟨y, _, rfl⟩ := hx
      trivial
    · cases h
theorem doCall_sound (hX : ExtSound P X) (hI : I w0) (hs : Stable I) (hcall : CallSound P I call) {f : FuncId} {as : Array Operand} {ts : Array TypeId} (ho : o.op = .call { callee := .value (.func f), args := as, argTypes := ts })
    (h : doCall P X call f (as.toList.map ρ) mem id = some (v, e)) (hall : (∃ m n, e = .all m n) → ∀ b, id ≤ b → mem b = none)
    (hok : ∀ x, (ρ x).ok mem) (he : ∀ x, a.eval x = (ρ x).den m) (hm : MR w0 m mem w)
    (k : ∀ m' w', Agree mem m m' → MR w0 m' (e.mem mem id) w' → v.ok (e.mem mem id) → Grows mem (e.mem mem id) → ((∀ b, id ≤ b → mem b = none) → (∀ b, e.next id ≤ b → e.mem mem id b = none) ∧ id ≤ e.next id) → K (a.put o.dst (v.den m')) w') :
    o.wp P a w K Q := by
  have hargs : as.map a.eval = ((as.toList.map ρ).map (SV.den m)).toArray := by
    apply Array.ext'
    simp only [Array.toList_map, List.map_map]
    exact List.map_congr_left fun x _ => he x
  have hex : (execOp a.eval o).run P w = (callFunc f ((as.toList.map ρ).map (SV.den m)).toArray).run P w := by
    unfold execOp
    simp only [ho, resolve, Deferred.ofValue, Act.eval, hargs, Sem.run_bind, Sem.run_pure, Result.andThen_ok, invoke, Array.empty_append, Array.append_empty]
  unfold Oper.wp
  rw [hex]
  unfold doCall at h
  split at h
  · rename_i g hg
    split at h
    · rename_i vs hvs
      split at h
      · rename_i u hu
        simp only [Option.some.injEq, Prod.mk.injEq] at h
        obtain ⟨rfl, rfl⟩ := h
        rw [vals_den m _ hvs, hX f g hg vs u hu w, Oper.upon_value]
        exact k m w (Agree.refl _ _) hm trivial (Grows.refl _) (fun hf => ⟨hf, Nat.le_refl _⟩)
      · cases h
    · cases h
  · cases hen : enters P f with
    | false => rw [hen] at h; cases h
    | true =>
      rw [hen] at h
      simp only [cond_true] at h
      rw [run_enters hen]
      refine upon_enter_of hI hs hcall h hall (fun x hx => ?_) hm k
      simp only [List.mem_map] at hx
      obtain ⟨y, _, rfl⟩ := hx
      exact hok y
theorem cells_at {g off n : Nat} {arr : Array Value} {t : TypeId} {W : World} {cs : List Value} (hb : W.heap[g]? = some (.cells arr t (0, 0))) (hs : (arr.toList.drop off).take n = cs) :
    ∀ j u, cs[j]? = some u → W.cell? ((⟨g, off, none⟩ : Addr).add j) = some u := by
  intro j u hj
  subst hs
  have hj' : arr[off + j]? = some u := by
    rw [List.getElem?_take] at hj
    split at hj
    · rw [List.getElem?_drop] at hj
      simpa using hj
    · cases hj
  have ha : (⟨g, off, none⟩ : Addr).add j = ⟨g, off + j, none⟩ := by
    unfold Addr.add
    split
    · subst_vars; rfl
    · rfl
  rw [ha]
  unfold World.cell?
  rw [hb]
  exact hj'
theorem load_sound {t : TypeId} {k : Blk} {off g : Nat} {u : SV} (h : evLoad P t k off = some u) (hb : w.heap[g]? = some (.cells (k.cells.map (SV.den m)).toArray k.ty (0, 0))) (hok : ∀ c ∈ k.cells, c.ok mem) :
    (Instr.loadAt t (.pointer (some ⟨g, off, none⟩))).run P w = .ok (u.den m) w ∧ u.ok mem := by
  unfold evLoad at h
  have hl : (Instr.loadAt t (.pointer (some ⟨g, off, none⟩))).run P w = (loadVar t ⟨g, off, none⟩).run P w := by
    simp only [Instr.loadAt, Instr.sureAddr, Sem.run_bind, Sem.run_pure, Result.andThen_ok]
  rw [hl]
  split at h
  · rename_i hagg
    split at h
    · rename_i n hn
      cases hlen : Nat.beq ((k.cells.drop off).take n).length n with
      | false => rw [hlen] at h; cases h
      | true =>
        rw [hlen] at h
        simp only [cond_true] at h
        split at h
        · rename_i vs hvs
          simp only [Option.some.injEq] at h
          subst h
          have hd := vals_den m _ hvs
          have hc := cells_at (cs := vs) (n := n) (off := off) hb (by
            rw [← hd, List.map_take, List.map_drop])
          have hvl : vs.length = n := by
            rw [← hd, List.length_map]
            exact Nat.eq_of_beq_eq_true hlen
          have hr := run_loadCells_list (P := P) (w := w) ⟨g, off, none⟩ vs hc
          rw [hvl] at hr
          refine ⟨?_, ok_val _ _⟩
          simp only [loadVar, Sem.run_bind, pureRun_run _ hagg w, Result.andThen_ok, pureRun_run _ hn w, hr, if_true, Sem.run_pure, den_val]
        · simp only [Option.some.injEq] at h
          subst h
          have hc := cells_at (cs := ((k.cells.drop off).take n).map (SV.den m)) (n := n) (off := off) hb (by
            rw [List.map_take, List.map_drop])
          have hvl : (((k.cells.drop off).take n).map (SV.den m)).length = n := by
            rw [List.length_map]
            exact Nat.eq_of_beq_eq_true hlen
          have hr := run_loadCells_list (P := P) (w := w) ⟨g, off, none⟩ _ hc
          rw [hvl] at hr
          refine ⟨?_, ok_arr.2 fun c hcc => hok c (List.mem_of_mem_drop (List.mem_of_mem_take hcc))⟩
          simp only [loadVar, Sem.run_bind, pureRun_run _ hagg w, Result.andThen_ok, pureRun_run _ hn w, hr, if_true, Sem.run_pure, den_arr]
    · cases h
  · rename_i hagg
    refine ⟨?_, hok u (List.mem_of_getElem? h)⟩
    have hcell : w.cell? ⟨g, off, none⟩ = some (u.den m) := by
      unfold World.cell?
      rw [hb]
      simp [h]
    simp only [loadVar, Sem.run_bind, pureRun_run _ hagg w, Result.andThen_ok, Bool.false_eq_true, if_false]
    show (load _).run P w = _
    simp [load, Sem.run, hcell]
  · cases h
theorem one_den {s : SV} (h : s.one = true) : (s.den m).oneCell' = true := by
  cases s with
  | val v => rw [den_val]; exact h
  | ptr b o => rw [den_ptr]; rfl
  | slc b o n c => rw [den_slc]; rfl
  | arr l => cases h
/-- What is laid part by part. -/
theorem foldl_cells (vs : List Value) : ∀ (k off : Nat) (cells : Array Value), off + k + vs.length ≤ cells.size →
    (vs.zipIdx k).foldl (fun cs p => cs.setIfInBounds (off + p.2) p.1) cells = (cells.toList.take (off + k) ++ vs ++ cells.toList.drop (off + k + vs.length)).toArray := by
  induction vs with
  | nil =>
    intro k off cells h
    simp
  | cons v vs ih =>
    intro k off cells h
    simp only [List.length_cons] at h
    simp only [List.zipIdx_cons, List.foldl_cons]
    rw [ih (k + 1) off _ (by simp; omega)]
    congr 1
    rw [Array.toList_setIfInBounds]
    have h1 : off + k < cells.toList.length := by rw [Array.length_toList]; omega
    rw [show off + (k + 1) = off + k + 1 by omega, List.take_set, List.drop_set_of_lt (by omega)]
    rw [List.take_add_one]
    have h2 : (cells.toList.take (off + k) ++ cells.toList[off + k]?.toList).set (off + k) v = cells.toList.take (off + k) ++ [v] := by
      have h3 : (cells.toList.take (off + k)).length = off + k := by rw [List.length_take]; omega
      rw [List.getElem?_eq_getElem h1]
      simp only [Option.toList_some]
      rw [List.set_append_right _ _ (by omega), h3, Nat.sub_self]
      rfl
    rw [h2]
    simp only [List.append_assoc, List.singleton_append, List.length_cons]
    rw [show off + k + 1 + vs.length = off + k + (vs.length + 1) by omega]
theorem fill_seq {size n : Nat} : ∀ (parts : List (Nat × SV)) (i : Nat) (cs : List SV), seqParts size n parts i = some cs → ∀ (cells : Array Value) (place : Nat → Option (Nat × Nat)), (∀ j, place j = some (j * size, size)) → cells.size = n * size → i ≤ n → 
    Instr.fill place cells (parts.map fun p => (p.1, p.2.den m)) = some (cells.toList.take (i * size) ++ cs.map (SV.den m)).toArray ∧ cs.length = (n - i) * size
  | [], i, cs, h, cells, place, hp, hsz, hi => by
    unfold seqParts at h
    cases hb : Nat.beq i n with
    | false => rw [hb] at h; cases h
    | true =>
      rw [hb] at h
      simp only [cond_true, Option.some.injEq] at h
      subst h
      have := Nat.eq_of_beq_eq_true hb
      subst this
      refine ⟨?_, by simp⟩
      simp only [List.map_nil, Instr.fill, List.append_nil]
      rw [List.take_of_length_le (by rw [Array.length_toList]; omega)]
  | (j, s) :: r, i, cs, h, cells, place, hp, hsz, hi => by
    unfold seqParts at h
    cases hb : (Nat.beq j i && Nat.beq s.cells.length size) with
    | false => rw [hb] at h; cases h
    | true =>
      rw [hb] at h
      simp only [cond_true] at h
      rw [Bool.and_eq_true] at hb
      have hj := Nat.eq_of_beq_eq_true hb.1
      have hs := Nat.eq_of_beq_eq_true hb.2
      subst hj
      split at h
      · rename_i cs' hcs
        simp only [Option.some.injEq] at h
        subst h
        have hjn : j < n := by
          rcases Nat.lt_or_ge j n with h | h
          · exact h
          · exfalso
            have e : j = n := Nat.le_antisymm hi h
            subst e
            have : ∀ (l : List (Nat × SV)) (a : Nat), j < a → seqParts size j l a = none := by
              intro l
              induction l with
              | nil =>
                intro a ha
                unfold seqParts
                have : Nat.beq a j = false := by
                  cases hq : Nat.beq a j with
                  | false => rfl
                  | true => have := Nat.eq_of_beq_eq_true hq; omega
                rw [this]; rfl
              | cons p l ih =>
                intro a ha
                obtain ⟨x, y⟩ := p
                unfold seqParts
                rw [ih (a + 1) (by omega)]
                cases (Nat.beq x a && Nat.beq y.cells.length size) <;> rfl
            rw [this r (j + 1) (by omega)] at hcs
            cases hcs
        have hvs : (s.den m).cells.toList = s.cells.map (SV.den m) := (cells_den m s).symm
        have hvl : (s.den m).cells.size = size := by rw [← Array.length_toList, hvs, List.length_map, hs]
        have hle : j * size + size ≤ cells.size := by
          rw [hsz, ← Nat.succ_mul]
          exact Nat.mul_le_mul_right _ hjn
        have hfold : (s.den m).cells.zipIdx.foldl (fun cs p => cs.setIfInBounds (j * size + p.2) p.1) cells = (cells.toList.take (j * size) ++ s.cells.map (SV.den m) ++ cells.toList.drop (j * size + size)).toArray := by
          have := foldl_cells (s.den m).cells.toList 0 (j * size) cells (by rw [Array.length_toList, hvl]; omega)
          rw [Array.length_toList, hvl, hvs] at this
          rw [← Array.foldl_toList, Array.toList_zipIdx, hvs]
          simpa using this
        obtain ⟨h1, h2⟩ := fill_seq r (j + 1) cs' hcs (cells.toList.take (j * size) ++ s.cells.map (SV.den m) ++ cells.toList.drop (j * size + size)).toArray place hp (by
          simp only [List.size_toArray, List.length_append, List.length_take, List.length_map, List.length_drop, Array.length_toList, hs]
          omega) hjn
        refine ⟨?_, ?_⟩
        · simp only [List.map_cons, Instr.fill, hp j, hvl]
          rw [if_neg (by simp; omega), hfold, h1]
          congr 2
          have h3 : (j + 1) * size = (cells.toList.take (j * size) ++ s.cells.map (SV.den m)).length := by
            simp only [List.length_append, List.length_take, List.length_map, Array.length_toList, hs, Nat.succ_mul]
            omega
          simp only [List.toList_toArray]
          rw [h3, List.take_left']
          · simp only [List.map_append, List.append_assoc]
          · rfl
        · rw [List.length_append, hs, h2, Nat.add_comm, ← Nat.succ_mul]
          congr 1
          omega
      · cases h
theorem parts_ok {mem : Mem} {size n : Nat} : ∀ (parts : List (Nat × SV)) (i : Nat) (cs : List SV), seqParts size n parts i = some cs → (∀ p ∈ parts, p.2.ok mem) → ∀ c ∈ cs, c.ok mem
  | [], i, cs, h, _ => by
    unfold seqParts at h
    cases hb : Nat.beq i n with
    | false => rw [hb] at h; cases h
    | true =>
      rw [hb] at h
      simp only [cond_true, Option.some.injEq] at h
      subst h
      intro c hc
      cases hc
  | (j, s) :: r, i, cs, h, hok => by
    unfold seqParts at h
    cases hb : (Nat.beq j i && Nat.beq s.cells.length size) with
    | false => rw [hb] at h; cases h
    | true =>
      rw [hb] at h
      simp only [cond_true] at h
      split at h
      · rename_i cs' hcs
        simp only [Option.some.injEq] at h
        subst h
        intro c hc
        rcases List.mem_append.1 hc with hc | hc
        · exact cells_ok (hok (j, s) List.mem_cons_self) c hc
        · exact parts_ok r (i + 1) cs' hcs (fun p hp => hok p (List.mem_cons_of_mem _ hp)) c hc
      · cases h
theorem build_sound {t : TypeId} {parts : List (Nat × SV)} {u : SV} (h : buildArr P t parts = some u) (hok : ∀ p ∈ parts, p.2.ok mem) :
    (Instr.build t (parts.map fun p => (p.1, p.2.den m)).toArray).run P w = .ok (u.den m) w ∧ u.ok mem := by
  unfold buildArr at h
  split at h
  · rename_i n elem hu
    split at h
    · rename_i size hsz
      split at h
      · rename_i z hz
        cases hb : Nat.beq z.cells.size (n * size) with
        | false => rw [hb] at h; cases h
        | true =>
          rw [hb] at h
          simp only [cond_true] at h
          split at h
          · rename_i cs hcs
            simp only [Option.some.injEq] at h
            subst h
            obtain ⟨h1, h2⟩ := fill_seq (m := m) parts 0 cs hcs z.cells (fun i => some (i * size, size)) (fun _ => rfl) (Nat.eq_of_beq_eq_true hb) (Nat.zero_le _)
            refine ⟨?_, ok_arr.2 (parts_ok parts 0 cs hcs hok)⟩
            simp only [Nat.zero_mul, List.take_zero, List.nil_append] at h1
            simp only [Instr.build, Sem.run_bind, pureRun_run _ hz w, Result.andThen_ok, pureRun_run _ hu w, pureRun_run _ hsz w, h1, Sem.run_pure, den_arr]
          · cases h
      · cases h
    · cases h
  · cases h
theorem row_sound {t : TypeId} {n : Nat} {parts : List (Nat × SV)} {k : Blk} (h : buildRow P t n parts = some k) (hok : ∀ p ∈ parts, p.2.ok mem) :
    (Instr.buildSlice t n (parts.map fun p => (p.1, p.2.den m)).toArray).run P w = .ok (.slice (some ⟨w.heap.size, 0, none⟩) n n) (w.alloc (.cells (k.cells.map (SV.den m)).toArray k.ty (0, 0))) ∧ ∀ c ∈ k.cells, c.ok mem := by
  unfold buildRow at h
  split at h
  · rename_i elem hu
    split at h
    · rename_i size hsz
      cases hb : (Nat.ble (n * size) 16777216 && !(Nat.beq (n * size) 0)) with
      | false => rw [hb] at h; cases h
      | true =>
        rw [hb] at h
        simp only [cond_true] at h
        rw [Bool.and_eq_true, Bool.not_eq_true'] at hb
        have hb1 := Nat.le_of_ble_eq_true hb.1
        have hb2 : n * size ≠ 0 := fun e => by rw [e] at hb; cases hb.2
        split at h
        · rename_i z hz
          split at h
          · rename_i cs hcs
            simp only [Option.some.injEq] at h
            subst h
            obtain ⟨h1, h2⟩ := fill_seq (m := m) parts 0 cs hcs ((Array.range (n * size)).map (z.cells[· % z.cells.size]!)) (fun i => some (i * size, size)) (fun _ => rfl) (by simp) (Nat.zero_le _)
            refine ⟨?_, parts_ok parts 0 cs hcs hok⟩
            simp only [Nat.zero_mul, List.take_zero, List.nil_append] at h1
            have hb3 : ¬ n * size > 2 ^ 24 := by omega
            simp only [Instr.buildSlice, Sem.run_bind, pureRun_run _ hu w, Result.andThen_ok, pureRun_run _ hsz w, if_neg hb3, if_neg hb2, Sem.run_pure, pureRun_run _ hz w, h1, newRow, newObj, Sem.run, World.alloc]
          · cases h
        · cases h
    · cases h
  · cases h
theorem idx_sound {t : TypeId} {x i u : SV} (h : idxAddr P t x i = some u) (hok : x.ok mem) : (Instr.indexAt t (x.den m) (i.den m)).run P w = .ok (u.den m) w ∧ u.ok mem := by
  have hadd : ∀ (g off d : Nat), (⟨g, off, none⟩ : Addr).add d = ⟨g, off + d, none⟩ := fun g off d => by
    unfold Addr.add
    split
    · rename_i h0; rw [h0]; rfl
    · rfl
  unfold idxAddr at h
  split at h
  · rename_i kk q
    split at h
    · rename_i b off len cap
      split at h
      · rename_i elem hu
        split at h
        · rename_i size hsz
          cases hb : (decide (0 ≤ q) && decide (q < len)) with
          | false => rw [hb] at h; cases h
          | true =>
            rw [hb] at h
            simp only [cond_true, Option.some.injEq] at h
            subst h
            rw [Bool.and_eq_true, decide_eq_true_eq, decide_eq_true_eq] at hb
            refine ⟨?_, ok_ptr.2 (ok_slc.1 hok)⟩
            simp only [den_slc, den_val, den_ptr, Instr.indexAt, asIntOf, Sem.run_bind, Sem.run_pure, Result.andThen_ok, pureRun_run _ hu w, if_pos hb, pureRun_run _ hsz w, hadd]
        · cases h
      · cases h
    · rename_i b off
      split at h
      · rename_i len elem hu
        split at h
        · rename_i size hsz
          cases hb : (decide (0 ≤ q) && decide (q < len)) with
          | false => rw [hb] at h; cases h
          | true =>
            rw [hb] at h
            simp only [cond_true, Option.some.injEq] at h
            subst h
            rw [Bool.and_eq_true, decide_eq_true_eq, decide_eq_true_eq] at hb
            refine ⟨?_, ok_ptr.2 (ok_ptr.1 hok)⟩
            simp only [den_val, den_ptr, Instr.indexAt, asIntOf, Instr.sureAddr, Sem.run_bind, Sem.run_pure, Result.andThen_ok, pureRun_run _ hu w, if_pos hb, pureRun_run _ hsz w, hadd]
        · cases h
      · cases h
    · cases h
  · cases h
theorem store_sound {t : TypeId} {k k' : Blk} {off g : Nat} {x : SV} (h : evStore P t k off x = some k') (hb : w.heap[g]? = some (.cells (k.cells.map (SV.den m)).toArray k.ty (0, 0))) (hok : ∀ c ∈ k.cells, c.ok mem) (hx : x.ok mem) :
    (Instr.storeAt t (.pointer (some ⟨g, off, none⟩)) (x.den m)).run P w = .ok () (w.setRow g (k'.cells.map (SV.den m)).toArray) ∧ (∀ c ∈ k'.cells, c.ok mem) ∧ k' = ⟨k.ty, k'.cells⟩ := by
  unfold evStore at h
  split at h
  · rename_i n hn
    cases hc : (Nat.beq x.cells.length n && Nat.ble (off + n) k.cells.length && x.cells.all SV.one) with
    | false => rw [hc] at h; cases h
    | true =>
      rw [hc] at h
      simp only [cond_true, Option.some.injEq] at h
      subst h
      simp only [Bool.and_eq_true] at hc
      obtain ⟨⟨h1, h2⟩, h3⟩ := hc
      have h1 := Nat.eq_of_beq_eq_true h1
      have h2 := Nat.le_of_ble_eq_true h2
      refine ⟨?_, ?_, rfl⟩
      · have hcells := cells_den m x
        have hlen : (x.den m).cells.toList.length = n := by rw [← hcells, List.length_map]; exact h1
        have hst := run_storeCells_at (P := P) g off k.ty (x.den m).cells.toList 0 _ w hb (by rw [hlen]; simpa using h2) (fun u hu => by
          rw [← hcells, List.mem_map] at hu
          obtain ⟨c, hcc, rfl⟩ := hu
          exact one_den (List.all_eq_true.1 h3 c hcc))
        have hsz : (x.den m).cells.size = n := by rw [← Array.length_toList]; exact hlen
        simp only [Instr.storeAt, Instr.sureAddr, Sem.run_bind, Sem.run_pure, Result.andThen_ok, storeVar, pureRun_run _ hn w, hsz, ne_eq, not_true_eq_false, if_false]
        rw [hst]
        congr 2
        rw [hlen]
        simp only [Nat.add_zero, List.map_append, List.map_take, List.map_drop, hcells]
      · intro c hcc
        simp only [List.mem_append] at hcc
        rcases hcc with (hcc | hcc) | hcc
        · exact hok c (List.mem_of_mem_take hcc)
        · exact cells_ok hx c hcc
        · exact hok c (List.mem_of_mem_drop hcc)
  · cases h
theorem field_sound {s : TypeId} {i d g off : Nat} (h : fieldOff P s i = some d) : (Instr.fieldAt s (.pointer (some ⟨g, off, none⟩)) i).run P w = .ok (.pointer (some ⟨g, off + d, none⟩)) w := by
  unfold fieldOff at h
  split at h
  · rename_i fs hu
    split at h
    · rename_i f hf
      split at h
      · rename_i n hn
        simp only [Option.some.injEq] at h
        subst h
        have ha : (⟨g, off, none⟩ : Addr).add f.offset = ⟨g, off + f.offset, none⟩ := by
          unfold Addr.add
          split
          · rename_i h0; rw [h0]; rfl
          · rfl
        simp only [Instr.fieldAt, Sem.run_bind, pureRun_run _ hu w, Result.andThen_ok, hf, Instr.sureAddr, Sem.run_pure, fieldPlace, pureRun_run _ hn w, Nat.add_one_ne_zero, if_false, ha]
      · cases h
    · cases h
  · cases h
theorem fresh_new {k : Blk} (hf : ∀ b, id ≤ b → mem b = none) : (∀ b, (Eff.new k).next id ≤ b → (Eff.new k).mem mem id b = none) ∧ id ≤ (Eff.new k).next id := by
  refine ⟨fun b hb => ?_, Nat.le_succ _⟩
  simp only [Eff.mem, Eff.next] at hb ⊢
  rw [upd_ne _ _ (by omega)]
  exact hf b (by omega)
theorem fresh_put {b0 : Nat} {k0 k : Blk} (hb0 : mem b0 = some k0) (hf : ∀ b, id ≤ b → mem b = none) : (∀ b, (Eff.put b0 k).next id ≤ b → (Eff.put b0 k).mem mem id b = none) ∧ id ≤ (Eff.put b0 k).next id := by
  refine ⟨fun b hb => ?_, Nat.le_refl _⟩
  simp only [Eff.mem, Eff.next] at hb ⊢
  rw [upd_ne _ _ (fun e => by rw [e] at hb; rw [hf b0 hb] at hb0; cases hb0)]
  exact hf b hb
theorem parts_map {ps : Array (Nat × Operand)} (he : ∀ x, a.eval x = (ρ x).den m) : (ps.map fun (i, x) => (i, a.eval x)) = ((partsS ρ ps).map fun p => (p.1, p.2.den m)).toArray := by
  apply Array.ext'
  simp only [partsS, Array.toList_map, List.map_map]
  exact List.map_congr_left fun p _ => by obtain ⟨i, x⟩ := p; simp [he x]
theorem parts_map_ok {ps : Array (Nat × Operand)} (hok : ∀ x, (ρ x).ok mem) : ∀ p ∈ partsS ρ ps, p.2.ok mem := by
  intro p hp
  simp only [partsS, List.mem_map] at hp
  obtain ⟨q, _, rfl⟩ := hp
  exact hok q.2
/-- One operation. -/
theorem op_sound (hX : ExtSound P X) (hI : I w0) (hs : Stable I) (hcall : CallSound P I call) (h : evOp P X call ρ mem id o = some (v, e)) (hid : (∃ k, e = .new k) → mem id = none) (hall : (∃ m n, e = .all m n) → ∀ b, id ≤ b → mem b = none)
    (hok : ∀ x, (ρ x).ok mem) (he : ∀ x, a.eval x = (ρ x).den m) (hm : MR w0 m mem w)
    (k : ∀ m' w', Agree mem m m' → MR w0 m' (e.mem mem id) w' → v.ok (e.mem mem id) → Grows mem (e.mem mem id) → ((∀ b, id ≤ b → mem b = none) → (∀ b, e.next id ≤ b → e.mem mem id b = none) ∧ id ≤ e.next id) → K (a.put o.dst (v.den m')) w') :
    o.wp P a w K Q := by
  unfold evOp at h
  split at h
  · rename_i x ho
    simp only [Option.some.injEq, Prod.mk.injEq] at h
    obtain ⟨rfl, rfl⟩ := h
    have : (execOp a.eval o).run P w = .ok (.value ((ρ x).den m)) w := by unfold execOp; simp only [ho, he, Sem.run_pure]
    unfold Oper.wp; rw [this, Oper.upon_value]
    exact k m w (Agree.refl _ _) hm (hok x) (Grows.refl _) (fun hf => ⟨hf, Nat.le_refl _⟩)
  · rename_i x ho
    simp only [Option.some.injEq, Prod.mk.injEq] at h
    obtain ⟨rfl, rfl⟩ := h
    have : (execOp a.eval o).run P w = .ok (.value ((ρ x).den m)) w := by unfold execOp; simp only [ho, he, Sem.run_pure]
    unfold Oper.wp; rw [this, Oper.upon_value]
    exact k m w (Agree.refl _ _) hm (hok x) (Grows.refl _) (fun hf => ⟨hf, Nat.le_refl _⟩)
  · rename_i c x y ho
    split at h
    · rename_i t hc
      have hce : a.eval c = .bool t := by rw [he c, hc, den_val]
      have : (execOp a.eval o).run P w = .ok (.value (if t then (ρ x).den m else (ρ y).den m)) w := by
        unfold execOp; simp only [ho, hce, he x, he y, asBool, Sem.run_bind, Sem.run_pure, Result.andThen_ok]
      unfold Oper.wp; rw [this, Oper.upon_value]
      cases t <;> simp only [cond_true, cond_false, Option.some.injEq, Prod.mk.injEq] at h <;> obtain ⟨rfl, rfl⟩ := h
      · exact k m w (Agree.refl _ _) hm (hok y) (Grows.refl _) (fun hf => ⟨hf, Nat.le_refl _⟩)
      · exact k m w (Agree.refl _ _) hm (hok x) (Grows.refl _) (fun hf => ⟨hf, Nat.le_refl _⟩)
    · cases h
  · rename_i t ho
    split at h
    · rename_i z hz
      simp only [Option.some.injEq, Prod.mk.injEq] at h
      obtain ⟨rfl, rfl⟩ := h
      obtain ⟨hr, hag⟩ := hm.alloc (hid ⟨_, rfl⟩) t (cells := (SV.val z).cells) (cells_ok (s := .val z) trivial)
      have hcs : ((SV.val z).cells.map (SV.den m)).toArray = z.cells := by rw [cells_den]; simp [SV.den]
      have : (execOp a.eval o).run P w = .ok (.value (.pointer (some ⟨w.heap.size, 0, none⟩))) (w.alloc (.cells ((SV.val z).cells.map (SV.den m)).toArray t (0, 0))) := by
        rw [hcs]
        unfold execOp
        simp only [ho, Instr.alloc, Sem.run_bind, pureRun_run _ hz w, Result.andThen_ok, newVar, newRow, newObj, Sem.run, Sem.run_pure, World.alloc]
      unfold Oper.wp; rw [this, Oper.upon_value]
      have := k _ _ hag hr (by simp [SV.ok, Eff.mem, upd_self]) (grows_upd _ _ _) fresh_new
      simpa [SV.den, upd_self] using this
    · cases h
  · rename_i t x ho
    simp only [Option.some.injEq, Prod.mk.injEq] at h
    obtain ⟨rfl, rfl⟩ := h
    obtain ⟨hr, hag⟩ := hm.alloc (hid ⟨_, rfl⟩) t (cells := (ρ x).cells) (cells_ok (hok x))
    have hcs : ((ρ x).cells.map (SV.den m)).toArray = ((ρ x).den m).cells := by rw [cells_den]
    have : (execOp a.eval o).run P w = .ok (.value (.pointer (some ⟨w.heap.size, 0, none⟩))) (w.alloc (.cells ((ρ x).cells.map (SV.den m)).toArray t (0, 0))) := by
      rw [hcs]
      unfold execOp
      simp only [ho, he x, Instr.box, Sem.run_bind, Result.andThen_ok, newVar, newRow, newObj, Sem.run, Sem.run_pure, World.alloc]
    unfold Oper.wp; rw [this, Oper.upon_value]
    have := k _ _ hag hr (by simp [SV.ok, Eff.mem, upd_self]) (grows_upd _ _ _) fresh_new
    simpa [SV.den, upd_self] using this
  · rename_i t x ho
    split at h
    · rename_i b off hx
      split at h
      · rename_i kb hb
        split at h
        · rename_i u hu
          simp only [Option.some.injEq, Prod.mk.injEq] at h
          obtain ⟨rfl, rfl⟩ := h
          obtain ⟨_, h2, h3⟩ := hm.blk b kb hb
          obtain ⟨hl, huok⟩ := load_sound (P := P) hu h2 h3
          have : (execOp a.eval o).run P w = .ok (.value (u.den m)) w := by
            unfold execOp; simp only [ho, he x, hx, SV.den, Sem.run_bind, hl, Result.andThen_ok, Sem.run_pure]
          unfold Oper.wp; rw [this, Oper.upon_value]
          exact k m w (Agree.refl _ _) hm huok (Grows.refl _) (fun hf => ⟨hf, Nat.le_refl _⟩)
        · cases h
      · cases h
    · cases h
  · rename_i t x y ho
    split at h
    · rename_i b off hx
      split at h
      · rename_i kb hb
        split at h
        · rename_i k' hk'
          simp only [Option.some.injEq, Prod.mk.injEq] at h
          obtain ⟨rfl, rfl⟩ := h
          obtain ⟨_, h2, h3⟩ := hm.blk b kb hb
          obtain ⟨hl, hcok, hty⟩ := store_sound (P := P) hk' h2 h3 (hok y)
          have : (execOp a.eval o).run P w = .ok .skip (w.setRow (m b) (k'.cells.map (SV.den m)).toArray) := by
            unfold execOp; simp only [ho, he y]; rw [show a.eval x = .pointer (some ⟨m b, off, none⟩) by rw [he x, hx]; rfl]; simp only [Sem.run_bind, hl, Result.andThen_ok, Sem.run_pure]
          unfold Oper.wp; rw [this, Oper.upon_skip]
          have := hm.put hb hcok
          rw [← hty] at this
          exact k m _ (Agree.refl _ _) this trivial (grows_upd _ _ _) (fresh_put hb)
        · cases h
      · cases h
    · cases h
  · rename_i s x i ho
    split at h
    · rename_i b off hx
      split at h
      · rename_i d hd
        simp only [Option.some.injEq, Prod.mk.injEq] at h
        obtain ⟨rfl, rfl⟩ := h
        have : (execOp a.eval o).run P w = .ok (.value (.pointer (some ⟨m b, off + d, none⟩))) w := by
          unfold execOp; simp only [ho, he x, hx, SV.den, Sem.run_bind, field_sound hd, Result.andThen_ok, Sem.run_pure]
        unfold Oper.wp; rw [this, Oper.upon_value]
        have hb : (SV.ptr b off).ok mem := hx ▸ hok x
        exact k m w (Agree.refl _ _) hm (show (SV.ptr b (off + d)).ok mem from hb) (Grows.refl _) (fun hf => ⟨hf, Nat.le_refl _⟩)
      · cases h
    · cases h
  · rename_i x ho
    split at h
    · rename_i b off hx
      simp only [Option.some.injEq, Prod.mk.injEq] at h
      obtain ⟨rfl, rfl⟩ := h
      have : (execOp a.eval o).run P w = .ok (.value (.pointer (some ⟨m b, off, none⟩))) w := by
        unfold execOp; simp only [ho, he x, hx, SV.den, Sem.run_pure]
      unfold Oper.wp; rw [this, Oper.upon_value]
      have hb : (SV.ptr b off).ok mem := hx ▸ hok x
      exact k m w (Agree.refl _ _) hm hb (Grows.refl _) (fun hf => ⟨hf, Nat.le_refl _⟩)
    · exact gen_sound hI hs hcall h hall he hm k
  · rename_i c ho
    split at h
    · rename_i f hf
      obtain ⟨cal, as, ts⟩ := c
      simp only at hf
      subst hf
      exact doCall_sound hX hI hs hcall ho h hall hok he hm k
    · rename_i bi hbi
      split at h
      · rename_i u hu
        simp only [Option.some.injEq, Prod.mk.injEq] at h
        obtain ⟨rfl, rfl⟩ := h
        obtain ⟨cal, as, ts⟩ := c
        simp only at hbi hu
        subst hbi
        unfold lenOf at hu
        split at hu
        · split at hu
          · rename_i b off n cap hargs
            split at hu
            case h_2 => cases hu
            rename_i ty hty
            split at hu
            case h_2 => cases hu
            rename_i elem hel
            simp only [Option.some.injEq] at hu
            subst hu
            have hmap : as.map a.eval = #[.slice (some ⟨m b, off, none⟩) n cap] := by
              apply Array.ext'
              rw [Array.toList_map]
              have : as.toList.map a.eval = (as.toList.map ρ).map (SV.den m) := by
                rw [List.map_map]
                exact List.map_congr_left fun x _ => he x
              rw [this, hargs]
              simp [den_slc]
            have : (execOp a.eval o).run P w = .ok (.value (.int .i64 n)) w := by
              unfold execOp
              have h0 : (#[Value.slice (some ⟨m b, off, none⟩) n cap] : Array Value)[0]? = some (.slice (some ⟨m b, off, none⟩) n cap) := rfl
              simp only [ho, resolve, hmap, Sem.run_bind, Sem.run_pure, Result.andThen_ok, invoke, builtin, Builtin.len_, hty, h0, pureRun_run _ hel w]
              rfl
            unfold Oper.wp; rw [this, Oper.upon_value]
            have := k m w (Agree.refl _ _) hm (ok_val _ _) (Grows.refl _) (fun hf => ⟨hf, Nat.le_refl _⟩)
            rw [den_val] at this
            exact this
          · cases hu
        · cases hu
      · exact gen_sound hI hs hcall h hall he hm k
    · exact gen_sound hI hs hcall h hall he hm k
  · rename_i op t x y yt ho
    split at h
    · rename_i p hx
      split at h
      · rename_i q hy
        split at h
        · rename_i u hu
          simp only [Option.some.injEq, Prod.mk.injEq] at h
          obtain ⟨rfl, rfl⟩ := h
          have h1 : a.eval x = p := by rw [he x, hx]; rfl
          have h2 : a.eval y = q := by rw [he y, hy]; rfl
          have : (execOp a.eval o).run P w = .ok (.value u) w := by
            unfold execOp; simp only [ho, h1, h2]; rw [Sem.run_bind, binV_run hu w]; rfl
          unfold Oper.wp; rw [this, Oper.upon_value]
          have := k m w (Agree.refl _ _) hm (ok_val _ _) (Grows.refl _) (fun hf => ⟨hf, Nat.le_refl _⟩)
          rw [den_val] at this
          exact this
        · cases h
      · cases h
    · cases h
  · rename_i t ps ho
    cases hv : (partsS ρ ps).all (fun p => p.2.isVal) with
    | true =>
      rw [hv] at h
      exact gen_sound hI hs hcall h hall he hm k
    | false =>
      rw [hv] at h
      simp only [cond_false] at h
      split at h
      · rename_i u hu
        simp only [Option.some.injEq, Prod.mk.injEq] at h
        obtain ⟨rfl, rfl⟩ := h
        obtain ⟨h1, h2⟩ := build_sound (P := P) (m := m) (w := w) hu (mem := mem) (parts_map_ok hok)
        have : (execOp a.eval o).run P w = .ok (.value (u.den m)) w := by
          unfold execOp; simp only [ho]; rw [parts_map he, Sem.run_bind, h1]; rfl
        unfold Oper.wp; rw [this, Oper.upon_value]
        exact k m w (Agree.refl _ _) hm h2 (Grows.refl _) (fun hf => ⟨hf, Nat.le_refl _⟩)
      · cases h
  · rename_i t n ps ho
    split at h
    · rename_i kb hkb
      simp only [Option.some.injEq, Prod.mk.injEq] at h
      obtain ⟨rfl, rfl⟩ := h
      obtain ⟨h1, h2⟩ := row_sound (P := P) (m := m) (w := w) hkb (mem := mem) (parts_map_ok hok)
      obtain ⟨hr, hag⟩ := hm.alloc (hid ⟨_, rfl⟩) kb.ty h2
      have : (execOp a.eval o).run P w = .ok (.value (.slice (some ⟨w.heap.size, 0, none⟩) n n)) (w.alloc (.cells (kb.cells.map (SV.den m)).toArray kb.ty (0, 0))) := by
        unfold execOp; simp only [ho]; rw [parts_map he, Sem.run_bind, h1]; rfl
      unfold Oper.wp; rw [this, Oper.upon_value]
      have := k _ _ hag hr (by simp [ok_slc, Eff.mem, upd_self]) (grows_upd _ _ _) fresh_new
      simpa [den_slc, upd_self] using this
    · cases h
  · rename_i t x i ho
    split at h
    · rename_i u hu
      simp only [Option.some.injEq, Prod.mk.injEq] at h
      obtain ⟨rfl, rfl⟩ := h
      obtain ⟨h1, h2⟩ := idx_sound (P := P) (m := m) (w := w) hu (hok x)
      have : (execOp a.eval o).run P w = .ok (.value (u.den m)) w := by
        unfold execOp; simp only [ho, he x, he i]; rw [Sem.run_bind, h1]; rfl
      unfold Oper.wp; rw [this, Oper.upon_value]
      exact k m w (Agree.refl _ _) hm h2 (Grows.refl _) (fun hf => ⟨hf, Nat.le_refl _⟩)
    · cases h
  · exact gen_sound hI hs hcall h hall he hm k
end
end Go.Ev
