/- Parts of the proof, joined (2). -/
import Derived.Orders
import Derived.LoopN
import Derived.Below
import Derived.Laws.CopyRow
import Derived.Laws.Rows
import Derived.Laws.Cells
import Derived.Laws.Sem
import Derived.Laws.StructEq
import Derived.KernelRfl
import Derived.Test.YtbpdpnoekkkapaaDoorZ1
set_option linter.unusedSectionVars false
set_option linter.unusedSimpArgs false
set_option linter.unusedVariables false
section
namespace Go.Ev
open Go.RowKit
inductive SV where
  | val (v : Value)
  | ptr (b off : Nat)
  | slc (b off len cap : Nat)
  | arr (l : List SV)
  | xs (r : List Nat)
  | xp (r : List Nat) (i off : Nat)
  | fn (f : FuncId) (l : List SV)
  | unk
structure XR where
  A : Option Addr
  sz : Nat
  n : Nat
  c : Nat
  g : Nat → List SV
class XEnv where
  env : List Nat → XR
variable [XEnv]
mutual
def SV.den (m : Nat → Nat) : SV → Value
  | .val v => v
  | .ptr b o => .pointer (some ⟨m b, o, none⟩)
  | .slc b o n c => .slice (some ⟨m b, o, none⟩) n c
  | .arr l => .agg (SV.denL m l).toArray
  | .xs r => .slice (XEnv.env r).A (XEnv.env r).n (XEnv.env r).c
  | .xp r i o => .pointer ((XEnv.env r).A.map fun a => a.add (i * (XEnv.env r).sz + o))
  | .fn f l => .func (.func f) #[] (SV.denL m l).toArray
  | .unk => undef
def SV.denL (m : Nat → Nat) : List SV → List Value
  | [] => []
  | s :: r => SV.den m s :: SV.denL m r
end
theorem denL_eq (m : Nat → Nat) : ∀ (l : List SV), SV.denL m l = l.map (SV.den m)
  | [] => rfl
  | s :: r => by simp only [SV.denL, List.map_cons, denL_eq m r]
theorem den_val (m : Nat → Nat) (v : Value) : (SV.val v).den m = v := by simp only [SV.den]
theorem den_ptr (m : Nat → Nat) (b o : Nat) : (SV.ptr b o).den m = .pointer (some ⟨m b, o, none⟩) := by simp only [SV.den]
theorem den_slc (m : Nat → Nat) (b o n c : Nat) : (SV.slc b o n c).den m = .slice (some ⟨m b, o, none⟩) n c := by simp only [SV.den]
theorem den_arr (m : Nat → Nat) (l : List SV) : (SV.arr l).den m = .agg (l.map (SV.den m)).toArray := by simp only [SV.den, denL_eq]
theorem den_xs (m : Nat → Nat) (r : List Nat) : (SV.xs r).den m = .slice (XEnv.env r).A (XEnv.env r).n (XEnv.env r).c := by simp only [SV.den]
theorem den_xp (m : Nat → Nat) (r : List Nat) (i o : Nat) : (SV.xp r i o).den m = .pointer ((XEnv.env r).A.map fun a => a.add (i * (XEnv.env r).sz + o)) := by simp only [SV.den]
theorem den_fn (m : Nat → Nat) (f : FuncId) (l : List SV) : (SV.fn f l).den m = .func (.func f) #[] (l.map (SV.den m)).toArray := by simp only [SV.den, denL_eq]
theorem den_unk (m : Nat → Nat) : SV.unk.den m = undef := by simp only [SV.den]
def SV.known : SV → Bool
  | .unk => false
  | _ => true
def SV.cells : SV → List SV
  | .val v => v.cells.toList.map .val
  | .arr l => l
  | .ptr b o => [.ptr b o]
  | .slc b o n c => [.slc b o n c]
  | .xs r => [.xs r]
  | .xp r i o => [.xp r i o]
  | .fn f l => [.fn f l]
  | .unk => [.unk]
def SV.isVal : SV → Bool
  | .val _ => true
  | _ => false
def SV.un : SV → Value
  | .val v => v
  | _ => undef
def SV.one : SV → Bool
  | .val v => v.oneCell'
  | .ptr _ _ => true
  | .slc _ _ _ _ => true
  | .arr _ => false
  | .xs _ => true
  | .xp _ _ _ => true
  | .fn _ _ => true
  | .unk => false
structure Blk where
  ty : TypeId
  cells : List SV
abbrev Mem := Nat → Option Blk
def upd {α : Type} (f : Nat → α) (i : Nat) (x : α) : Nat → α := fun j => bif Nat.beq j i then x else f j
theorem upd_self {α : Type} (f : Nat → α) (i : Nat) (x : α) : upd f i x i = x := by simp [upd]
theorem upd_ne {α : Type} (f : Nat → α) {i j : Nat} (x : α) (h : j ≠ i) : upd f i x j = f j := by
  have : Nat.beq j i = false := by
    cases hb : Nat.beq j i with
    | false => rfl
    | true => exact absurd (Nat.eq_of_beq_eq_true hb) h
  simp [upd, this]
inductive Eff where
  | non
  | new (k : Blk)
  | put (b : Nat) (k : Blk)
  | all (mem : Mem) (next : Nat)
def Eff.mem (mem : Mem) (id : Nat) : Eff → Mem
  | .non => mem
  | .new k => upd mem id (some k)
  | .put b k => upd mem b (some k)
  | .all m _ => m
def Eff.next (id : Nat) : Eff → Nat
  | .non => id
  | .put _ _ => id
  | .new _ => id + 1
  | .all _ n => n
def pureRun {α : Type} (P : Program) : Sem α → Option α
  | .pure a => some a
  | .program k => pureRun P (k P)
  | .mark _ k => pureRun P k
  | _ => none
theorem pureRun_run {α : Type} {P : Program} {v : α} : ∀ (s : Sem α), pureRun P s = some v → ∀ w, s.run P w = .ok v w
  | .pure a, h, w => by simp only [pureRun, Option.some.injEq] at h; subst h; rfl
  | .program k, h, w => by
    simp only [pureRun] at h
    have := pureRun_run (k P) h w
    simpa [Sem.run] using this
  | .mark _ k, h, w => by
    simp only [pureRun] at h
    have := pureRun_run k h w
    simpa [Sem.run] using this
  | .load .., h, _ | .store .., h, _ | .new .., h, _ | .shape .., h, _ | .freeze .., h, _ | .frozen .., h, _ | .getObj .., h, _ | .setObj .., h, _ | .choose .., h, _ | .sys .., h, _ | .halt _, h, _ => by simp [pureRun] at h
def vals? : List SV → Option (List Value)
  | [] => some []
  | .val v :: r => match vals? r with
    | some l => some (v :: l)
    | none => none
  | .ptr _ _ :: _ => none
  | .slc _ _ _ _ :: _ => none
  | .arr _ :: _ => none
  | .xs _ :: _ => none
  | .xp _ _ _ :: _ => none
  | .fn _ _ :: _ => none
  | .unk :: _ => none
theorem vals_den (m : Nat → Nat) : ∀ (l : List SV) {vs : List Value}, vals? l = some vs → l.map (SV.den m) = vs
  | [], vs, h => by simp only [vals?, Option.some.injEq] at h; subst h; rfl
  | .val v :: r, vs, h => by
    unfold vals? at h
    split at h
    · rename_i l hl
      simp only [Option.some.injEq] at h
      subst h
      simp [den_val, vals_den m r hl]
    · cases h
  | .ptr _ _ :: _, vs, h => by simp [vals?] at h
  | .slc _ _ _ _ :: _, vs, h => by simp [vals?] at h
  | .arr _ :: _, vs, h => by simp [vals?] at h
  | .xs _ :: _, vs, h => by simp [vals?] at h
  | .xp _ _ _ :: _, vs, h => by simp [vals?] at h
  | .fn _ _ :: _, vs, h => by simp [vals?] at h
  | .unk :: _, vs, h => by simp [vals?] at h
def evLoad (P : Program) (t : TypeId) (k : Blk) (off : Nat) : Option SV :=
  match pureRun P (isAgg t) with
  | some true => match pureRun P (sizeOf t) with
    | some n => bif Nat.beq ((k.cells.drop off).take n).length n then
        match vals? ((k.cells.drop off).take n) with
        | some vs => some (.val (.agg vs.toArray))
        | none => some (.arr ((k.cells.drop off).take n))
      else none
    | none => none
  | some false => k.cells[off]?
  | none => none
def evStore (P : Program) (t : TypeId) (k : Blk) (off : Nat) (x : SV) : Option Blk :=
  match pureRun P (sizeOf t) with
  | some n => bif Nat.beq x.cells.length n && Nat.ble (off + n) k.cells.length && x.cells.all SV.one then
      some { ty := k.ty, cells := k.cells.take off ++ x.cells ++ k.cells.drop (off + n) }
    else none
  | none => none
def fieldOff (P : Program) (s : TypeId) (i : Nat) : Option Nat :=
  match pureRun P (underlying s) with
  | some (.struct fs) => match fs[i]? with
    | some f => match pureRun P (sizeOf f.type) with
      | some (_ + 1) => some f.offset
      | _ => none
    | none => none
  | _ => none
def eqFld (P : Program) (eqk : TypeId → Value → Value → Option Bool) (xs ys : Array Value) : List Field → Option Bool
  | [] => some true
  | f :: fs => bif f.name == "_" then eqFld P eqk xs ys fs else
    match pureRun P (part f.type xs f.offset) with
    | some a => match pureRun P (part f.type ys f.offset) with
      | some b => match eqk f.type a b with
        | some r => match eqFld P eqk xs ys fs with
          | some s => some (r && s)
          | none => none
        | none => none
      | none => none
    | none => none
def isAggV : Value → Bool
  | .agg _ => true
  | _ => false
def eqB (P : Program) : Nat → TypeId → Value → Value → Option Bool
  | 0, _, _, _ => none
  | d + 1, t, x, y => bif isAggV x && isAggV y then
      match P.underlying t with
      | some (.struct fs) => bif P.stoodInHeld t then none else eqFld P (eqB P d) x.cells y.cells fs.toList
      | _ => none
    else pureRun P (Op.equalIn (d + 1) t x y)
theorem eqFld_run {P : Program} {d : Nat} {eqk : TypeId → Value → Value → Option Bool} (h : ∀ t x y b, eqk t x y = some b → ∀ w, (Op.equalIn d t x y).run P w = .ok b w) {xs ys : Array Value} : ∀ (fs : List Field) (b : Bool), eqFld P eqk xs ys fs = some b → ∀ w, (Op.eqFields d xs ys fs).run P w = .ok b w
  | [], b, hb, w => by simp only [eqFld, Option.some.injEq] at hb; subst hb; simp [Op.eqFields]
  | f :: fs, b, hb, w => by
    unfold eqFld at hb
    cases hn : (f.name == "_") with
    | true =>
      rw [hn] at hb
      have : ¬ f.name ≠ "_" := by simpa using hn
      rw [Op.eqFields, if_neg this]
      exact eqFld_run h fs b hb w
    | false =>
      rw [hn] at hb
      have hn' : f.name ≠ "_" := by simpa using hn
      simp only [cond_false] at hb
      split at hb
      · rename_i a ha
        split at hb
        · rename_i c hc
          split at hb
          · rename_i r hr
            split at hb
            · rename_i s hs
              simp only [Option.some.injEq] at hb
              subst hb
              rw [Op.eqFields]
              simp only [if_pos hn', Sem.run_bind, pureRun_run _ ha w, pureRun_run _ hc w, h _ _ _ _ hr w, Result.andThen_ok]
              cases r
              · simp
              · simpa using eqFld_run h fs s hs w
            · cases hb
          · cases hb
        · cases hb
      · cases hb
theorem eqB_run {P : Program} : ∀ (d : Nat) (t : TypeId) (x y : Value) (b : Bool), eqB P d t x y = some b → ∀ w, (Op.equalIn d t x y).run P w = .ok b w
  | 0, _, _, _, _, h, _ => by simp [eqB] at h
  | d + 1, t, x, y, b, h, w => by
    unfold eqB at h
    cases hc : (isAggV x && isAggV y) with
    | false => rw [hc] at h; exact pureRun_run _ h w
    | true =>
      rw [hc] at h
      simp only [cond_true] at h
      rw [Bool.and_eq_true] at hc
      split at h
      · rename_i fs hu
        cases hp : P.stoodInHeld t with
        | true => rw [hp] at h; cases h
        | false =>
          rw [hp] at h
          simp only [cond_false] at h
          have hf : P.fieldsOf t = fs := by simp [Program.fieldsOf, hu]
          cases x <;> simp only [isAggV, Bool.false_eq_true, false_and] at hc
          cases y <;> simp only [isAggV, Bool.false_eq_true, and_false] at hc
          rw [run_equalIn_struct (P := P) w d t _ _ (by rw [hf]; exact hu) hp, hf]
          exact eqFld_run (eqB_run d) _ _ h w
      · cases h
def cmpV (P : Program) (op : BinOp) (t : TypeId) (x y : Operand) (a b : Value) : Option Value :=
  match pureRun P (eqGuard op t x y a b) with
  | some _ => match eqB P 10000 t a b with
    | some r => match op with
      | .eql => some (.bool r)
      | .neq => some (.bool (!r))
      | _ => none
    | none => none
  | none => none
theorem cmpV_run {P : Program} {op : BinOp} {t : TypeId} {x y : Operand} {xs ys : Array Value} {v : Value} (h : cmpV P op t x y (.agg xs) (.agg ys) = some v) (w : World) :
    ((do eqGuard op t x y (.agg xs) (.agg ys); binOp op t (.agg xs) (.agg ys)) : Sem Value).run P w = .ok v w := by
  unfold cmpV at h
  split at h
  · rename_i u hg
    split at h
    · rename_i r hr
      have hr' := eqB_run 10000 t _ _ r hr w
      split at h
      · simp only [Option.some.injEq] at h
        subst h
        rw [Sem.run_bind, pureRun_run _ hg w, Result.andThen_ok, run_eql_struct, hr']
        rfl
      · simp only [Option.some.injEq] at h
        subst h
        rw [Sem.run_bind, pureRun_run _ hg w, Result.andThen_ok, run_neq_struct, hr']
        rfl
      · cases h
    · cases h
  · cases h
def quoV (a b : Nat) : Option Value := bif (Ieee.double.div a b).isSome then some (.float .f64 ((Ieee.double.div a b).getD 0)) else none
def isF64 : Value → Option Nat
  | .float .f64 a => some a
  | _ => none
def isEq : BinOp → Bool
  | .eql => true
  | .neq => true
  | _ => false
def isQuo : BinOp → Bool
  | .quo => true
  | _ => false
def binV (P : Program) (op : BinOp) (t : TypeId) (x y : Operand) (a b : Value) : Option Value :=
  bif isEq op && (isAggV a && isAggV b) then cmpV P op t x y a b
  else match isF64 a, isF64 b with
    | some m, some n => bif isQuo op then quoV m n else pureRun P (do eqGuard op t x y a b; binOp op t a b)
    | _, _ => pureRun P (do eqGuard op t x y a b; binOp op t a b)
theorem binV_run {P : Program} {op : BinOp} {t : TypeId} {x y : Operand} {a b v : Value} (h : binV P op t x y a b = some v) (w : World) :
    ((do eqGuard op t x y a b; binOp op t a b) : Sem Value).run P w = .ok v w := by
  unfold binV at h
  cases hc : (isEq op && (isAggV a && isAggV b)) with
  | true =>
    rw [hc] at h
    simp only [cond_true] at h
    simp only [Bool.and_eq_true] at hc
    obtain ⟨_, ha, hb⟩ := hc
    cases a <;> simp only [isAggV, Bool.false_eq_true] at ha
    cases b <;> simp only [isAggV, Bool.false_eq_true] at hb
    exact cmpV_run h w
  | false =>
    rw [hc] at h
    simp only [cond_false] at h
    split at h
    · rename_i m n hm hn
      cases hq : isQuo op with
      | false => rw [hq] at h; exact pureRun_run _ h w
      | true =>
        rw [hq] at h
        simp only [cond_true, quoV] at h
        cases hd : Ieee.double.div m n with
        | none => rw [hd] at h; cases h
        | some r =>
          rw [hd] at h
          simp only [Option.isSome_some, cond_true, Option.getD_some, Option.some.injEq] at h
          subst h
          cases op <;> simp only [isQuo, Bool.false_eq_true] at hq
          have ha : a = .float .f64 m := by
            unfold isF64 at hm
            split at hm
            · cases hm; rfl
            · cases hm
          have hb : b = .float .f64 n := by
            unfold isF64 at hn
            split at hn
            · cases hn; rfl
            · cases hn
          subst ha hb
          simp [eqGuard, binOp, Op.floatArith, FloatKind.format, hd]
    · exact pureRun_run _ h w
def seqParts (size n : Nat) : List (Nat × SV) → Nat → Option (List SV)
  | [], i => bif Nat.beq i n then some [] else none
  | (j, s) :: r, i => bif Nat.beq j i && Nat.beq s.cells.length size then
      match seqParts size n r (i + 1) with
      | some cs => some (s.cells ++ cs)
      | none => none
    else none
def buildArr (P : Program) (t : TypeId) (parts : List (Nat × SV)) : Option SV :=
  match pureRun P (underlying t) with
  | some (.array n elem) => match pureRun P (sizeOf elem) with
    | some size => match pureRun P (zeroValue t) with
      | some z => bif Nat.beq z.cells.size (n * size) then
          match seqParts size n parts 0 with
          | some cs => some (.arr cs)
          | none => none
        else none
      | none => none
    | none => none
  | _ => none
def buildRow (P : Program) (t : TypeId) (len : Nat) (parts : List (Nat × SV)) : Option Blk :=
  match pureRun P (underlying t) with
  | some (.slice elem) => match pureRun P (sizeOf elem) with
    | some size => bif Nat.beq len 0 && parts.isEmpty then some ⟨elem, []⟩ else bif Nat.ble (len * size) 16777216 && !(Nat.beq (len * size) 0) then
        match pureRun P (zeroValue elem) with
        | some _ => match seqParts size len parts 0 with
          | some cs => some ⟨elem, cs⟩
          | none => none
        | none => none
      else none
    | none => none
  | _ => none
def idxAddr (P : Program) (t : TypeId) (x i : SV) : Option SV :=
  match i with
  | .val (.int _ n) => match x with
    | .slc b off len _ => match pureRun P (underlying t) with
      | some (.slice elem) => match pureRun P (sizeOf elem) with
        | some size => bif decide (0 ≤ n) && decide (n < len) then some (.ptr b (off + n.toNat * size)) else none
        | none => none
      | _ => none
    | .ptr b off => match pureRun P (underlying t) with
      | some (.array len elem) => match pureRun P (sizeOf elem) with
        | some size => bif decide (0 ≤ n) && decide (n < len) then some (.ptr b (off + n.toNat * size)) else none
        | none => none
      | _ => none
    | .xs r => match pureRun P (underlying t) with
      | some (.slice elem) => match pureRun P (sizeOf elem) with
        | some size => bif Nat.beq size (XEnv.env r).sz then (bif decide (0 ≤ n) && decide (n < (XEnv.env r).n) then some (.xp r n.toNat 0) else none) else none
        | none => none
      | _ => none
    | _ => none
  | _ => none
def partsS (ρ : Operand → SV) (ps : Array (Nat × Operand)) : List (Nat × SV) := ps.toList.map fun p => (p.1, ρ p.2)
def lenOf (P : Program) (b : Builtin) (ts : Array TypeId) (args : List SV) : Option SV :=
  match b with
  | .len => match args with
    | [.slc _ _ n _] => match ts[0]? with
      | some t => match pureRun P (underlying t) with
        | some (.slice _) => some (.val (.int .i64 n))
        | _ => none
      | none => none
    | [.xs r] => match ts[0]? with
      | some t => match pureRun P (underlying t) with
        | some (.slice _) => some (.val (.int .i64 (XEnv.env r).n))
        | _ => none
      | none => none
    | _ => none
  | _ => none
abbrev CallFn := FuncId → List SV → Mem → Nat → Option (SV × Mem × Nat)
abbrev ExtFn := FuncId → Option (List Value → Option Value)
def enters (P : Program) (f : FuncId) : Bool :=
  match P.funcs[f]? with
  | some fn => fn.body.isSome && !(fn.name == "runtime.NumGoroutine")
  | none => false
mutual
def SV.free : SV → Bool
  | .val _ => true
  | .ptr _ _ => false
  | .slc _ _ _ _ => false
  | .arr l => SV.freeL l
  | .xs _ => true
  | .xp _ _ _ => true
  | .fn _ l => SV.freeL l
  | .unk => true
def SV.freeL : List SV → Bool
  | [] => true
  | s :: r => s.free && SV.freeL r
end
def inCall (call : CallFn) (f : FuncId) (args : List SV) (mem : Mem) (id : Nat) : Option (SV × Eff) :=
  bif args.all SV.known then
    bif args.all SV.free then
      match call f args (fun _ => none) 0 with
      | some (u, _, _) => match u with
        | .val v => some (.val v, .non)
        | _ => match call f args mem id with
          | some (v, mem', id') => some (v, .all mem' id')
          | none => none
      | none => none
    else match call f args mem id with
      | some (v, mem', id') => some (v, .all mem' id')
      | none => none
  else none
def asFn : SV → Option (FuncId × List SV)
  | .fn f l => some (f, l)
  | .val (.func (.func f) x y) => bif x.isEmpty && y.isEmpty then some (f, []) else none
  | _ => none
theorem asFn_eq {s : SV} {p : FuncId × List SV} (h : asFn s = some p) : s.known = true ∧ (∀ m, s.den m = .func (.func p.1) #[] (p.2.map (SV.den m)).toArray) ∧ (s = .fn p.1 p.2 ∨ p.2 = []) := by
  unfold asFn at h
  split at h
  · cases h
    exact ⟨rfl, fun m => den_fn _ _ _, .inl rfl⟩
  · rename_i f x y
    cases hx : x.isEmpty && y.isEmpty with
    | false => rw [hx] at h; cases h
    | true =>
      rw [hx] at h
      cases h
      simp only [Bool.and_eq_true, Array.isEmpty_iff] at hx
      obtain ⟨rfl, rfl⟩ := hx
      exact ⟨rfl, fun m => den_val _ _, .inr rfl⟩
  · cases h
def doCall (P : Program) (X : ExtFn) (call : CallFn) (f : FuncId) (args : List SV) (mem : Mem) (id : Nat) : Option (SV × Eff) :=
  match X f with
  | some g => match vals? args with
    | some vs => match g vs with
      | some v => some (.val v, .non)
      | none => none
    | none => none
  | none => bif enters P f then inCall call f args mem id else none
def noSelect : Op → Bool
  | .select _ _ => false
  | _ => true
def evGen (P : Program) (call : CallFn) (ρ : Operand → SV) (mem : Mem) (id : Nat) (o : Oper) : Option (SV × Eff) :=
  bif o.op.operands.toList.all (fun x => (ρ x).isVal) && noSelect o.op then
    match pureRun P (execOp (fun x => (ρ x).un) o) with
    | some (.value v) => some (.val v, .non)
    | some .skip => some (.val undef, .non)
    | some (.enter f args) => inCall call f (args.toList.map .val) mem id
    | _ => none
  else none
def evOp (P : Program) (X : ExtFn) (call : CallFn) (ρ : Operand → SV) (mem : Mem) (id : Nat) (o : Oper) : Option (SV × Eff) :=
  match o.op with
  | .move x => bif (ρ x).known then some (ρ x, .non) else none
  | .assign x => bif (ρ x).known then some (ρ x, .non) else none
  | .pick c a b => match ρ c with
    | .val (.bool t) => bif t then (bif (ρ a).known then some (ρ a, .non) else none) else (bif (ρ b).known then some (ρ b, .non) else none)
    | _ => none
  | .alloc t => match pureRun P (zeroValue t) with
    | some z => some (.ptr id 0, .new ⟨t, (SV.val z).cells⟩)
    | none => none
  | .box t x => bif (ρ x).known then some (.ptr id 0, .new ⟨t, (ρ x).cells⟩) else none
  | .load t x => match ρ x with
    | .xp r i off => match evLoad P t ⟨t, (XEnv.env r).g i⟩ off with
      | some v => some (v, .non)
      | none => none
    | .ptr b off => match mem b with
      | some k => match evLoad P t k off with
        | some v => some (v, .non)
        | none => none
      | none => none
    | _ => none
  | .store t x y => match ρ x with
    | .ptr b off => match mem b with
      | some k => match evStore P t k off (ρ y) with
        | some k' => some (.val undef, .put b k')
        | none => none
      | none => none
    | _ => none
  | .fieldAddr s x i => match ρ x with
    | .ptr b off => match fieldOff P s i with
      | some d => some (.ptr b (off + d), .non)
      | none => none
    | .xp r j off => match fieldOff P s i with
      | some d => some (.xp r j (off + d), .non)
      | none => none
    | _ => none
  | .nilCheck x => match ρ x with
    | .ptr b off => some (.ptr b off, .non)
    | .xp r j off => some (.xp r j off, .non)
    | .fn f l => some (.fn f l, .non)
    | _ => evGen P call ρ mem id o
  | .makeFunc fn first captured => match fn with
    | .func f => bif first.isEmpty && (captured.toList.all (fun x => (ρ x).known) && !(captured.toList.all (fun x => (ρ x).isVal))) then some (.fn f (captured.toList.map ρ), .non) else evGen P call ρ mem id o
    | _ => evGen P call ρ mem id o
  | .call c => match c.callee with
    | .value (.func f) => doCall P X call f (c.args.toList.map ρ) mem id
    | .value (.tmp t) => match asFn (ρ (.tmp t)) with
      | some p => doCall P X call p.1 (c.args.toList.map ρ ++ p.2) mem id
      | none => evGen P call ρ mem id o
    | .builtin b => match lenOf P b c.argTypes (c.args.toList.map ρ) with
      | some v => some (v, .non)
      | none => evGen P call ρ mem id o
    | _ => evGen P call ρ mem id o
  | .binOp op t x y _ => match ρ x with
    | .val a => match ρ y with
      | .val b => match binV P op t x y a b with
        | some v => some (.val v, .non)
        | none => none
      | _ => none
    | _ => none
  | .build t ps => bif (partsS ρ ps).all (fun p => p.2.isVal) then evGen P call ρ mem id o else bif (partsS ρ ps).all (fun p => p.2.known) then (match buildArr P t (partsS ρ ps) with
    | some v => some (v, .non)
    | none => none) else none
  | .buildSlice t n ps => bif (partsS ρ ps).all (fun p => p.2.known) then (match buildRow P t n (partsS ρ ps) with
    | some k => some (.slc id 0 n n, .new k)
    | none => none) else none
  | .indexAddr t x i => match idxAddr P t (ρ x) (ρ i) with
    | some v => some (v, .non)
    | none => none
  | _ => evGen P call ρ mem id o
mutual
def SV.ok (mem : Mem) : SV → Prop
  | .val _ => True
  | .ptr b _ => (mem b).isSome = true
  | .slc b _ _ _ => (mem b).isSome = true
  | .arr l => SV.okL mem l
  | .xs _ => True
  | .xp r i _ => i < (XEnv.env r).n
  | .fn _ l => SV.okL mem l
  | .unk => True
def SV.okL (mem : Mem) : List SV → Prop
  | [] => True
  | s :: r => SV.ok mem s ∧ SV.okL mem r
end
theorem okL_iff (mem : Mem) : ∀ (l : List SV), SV.okL mem l ↔ ∀ c ∈ l, c.ok mem
  | [] => by simp [SV.okL]
  | s :: r => by simp [SV.okL, okL_iff mem r]
theorem ok_val (mem : Mem) (v : Value) : (SV.val v).ok mem := by simp only [SV.ok]
theorem ok_ptr {mem : Mem} {b o : Nat} : (SV.ptr b o).ok mem ↔ (mem b).isSome = true := by simp only [SV.ok]
theorem ok_slc {mem : Mem} {b o n c : Nat} : (SV.slc b o n c).ok mem ↔ (mem b).isSome = true := by simp only [SV.ok]
theorem ok_arr {mem : Mem} {l : List SV} : (SV.arr l).ok mem ↔ ∀ c ∈ l, c.ok mem := by simp only [SV.ok, okL_iff]
theorem ok_xs {mem : Mem} {r : List Nat} : (SV.xs r).ok mem := by simp only [SV.ok]
theorem ok_unk {mem : Mem} : SV.unk.ok mem := by simp only [SV.ok]
theorem ok_xp {mem : Mem} {r : List Nat} {i o : Nat} : (SV.xp r i o).ok mem ↔ i < (XEnv.env r).n := by simp only [SV.ok]
theorem ok_fn {mem : Mem} {f : FuncId} {l : List SV} : (SV.fn f l).ok mem ↔ ∀ c ∈ l, c.ok mem := by simp only [SV.ok, okL_iff]
def Agree (mem : Mem) (m m' : Nat → Nat) : Prop := ∀ b, (mem b).isSome = true → m' b = m b
theorem Agree.refl (mem : Mem) (m : Nat → Nat) : Agree mem m m := fun _ _ => rfl
mutual
theorem SV.den_agree {mem : Mem} {m m' : Nat → Nat} (h : Agree mem m m') : ∀ {s : SV}, s.ok mem → s.den m' = s.den m
  | .val v, _ => by rw [den_val, den_val]
  | .ptr b o, hs => by rw [den_ptr, den_ptr, h b (ok_ptr.1 hs)]
  | .slc b o n c, hs => by rw [den_slc, den_slc, h b (ok_slc.1 hs)]
  | .arr l, hs => by rw [SV.den, SV.den, SV.denL_agree h (by simpa only [SV.ok] using hs)]
  | .xs r, _ => by rw [den_xs, den_xs]
  | .xp r i o, _ => by rw [den_xp, den_xp]
  | .fn f l, hs => by rw [SV.den, SV.den, SV.denL_agree h (by simpa only [SV.ok] using hs)]
  | .unk, _ => by rw [den_unk, den_unk]
theorem SV.denL_agree {mem : Mem} {m m' : Nat → Nat} (h : Agree mem m m') : ∀ {l : List SV}, SV.okL mem l → SV.denL m' l = SV.denL m l
  | [], _ => by simp only [SV.denL]
  | s :: r, hs => by
    simp only [SV.okL] at hs
    simp only [SV.denL, SV.den_agree h hs.1, SV.denL_agree h hs.2]
end
theorem map_agree {mem : Mem} {m m' : Nat → Nat} (h : Agree mem m m') {l : List SV} (hs : ∀ c ∈ l, c.ok mem) : l.map (SV.den m') = l.map (SV.den m) :=
  List.map_congr_left fun c hc => SV.den_agree h (hs c hc)
structure MR (w0 : World) (m : Nat → Nat) (mem : Mem) (w : World) : Prop where
  below : Below w0.heap.size w0 w
  blk : ∀ b k, mem b = some k → w0.heap.size ≤ m b ∧ w.heap[m b]? = some (.cells (k.cells.map (SV.den m)).toArray k.ty (0, 0)) ∧ ∀ c ∈ k.cells, c.ok mem
  inj : ∀ b b' k k', mem b = some k → mem b' = some k' → m b = m b' → b = b'
theorem MR.start (w : World) (m : Nat → Nat) : MR w m (fun _ => none) w := ⟨Below.refl _ _, fun _ _ h => (by cases h), fun _ _ _ _ h => (by cases h)⟩
def Grows (mem mem' : Mem) : Prop := ∀ b, (mem b).isSome = true → (mem' b).isSome = true
theorem Grows.refl (mem : Mem) : Grows mem mem := fun _ h => h
theorem Grows.trans {a b c : Mem} (h : Grows a b) (k : Grows b c) : Grows a c := fun i hi => k i (h i hi)
mutual
theorem SV.ok_grows {mem mem' : Mem} (h : Grows mem mem') : ∀ {s : SV}, s.ok mem → s.ok mem'
  | .val v, _ => ok_val _ _
  | .ptr b o, hs => ok_ptr.2 (h b (ok_ptr.1 hs))
  | .slc b o n c, hs => ok_slc.2 (h b (ok_slc.1 hs))
  | .arr l, hs => by
    simp only [SV.ok] at hs ⊢
    exact SV.okL_grows h hs
  | .xs r, _ => ok_xs
  | .xp r i o, hs => ok_xp.2 (ok_xp.1 hs)
  | .fn f l, hs => by
    simp only [SV.ok] at hs ⊢
    exact SV.okL_grows h hs
  | .unk, _ => ok_unk
theorem SV.okL_grows {mem mem' : Mem} (h : Grows mem mem') : ∀ {l : List SV}, SV.okL mem l → SV.okL mem' l
  | [], _ => by simp only [SV.okL]
  | s :: r, hs => by
    simp only [SV.okL] at hs ⊢
    exact ⟨SV.ok_grows h hs.1, SV.okL_grows h hs.2⟩
end
theorem Agree.trans {mem mem' : Mem} {m m' m'' : Nat → Nat} (h : Agree mem m m') (g : Grows mem mem') (k : Agree mem' m' m'') : Agree mem m m'' := fun b hb => (k b (g b hb)).trans (h b hb)
theorem grows_upd (mem : Mem) (b : Nat) (k : Blk) : Grows mem (upd mem b (some k)) := fun i hi => by
  by_cases h : i = b
  · subst h; simp [upd_self]
  · rw [upd_ne _ _ h]; exact hi
theorem cells_ok {mem : Mem} {s : SV} (h : s.ok mem) : ∀ c ∈ s.cells, c.ok mem := by
  cases s with
  | val v =>
    intro c hc
    simp only [SV.cells, List.mem_map] at hc
    obtain ⟨x, _, rfl⟩ := hc
    exact ok_val _ _
  | arr l => exact ok_arr.1 h
  | _ =>
    intro c hc
    simp only [SV.cells, List.mem_singleton] at hc
    subst hc
    exact h
theorem cells_den (m : Nat → Nat) (s : SV) : s.cells.map (SV.den m) = (s.den m).cells.toList := by
  cases s with
  | val v =>
    simp only [SV.cells, den_val, List.map_map]
    have : (SV.den m ∘ SV.val) = id := funext fun x => den_val m x
    rw [this, List.map_id]
  | arr l => rw [den_arr]; simp [SV.cells, Value.cells]
  | ptr b o => rw [den_ptr]; simp [SV.cells, Value.cells, den_ptr]
  | slc b o n c => rw [den_slc]; simp [SV.cells, Value.cells, den_slc]
  | xs r => rw [den_xs]; simp [SV.cells, Value.cells, den_xs]
  | xp r i o => rw [den_xp]; simp [SV.cells, Value.cells, den_xp]
  | fn f l => rw [den_fn]; simp [SV.cells, Value.cells, den_fn]
  | unk => rw [den_unk]; simp [SV.cells, undef, Value.cells, den_unk]
theorem MR.alloc {w0 : World} {m : Nat → Nat} {mem : Mem} {w : World} (h : MR w0 m mem w) {id : Nat} (hid : mem id = none) (t : TypeId) {cells : List SV} (hc : ∀ c ∈ cells, c.ok mem) :
    MR w0 (upd m id w.heap.size) (upd mem id (some ⟨t, cells⟩)) (w.alloc (.cells (cells.map (SV.den m)).toArray t (0, 0))) ∧ Agree mem m (upd m id w.heap.size) := by
  have hag : Agree mem m (upd m id w.heap.size) := fun b hb => by
    rw [upd_ne]
    rintro rfl
    rw [hid] at hb
    cases hb
  refine ⟨⟨h.below.alloc h.below.size _, ?_, ?_⟩, hag⟩
  · intro b k hb
    by_cases e : b = id
    · subst e
      rw [upd_self] at hb ⊢
      simp only [Option.some.injEq] at hb
      subst hb
      refine ⟨h.below.size, ?_, fun c hcc => SV.ok_grows (grows_upd _ _ _) (hc c hcc)⟩
      simp only []
      rw [map_agree hag hc]
      exact Go.heap_alloc_new w _
    · rw [upd_ne _ _ e] at hb ⊢
      obtain ⟨h1, h2, h3⟩ := h.blk b k hb
      refine ⟨h1, ?_, fun c hcc => SV.ok_grows (grows_upd _ _ _) (h3 c hcc)⟩
      rw [map_agree hag h3, Below.heap_alloc _ _ _ (Array.getElem?_eq_some_iff.1 h2).1]
      exact h2
  · intro b b' k k' hb hb' he
    by_cases e : b = id
    · by_cases e' : b' = id
      · rw [e, e']
      · subst e
        rw [upd_self, upd_ne _ _ e'] at he
        rw [upd_ne _ _ e'] at hb'
        have := (Array.getElem?_eq_some_iff.1 (h.blk b' k' hb').2.1).1
        omega
    · by_cases e' : b' = id
      · subst e'
        rw [upd_self, upd_ne _ _ e] at he
        rw [upd_ne _ _ e] at hb
        have := (Array.getElem?_eq_some_iff.1 (h.blk b k hb).2.1).1
        omega
      · rw [upd_ne _ _ e] at hb he
        rw [upd_ne _ _ e'] at hb' he
        exact h.inj b b' k k' hb hb' he
theorem MR.put {w0 : World} {m : Nat → Nat} {mem : Mem} {w : World} (h : MR w0 m mem w) {b : Nat} {k : Blk} (hb : mem b = some k) {cells : List SV} (hc : ∀ c ∈ cells, c.ok mem) :
    MR w0 m (upd mem b (some ⟨k.ty, cells⟩)) (w.setRow (m b) (cells.map (SV.den m)).toArray) := by
  obtain ⟨h1, h2, _⟩ := h.blk b k hb
  refine ⟨?_, ?_, ?_⟩
  · refine h.below.trans ⟨rfl, rfl, rfl, by simp [World.setRow], fun i hi => setRow_other _ _ _ _ (by omega)⟩
  · intro b' k' hb'
    by_cases e : b' = b
    · subst e
      rw [upd_self] at hb'
      simp only [Option.some.injEq] at hb'
      subst hb'
      exact ⟨h1, setRow_heap _ _ _ _ _ _ h2, fun c hcc => SV.ok_grows (grows_upd _ _ _) (hc c hcc)⟩
    · rw [upd_ne _ _ e] at hb'
      obtain ⟨g1, g2, g3⟩ := h.blk b' k' hb'
      refine ⟨g1, ?_, fun c hcc => SV.ok_grows (grows_upd _ _ _) (g3 c hcc)⟩
      rw [setRow_other _ _ _ _ (fun he => e (h.inj b' b k' k hb' hb he))]
      exact g2
  · intro b1 b2 k1 k2 h3 h4 he
    have f : ∀ x kx, upd mem b (some ⟨k.ty, cells⟩) x = some kx → ∃ ky, mem x = some ky := fun x kx hx => by
      by_cases e : x = b
      · subst e; exact ⟨k, hb⟩
      · rw [upd_ne _ _ e] at hx; exact ⟨_, hx⟩
    obtain ⟨y1, q1⟩ := f _ _ h3
    obtain ⟨y2, q2⟩ := f _ _ h4
    exact h.inj _ _ _ _ q1 q2 he
theorem MR.step {w0 : World} {m : Nat → Nat} {mem : Mem} {w w' : World} (h : MR w0 m mem w) (hb : Below w.heap.size w w') : MR w0 m mem w' :=
  ⟨h.below.trans (hb.mono h.below.size), fun b k hk => by
    obtain ⟨h1, h2, h3⟩ := h.blk b k hk
    exact ⟨h1, (hb.block _ (Array.getElem?_eq_some_iff.1 h2).1).trans h2, h3⟩, h.inj⟩
theorem MR.drew {w0 : World} {m : Nat → Nat} {mem : Mem} {w : World} (h : MR w0 m mem w) : MR w0 m mem { w with drawn := w.drawn + 1 } :=
  ⟨⟨h.below.os, h.below.tape, h.below.output, h.below.size, h.below.block⟩, h.blk, h.inj⟩
def CallPost (w0 : World) (m : Nat → Nat) (mem : Mem) (id : Nat) (v : SV) (mem' : Mem) (id' : Nat) (e : Ending) (w' : World) : Prop :=
  ∃ m', Agree mem m m' ∧ MR w0 m' mem' w' ∧ v.ok mem' ∧ Grows mem mem' ∧ (∀ b, id' ≤ b → mem' b = none) ∧ id ≤ id' ∧ e = .returned (v.den m')
def CallSound (P : Program) (I : World → Prop) (call : CallFn) : Prop :=
  ∀ f args mem id v mem' id', call f args mem id = some (v, mem', id') → (∀ b, id ≤ b → mem b = none) → ∀ w0 m w, I w0 → MR w0 m mem w → (∀ x ∈ args, x.ok mem) →
    Calls P f (args.map (SV.den m)).toArray w (CallPost w0 m mem id v mem' id')
def ExtSound (P : Program) (X : ExtFn) : Prop :=
  ∀ f g, X f = some g → ∀ args v, g args = some v → ∀ w, (callFunc f args.toArray).run P w = .ok (.value v) w
def XRow (w : World) (x : XR) : Prop := ∀ j, j < x.n → (x.g j).length = x.sz ∧ (∀ s ∈ x.g j, ∀ mem, s.ok mem) ∧ ∃ a, x.A = some a ∧ a.block < w.heap.size ∧ ∀ k s, (x.g j)[k]? = some s → ∀ m, w.cell? (a.add (j * x.sz + k)) = some (s.den m)
def XOk (w : World) : Prop := ∀ r, XRow w (XEnv.env r)
theorem XOk.below {w w' : World} (h : XOk w) (hb : Below w.heap.size w w') : XOk w' := fun r j hj => by
  obtain ⟨h1, h2, a, h3, h4, h5⟩ := h r j hj
  refine ⟨h1, h2, a, h3, Nat.lt_of_lt_of_le h4 hb.size, fun k s hk m => ?_⟩
  rw [← h5 k s hk m]
  refine hb.cell ?_
  have : (a.add (j * (XEnv.env r).sz + k)).block = a.block := by
    unfold Addr.add
    split <;> rfl
  rw [this]
  exact h4
def Stable (I : World → Prop) : Prop := ∀ w w', I w → Below w.heap.size w w' → I w'
theorem run_enters {P : Program} {f : FuncId} (h : enters P f = true) (args : Array Value) (w : World) : (callFunc f args).run P w = .ok (.enter f args) w := by
  unfold enters at h
  split at h
  · rename_i fn hf
    simp only [Bool.and_eq_true, Bool.not_eq_true'] at h
    have h1 : fn.name ≠ "runtime.NumGoroutine" := by simpa using h.2
    have h2 : fn.body ≠ none := fun hb => by rw [hb] at h; simp at h
    simp [callFunc, hf, h1, h2]
  · cases h
mutual
theorem SV.free_ok {mem mem' : Mem} : ∀ {s : SV}, s.free = true → s.ok mem → s.ok mem'
  | .val v, _, _ => ok_val _ _
  | .ptr b o, h, _ => by simp [SV.free] at h
  | .slc b o n c, h, _ => by simp [SV.free] at h
  | .arr l, h, k => by
    simp only [SV.free, SV.ok] at h k ⊢
    exact SV.freeL_ok h k
  | .xs r, _, _ => ok_xs
  | .xp r i o, _, k => ok_xp.2 (ok_xp.1 k)
  | .fn f l, h, k => by
    simp only [SV.free, SV.ok] at h k ⊢
    exact SV.freeL_ok h k
  | .unk, _, _ => ok_unk
theorem SV.freeL_ok {mem mem' : Mem} : ∀ {l : List SV}, SV.freeL l = true → SV.okL mem l → SV.okL mem' l
  | [], _, _ => by simp only [SV.okL]
  | s :: r, h, k => by
    simp only [SV.freeL, Bool.and_eq_true] at h
    simp only [SV.okL] at k ⊢
    exact ⟨SV.free_ok h.1 k.1, SV.freeL_ok h.2 k.2⟩
end
section
variable {P : Program} {X : ExtFn} {call : CallFn} {I : World → Prop} {ρ : Operand → SV} {mem : Mem} {id : Nat} {o : Oper} {v : SV} {e : Eff} {a : Act} {w0 w : World} {m : Nat → Nat}
  {K : Act → World → Prop} {Q : Exit → Act → World → Prop}
theorem upon_enter_of (hI : I w0) (hs : Stable I) (hcall : CallSound P I call) {f : FuncId} {args : List SV} (h : inCall call f args mem id = some (v, e)) (hall : (∃ m n, e = .all m n) → ∀ b, id ≤ b → mem b = none)
    (hok : ∀ x ∈ args, x.ok mem) (hm : MR w0 m mem w)
    (k : ∀ m' w', Agree mem m m' → MR w0 m' (e.mem mem id) w' → v.ok (e.mem mem id) → Grows mem (e.mem mem id) → ((∀ b, id ≤ b → mem b = none) → (∀ b, e.next id ≤ b → e.mem mem id b = none) ∧ id ≤ e.next id) → K (a.put o.dst (v.den m')) w') :
    o.upon P a K Q (.ok (.enter f (args.map (SV.den m)).toArray) w) := by
  have second : ∀ u mem' id', call f args mem id = some (u, mem', id') → v = u → e = .all mem' id' → o.upon P a K Q (.ok (.enter f (args.map (SV.den m)).toArray) w) := by
    rintro u mem' id' hc rfl rfl
    rw [Oper.upon_enter]
    refine Calls.mono (hcall _ _ _ _ _ _ _ hc (hall ⟨_, _, rfl⟩) w0 m w hI hm hok) ?_
    rintro e' w' ⟨m', hag, hr, hvok, hg, hf, hle, rfl⟩
    exact k m' w' hag hr hvok hg (fun _ => ⟨hf, hle⟩)
  unfold inCall at h
  cases hkn : args.all SV.known with
  | false => rw [hkn] at h; cases h
  | true =>
  rw [hkn] at h
  simp only [cond_true] at h
  cases hv : args.all SV.free with
  | true =>
    rw [hv] at h
    simp only [cond_true] at h
    split at h
    · rename_i u mem' id' hc
      split at h
      · rename_i u'
        simp only [Option.some.injEq, Prod.mk.injEq] at h
        obtain ⟨rfl, rfl⟩ := h
        rw [Oper.upon_enter]
        refine Calls.mono (hcall _ _ _ _ _ _ _ hc (fun _ _ => rfl) w m w (hs _ _ hI hm.below) (MR.start w m) (fun x hx => SV.free_ok (List.all_eq_true.1 hv x hx) (hok x hx))) ?_
        rintro e' w' ⟨m', _, hr, _, _, _, _, rfl⟩
        exact k m w' (Agree.refl _ _) (hm.step hr.below) trivial (Grows.refl _) (fun hf => ⟨hf, Nat.le_refl _⟩)
      · split at h
        · rename_i hc2
          simp only [Option.some.injEq, Prod.mk.injEq] at h
          exact second _ _ _ hc2 h.1.symm h.2.symm
        · cases h
    · cases h
  | false =>
    rw [hv] at h
    simp only [cond_false] at h
    split at h
    · rename_i hc2
      simp only [Option.some.injEq, Prod.mk.injEq] at h
      exact second _ _ _ hc2 h.1.symm h.2.symm
    · cases h
theorem gen_sound (hI : I w0) (hs : Stable I) (hcall : CallSound P I call) (h : evGen P call ρ mem id o = some (v, e)) (hall : (∃ m n, e = .all m n) → ∀ b, id ≤ b → mem b = none)
    (he : ∀ x, (ρ x).known = true → a.eval x = (ρ x).den m) (hm : MR w0 m mem w)
    (k : ∀ m' w', Agree mem m m' → MR w0 m' (e.mem mem id) w' → v.ok (e.mem mem id) → Grows mem (e.mem mem id) → ((∀ b, id ≤ b → mem b = none) → (∀ b, e.next id ≤ b → e.mem mem id b = none) ∧ id ≤ e.next id) → K (a.put o.dst (v.den m')) w') :
    o.wp P a w K Q := by
  unfold evGen at h
  cases hc : (o.op.operands.toList.all (fun x => (ρ x).isVal) && noSelect o.op) with
  | false => rw [hc] at h; cases h
  | true =>
    rw [hc] at h
    simp only [cond_true] at h
    rw [Bool.and_eq_true] at hc
    obtain ⟨h1, h2⟩ := hc
    have hns : ∀ cs b, o.op ≠ .select cs b := fun cs b hh => by rw [hh] at h2; cases h2
    have hcongr : execOp a.eval o = execOp (fun x => (ρ x).un) o := execOp_congr o hns fun x hx => by
      have hv := List.all_eq_true.1 h1 x (by simpa using hx)
      cases hr : ρ x with
      | val u => rw [he x (by rw [hr]; rfl), hr, den_val]; rfl
      | _ => rw [hr] at hv; cases hv
    unfold Oper.wp
    rw [hcongr]
    split at h
    · rename_i u hp
      simp only [Option.some.injEq, Prod.mk.injEq] at h
      obtain ⟨rfl, rfl⟩ := h
      rw [pureRun_run _ hp w, Oper.upon_value]
      exact k m w (Agree.refl _ _) hm trivial (Grows.refl _) (fun hf => ⟨hf, Nat.le_refl _⟩)
    · rename_i hp
      simp only [Option.some.injEq, Prod.mk.injEq] at h
      obtain ⟨rfl, rfl⟩ := h
      rw [pureRun_run _ hp w, Oper.upon_skip]
      exact k m w (Agree.refl _ _) hm trivial (Grows.refl _) (fun hf => ⟨hf, Nat.le_refl _⟩)
    · rename_i f args hp
      rw [pureRun_run _ hp w]
      have ha : ((args.toList.map SV.val).map (SV.den m)).toArray = args := by
        rw [List.map_map]
        have : (SV.den m ∘ SV.val) = _root_.id := rfl
        rw [this, List.map_id]
      rw [← ha]
      refine upon_enter_of hI hs hcall h hall (fun x hx => ?_) hm k
      simp only [List.mem_map] at hx
      obtain ⟨y, _, rfl⟩ := hx
      trivial
    · cases h
theorem inCall_known {f : FuncId} {args : List SV} {mem : Mem} {id : Nat} {p : SV × Eff} (h : inCall call f args mem id = some p) : ∀ x ∈ args, x.known = true := by
  unfold inCall at h
  cases hkn : args.all SV.known with
  | false => rw [hkn] at h; cases h
  | true => exact List.all_eq_true.1 hkn
theorem vals_known : ∀ {l : List SV} {vs : List Value}, vals? l = some vs → ∀ x ∈ l, x.known = true
  | [], _, _, x, hx => by cases hx
  | .val v :: r, vs, h, x, hx => by
    unfold vals? at h
    split at h
    · rename_i l hl
      rcases List.mem_cons.1 hx with rfl | hx
      · rfl
      · exact vals_known hl x hx
    · cases h
  | .ptr _ _ :: _, vs, h, _, _ => by simp [vals?] at h
  | .slc _ _ _ _ :: _, vs, h, _, _ => by simp [vals?] at h
  | .arr _ :: _, vs, h, _, _ => by simp [vals?] at h
  | .xs _ :: _, vs, h, _, _ => by simp [vals?] at h
  | .xp _ _ _ :: _, vs, h, _, _ => by simp [vals?] at h
  | .fn _ _ :: _, vs, h, _, _ => by simp [vals?] at h
  | .unk :: _, vs, h, _, _ => by simp [vals?] at h
theorem doCall_known {f : FuncId} {args : List SV} {mem : Mem} {id : Nat} {p : SV × Eff} (h : doCall P X call f args mem id = some p) : ∀ x ∈ args, x.known = true := by
  unfold doCall at h
  split at h
  · split at h
    · rename_i vs hvs
      exact vals_known hvs
    · cases h
  · cases hen : enters P f with
    | false => rw [hen] at h; cases h
    | true => rw [hen] at h; exact inCall_known h
theorem doCall_sound (hX : ExtSound P X) (hI : I w0) (hs : Stable I) (hcall : CallSound P I call) {f : FuncId} {args : List SV} (hex : (execOp a.eval o).run P w = (callFunc f (args.map (SV.den m)).toArray).run P w)
    (h : doCall P X call f args mem id = some (v, e)) (hall : (∃ m n, e = .all m n) → ∀ b, id ≤ b → mem b = none)
    (hok : ∀ x ∈ args, x.ok mem) (hm : MR w0 m mem w)
    (k : ∀ m' w', Agree mem m m' → MR w0 m' (e.mem mem id) w' → v.ok (e.mem mem id) → Grows mem (e.mem mem id) → ((∀ b, id ≤ b → mem b = none) → (∀ b, e.next id ≤ b → e.mem mem id b = none) ∧ id ≤ e.next id) → K (a.put o.dst (v.den m')) w') :
    o.wp P a w K Q := by
  unfold Oper.wp
  rw [hex]
  unfold doCall at h
  split at h
  · rename_i g hg
    split at h
    · rename_i vs hvs
      split at h
      · rename_i u hu
        simp only [Option.some.injEq, Prod.mk.injEq] at h
        obtain ⟨rfl, rfl⟩ := h
        rw [vals_den m _ hvs, hX f g hg vs u hu w, Oper.upon_value]
        have := k m w (Agree.refl _ _) hm (ok_val _ _) (Grows.refl _) (fun hf => ⟨hf, Nat.le_refl _⟩)
        rwa [den_val] at this
      · cases h
    · cases h
  · cases hen : enters P f with
    | false => rw [hen] at h; cases h
    | true =>
      rw [hen] at h
      simp only [cond_true] at h
      rw [run_enters hen]
      exact upon_enter_of hI hs hcall h hall hok hm k
theorem map_eval {as_ : Array Operand} (he : ∀ x, (ρ x).known = true → a.eval x = (ρ x).den m) (hk : ∀ x ∈ as_.toList.map ρ, x.known = true) : as_.map a.eval = ((as_.toList.map ρ).map (SV.den m)).toArray := by
  apply Array.ext'
  simp only [Array.toList_map, List.map_map]
  exact List.map_congr_left fun x hx => he x (hk _ (List.mem_map.2 ⟨x, hx, rfl⟩))
theorem cells_at {g off n : Nat} {arr : Array Value} {t : TypeId} {W : World} {cs : List Value} (hb : W.heap[g]? = some (.cells arr t (0, 0))) (hs : (arr.toList.drop off).take n = cs) :
    ∀ j u, cs[j]? = some u → W.cell? ((⟨g, off, none⟩ : Addr).add j) = some u := by
  intro j u hj
  subst hs
  have hj' : arr[off + j]? = some u := by
    rw [List.getElem?_take] at hj
    split at hj
    · rw [List.getElem?_drop] at hj
      simpa using hj
    · cases hj
  have ha : (⟨g, off, none⟩ : Addr).add j = ⟨g, off + j, none⟩ := by
    unfold Addr.add
    split
    · subst_vars; rfl
    · rfl
  rw [ha]
  unfold World.cell?
  rw [hb]
  exact hj'
theorem load_sound {t : TypeId} {k : Blk} {off g : Nat} {u : SV} (h : evLoad P t k off = some u) (hb : w.heap[g]? = some (.cells (k.cells.map (SV.den m)).toArray k.ty (0, 0))) (hok : ∀ c ∈ k.cells, c.ok mem) :
    (Instr.loadAt t (.pointer (some ⟨g, off, none⟩))).run P w = .ok (u.den m) w ∧ u.ok mem := by
  unfold evLoad at h
  have hl : (Instr.loadAt t (.pointer (some ⟨g, off, none⟩))).run P w = (loadVar t ⟨g, off, none⟩).run P w := by
    simp only [Instr.loadAt, Instr.sureAddr, Sem.run_bind, Sem.run_pure, Result.andThen_ok]
  rw [hl]
  split at h
  · rename_i hagg
    split at h
    · rename_i n hn
      cases hlen : Nat.beq ((k.cells.drop off).take n).length n with
      | false => rw [hlen] at h; cases h
      | true =>
        rw [hlen] at h
        simp only [cond_true] at h
        split at h
        · rename_i vs hvs
          simp only [Option.some.injEq] at h
          subst h
          have hd := vals_den m _ hvs
          have hc := cells_at (cs := vs) (n := n) (off := off) hb (by
            rw [← hd, List.map_take, List.map_drop])
          have hvl : vs.length = n := by
            rw [← hd, List.length_map]
            exact Nat.eq_of_beq_eq_true hlen
          have hr := run_loadCells_list (P := P) (w := w) ⟨g, off, none⟩ vs hc
          rw [hvl] at hr
          refine ⟨?_, ok_val _ _⟩
          simp only [loadVar, Sem.run_bind, pureRun_run _ hagg w, Result.andThen_ok, pureRun_run _ hn w, hr, if_true, Sem.run_pure, den_val]
        · simp only [Option.some.injEq] at h
          subst h
          have hc := cells_at (cs := ((k.cells.drop off).take n).map (SV.den m)) (n := n) (off := off) hb (by
            rw [List.map_take, List.map_drop])
          have hvl : (((k.cells.drop off).take n).map (SV.den m)).length = n := by
            rw [List.length_map]
            exact Nat.eq_of_beq_eq_true hlen
          have hr := run_loadCells_list (P := P) (w := w) ⟨g, off, none⟩ _ hc
          rw [hvl] at hr
          refine ⟨?_, ok_arr.2 fun c hcc => hok c (List.mem_of_mem_drop (List.mem_of_mem_take hcc))⟩
          simp only [loadVar, Sem.run_bind, pureRun_run _ hagg w, Result.andThen_ok, pureRun_run _ hn w, hr, if_true, Sem.run_pure, den_arr]
    · cases h
  · rename_i hagg
    refine ⟨?_, hok u (List.mem_of_getElem? h)⟩
    have hcell : w.cell? ⟨g, off, none⟩ = some (u.den m) := by
      unfold World.cell?
      rw [hb]
      simp [h]
    simp only [loadVar, Sem.run_bind, pureRun_run _ hagg w, Result.andThen_ok, Bool.false_eq_true, if_false]
    show (load _).run P w = _
    simp [load, Sem.run, hcell]
  · cases h
theorem one_den {s : SV} (h : s.one = true) : (s.den m).oneCell' = true := by
  cases s with
  | val v => rw [den_val]; exact h
  | ptr b o => rw [den_ptr]; rfl
  | slc b o n c => rw [den_slc]; rfl
  | xs r => rw [den_xs]; rfl
  | xp r i o => rw [den_xp]; rfl
  | fn f l => rw [den_fn]; rfl
  | unk => cases h
  | arr l => cases h
theorem foldl_cells (vs : List Value) : ∀ (k off : Nat) (cells : Array Value), off + k + vs.length ≤ cells.size →
    (vs.zipIdx k).foldl (fun cs p => cs.setIfInBounds (off + p.2) p.1) cells = (cells.toList.take (off + k) ++ vs ++ cells.toList.drop (off + k + vs.length)).toArray := by
  induction vs with
  | nil =>
    intro k off cells h
    simp
  | cons v vs ih =>
    intro k off cells h
    simp only [List.length_cons] at h
    simp only [List.zipIdx_cons, List.foldl_cons]
    rw [ih (k + 1) off _ (by simp; omega)]
    congr 1
    rw [Array.toList_setIfInBounds]
    have h1 : off + k < cells.toList.length := by rw [Array.length_toList]; omega
    rw [show off + (k + 1) = off + k + 1 by omega, List.take_set, List.drop_set_of_lt (by omega)]
    rw [List.take_add_one]
    have h2 : (cells.toList.take (off + k) ++ cells.toList[off + k]?.toList).set (off + k) v = cells.toList.take (off + k) ++ [v] := by
      have h3 : (cells.toList.take (off + k)).length = off + k := by rw [List.length_take]; omega
      rw [List.getElem?_eq_getElem h1]
      simp only [Option.toList_some]
      rw [List.set_append_right _ _ (by omega), h3, Nat.sub_self]
      rfl
    rw [h2]
    simp only [List.append_assoc, List.singleton_append, List.length_cons]
    rw [show off + k + 1 + vs.length = off + k + (vs.length + 1) by omega]
theorem fill_seq {size n : Nat} : ∀ (parts : List (Nat × SV)) (i : Nat) (cs : List SV), seqParts size n parts i = some cs → ∀ (cells : Array Value) (place : Nat → Option (Nat × Nat)), (∀ j, place j = some (j * size, size)) → cells.size = n * size → i ≤ n → 
    Instr.fill place cells (parts.map fun p => (p.1, p.2.den m)) = some (cells.toList.take (i * size) ++ cs.map (SV.den m)).toArray ∧ cs.length = (n - i) * size
  | [], i, cs, h, cells, place, hp, hsz, hi => by
    unfold seqParts at h
    cases hb : Nat.beq i n with
    | false => rw [hb] at h; cases h
    | true =>
      rw [hb] at h
      simp only [cond_true, Option.some.injEq] at h
      subst h
      have := Nat.eq_of_beq_eq_true hb
      subst this
      refine ⟨?_, by simp⟩
      simp only [List.map_nil, Instr.fill, List.append_nil]
      rw [List.take_of_length_le (by rw [Array.length_toList]; omega)]
  | (j, s) :: r, i, cs, h, cells, place, hp, hsz, hi => by
    unfold seqParts at h
    cases hb : (Nat.beq j i && Nat.beq s.cells.length size) with
    | false => rw [hb] at h; cases h
    | true =>
      rw [hb] at h
      simp only [cond_true] at h
      rw [Bool.and_eq_true] at hb
      have hj := Nat.eq_of_beq_eq_true hb.1
      have hs := Nat.eq_of_beq_eq_true hb.2
      subst hj
      split at h
      · rename_i cs' hcs
        simp only [Option.some.injEq] at h
        subst h
        have hjn : j < n := by
          rcases Nat.lt_or_ge j n with h | h
          · exact h
          · exfalso
            have e : j = n := Nat.le_antisymm hi h
            subst e
            have : ∀ (l : List (Nat × SV)) (a : Nat), j < a → seqParts size j l a = none := by
              intro l
              induction l with
              | nil =>
                intro a ha
                unfold seqParts
                have : Nat.beq a j = false := by
                  cases hq : Nat.beq a j with
                  | false => rfl
                  | true => have := Nat.eq_of_beq_eq_true hq; omega
                rw [this]; rfl
              | cons p l ih =>
                intro a ha
                obtain ⟨x, y⟩ := p
                unfold seqParts
                rw [ih (a + 1) (by omega)]
                cases (Nat.beq x a && Nat.beq y.cells.length size) <;> rfl
            rw [this r (j + 1) (by omega)] at hcs
            cases hcs
        have hvs : (s.den m).cells.toList = s.cells.map (SV.den m) := (cells_den m s).symm
        have hvl : (s.den m).cells.size = size := by rw [← Array.length_toList, hvs, List.length_map, hs]
        have hle : j * size + size ≤ cells.size := by
          rw [hsz, ← Nat.succ_mul]
          exact Nat.mul_le_mul_right _ hjn
        have hfold : (s.den m).cells.zipIdx.foldl (fun cs p => cs.setIfInBounds (j * size + p.2) p.1) cells = (cells.toList.take (j * size) ++ s.cells.map (SV.den m) ++ cells.toList.drop (j * size + size)).toArray := by
          have := foldl_cells (s.den m).cells.toList 0 (j * size) cells (by rw [Array.length_toList, hvl]; omega)
          rw [Array.length_toList, hvl, hvs] at this
          rw [← Array.foldl_toList, Array.toList_zipIdx, hvs]
          simpa using this
        obtain ⟨h1, h2⟩ := fill_seq r (j + 1) cs' hcs (cells.toList.take (j * size) ++ s.cells.map (SV.den m) ++ cells.toList.drop (j * size + size)).toArray place hp (by
          simp only [List.size_toArray, List.length_append, List.length_take, List.length_map, List.length_drop, Array.length_toList, hs]
          omega) hjn
        refine ⟨?_, ?_⟩
        · simp only [List.map_cons, Instr.fill, hp j, hvl]
          rw [if_neg (by simp; omega), hfold, h1]
          congr 2
          have h3 : (j + 1) * size = (cells.toList.take (j * size) ++ s.cells.map (SV.den m)).length := by
            simp only [List.length_append, List.length_take, List.length_map, Array.length_toList, hs, Nat.succ_mul]
            omega
          simp only [List.toList_toArray]
          rw [h3, List.take_left']
          · simp only [List.map_append, List.append_assoc]
          · rfl
        · rw [List.length_append, hs, h2, Nat.add_comm, ← Nat.succ_mul]
          congr 1
          omega
      · cases h
theorem parts_ok {mem : Mem} {size n : Nat} : ∀ (parts : List (Nat × SV)) (i : Nat) (cs : List SV), seqParts size n parts i = some cs → (∀ p ∈ parts, p.2.ok mem) → ∀ c ∈ cs, c.ok mem
  | [], i, cs, h, _ => by
    unfold seqParts at h
    cases hb : Nat.beq i n with
    | false => rw [hb] at h; cases h
    | true =>
      rw [hb] at h
      simp only [cond_true, Option.some.injEq] at h
      subst h
      intro c hc
      cases hc
  | (j, s) :: r, i, cs, h, hok => by
    unfold seqParts at h
    cases hb : (Nat.beq j i && Nat.beq s.cells.length size) with
    | false => rw [hb] at h; cases h
    | true =>
      rw [hb] at h
      simp only [cond_true] at h
      split at h
      · rename_i cs' hcs
        simp only [Option.some.injEq] at h
        subst h
        intro c hc
        rcases List.mem_append.1 hc with hc | hc
        · exact cells_ok (hok (j, s) List.mem_cons_self) c hc
        · exact parts_ok r (i + 1) cs' hcs (fun p hp => hok p (List.mem_cons_of_mem _ hp)) c hc
      · cases h
theorem build_sound {t : TypeId} {parts : List (Nat × SV)} {u : SV} (h : buildArr P t parts = some u) (hok : ∀ p ∈ parts, p.2.ok mem) :
    (Instr.build t (parts.map fun p => (p.1, p.2.den m)).toArray).run P w = .ok (u.den m) w ∧ u.ok mem := by
  unfold buildArr at h
  split at h
  · rename_i n elem hu
    split at h
    · rename_i size hsz
      split at h
      · rename_i z hz
        cases hb : Nat.beq z.cells.size (n * size) with
        | false => rw [hb] at h; cases h
        | true =>
          rw [hb] at h
          simp only [cond_true] at h
          split at h
          · rename_i cs hcs
            simp only [Option.some.injEq] at h
            subst h
            obtain ⟨h1, h2⟩ := fill_seq (m := m) parts 0 cs hcs z.cells (fun i => some (i * size, size)) (fun _ => rfl) (Nat.eq_of_beq_eq_true hb) (Nat.zero_le _)
            refine ⟨?_, ok_arr.2 (parts_ok parts 0 cs hcs hok)⟩
            simp only [Nat.zero_mul, List.take_zero, List.nil_append] at h1
            simp only [Instr.build, Sem.run_bind, pureRun_run _ hz w, Result.andThen_ok, pureRun_run _ hu w, pureRun_run _ hsz w, h1, Sem.run_pure, den_arr]
          · cases h
      · cases h
    · cases h
  · cases h
theorem row_sound {t : TypeId} {n : Nat} {parts : List (Nat × SV)} {k : Blk} (h : buildRow P t n parts = some k) (hok : ∀ p ∈ parts, p.2.ok mem) :
    (Instr.buildSlice t n (parts.map fun p => (p.1, p.2.den m)).toArray).run P w = .ok (.slice (some ⟨w.heap.size, 0, none⟩) n n) (w.alloc (.cells (k.cells.map (SV.den m)).toArray k.ty (0, 0))) ∧ ∀ c ∈ k.cells, c.ok mem := by
  unfold buildRow at h
  split at h
  · rename_i elem hu
    split at h
    · rename_i size hsz
      cases h00 : (Nat.beq n 0 && parts.isEmpty) with
      | true =>
        rw [h00] at h
        simp only [cond_true, Option.some.injEq] at h
        subst h
        rw [Bool.and_eq_true] at h00
        have hn := Nat.eq_of_beq_eq_true h00.1
        have hp : parts = [] := by simpa using h00.2
        subst hn hp
        refine ⟨?_, fun c hc => by cases hc⟩
        have hb3 : ¬ 0 * size > 2 ^ 24 := by omega
        have hb2 : 0 * size = 0 := by omega
        have hr : ((Array.range (0 * size)).map fun x => ((#[] : Array Value)[x % (#[] : Array Value).size]!)) = #[] := by
          rw [Nat.zero_mul]
          exact Array.eq_empty_of_size_eq_zero (by simp)
        have hfl : Instr.fill (fun i => some (i * size, size)) #[] [] = some #[] := rfl
        simp only [List.map_nil, Instr.buildSlice, Sem.run_bind, pureRun_run _ hu w, Result.andThen_ok, pureRun_run _ hsz w, if_neg hb3, if_pos hb2, Sem.run_pure, hr, hfl, newRow, newObj, Sem.run, World.alloc]
        try rfl
      | false =>
      rw [h00] at h
      simp only [cond_false] at h
      cases hb : (Nat.ble (n * size) 16777216 && !(Nat.beq (n * size) 0)) with
      | false => rw [hb] at h; cases h
      | true =>
        rw [hb] at h
        simp only [cond_true] at h
        rw [Bool.and_eq_true, Bool.not_eq_true'] at hb
        have hb1 := Nat.le_of_ble_eq_true hb.1
        have hb2 : n * size ≠ 0 := fun e => by rw [e] at hb; cases hb.2
        split at h
        · rename_i z hz
          split at h
          · rename_i cs hcs
            simp only [Option.some.injEq] at h
            subst h
            obtain ⟨h1, h2⟩ := fill_seq (m := m) parts 0 cs hcs ((Array.range (n * size)).map (z.cells[· % z.cells.size]!)) (fun i => some (i * size, size)) (fun _ => rfl) (by simp) (Nat.zero_le _)
            refine ⟨?_, parts_ok parts 0 cs hcs hok⟩
            simp only [Nat.zero_mul, List.take_zero, List.nil_append] at h1
            have hb3 : ¬ n * size > 2 ^ 24 := by omega
            simp only [Instr.buildSlice, Sem.run_bind, pureRun_run _ hu w, Result.andThen_ok, pureRun_run _ hsz w, if_neg hb3, if_neg hb2, Sem.run_pure, pureRun_run _ hz w, h1, newRow, newObj, Sem.run, World.alloc]
          · cases h
        · cases h
    · cases h
  · cases h
theorem idx_sound {t : TypeId} {x i u : SV} (hX0 : XOk w) (h : idxAddr P t x i = some u) (hok : x.ok mem) : (Instr.indexAt t (x.den m) (i.den m)).run P w = .ok (u.den m) w ∧ u.ok mem := by
  have hadd : ∀ (g off d : Nat), (⟨g, off, none⟩ : Addr).add d = ⟨g, off + d, none⟩ := fun g off d => by
    unfold Addr.add
    split
    · rename_i h0; rw [h0]; rfl
    · rfl
  unfold idxAddr at h
  split at h
  · rename_i kk q
    split at h
    · rename_i b off len cap
      split at h
      · rename_i elem hu
        split at h
        · rename_i size hsz
          cases hb : (decide (0 ≤ q) && decide (q < len)) with
          | false => rw [hb] at h; cases h
          | true =>
            rw [hb] at h
            simp only [cond_true, Option.some.injEq] at h
            subst h
            rw [Bool.and_eq_true, decide_eq_true_eq, decide_eq_true_eq] at hb
            refine ⟨?_, ok_ptr.2 (ok_slc.1 hok)⟩
            simp only [den_slc, den_val, den_ptr, Instr.indexAt, asIntOf, Sem.run_bind, Sem.run_pure, Result.andThen_ok, pureRun_run _ hu w, if_pos hb, pureRun_run _ hsz w, hadd]
        · cases h
      · cases h
    · rename_i b off
      split at h
      · rename_i len elem hu
        split at h
        · rename_i size hsz
          cases hb : (decide (0 ≤ q) && decide (q < len)) with
          | false => rw [hb] at h; cases h
          | true =>
            rw [hb] at h
            simp only [cond_true, Option.some.injEq] at h
            subst h
            rw [Bool.and_eq_true, decide_eq_true_eq, decide_eq_true_eq] at hb
            refine ⟨?_, ok_ptr.2 (ok_ptr.1 hok)⟩
            simp only [den_val, den_ptr, Instr.indexAt, asIntOf, Instr.sureAddr, Sem.run_bind, Sem.run_pure, Result.andThen_ok, pureRun_run _ hu w, if_pos hb, pureRun_run _ hsz w, hadd]
        · cases h
      · cases h
    · rename_i r
      split at h
      · rename_i elem hu
        split at h
        · rename_i size hsz
          cases hse : Nat.beq size (XEnv.env r).sz with
          | false => rw [hse] at h; cases h
          | true =>
            rw [hse] at h
            simp only [cond_true] at h
            have hse := Nat.eq_of_beq_eq_true hse
            cases hb : (decide (0 ≤ q) && decide (q < (XEnv.env r).n)) with
            | false => rw [hb] at h; cases h
            | true =>
              rw [hb] at h
              simp only [cond_true, Option.some.injEq] at h
              subst h
              rw [Bool.and_eq_true, decide_eq_true_eq, decide_eq_true_eq] at hb
              have hlt : q.toNat < (XEnv.env r).n := by omega
              obtain ⟨_, _, ad, hA, _, _⟩ := hX0 r q.toNat hlt
              refine ⟨?_, ok_xp.2 hlt⟩
              rw [den_xs, den_xp, hA]
              simp only [den_val, Instr.indexAt, asIntOf, Sem.run_bind, Sem.run_pure, Result.andThen_ok, pureRun_run _ hu w, if_pos hb, pureRun_run _ hsz w, Option.map_some, Nat.add_zero, hse]
        · cases h
      · cases h
    · cases h
  · cases h
theorem store_sound {t : TypeId} {k k' : Blk} {off g : Nat} {x : SV} (h : evStore P t k off x = some k') (hb : w.heap[g]? = some (.cells (k.cells.map (SV.den m)).toArray k.ty (0, 0))) (hok : ∀ c ∈ k.cells, c.ok mem) (hx : x.ok mem) :
    (Instr.storeAt t (.pointer (some ⟨g, off, none⟩)) (x.den m)).run P w = .ok () (w.setRow g (k'.cells.map (SV.den m)).toArray) ∧ (∀ c ∈ k'.cells, c.ok mem) ∧ k' = ⟨k.ty, k'.cells⟩ := by
  unfold evStore at h
  split at h
  · rename_i n hn
    cases hc : (Nat.beq x.cells.length n && Nat.ble (off + n) k.cells.length && x.cells.all SV.one) with
    | false => rw [hc] at h; cases h
    | true =>
      rw [hc] at h
      simp only [cond_true, Option.some.injEq] at h
      subst h
      simp only [Bool.and_eq_true] at hc
      obtain ⟨⟨h1, h2⟩, h3⟩ := hc
      have h1 := Nat.eq_of_beq_eq_true h1
      have h2 := Nat.le_of_ble_eq_true h2
      refine ⟨?_, ?_, rfl⟩
      · have hcells := cells_den m x
        have hlen : (x.den m).cells.toList.length = n := by rw [← hcells, List.length_map]; exact h1
        have hst := run_storeCells_at (P := P) g off k.ty (x.den m).cells.toList 0 _ w hb (by rw [hlen]; simpa using h2) (fun u hu => by
          rw [← hcells, List.mem_map] at hu
          obtain ⟨c, hcc, rfl⟩ := hu
          exact one_den (List.all_eq_true.1 h3 c hcc))
        have hsz : (x.den m).cells.size = n := by rw [← Array.length_toList]; exact hlen
        simp only [Instr.storeAt, Instr.sureAddr, Sem.run_bind, Sem.run_pure, Result.andThen_ok, storeVar, pureRun_run _ hn w, hsz, ne_eq, not_true_eq_false, if_false]
        rw [hst]
        congr 2
        rw [hlen]
        simp only [Nat.add_zero, List.map_append, List.map_take, List.map_drop, hcells]
      · intro c hcc
        simp only [List.mem_append] at hcc
        rcases hcc with (hcc | hcc) | hcc
        · exact hok c (List.mem_of_mem_take hcc)
        · exact cells_ok hx c hcc
        · exact hok c (List.mem_of_mem_drop hcc)
  · cases h
theorem store_known {t : TypeId} {kb k' : Blk} {off : Nat} {x : SV} (h : evStore P t kb off x = some k') : x.known = true := by
  cases x with
  | unk =>
    unfold evStore at h
    split at h
    · simp [SV.cells, SV.one] at h
    · cases h
  | _ => rfl
theorem field_sound {s : TypeId} {i d g off : Nat} (h : fieldOff P s i = some d) : (Instr.fieldAt s (.pointer (some ⟨g, off, none⟩)) i).run P w = .ok (.pointer (some ⟨g, off + d, none⟩)) w := by
  unfold fieldOff at h
  split at h
  · rename_i fs hu
    split at h
    · rename_i f hf
      split at h
      · rename_i n hn
        simp only [Option.some.injEq] at h
        subst h
        have ha : (⟨g, off, none⟩ : Addr).add f.offset = ⟨g, off + f.offset, none⟩ := by
          unfold Addr.add
          split
          · rename_i h0; rw [h0]; rfl
          · rfl
        simp only [Instr.fieldAt, Sem.run_bind, pureRun_run _ hu w, Result.andThen_ok, hf, Instr.sureAddr, Sem.run_pure, fieldPlace, pureRun_run _ hn w, Nat.add_one_ne_zero, if_false, ha]
      · cases h
    · cases h
  · cases h
theorem fresh_new {k : Blk} (hf : ∀ b, id ≤ b → mem b = none) : (∀ b, (Eff.new k).next id ≤ b → (Eff.new k).mem mem id b = none) ∧ id ≤ (Eff.new k).next id := by
  refine ⟨fun b hb => ?_, Nat.le_succ _⟩
  simp only [Eff.mem, Eff.next] at hb ⊢
  rw [upd_ne _ _ (by omega)]
  exact hf b (by omega)
theorem fresh_put {b0 : Nat} {k0 k : Blk} (hb0 : mem b0 = some k0) (hf : ∀ b, id ≤ b → mem b = none) : (∀ b, (Eff.put b0 k).next id ≤ b → (Eff.put b0 k).mem mem id b = none) ∧ id ≤ (Eff.put b0 k).next id := by
  refine ⟨fun b hb => ?_, Nat.le_refl _⟩
  simp only [Eff.mem, Eff.next] at hb ⊢
  rw [upd_ne _ _ (fun e => by rw [e] at hb; rw [hf b0 hb] at hb0; cases hb0)]
  exact hf b hb
theorem parts_map {ps : Array (Nat × Operand)} (he : ∀ x, (ρ x).known = true → a.eval x = (ρ x).den m) (hk : (partsS ρ ps).all (fun p => p.2.known) = true) : (ps.map fun (i, x) => (i, a.eval x)) = ((partsS ρ ps).map fun p => (p.1, p.2.den m)).toArray := by
  apply Array.ext'
  simp only [partsS, Array.toList_map, List.map_map]
  exact List.map_congr_left fun p hp => by
    obtain ⟨i, x⟩ := p
    have := List.all_eq_true.1 hk (i, ρ x) (List.mem_map.2 ⟨(i, x), hp, rfl⟩)
    simp [he x this]
theorem parts_map_ok {ps : Array (Nat × Operand)} (hok : ∀ x, (ρ x).ok mem) : ∀ p ∈ partsS ρ ps, p.2.ok mem := by
  intro p hp
  simp only [partsS, List.mem_map] at hp
  obtain ⟨q, _, rfl⟩ := hp
  exact hok q.2
theorem args_ok {as_ : List Operand} (hok : ∀ x, (ρ x).ok mem) : ∀ x ∈ as_.map ρ, x.ok mem := by
  intro x hx
  obtain ⟨y, _, rfl⟩ := List.mem_map.1 hx
  exact hok y
theorem idx_known {t : TypeId} {x i u : SV} (h : idxAddr P t x i = some u) : x.known = true ∧ i.known = true := by
  cases i with
  | val q => cases q <;> cases x <;> simp_all [idxAddr, SV.known]
  | _ => cases x <;> simp_all [idxAddr, SV.known]
theorem add_none (g off d : Nat) : (⟨g, off, none⟩ : Addr).add d = ⟨g, off + d, none⟩ := by
  unfold Addr.add
  split
  · rename_i h0; rw [h0]; rfl
  · rfl
theorem add_add (x : Addr) (i j : Nat) : (x.add i).add j = x.add (i + j) := by
  unfold Addr.add
  by_cases hi : i = 0
  · subst hi; simp
  · by_cases hj : j = 0
    · subst hj; simp [hi]
    · have : i + j ≠ 0 := by omega
      simp [hi, hj, this]
      try omega
theorem xload_sound {t : TypeId} {r : List Nat} {i off : Nat} {u : SV} (hX0 : XOk w) (hi : i < (XEnv.env r).n) (h : evLoad P t ⟨t, (XEnv.env r).g i⟩ off = some u) :
    (Instr.loadAt t ((SV.xp r i off).den m)).run P w = .ok (u.den m) w ∧ u.ok mem := by
  obtain ⟨hlen0, hall, ad, hA, _, hcell⟩ := hX0 r i hi
  rw [den_xp, hA]
  unfold evLoad at h
  have hcells : ∀ n j v, ((((XEnv.env r).g i).drop off).take n)[j]? = some v → w.cell? ((ad.add (i * (XEnv.env r).sz + off)).add j) = some (v.den m) := by
    intro n j v hj
    rw [add_add, Nat.add_assoc]
    refine hcell _ _ ?_ m
    rw [List.getElem?_take] at hj
    split at hj
    · rwa [List.getElem?_drop] at hj
    · cases hj
  have hl : (Instr.loadAt t (.pointer (some (ad.add (i * (XEnv.env r).sz + off))))).run P w = (loadVar t (ad.add (i * (XEnv.env r).sz + off))).run P w := by
    simp only [Instr.loadAt, Instr.sureAddr, Sem.run_bind, Sem.run_pure, Result.andThen_ok]
  simp only [Option.map_some]
  rw [hl]
  simp only at h
  split at h
  · rename_i hagg
    split at h
    · rename_i n hn
      cases hlen : Nat.beq ((((XEnv.env r).g i).drop off).take n).length n with
      | false => rw [hlen] at h; cases h
      | true =>
        rw [hlen] at h
        simp only [cond_true] at h
        have hr := run_loadCells_list (P := P) (w := w) (ad.add (i * (XEnv.env r).sz + off)) (((((XEnv.env r).g i).drop off).take n).map (SV.den m)) (by
          intro j v hj
          rw [List.getElem?_map, Option.map_eq_some_iff] at hj
          obtain ⟨s, hs, rfl⟩ := hj
          exact hcells n j s hs)
        rw [List.length_map, Nat.eq_of_beq_eq_true hlen] at hr
        split at h
        · rename_i vs hvs
          simp only [Option.some.injEq] at h
          subst h
          have hd := vals_den m _ hvs
          rw [hd] at hr
          refine ⟨?_, ok_val _ _⟩
          simp only [loadVar, Sem.run_bind, pureRun_run _ hagg w, Result.andThen_ok, pureRun_run _ hn w, hr, if_true, Sem.run_pure, den_val]
        · simp only [Option.some.injEq] at h
          subst h
          refine ⟨?_, ok_arr.2 fun c hcc => hall c (List.mem_of_mem_drop (List.mem_of_mem_take hcc)) mem⟩
          simp only [loadVar, Sem.run_bind, pureRun_run _ hagg w, Result.andThen_ok, pureRun_run _ hn w, hr, if_true, Sem.run_pure, den_arr]
    · cases h
  · rename_i hagg
    refine ⟨?_, hall u (List.mem_of_getElem? h) mem⟩
    have hc := hcell off u h m
    simp only [loadVar, Sem.run_bind, pureRun_run _ hagg w, Result.andThen_ok, Bool.false_eq_true, if_false]
    show (load _).run P w = _
    simp [load, Sem.run, hc]
  · cases h
theorem xfield_sound {s : TypeId} {i d : Nat} {x : Addr} (h : fieldOff P s i = some d) : (Instr.fieldAt s (.pointer (some x)) i).run P w = .ok (.pointer (some (x.add d))) w := by
  unfold fieldOff at h
  split at h
  · rename_i fs hu
    split at h
    · rename_i f hf
      split at h
      · rename_i n hn
        simp only [Option.some.injEq] at h
        subst h
        simp only [Instr.fieldAt, Sem.run_bind, pureRun_run _ hu w, Result.andThen_ok, hf, Instr.sureAddr, Sem.run_pure, fieldPlace, pureRun_run _ hn w, Nat.add_one_ne_zero, if_false]
      · cases h
    · cases h
  · cases h
theorem known_of {s u : SV} (h : s = u) (hu : u.known = true) : s.known = true := by rw [h]; exact hu
theorem op_sound (hX : ExtSound P X) (hI : I w0) (hs : Stable I) (hXO : ∀ w, I w → XOk w) (hcall : CallSound P I call) (h : evOp P X call ρ mem id o = some (v, e)) (hid : (∃ k, e = .new k) → mem id = none) (hall : (∃ m n, e = .all m n) → ∀ b, id ≤ b → mem b = none)
    (hok : ∀ x, (ρ x).ok mem) (he : ∀ x, (ρ x).known = true → a.eval x = (ρ x).den m) (hm : MR w0 m mem w)
    (k : ∀ m' w', Agree mem m m' → MR w0 m' (e.mem mem id) w' → v.ok (e.mem mem id) → Grows mem (e.mem mem id) → ((∀ b, id ≤ b → mem b = none) → (∀ b, e.next id ≤ b → e.mem mem id b = none) ∧ id ≤ e.next id) → K (a.put o.dst (v.den m')) w') :
    o.wp P a w K Q := by
  have hX0 : XOk w := hXO _ (hs _ _ hI hm.below)
  have put1 : ∀ {u : SV}, (execOp a.eval o).run P w = .ok (.value (u.den m)) w → u.ok mem → v = u → e = .non → o.wp P a w K Q := by
    intro u hr hu hv hee
    subst hv hee
    unfold Oper.wp; rw [hr, Oper.upon_value]
    exact k m w (Agree.refl _ _) hm hu (Grows.refl _) (fun hf => ⟨hf, Nat.le_refl _⟩)
  unfold evOp at h
  split at h
  · rename_i x ho
    cases hkn : (ρ x).known with
    | false => rw [hkn] at h; cases h
    | true =>
      rw [hkn] at h
      simp only [cond_true, Option.some.injEq, Prod.mk.injEq] at h
      exact put1 (u := ρ x) (by unfold execOp; simp only [ho, he x hkn, Sem.run_pure]) (hok x) h.1.symm h.2.symm
  · rename_i x ho
    cases hkn : (ρ x).known with
    | false => rw [hkn] at h; cases h
    | true =>
      rw [hkn] at h
      simp only [cond_true, Option.some.injEq, Prod.mk.injEq] at h
      exact put1 (u := ρ x) (by unfold execOp; simp only [ho, he x hkn, Sem.run_pure]) (hok x) h.1.symm h.2.symm
  · rename_i c x y ho
    split at h
    · rename_i t hc
      have hce : a.eval c = .bool t := by rw [he c (known_of hc rfl), hc, den_val]
      cases t with
      | false =>
        simp only [cond_false] at h
        cases hkn : (ρ y).known with
        | false => rw [hkn] at h; cases h
        | true =>
          rw [hkn] at h
          simp only [cond_true, Option.some.injEq, Prod.mk.injEq] at h
          exact put1 (u := ρ y) (by unfold execOp; simp only [ho, hce, he y hkn, asBool, Sem.run_bind, Sem.run_pure, Result.andThen_ok]; rfl) (hok y) h.1.symm h.2.symm
      | true =>
        simp only [cond_true] at h
        cases hkn : (ρ x).known with
        | false => rw [hkn] at h; cases h
        | true =>
          rw [hkn] at h
          simp only [cond_true, Option.some.injEq, Prod.mk.injEq] at h
          exact put1 (u := ρ x) (by unfold execOp; simp only [ho, hce, he x hkn, asBool, Sem.run_bind, Sem.run_pure, Result.andThen_ok]; rfl) (hok x) h.1.symm h.2.symm
    · cases h
  · rename_i t ho
    split at h
    · rename_i z hz
      simp only [Option.some.injEq, Prod.mk.injEq] at h
      obtain ⟨rfl, rfl⟩ := h
      obtain ⟨hr, hag⟩ := hm.alloc (hid ⟨_, rfl⟩) t (cells := (SV.val z).cells) (cells_ok (s := .val z) trivial)
      have hcs : ((SV.val z).cells.map (SV.den m)).toArray = z.cells := by rw [cells_den]; simp [SV.den]
      have : (execOp a.eval o).run P w = .ok (.value (.pointer (some ⟨w.heap.size, 0, none⟩))) (w.alloc (.cells ((SV.val z).cells.map (SV.den m)).toArray t (0, 0))) := by
        rw [hcs]
        unfold execOp
        simp only [ho, Instr.alloc, Sem.run_bind, pureRun_run _ hz w, Result.andThen_ok, newVar, newRow, newObj, Sem.run, Sem.run_pure, World.alloc]
      unfold Oper.wp; rw [this, Oper.upon_value]
      have := k _ _ hag hr (by simp [SV.ok, Eff.mem, upd_self]) (grows_upd _ _ _) fresh_new
      simpa [SV.den, upd_self] using this
    · cases h
  · rename_i t x ho
    cases hkn : (ρ x).known with
    | false => rw [hkn] at h; cases h
    | true =>
    rw [hkn] at h
    simp only [cond_true, Option.some.injEq, Prod.mk.injEq] at h
    obtain ⟨rfl, rfl⟩ := h
    obtain ⟨hr, hag⟩ := hm.alloc (hid ⟨_, rfl⟩) t (cells := (ρ x).cells) (cells_ok (hok x))
    have hcs : ((ρ x).cells.map (SV.den m)).toArray = ((ρ x).den m).cells := by rw [cells_den]
    have : (execOp a.eval o).run P w = .ok (.value (.pointer (some ⟨w.heap.size, 0, none⟩))) (w.alloc (.cells ((ρ x).cells.map (SV.den m)).toArray t (0, 0))) := by
      rw [hcs]
      unfold execOp
      simp only [ho, he x hkn, Instr.box, Sem.run_bind, Result.andThen_ok, newVar, newRow, newObj, Sem.run, Sem.run_pure, World.alloc]
    unfold Oper.wp; rw [this, Oper.upon_value]
    have := k _ _ hag hr (by simp [SV.ok, Eff.mem, upd_self]) (grows_upd _ _ _) fresh_new
    simpa [SV.den, upd_self] using this
  · rename_i t x ho
    split at h
    · rename_i r i off hx
      split at h
      · rename_i u hu
        simp only [Option.some.injEq, Prod.mk.injEq] at h
        have hxo : (SV.xp r i off).ok mem := hx ▸ hok x
        obtain ⟨hl, huok⟩ := xload_sound (P := P) (m := m) (mem := mem) hX0 (ok_xp.1 hxo) hu
        exact put1 (u := u) (by unfold execOp; simp only [ho, he x (known_of hx rfl), hx, Sem.run_bind, hl, Result.andThen_ok, Sem.run_pure]) huok h.1.symm h.2.symm
      · cases h
    · rename_i b off hx
      split at h
      · rename_i kb hb
        split at h
        · rename_i u hu
          simp only [Option.some.injEq, Prod.mk.injEq] at h
          obtain ⟨_, h2, h3⟩ := hm.blk b kb hb
          obtain ⟨hl, huok⟩ := load_sound (P := P) hu h2 h3
          exact put1 (u := u) (by unfold execOp; simp only [ho, he x (known_of hx rfl), hx, SV.den, Sem.run_bind, hl, Result.andThen_ok, Sem.run_pure]) huok h.1.symm h.2.symm
        · cases h
      · cases h
    · cases h
  · rename_i t x y ho
    split at h
    · rename_i b off hx
      split at h
      · rename_i kb hb
        split at h
        · rename_i k' hk'
          simp only [Option.some.injEq, Prod.mk.injEq] at h
          obtain ⟨rfl, rfl⟩ := h
          obtain ⟨_, h2, h3⟩ := hm.blk b kb hb
          obtain ⟨hl, hcok, hty⟩ := store_sound (P := P) hk' h2 h3 (hok y)
          have hkn : (ρ y).known = true := store_known hk'
          have : (execOp a.eval o).run P w = .ok .skip (w.setRow (m b) (k'.cells.map (SV.den m)).toArray) := by
            unfold execOp; simp only [ho, he y hkn]; rw [show a.eval x = .pointer (some ⟨m b, off, none⟩) by rw [he x (known_of hx rfl), hx]; rfl]; simp only [Sem.run_bind, hl, Result.andThen_ok, Sem.run_pure]
          unfold Oper.wp; rw [this, Oper.upon_skip]
          have := hm.put hb hcok
          rw [← hty] at this
          exact k m _ (Agree.refl _ _) this trivial (grows_upd _ _ _) (fresh_put hb)
        · cases h
      · cases h
    · cases h
  · rename_i s x i ho
    split at h
    · rename_i b off hx
      split at h
      · rename_i d hd
        simp only [Option.some.injEq, Prod.mk.injEq] at h
        have hb : (SV.ptr b off).ok mem := hx ▸ hok x
        exact put1 (u := .ptr b (off + d)) (by unfold execOp; simp only [ho, he x (known_of hx rfl), hx, SV.den, Sem.run_bind, field_sound hd, Result.andThen_ok, Sem.run_pure]) (ok_ptr.2 (ok_ptr.1 hb)) h.1.symm h.2.symm
      · cases h
    · rename_i r j off hx
      split at h
      · rename_i d hd
        simp only [Option.some.injEq, Prod.mk.injEq] at h
        have hb : (SV.xp r j off).ok mem := hx ▸ hok x
        obtain ⟨_, _, ad, hA, _, _⟩ := hX0 r j (ok_xp.1 hb)
        exact put1 (u := .xp r j (off + d)) (by
          unfold execOp
          simp only [ho, he x (known_of hx rfl), hx, den_xp, hA, Option.map_some, Sem.run_bind, xfield_sound hd, Result.andThen_ok, Sem.run_pure]
          rw [add_add, Nat.add_assoc]) (ok_xp.2 (ok_xp.1 hb)) h.1.symm h.2.symm
      · cases h
    · cases h
  · rename_i x ho
    split at h
    · rename_i b off hx
      simp only [Option.some.injEq, Prod.mk.injEq] at h
      exact put1 (u := .ptr b off) (by unfold execOp; simp only [ho, he x (known_of hx rfl), hx, SV.den, Sem.run_pure]) (hx ▸ hok x) h.1.symm h.2.symm
    · rename_i r j off hx
      simp only [Option.some.injEq, Prod.mk.injEq] at h
      have hb : (SV.xp r j off).ok mem := hx ▸ hok x
      obtain ⟨_, _, ad, hA, _, _⟩ := hX0 r j (ok_xp.1 hb)
      exact put1 (u := .xp r j off) (by unfold execOp; simp only [ho, he x (known_of hx rfl), hx, den_xp, hA, Option.map_some, Sem.run_pure]) hb h.1.symm h.2.symm
    · rename_i f l hx
      simp only [Option.some.injEq, Prod.mk.injEq] at h
      exact put1 (u := .fn f l) (by unfold execOp; simp only [ho, he x (known_of hx rfl), hx, den_fn, Sem.run_pure]) (hx ▸ hok x) h.1.symm h.2.symm
    · exact gen_sound hI hs hcall h hall he hm k
  · rename_i fn first captured ho
    split at h
    · rename_i f
      cases hc : (first.isEmpty && (captured.toList.all (fun x => (ρ x).known) && !(captured.toList.all (fun x => (ρ x).isVal)))) with
      | false => rw [hc] at h; exact gen_sound hI hs hcall h hall he hm k
      | true =>
        rw [hc] at h
        simp only [cond_true, Option.some.injEq, Prod.mk.injEq] at h
        simp only [Bool.and_eq_true] at hc
        obtain ⟨hf, hkn, _⟩ := hc
        have hfe : first = #[] := by simpa using hf
        subst hfe
        have hmap := map_eval (as_ := captured) (m := m) he (fun x hx => by
          obtain ⟨y, hy, rfl⟩ := List.mem_map.1 hx
          exact List.all_eq_true.1 hkn y hy)
        exact put1 (u := .fn f (captured.toList.map ρ)) (by
          unfold execOp
          simp only [ho, Instr.makeFunc, hmap, den_fn, Sem.run_bind, Sem.run_pure, Result.andThen_ok]
          simp) (ok_fn.2 (args_ok hok)) h.1.symm h.2.symm
    · exact gen_sound hI hs hcall h hall he hm k
  · rename_i c ho
    split at h
    · rename_i f hf
      obtain ⟨cal, as_, ts⟩ := c
      simp only at hf
      subst hf
      have hkn := doCall_known h
      refine doCall_sound hX hI hs hcall ?_ h hall (args_ok hok) hm k
      have hmap := map_eval (as_ := as_) (m := m) he hkn
      unfold execOp
      simp only [ho, resolve, hmap, Act.eval, Deferred.ofValue, Sem.run_bind, Sem.run_pure, Result.andThen_ok, invoke]
      simp
    · rename_i tt hf
      split at h
      · rename_i pp hx
        obtain ⟨f, l⟩ := pp
        obtain ⟨hknf, hdenf, hof⟩ := asFn_eq hx
        obtain ⟨cal, as_, ts⟩ := c
        simp only at hf
        subst hf
        have hkn := doCall_known h
        refine doCall_sound hX hI hs hcall ?_ h hall (fun x hx' => ?_) hm k
        · have hmap := map_eval (as_ := as_) (m := m) he (fun x hx' => hkn x (List.mem_append_left _ hx'))
          have hfe : a.eval (.tmp tt) = .func (.func f) #[] (l.map (SV.den m)).toArray := by rw [he _ hknf, hdenf]
          unfold execOp
          simp only [ho, resolve, hmap, hfe, Deferred.ofValue, Sem.run_bind, Sem.run_pure, Result.andThen_ok, invoke]
          simp
        · rcases List.mem_append.1 hx' with hx' | hx'
          · exact args_ok hok x hx'
          · rcases hof with hof | hof
            · have : (SV.fn f l).ok mem := hof ▸ hok (.tmp tt)
              exact ok_fn.1 this x hx'
            · simp only at hof
              subst hof
              cases hx'
      · exact gen_sound hI hs hcall h hall he hm k
    · rename_i bi hbi
      split at h
      · rename_i u hu
        simp only [Option.some.injEq, Prod.mk.injEq] at h
        obtain ⟨rfl, rfl⟩ := h
        obtain ⟨cal, as_, ts⟩ := c
        simp only at hbi hu
        subst hbi
        unfold lenOf at hu
        split at hu
        · split at hu
          · rename_i b off n cap hargs
            split at hu
            case h_2 => cases hu
            rename_i ty hty
            split at hu
            case h_2 => cases hu
            rename_i elem hel
            simp only [Option.some.injEq] at hu
            subst hu
            have hmap : as_.map a.eval = #[.slice (some ⟨m b, off, none⟩) n cap] := by
              rw [map_eval (m := m) he (by rw [hargs]; intro x hx; rcases List.mem_singleton.1 hx with rfl; rfl), hargs]
              simp [den_slc]
            have : (execOp a.eval o).run P w = .ok (.value (.int .i64 n)) w := by
              unfold execOp
              have h0 : (#[Value.slice (some ⟨m b, off, none⟩) n cap] : Array Value)[0]? = some (.slice (some ⟨m b, off, none⟩) n cap) := rfl
              simp only [ho, resolve, hmap, Sem.run_bind, Sem.run_pure, Result.andThen_ok, invoke, builtin, Builtin.len_, hty, h0, pureRun_run _ hel w]
              rfl
            exact put1 (u := .val (.int .i64 n)) (by rw [den_val]; exact this) (ok_val _ _) rfl rfl
          · rename_i r hargs
            split at hu
            case h_2 => cases hu
            rename_i ty hty
            split at hu
            case h_2 => cases hu
            rename_i elem hel
            simp only [Option.some.injEq] at hu
            subst hu
            have hmap : as_.map a.eval = #[.slice (XEnv.env r).A (XEnv.env r).n (XEnv.env r).c] := by
              rw [map_eval (m := m) he (by rw [hargs]; intro x hx; rcases List.mem_singleton.1 hx with rfl; rfl), hargs]
              simp [den_xs]
            have : (execOp a.eval o).run P w = .ok (.value (.int .i64 (XEnv.env r).n)) w := by
              unfold execOp
              have h0 : (#[Value.slice (XEnv.env r).A (XEnv.env r).n (XEnv.env r).c] : Array Value)[0]? = some (.slice (XEnv.env r).A (XEnv.env r).n (XEnv.env r).c) := rfl
              simp only [ho, resolve, hmap, Sem.run_bind, Sem.run_pure, Result.andThen_ok, invoke, builtin, Builtin.len_, hty, h0, pureRun_run _ hel w]
              rfl
            exact put1 (u := .val (.int .i64 (XEnv.env r).n)) (by rw [den_val]; exact this) (ok_val _ _) rfl rfl
          · cases hu
        · cases hu
      · exact gen_sound hI hs hcall h hall he hm k
    · exact gen_sound hI hs hcall h hall he hm k
  · rename_i op t x y yt ho
    split at h
    · rename_i p hx
      split at h
      · rename_i q hy
        split at h
        · rename_i u hu
          simp only [Option.some.injEq, Prod.mk.injEq] at h
          have h1 : a.eval x = p := by rw [he x (known_of hx rfl), hx]; rfl
          have h2 : a.eval y = q := by rw [he y (known_of hy rfl), hy]; rfl
          exact put1 (u := .val u) (by unfold execOp; simp only [ho, h1, h2]; rw [Sem.run_bind, binV_run hu w]; rfl) (ok_val _ _) h.1.symm h.2.symm
        · cases h
      · cases h
    · cases h
  · rename_i t ps ho
    cases hv : (partsS ρ ps).all (fun p => p.2.isVal) with
    | true =>
      rw [hv] at h
      exact gen_sound hI hs hcall h hall he hm k
    | false =>
      rw [hv] at h
      simp only [cond_false] at h
      cases hkn : (partsS ρ ps).all (fun p => p.2.known) with
      | false => rw [hkn] at h; cases h
      | true =>
        rw [hkn] at h
        simp only [cond_true] at h
        split at h
        · rename_i u hu
          simp only [Option.some.injEq, Prod.mk.injEq] at h
          obtain ⟨h1, h2⟩ := build_sound (P := P) (m := m) (w := w) hu (mem := mem) (parts_map_ok hok)
          exact put1 (u := u) (by unfold execOp; simp only [ho]; rw [parts_map he hkn, Sem.run_bind, h1]; rfl) h2 h.1.symm h.2.symm
        · cases h
  · rename_i t n ps ho
    cases hkn : (partsS ρ ps).all (fun p => p.2.known) with
    | false => rw [hkn] at h; cases h
    | true =>
      rw [hkn] at h
      simp only [cond_true] at h
      split at h
      · rename_i kb hkb
        simp only [Option.some.injEq, Prod.mk.injEq] at h
        obtain ⟨rfl, rfl⟩ := h
        obtain ⟨h1, h2⟩ := row_sound (P := P) (m := m) (w := w) hkb (mem := mem) (parts_map_ok hok)
        obtain ⟨hr, hag⟩ := hm.alloc (hid ⟨_, rfl⟩) kb.ty h2
        have : (execOp a.eval o).run P w = .ok (.value (.slice (some ⟨w.heap.size, 0, none⟩) n n)) (w.alloc (.cells (kb.cells.map (SV.den m)).toArray kb.ty (0, 0))) := by
          unfold execOp; simp only [ho]; rw [parts_map he hkn, Sem.run_bind, h1]; rfl
        unfold Oper.wp; rw [this, Oper.upon_value]
        have := k _ _ hag hr (by simp [ok_slc, Eff.mem, upd_self]) (grows_upd _ _ _) fresh_new
        simpa [den_slc, upd_self] using this
      · cases h
  · rename_i t x i ho
    split at h
    · rename_i u hu
      simp only [Option.some.injEq, Prod.mk.injEq] at h
      obtain ⟨h1, h2⟩ := idx_sound (P := P) (m := m) (w := w) hX0 hu (hok x)
      obtain ⟨hk1, hk2⟩ := idx_known hu
      exact put1 (u := u) (by unfold execOp; simp only [ho, he x hk1, he i hk2]; rw [Sem.run_bind, h1]; rfl) h2 h.1.symm h.2.symm
    · cases h
  · exact gen_sound hI hs hcall h hall he hm k
end
end Go.Ev
namespace Go.Ev
open Go.RowKit
variable [XEnv]
structure St where
  tmps : Nat → SV
  mem : Mem
  next : Nat
def look (tmps : Nat → SV) : Operand → SV
  | .tmp t => tmps t
  | .const v => .val v
  | .global g => .val (.pointer (some ⟨g, 0, none⟩))
  | .func f => .val (.func (.func f) #[] #[])
def boolOf : SV → Option Bool
  | .val (.bool b) => some b
  | _ => none
def yieldS (ops : Array Oper) (tmps : Nat → SV) (j : Nat) : Option Bool :=
  match ops[j]? with
  | some oj => match oj.dst with
    | some t => boolOf (tmps t)
    | none => none
  | none => none
def wantS (ops : Array Oper) (tmps : Nat → SV) (o : Oper) : Bool :=
  match o.guard with
  | none => true
  | some (j, want) => match yieldS ops tmps j with
    | some b => match want with
      | true => b
      | false => !b
    | none => false
def knownG (ops : Array Oper) (tmps : Nat → SV) (o : Oper) : Bool :=
  match o.guard with
  | none => true
  | some (j, _) => match ops[j]? with
    | some oj => match oj.dst with
      | some t => (tmps t).known
      | none => true
    | none => true
def dstOk (N : Nat) : Option Tmp → Bool
  | none => true
  | some d => Nat.blt d N
def putS (tmps : Nat → SV) : Option Tmp → SV → (Nat → SV)
  | none, _ => tmps
  | some d, v => upd tmps d v
def evOps (P : Program) (X : ExtFn) (call : CallFn) (ops : Array Oper) (N : Nat) : List Oper → St → Option St
  | [], st => some st
  | o :: r, st => bif dstOk N o.dst && knownG ops st.tmps o then
      bif wantS ops st.tmps o then
        match evOp P X call (look st.tmps) st.mem st.next o with
        | some (v, e) => evOps P X call ops N r ⟨putS st.tmps o.dst v, e.mem st.mem st.next, e.next st.next⟩
        | none => none
      else evOps P X call ops N r ⟨putS st.tmps o.dst (.val undef), st.mem, st.next⟩
    else none
structure AR (N : Nat) (m : Nat → Nat) (tmps : Nat → SV) (mem : Mem) (a : Act) : Prop where
  size : a.tmps.size = N
  defers : a.defers = []
  tm : ∀ t, (tmps t).known = true → a.tmps.getD t undef = (tmps t).den m
  ok : ∀ t, (tmps t).ok mem
structure SR (w0 : World) (N : Nat) (m : Nat → Nat) (st : St) (a : Act) (w : World) : Prop where
  mr : MR w0 m st.mem w
  ar : AR N m st.tmps st.mem a
  fresh : ∀ b, st.next ≤ b → st.mem b = none
structure Later (st : St) (m : Nat → Nat) (st' : St) (m' : Nat → Nat) : Prop where
  agree : Agree st.mem m m'
  grows : Grows st.mem st'.mem
  le : st.next ≤ st'.next
theorem Later.refl (st : St) (m : Nat → Nat) : Later st m st m := ⟨Agree.refl _ _, Grows.refl _, Nat.le_refl _⟩
theorem Later.trans {s1 s2 s3 : St} {m1 m2 m3 : Nat → Nat} (h : Later s1 m1 s2 m2) (k : Later s2 m2 s3 m3) : Later s1 m1 s3 m3 :=
  ⟨h.agree.trans h.grows k.agree, h.grows.trans k.grows, Nat.le_trans h.le k.le⟩
section
variable {P : Program} {X : ExtFn} {call : CallFn} {I : World → Prop} {N : Nat} {m m' : Nat → Nat} {tmps : Nat → SV} {mem mem' : Mem} {a : Act} {ops : Array Oper} {o : Oper} {w0 w : World} {Q : Exit → Act → World → Prop}
theorem AR.eval (h : AR N m tmps mem a) (x : Operand) (hk : (look tmps x).known = true) : a.eval x = (look tmps x).den m := by
  cases x with
  | tmp t => exact h.tm t hk
  | const v => exact (den_val _ _).symm
  | global g => exact (den_val _ _).symm
  | func f => exact (den_val _ _).symm
theorem AR.look_ok (h : AR N m tmps mem a) (x : Operand) : (look tmps x).ok mem := by
  cases x with
  | tmp t => exact h.ok t
  | const v => exact ok_val _ _
  | global g => exact ok_val _ _
  | func f => exact ok_val _ _
theorem AR.put (h : AR N m tmps mem a) (hag : Agree mem m m') (hg : Grows mem mem') {d : Option Tmp} (hd : dstOk N d = true) {v : SV} (hv : v.ok mem') : AR N m' (putS tmps d v) mem' (a.put d (v.den m')) := by
  cases d with
  | none => exact ⟨h.size, h.defers, fun t hk => by rw [show (a.put none (v.den m')) = a from rfl, h.tm t hk]; exact (SV.den_agree hag (h.ok t)).symm, fun t => SV.ok_grows hg (h.ok t)⟩
  | some d =>
    have hlt : d < N := Nat.le_of_ble_eq_true hd
    refine ⟨by simp [Act.put, h.size], h.defers, fun t hk => ?_, fun t => ?_⟩
    · show (a.tmps.setIfInBounds d (v.den m')).getD t undef = (upd tmps d v t).den m'
      by_cases e : t = d
      · subst e
        rw [upd_self]
        simp [h.size, hlt]
      · have hk : (upd tmps d v t).known = true := hk
        rw [upd_ne _ _ e] at hk ⊢
        have h1 := h.tm t hk
        have h2 := SV.den_agree hag (h.ok t)
        rw [h2, ← h1]
        simp [Array.getElem?_setIfInBounds_ne (Ne.symm e)]
    · show (upd tmps d v t).ok mem'
      by_cases e : t = d
      · subst e; rw [upd_self]; exact hv
      · rw [upd_ne _ _ e]; exact SV.ok_grows hg (h.ok t)
theorem yield_eq (htm : ∀ t, (tmps t).known = true → a.tmps.getD t undef = (tmps t).den m) (j : Nat) (hk : ∀ oj t, ops[j]? = some oj → oj.dst = some t → (tmps t).known = true) : yielded ops a.tmps j = yieldS ops tmps j := by
  unfold yielded yieldS
  cases ho : ops[j]? with
  | none => rfl
  | some oj =>
    simp only [Option.bind_some]
    cases hd : oj.dst with
    | none => rfl
    | some t =>
      simp only [Option.bind_some]
      have hkt := hk oj t ho hd
      have := htm t hkt
      rw [Array.getD_eq_getD_getElem?] at this
      cases hq : a.tmps[t]? with
      | none =>
        rw [hq] at this
        simp only [Option.getD_none] at this
        cases hs : tmps t with
        | val v => rw [hs, den_val] at this; subst this; rfl
        | _ => rfl
      | some u =>
        rw [hq] at this
        simp only [Option.getD_some] at this
        subst this
        cases hs : tmps t with
        | val v => simp only [den_val]; cases v <;> rfl
        | ptr b off => simp only [den_ptr]; rfl
        | slc b off n c => simp only [den_slc]; rfl
        | arr l => simp only [den_arr]; rfl
        | xs r => simp only [den_xs]; rfl
        | xp r i o => simp only [den_xp]; rfl
        | fn f l => simp only [den_fn]; rfl
        | unk => rw [hs] at hkt; cases hkt
theorem want_eq (htm : ∀ t, (tmps t).known = true → a.tmps.getD t undef = (tmps t).den m) (o : Oper) (hk : knownG ops tmps o = true) : Region.wanted o (yielded ops a.tmps) = wantS ops tmps o := by
  unfold Region.wanted wantS
  unfold knownG at hk
  cases hg : o.guard with
  | none => rfl
  | some g =>
    obtain ⟨j, want⟩ := g
    rw [hg] at hk
    have hk' : ∀ oj t, ops[j]? = some oj → oj.dst = some t → (tmps t).known = true := by
      intro oj t h1 h2
      simpa only [h1, h2] using hk
    simp only [yield_eq htm j hk']
    cases yieldS ops tmps j with
    | none => rfl
    | some b => cases b <;> cases want <;> rfl
theorem ops_sound (hX : ExtSound P X) (hI : I w0) (hs : Stable I) (hXO : ∀ w, I w → XOk w) (hcall : CallSound P I call) : ∀ (l : List Oper) (st st' : St) (m : Nat → Nat) (a : Act) (w : World), evOps P X call ops N l st = some st' → SR w0 N m st a w →
    (∀ m' a' w', Later st m st' m' → SR w0 N m' st' a' w' → Q .normal a' w') → wpList P ops Q l a w
  | [], st, st', m, a, w, h, hr, k => by
    simp only [evOps, Option.some.injEq] at h
    subst h
    exact k m a w (Later.refl _ _) hr
  | o :: r, st, st', m, a, w, h, hr, k => by
    unfold evOps at h
    cases hdg : dstOk N o.dst && knownG ops st.tmps o with
    | false => rw [hdg] at h; cases h
    | true =>
      rw [hdg] at h
      rw [Bool.and_eq_true] at hdg
      obtain ⟨hd, hgk⟩ := hdg
      simp only [cond_true] at h
      unfold wpList
      rw [want_eq hr.ar.tm o hgk]
      cases hw : wantS ops st.tmps o with
      | true =>
        rw [hw] at h
        simp only [cond_true] at h
        simp only [if_true]
        split at h
        · rename_i v e he
          refine .inl (op_sound hX hI hs hXO hcall he (fun _ => hr.fresh _ (Nat.le_refl _)) (fun _ => hr.fresh) hr.ar.look_ok hr.ar.eval hr.mr ?_)
          intro m' w' hag hmr hv hg hall
          have hf := hall hr.fresh
          exact ops_sound hX hI hs hXO hcall r _ st' m' _ w' h ⟨hmr, hr.ar.put hag hg hd hv, hf.1⟩ (fun m2 a2 w2 hl hr2 => k m2 a2 w2 (Later.trans ⟨hag, hg, hf.2⟩ hl) hr2)
        · cases h
      | false =>
        rw [hw] at h
        simp only [cond_false] at h
        simp only [Bool.false_eq_true, if_false]
        exact ops_sound hX hI hs hXO hcall r _ st' m _ w h ⟨hr.mr, (den_val m undef) ▸ hr.ar.put (v := .val undef) (Agree.refl _ _) (Grows.refl _) hd (ok_val _ _), hr.fresh⟩ (fun m2 a2 w2 hl hr2 => k m2 a2 w2 ⟨hl.agree, hl.grows, hl.le⟩ hr2)
end
structure Evt where
  dst : Option Tmp
  v : SV
  wr : Option (Nat × Blk)
  foot : List Nat
def touchS (tmps : Nat → SV) (o : Oper) : List Nat :=
  match o.op with
  | .load _ x => match look tmps x with
    | .ptr b _ => [b]
    | _ => []
  | .store _ x _ => match look tmps x with
    | .ptr b _ => [b]
    | _ => []
  | _ => []
def effEvt (mem : Mem) (id : Nat) (d : Option Tmp) (t : List Nat) (v : SV) : Eff → Option Evt
  | .non => some ⟨d, v, none, t⟩
  | .new k => match mem id with
    | none => some ⟨d, v, some (id, k), id :: t⟩
    | some _ => none
  | .put b k => some ⟨d, v, some (b, k), b :: t⟩
  | .all _ _ => none
def evOne (P : Program) (X : ExtFn) (call : CallFn) (ops : Array Oper) (N : Nat) (tmps : Nat → SV) (mem : Mem) (id : Nat) (o : Oper) : Option Evt :=
  bif dstOk N o.dst && knownG ops tmps o then
    bif wantS ops tmps o then
      match evOp P X call (look tmps) mem id o with
      | some (v, e) => effEvt mem id o.dst (touchS tmps o) v e
      | none => none
    else some ⟨o.dst, .val undef, none, []⟩
  else none
def Evt.mem (e : Evt) (mem : Mem) : Mem :=
  match e.wr with
  | none => mem
  | some (b, k) => upd mem b (some k)
def evSeq (P : Program) (X : ExtFn) (call : CallFn) (ops : Array Oper) (N : Nat) : List Oper → Nat → (Nat → SV) → Mem → List Evt → Option (List Evt × (Nat → SV) × Mem)
  | [], _, tmps, mem, acc => some (acc, tmps, mem)
  | o :: r, id, tmps, mem, acc => match evOne P X call ops N tmps mem id o with
    | some e => evSeq P X call ops N r (id + 1) (putS tmps e.dst e.v) (e.mem mem) (acc ++ [e])
    | none => none
def maskOf (done : List Nat) : List Edge → Nat
  | [] => 0
  | e :: r => bif Region.binds .any e then (2 ^ e.on ||| done.getD e.on 0) ||| maskOf done r else maskOf done r
def cloL : List Oper → List Nat → List Nat
  | [], done => done
  | o :: r, done => cloL r (done ++ [maskOf done o.after.toList])
def depsOk : List Oper → Nat → Bool
  | [], _ => true
  | o :: r, i => o.after.toList.all (fun e => Nat.blt e.on i || !Region.binds .any e) && depsOk r (i + 1)
def tmpsOk (ops : Array Oper) (clo : List Nat) : Bool :=
  (List.range ops.size).all fun j => (List.range j).all fun i => (clo.getD j 0).testBit i || match ops[i]?, ops[j]? with
    | some x, some y => Oper.apart ops x y
    | _, _ => true
def farE (x y : Evt) : Bool :=
  match x.wr with
  | none => true
  | some (b, _) => y.foot.all fun c => !(Nat.beq c b)
def memOk (es : List Evt) (clo : List Nat) : Bool :=
  (List.range es.length).all fun j => (List.range j).all fun i => match es[i]?, es[j]? with
    | some x, some y => (farE x y && farE y x) || (clo.getD j 0).testBit i
    | _, _ => true
def wrOk (es : List Evt) (n : Nat) : Bool := es.all fun e => match e.wr with
  | some (c, _) => Nat.blt c n
  | none => true
def evDraw (P : Program) (X : ExtFn) (call : CallFn) (ops : Array Oper) (N : Nat) (st : St) : Option St :=
  match evSeq P X call ops N ops.toList st.next st.tmps st.mem [] with
  | some (es, tmps, mem) => bif depsOk ops.toList 0 && tmpsOk ops (cloL ops.toList []) && memOk es (cloL ops.toList []) && wrOk es (st.next + ops.size) then some ⟨tmps, mem, st.next + ops.size⟩ else none
  | none => none
def lastV (S : Nat → Bool) (t : Nat) : Nat → List Evt → SV → SV
  | _, [], d => d
  | i, e :: r, d => lastV S t (i + 1) r (if S i = true ∧ e.dst = some t then e.v else d)
def lastM (S : Nat → Bool) (b : Nat) : Nat → List Evt → Option Blk → Option Blk
  | _, [], d => d
  | i, e :: r, d => lastM S b (i + 1) r (match e.wr with
    | some (c, k) => if S i = true ∧ c = b then some k else d
    | none => d)
theorem lastV_congr {S S' : Nat → Bool} {t : Nat} : ∀ (es : List Evt) (i : Nat) (d : SV), (∀ n e, es[n]? = some e → e.dst = some t → S (i + n) = S' (i + n)) → lastV S t i es d = lastV S' t i es d
  | [], _, _, _ => rfl
  | e :: r, i, d, h => by
    have h0 := h 0 e rfl
    simp only [lastV]
    have : (if S i = true ∧ e.dst = some t then e.v else d) = (if S' i = true ∧ e.dst = some t then e.v else d) := by
      by_cases hd : e.dst = some t
      · rw [Nat.add_zero] at h0; rw [h0 hd]
      · simp [hd]
    rw [this]
    exact lastV_congr r (i + 1) _ fun n e' hn hd => by have := h (n + 1) e' hn hd; rwa [show i + (n + 1) = i + 1 + n by omega] at this
theorem lastM_congr {S S' : Nat → Bool} {b : Nat} : ∀ (es : List Evt) (i : Nat) (d : Option Blk), (∀ n e k, es[n]? = some e → e.wr = some (b, k) → S (i + n) = S' (i + n)) → lastM S b i es d = lastM S' b i es d
  | [], _, _, _ => rfl
  | e :: r, i, d, h => by
    have h0 := h 0 e
    simp only [lastM]
    have : (match e.wr with
      | some (c, k) => if S i = true ∧ c = b then some k else d
      | none => d) = (match e.wr with
      | some (c, k) => if S' i = true ∧ c = b then some k else d
      | none => d) := by
      cases hw : e.wr with
      | none => rfl
      | some p =>
        obtain ⟨c, k⟩ := p
        simp only
        by_cases hc : c = b
        · subst hc
          have := h0 k rfl hw
          rw [Nat.add_zero] at this
          rw [this]
        · simp [hc]
    rw [this]
    exact lastM_congr r (i + 1) _ fun n e' k hn hd => by have := h (n + 1) e' k hn hd; rwa [show i + (n + 1) = i + 1 + n by omega] at this
theorem lastV_at {S : Nat → Bool} {t : Nat} : ∀ (es : List Evt) (i n : Nat) (e : Evt) (d : SV), es[n]? = some e → S (i + n) = true → e.dst = some t → (∀ n' e', es[n']? = some e' → n < n' → S (i + n') = true → e'.dst ≠ some t) → lastV S t i es d = e.v
  | [], _, _, _, _, h, _, _, _ => by cases h
  | x :: r, i, 0, e, d, h, hS, hd, hl => by
    simp only [List.getElem?_cons_zero, Option.some.injEq] at h
    subst h
    rw [Nat.add_zero] at hS
    simp only [lastV]
    rw [if_pos ⟨hS, hd⟩]
    have : lastV S t (i + 1) r x.v = lastV (fun _ => false) t (i + 1) r x.v := lastV_congr r (i + 1) _ fun n' e' hn' hd' => by
      cases hq : S (i + 1 + n') with
      | false => rfl
      | true => exact absurd hd' (hl (n' + 1) e' hn' (by omega) (by rwa [show i + (n' + 1) = i + 1 + n' by omega]))
    rw [this]
    have : ∀ (l : List Evt) (j : Nat) (d : SV), lastV (fun _ => false) t j l d = d := by
      intro l
      induction l with
      | nil => intro j d; rfl
      | cons y l ih => intro j d; simp [lastV, ih]
    exact this _ _ _
  | x :: r, i, n + 1, e, d, h, hS, hd, hl => by
    simp only [lastV]
    exact lastV_at r (i + 1) n e _ h (by rwa [show i + 1 + n = i + (n + 1) by omega]) hd fun n' e' hn' hlt hS' => hl (n' + 1) e' hn' (by omega) (by rwa [show i + (n' + 1) = i + 1 + n' by omega])
theorem lastM_at {S : Nat → Bool} {b : Nat} {k : Blk} : ∀ (es : List Evt) (i n : Nat) (e : Evt) (d : Option Blk), es[n]? = some e → S (i + n) = true → e.wr = some (b, k) → (∀ n' e' k', es[n']? = some e' → n < n' → S (i + n') = true → e'.wr ≠ some (b, k')) → lastM S b i es d = some k
  | [], _, _, _, _, h, _, _, _ => by cases h
  | x :: r, i, 0, e, d, h, hS, hd, hl => by
    simp only [List.getElem?_cons_zero, Option.some.injEq] at h
    subst h
    rw [Nat.add_zero] at hS
    simp only [lastM, hd]
    rw [if_pos ⟨hS, trivial⟩]
    have : lastM S b (i + 1) r (some k) = lastM (fun _ => false) b (i + 1) r (some k) := lastM_congr r (i + 1) _ fun n' e' k' hn' hd' => by
      cases hq : S (i + 1 + n') with
      | false => rfl
      | true => exact absurd hd' (hl (n' + 1) e' k' hn' (by omega) (by rwa [show i + (n' + 1) = i + 1 + n' by omega]))
    rw [this]
    have : ∀ (l : List Evt) (j : Nat) (d : Option Blk), lastM (fun _ => false) b j l d = d := by
      intro l
      induction l with
      | nil => intro j d; rfl
      | cons y l ih =>
        intro j d
        simp only [lastM, Bool.false_eq_true, false_and, if_false]
        rw [ih]
        split <;> rfl
    exact this _ _ _
  | x :: r, i, n + 1, e, d, h, hS, hd, hl => by
    simp only [lastM]
    exact lastM_at r (i + 1) n e _ h (by rwa [show i + 1 + n = i + (n + 1) by omega]) hd fun n' e' k' hn' hlt hS' => hl (n' + 1) e' k' hn' (by omega) (by rwa [show i + (n' + 1) = i + 1 + n' by omega])
theorem putS_at (tmps : Nat → SV) (d : Option Tmp) (v : SV) (t : Nat) : putS tmps d v t = if d = some t then v else tmps t := by
  cases d with
  | none => simp [putS]
  | some d =>
    show upd tmps d v t = _
    by_cases h : t = d
    · subst h; simp [upd_self]
    · rw [upd_ne _ _ h, if_neg (fun e => h (Option.some.inj e).symm)]
theorem Evt.mem_at (e : Evt) (mem : Mem) (b : Nat) : e.mem mem b = match e.wr with
    | some (c, k) => if c = b then some k else mem b
    | none => mem b := by
  unfold Evt.mem
  cases e.wr with
  | none => rfl
  | some p =>
    obtain ⟨c, k⟩ := p
    simp only
    by_cases h : b = c
    · subst h; simp [upd_self]
    · rw [upd_ne _ _ h, if_neg (Ne.symm h)]
theorem seq_spec {P : Program} {X : ExtFn} {call : CallFn} {ops : Array Oper} {N : Nat} : ∀ (l : List Oper) (id : Nat) (tmps : Nat → SV) (mem : Mem) (acc es : List Evt) (tmps' : Nat → SV) (mem' : Mem),
    evSeq P X call ops N l id tmps mem acc = some (es, tmps', mem') → ∃ r, es = acc ++ r ∧ r.length = l.length ∧ (∀ t, tmps' t = lastV (fun _ => true) t 0 r (tmps t)) ∧ (∀ b, mem' b = lastM (fun _ => true) b 0 r (mem b)) ∧
      ∀ n o, l[n]? = some o → ∃ e, r[n]? = some e ∧ evOne P X call ops N (fun t => lastV (fun i => decide (i < n)) t 0 r (tmps t)) (fun b => lastM (fun i => decide (i < n)) b 0 r (mem b)) (id + n) o = some e
  | [], id, tmps, mem, acc, es, tmps', mem', h => by
    simp only [evSeq, Option.some.injEq, Prod.mk.injEq] at h
    obtain ⟨rfl, rfl, rfl⟩ := h
    exact ⟨[], by simp, rfl, fun _ => rfl, fun _ => rfl, fun n o hn => by simp at hn⟩
  | o :: l, id, tmps, mem, acc, es, tmps', mem', h => by
    unfold evSeq at h
    split at h
    · rename_i e he
      obtain ⟨r, h1, h2, h3, h4, h5⟩ := seq_spec l (id + 1) _ _ _ es tmps' mem' h
      have shV : ∀ (S : Nat → Bool) (t : Nat) (d : SV) (q : List Evt) (j : Nat), lastV S t (j + 1) q d = lastV (fun i => S (i + 1)) t j q d := by
        intro S t d q
        induction q generalizing d with
        | nil => intro j; rfl
        | cons y q ih => intro j; simp only [lastV]; rw [ih]
      have shM : ∀ (S : Nat → Bool) (b : Nat) (d : Option Blk) (q : List Evt) (j : Nat), lastM S b (j + 1) q d = lastM (fun i => S (i + 1)) b j q d := by
        intro S t d q
        induction q generalizing d with
        | nil => intro j; rfl
        | cons y q ih => intro j; simp only [lastM]; rw [ih]
      refine ⟨e :: r, by rw [h1, List.append_assoc]; rfl, by simp [h2], fun t => ?_, fun b => ?_, fun n o' hn => ?_⟩
      · rw [h3]
        simp only [lastV, true_and]
        rw [shV, putS_at]
      · rw [h4]
        simp only [lastM, true_and]
        rw [shM, Evt.mem_at]
      · cases n with
        | zero =>
          simp only [List.getElem?_cons_zero, Option.some.injEq] at hn
          subst hn
          refine ⟨e, rfl, ?_⟩
          have e1 : (fun t => lastV (fun i => decide (i < 0)) t 0 (e :: r) (tmps t)) = tmps := by
            funext t
            have : ∀ (q : List Evt) (j : Nat) (d : SV), lastV (fun i => decide (i < 0)) t j q d = d := by
              intro q
              induction q with
              | nil => intro j d; rfl
              | cons y q ih => intro j d; simp [lastV] at ih ⊢; exact ih _ _
            exact this _ _ _
          have e2 : (fun b => lastM (fun i => decide (i < 0)) b 0 (e :: r) (mem b)) = mem := by
            funext b
            have : ∀ (q : List Evt) (j : Nat) (d : Option Blk), lastM (fun i => decide (i < 0)) b j q d = d := by
              intro q
              induction q with
              | nil => intro j d; rfl
              | cons y q ih =>
                intro j d
                simp only [lastM, Nat.not_lt_zero, decide_false, Bool.false_eq_true, false_and, if_false] at ih ⊢
                rw [ih]
                split <;> rfl
            exact this _ _ _
          rw [e1, e2]
          exact he
        | succ n =>
          simp only [List.getElem?_cons_succ] at hn
          obtain ⟨e', h6, h7⟩ := h5 n o' hn
          refine ⟨e', h6, ?_⟩
          have e1 : (fun t => lastV (fun i => decide (i < n + 1)) t 0 (e :: r) (tmps t)) = (fun t => lastV (fun i => decide (i < n)) t 0 r (putS tmps e.dst e.v t)) := by
            funext t
            simp only [lastV, Nat.zero_lt_succ, decide_true, true_and]
            rw [shV, putS_at]
            simp only [Nat.add_lt_add_iff_right]
          have e2 : (fun b => lastM (fun i => decide (i < n + 1)) b 0 (e :: r) (mem b)) = (fun b => lastM (fun i => decide (i < n)) b 0 r (e.mem mem b)) := by
            funext b
            simp only [lastM, Nat.zero_lt_succ, decide_true, true_and]
            rw [shM, Evt.mem_at]
            simp only [Nat.add_lt_add_iff_right]
          rw [e1, e2, show id + (n + 1) = id + 1 + n by omega]
          exact h7
    · cases h
end Go.Ev
namespace Go.Ev
open Go.RowKit
variable [XEnv]
theorem mask_bit {done : List Nat} {i : Nat} : ∀ (l : List Edge), (maskOf done l).testBit i = true → ∃ e ∈ l, Region.binds .any e = true ∧ (e.on = i ∨ (done.getD e.on 0).testBit i = true)
  | [], h => by simp [maskOf] at h
  | e :: r, h => by
    unfold maskOf at h
    cases hb : Region.binds .any e with
    | false =>
      rw [hb] at h
      obtain ⟨e', h1, h2⟩ := mask_bit r h
      exact ⟨e', List.mem_cons_of_mem _ h1, h2⟩
    | true =>
      rw [hb] at h
      simp only [cond_true, Nat.testBit_or, Bool.or_eq_true] at h
      rcases h with (h | h) | h
      · rw [Nat.testBit_two_pow] at h
        exact ⟨e, List.mem_cons_self, hb, .inl (by simpa using h)⟩
      · exact ⟨e, List.mem_cons_self, hb, .inr h⟩
      · obtain ⟨e', h1, h2⟩ := mask_bit r h
        exact ⟨e', List.mem_cons_of_mem _ h1, h2⟩
theorem clo_spec : ∀ (l : List Oper) (done : List Nat), ∃ r, cloL l done = done ++ r ∧ r.length = l.length ∧ ∀ n o, l[n]? = some o → r[n]? = some (maskOf (done ++ r.take n) o.after.toList)
  | [], done => ⟨[], by simp [cloL], rfl, fun n o h => by simp at h⟩
  | o :: l, done => by
    obtain ⟨r, h1, h2, h3⟩ := clo_spec l (done ++ [maskOf done o.after.toList])
    refine ⟨maskOf done o.after.toList :: r, by simp [cloL, h1], by simp [h2], fun n o' hn => ?_⟩
    cases n with
    | zero =>
      simp only [List.getElem?_cons_zero, Option.some.injEq] at hn
      subst hn
      simp
    | succ n =>
      simp only [List.getElem?_cons_succ] at hn ⊢
      rw [h3 n o' hn]
      simp
def Closed (ops : Array Oper) (l : Array Bool) : Prop := ∀ j o e, l.getD j false = true → ops[j]? = some o → e ∈ o.after → Region.binds .any e = true → l.getD e.on false = true
theorem clo_step {ops : Array Oper} {i j : Nat} (hb : ((cloL ops.toList []).getD j 0).testBit i = true) : ∃ o, ops[j]? = some o ∧ ∃ e ∈ o.after, Region.binds .any e = true ∧ (e.on = i ∨ (e.on < j ∧ ((cloL ops.toList []).getD e.on 0).testBit i = true)) := by
  obtain ⟨r, h1, h2, h3⟩ := clo_spec ops.toList []
  rw [List.nil_append] at h1
  rw [h1] at hb ⊢
  cases ho : ops[j]? with
  | none =>
    have : r[j]? = none := List.getElem?_eq_none (by rw [h2, Array.length_toList]; exact Array.getElem?_eq_none_iff.1 ho)
    rw [List.getD_eq_getElem?_getD, this] at hb
    simp at hb
  | some o =>
    have h4 := h3 j o (by simpa using ho)
    rw [List.getD_eq_getElem?_getD, h4, Option.getD_some, List.nil_append] at hb
    obtain ⟨e, h5, h6, h7⟩ := mask_bit _ hb
    refine ⟨o, rfl, e, by simpa using h5, h6, ?_⟩
    rcases h7 with h7 | h7
    · exact .inl h7
    · refine .inr ?_
      rw [List.getD_eq_getElem?_getD] at h7
      by_cases hlt : e.on < j
      · rw [List.getElem?_take_of_lt hlt] at h7
        exact ⟨hlt, by rw [List.getD_eq_getElem?_getD]; exact h7⟩
      · rw [List.getElem?_eq_none (by simp; omega)] at h7
        simp at h7
theorem clo_listed {ops : Array Oper} {l : Array Bool} (hc : Closed ops l) {i : Nat} : ∀ (j : Nat), ((cloL ops.toList []).getD j 0).testBit i = true → l.getD j false = true → l.getD i false = true := by
  intro j
  induction j using Nat.strongRecOn with
  | _ j ih =>
    intro hb hl
    obtain ⟨o, ho, e, he, hbi, h⟩ := clo_step hb
    have h1 := hc j o e hl ho he hbi
    rcases h with h | ⟨hlt, h⟩
    · exact h ▸ h1
    · exact ih e.on hlt h h1
theorem clo_ready {ops : Array Oper} {l : Array Bool} (hc : Closed ops l) {i j : Nat} (hr : i ∈ Region.ready .any ops l) (hb : ((cloL ops.toList []).getD i 0).testBit j = true) : l.getD j false = true := by
  obtain ⟨_, o, ho, hall⟩ := mem_ready.1 hr
  obtain ⟨o', ho', e, he, hbi, h⟩ := clo_step hb
  rw [ho] at ho'
  cases ho'
  have h1 := hall e he hbi
  rcases h with h | ⟨_, h⟩
  · exact h ▸ h1
  · exact clo_listed hc _ h h1
theorem deps_spec : ∀ (l : List Oper) (k : Nat), depsOk l k = true → ∀ n o, l[n]? = some o → ∀ e ∈ o.after, Region.binds .any e = true → e.on < k + n
  | [], _, _, n, o, hn => by simp at hn
  | x :: l, k, h, n, o, hn => by
    simp only [depsOk, Bool.and_eq_true] at h
    cases n with
    | zero =>
      simp only [List.getElem?_cons_zero, Option.some.injEq] at hn
      subst hn
      intro e he hbd
      have := List.all_eq_true.1 h.1 e (by simpa using he)
      rw [hbd] at this
      simp only [Bool.not_true, Bool.or_false] at this
      exact Nat.le_of_ble_eq_true this
    | succ n =>
      simp only [List.getElem?_cons_succ] at hn
      intro e he hbd
      have := deps_spec l (k + 1) h.2 n o hn e he hbd
      omega
theorem ready_some {ops : Array Oper} {l : Array Bool} (hd : depsOk ops.toList 0 = true) (hsz : l.size = ops.size) : ∀ j, j < ops.size → l.getD j false = false → Region.ready .any ops l ≠ [] := by
  intro j
  induction j using Nat.strongRecOn with
  | _ j ih =>
    intro hj hl hr
    have ho : ops[j]? = some ops[j] := Array.getElem?_eq_getElem hj
    by_cases h : ∀ e ∈ ops[j].after, Region.binds .any e = true → l.getD e.on false = true
    · have : j ∈ Region.ready .any ops l := mem_ready.2 ⟨by
        have : l[j]? = some false := by
          have hlt : j < l.size := by omega
          rw [Array.getD_eq_getD_getElem?, Array.getElem?_eq_getElem hlt] at hl
          rw [Array.getElem?_eq_getElem hlt]
          simpa using hl
        simp [this], _, ho, h⟩
      rw [hr] at this
      cases this
    · have : ∃ e ∈ ops[j].after, Region.binds .any e = true ∧ l.getD e.on false = false := by
        refine Classical.byContradiction fun hn => h fun e he hbd => ?_
        cases hq : l.getD e.on false with
        | true => rfl
        | false => exact absurd ⟨e, he, hbd, hq⟩ hn
      obtain ⟨e, he, hbd, hq⟩ := this
      have hlt := deps_spec ops.toList 0 hd j ops[j] (by simp [ho]) e he hbd
      exact ih e.on (by omega) (by omega) hq hr
theorem inCall_congr {call : CallFn} {f : FuncId} {args : List SV} {mem mem' : Mem} {id : Nat} {v : SV} {e : Eff} (h : inCall call f args mem id = some (v, e)) (hne : ∀ mm nn, e ≠ .all mm nn) : inCall call f args mem' id = some (v, e) := by
  unfold inCall at h ⊢
  cases hkn : args.all SV.known with
  | false => rw [hkn] at h; cases h
  | true =>
  rw [hkn] at h
  simp only [cond_true] at h ⊢
  cases hv : args.all SV.free with
  | true =>
    rw [hv] at h
    simp only [cond_true] at h ⊢
    split at h
    · rename_i hc
      split at h
      · exact h
      · split at h
        · simp only [Option.some.injEq, Prod.mk.injEq] at h
          exact absurd h.2.symm (hne _ _)
        · cases h
    · cases h
  | false =>
    rw [hv] at h
    simp only [cond_false] at h
    split at h
    · simp only [Option.some.injEq, Prod.mk.injEq] at h
      exact absurd h.2.symm (hne _ _)
    · cases h
theorem doCall_congr {P : Program} {X : ExtFn} {call : CallFn} {f : FuncId} {args : List SV} {mem mem' : Mem} {id : Nat} {v : SV} {e : Eff} (h : doCall P X call f args mem id = some (v, e)) (hne : ∀ mm nn, e ≠ .all mm nn) : doCall P X call f args mem' id = some (v, e) := by
  unfold doCall at h ⊢
  split
  · rename_i g hg
    rw [hg] at h
    exact h
  · rename_i hg
    rw [hg] at h
    simp only at h
    cases hen : enters P f with
    | false => rw [hen] at h; cases h
    | true =>
      rw [hen] at h
      exact inCall_congr h hne
section
variable {P : Program} {X : ExtFn} {call : CallFn} {ρ ρ' : Operand → SV} {mem mem' : Mem} {id : Nat} {o : Oper} {v : SV} {e : Eff}
theorem evGen_congr (h : evGen P call ρ mem id o = some (v, e)) (hne : ∀ mm nn, e ≠ .all mm nn) (hρ : ∀ x ∈ o.op.operands, ρ' x = ρ x) : evGen P call ρ' mem' id o = some (v, e) := by
  unfold evGen at h ⊢
  have h1 : o.op.operands.toList.all (fun x => (ρ' x).isVal) = o.op.operands.toList.all (fun x => (ρ x).isVal) := by
    rw [Bool.eq_iff_iff, List.all_eq_true, List.all_eq_true]
    constructor
    · intro hh x hx
      rw [← hρ x (by simpa using hx)]
      exact hh x hx
    · intro hh x hx
      rw [hρ x (by simpa using hx)]
      exact hh x hx
  rw [h1]
  cases hc : (o.op.operands.toList.all (fun x => (ρ x).isVal) && noSelect o.op) with
  | false => rw [hc] at h; cases h
  | true =>
    rw [hc] at h
    simp only [cond_true] at h ⊢
    rw [Bool.and_eq_true] at hc
    have hns : ∀ cs b, o.op ≠ .select cs b := fun cs b hh => by rw [hh] at hc; cases hc.2
    have h2 : execOp (fun x => (ρ' x).un) o = execOp (fun x => (ρ x).un) o := execOp_congr o hns fun x hx => by rw [hρ x hx]
    rw [h2]
    split
    · rename_i u hp; rw [hp] at h; exact h
    · rename_i hp; rw [hp] at h; exact h
    · rename_i f args hp
      rw [hp] at h
      exact inCall_congr h hne
    · rename_i x1 x2 x3
      split at h
      · rename_i u hq; exact absurd hq (x1 u)
      · rename_i hq; exact absurd hq x2
      · rename_i f args hq; exact absurd hq (x3 f args)
      · cases h
def touchR (ρ : Operand → SV) (o : Oper) : List Nat :=
  match o.op with
  | .load _ x => match ρ x with
    | .ptr b _ => [b]
    | _ => []
  | .store _ x _ => match ρ x with
    | .ptr b _ => [b]
    | _ => []
  | _ => []
theorem evOp_congr (h : evOp P X call ρ mem id o = some (v, e)) (hne : ∀ mm nn, e ≠ .all mm nn) (hρ : ∀ x ∈ o.op.operands, ρ' x = ρ x) (hmem : ∀ b ∈ touchR ρ o, mem' b = mem b) : evOp P X call ρ' mem' id o = some (v, e) := by
  obtain ⟨dst, op, type, pos, after, guard⟩ := o
  have hgen : ∀ {o : Oper}, evGen P call ρ mem id o = some (v, e) → (∀ x ∈ o.op.operands, ρ' x = ρ x) → evGen P call ρ' mem' id o = some (v, e) := fun h hρ => evGen_congr h hne hρ
  cases op
  case move x => simp only [evOp] at h ⊢; rw [hρ x (by simp [Op.operands])]; exact h
  case assign x => simp only [evOp] at h ⊢; rw [hρ x (by simp [Op.operands])]; exact h
  case pick c x y => simp only [evOp] at h ⊢; rw [hρ c (by simp [Op.operands]), hρ x (by simp [Op.operands]), hρ y (by simp [Op.operands])]; exact h
  case alloc t => simp only [evOp] at h ⊢; exact h
  case box t x => simp only [evOp] at h ⊢; rw [hρ x (by simp [Op.operands])]; exact h
  case load t x =>
    simp only [evOp] at h ⊢
    rw [hρ x (by simp [Op.operands])]
    cases hx : ρ x with
    | ptr b off =>
      rw [hx] at h
      simp only at h ⊢
      rw [hmem b (by simp [touchR, hx])]
      exact h
    | _ => rw [hx] at h; exact h
  case store t x y =>
    simp only [evOp] at h ⊢
    rw [hρ x (by simp [Op.operands]), hρ y (by simp [Op.operands])]
    cases hx : ρ x with
    | ptr b off =>
      rw [hx] at h
      simp only at h ⊢
      rw [hmem b (by simp [touchR, hx])]
      exact h
    | _ => rw [hx] at h; exact h
  case fieldAddr s x i => simp only [evOp] at h ⊢; rw [hρ x (by simp [Op.operands])]; exact h
  case nilCheck x =>
    simp only [evOp] at h ⊢
    rw [hρ x (by simp [Op.operands])]
    cases hx : ρ x with
    | ptr b off => rw [hx] at h; exact h
    | xp r j off => rw [hx] at h; exact h
    | fn f l => rw [hx] at h; exact h
    | _ => rw [hx] at h; exact hgen h hρ
  case makeFunc fn first captured =>
    simp only [evOp] at h ⊢
    have hmap : captured.toList.map ρ' = captured.toList.map ρ := List.map_congr_left fun x hx => hρ x (by simp only [Op.operands]; simp at hx; simp [hx])
    have hk1 : captured.toList.all (fun x => (ρ' x).known) = captured.toList.all (fun x => (ρ x).known) := by
      have : ∀ (r : Operand → SV), captured.toList.all (fun x => (r x).known) = (captured.toList.map r).all SV.known := fun r => by rw [List.all_map]; rfl
      rw [this, this, hmap]
    have hk2 : captured.toList.all (fun x => (ρ' x).isVal) = captured.toList.all (fun x => (ρ x).isVal) := by
      have : ∀ (r : Operand → SV), captured.toList.all (fun x => (r x).isVal) = (captured.toList.map r).all SV.isVal := fun r => by rw [List.all_map]; rfl
      rw [this, this, hmap]
    rw [hk1, hk2, hmap]
    cases fn with
    | func f =>
      simp only at h ⊢
      cases hc : (first.isEmpty && (captured.toList.all (fun x => (ρ x).known) && !(captured.toList.all (fun x => (ρ x).isVal)))) with
      | true => rw [hc] at h; exact h
      | false => rw [hc] at h; exact hgen h hρ
    | _ => exact hgen h hρ
  case call c =>
    simp only [evOp] at h ⊢
    have hargs : c.args.toList.map ρ' = c.args.toList.map ρ := List.map_congr_left fun x hx => hρ x (by simp only [Op.operands, Call.operands]; simp at hx; simp [hx])
    obtain ⟨cal, as_, ts⟩ := c
    simp only at h hargs ⊢
    rw [hargs]
    cases cal with
    | value f =>
      cases f with
      | func g => exact doCall_congr h hne
      | tmp tt =>
        simp only at h ⊢
        rw [hρ (.tmp tt) (by simp [Op.operands, Call.operands])]
        cases hx : asFn (ρ (.tmp tt)) with
        | some p => rw [hx] at h; exact doCall_congr h hne
        | none => rw [hx] at h; exact hgen h hρ
      | _ => exact hgen h hρ
    | builtin b =>
      simp only at h ⊢
      cases hl : lenOf P b ts (as_.toList.map ρ) with
      | some v => rw [hl] at h; exact h
      | none => rw [hl] at h; exact hgen h hρ
    | invoke r n => exact hgen h hρ
  case build t ps =>
    simp only [evOp] at h ⊢
    have hp : partsS ρ' ps = partsS ρ ps := List.map_congr_left fun p hp => by rw [hρ p.2 (by simp only [Op.operands, List.mem_toArray, List.mem_map]; exact ⟨p, hp, rfl⟩)]
    rw [hp]
    cases hv : (partsS ρ ps).all (fun p => p.2.isVal) with
    | true => rw [hv] at h; exact hgen h hρ
    | false => rw [hv] at h; exact h
  case buildSlice t n ps =>
    simp only [evOp] at h ⊢
    have hp : partsS ρ' ps = partsS ρ ps := List.map_congr_left fun p hp => by rw [hρ p.2 (by simp only [Op.operands, List.mem_toArray, List.mem_map]; exact ⟨p, hp, rfl⟩)]
    rw [hp]
    exact h
  case indexAddr t x i =>
    simp only [evOp] at h ⊢
    rw [hρ x (by simp [Op.operands]), hρ i (by simp [Op.operands])]
    exact h
  case binOp bop t x y yt =>
    simp only [evOp] at h ⊢
    rw [hρ x (by simp [Op.operands]), hρ y (by simp [Op.operands])]
    exact h
  all_goals (simp only [evOp] at h ⊢; exact hgen h hρ)
end
theorem one_dst {P : Program} {X : ExtFn} {call : CallFn} {ops : Array Oper} {N : Nat} {tmps : Nat → SV} {mem : Mem} {id : Nat} {o : Oper} {e : Evt} (h : evOne P X call ops N tmps mem id o = some e) : e.dst = o.dst ∧ dstOk N o.dst = true ∧ knownG ops tmps o = true := by
  unfold evOne at h
  cases hd : dstOk N o.dst && knownG ops tmps o with
  | false => rw [hd] at h; cases h
  | true =>
    rw [hd] at h
    simp only [cond_true] at h
    refine ⟨?_, (Bool.and_eq_true _ _).mp hd⟩
    cases hw : wantS ops tmps o with
    | false =>
      rw [hw] at h
      simp only [cond_false, Option.some.injEq] at h
      subst h
      rfl
    | true =>
      rw [hw] at h
      simp only [cond_true] at h
      split at h
      · rename_i v f hf
        unfold effEvt at h
        split at h
        · cases h; rfl
        · split at h
          · cases h; rfl
          · cases h
        · cases h; rfl
        · cases h
      · cases h
theorem one_spec {P : Program} {X : ExtFn} {call : CallFn} {ops : Array Oper} {N : Nat} {tmps : Nat → SV} {mem : Mem} {id : Nat} {o : Oper} {e : Evt} (h : evOne P X call ops N tmps mem id o = some e) :
    (∀ c k, e.wr = some (c, k) → c ∈ e.foot) ∧
    ((wantS ops tmps o = false ∧ e.v = .val undef ∧ e.wr = none) ∨
    (wantS ops tmps o = true ∧ ∃ f, evOp P X call (look tmps) mem id o = some (e.v, f) ∧ (∀ mm nn, f ≠ .all mm nn) ∧ (∀ M : Mem, f.mem M id = e.mem M) ∧ ((∃ k, f = .new k) → mem id = none ∧ id ∈ e.foot) ∧ ∀ b ∈ touchS tmps o, b ∈ e.foot)) := by
  unfold evOne at h
  cases hd : dstOk N o.dst && knownG ops tmps o with
  | false => rw [hd] at h; cases h
  | true =>
    rw [hd] at h
    simp only [cond_true] at h
    cases hw : wantS ops tmps o with
    | false =>
      rw [hw] at h
      simp only [cond_false, Option.some.injEq] at h
      subst h
      exact ⟨fun c k hk => (by cases hk), .inl ⟨rfl, rfl, rfl⟩⟩
    | true =>
      rw [hw] at h
      simp only [cond_true] at h
      split at h
      · rename_i v f hf
        unfold effEvt at h
        split at h
        · cases h
          exact ⟨fun c k hk => (by cases hk), .inr ⟨rfl, _, hf, fun _ _ hh => (by cases hh), fun _ => rfl, fun ⟨_, hh⟩ => (by cases hh), fun b hb => hb⟩⟩
        · split at h
          · rename_i hid
            cases h
            exact ⟨fun c k hk => (by cases hk; exact List.mem_cons_self), .inr ⟨rfl, _, hf, fun _ _ hh => (by cases hh), fun _ => rfl, fun _ => ⟨hid, List.mem_cons_self⟩, fun b hb => List.mem_cons_of_mem _ hb⟩⟩
          · cases h
        · cases h
          exact ⟨fun c k hk => (by cases hk; exact List.mem_cons_self), .inr ⟨rfl, _, hf, fun _ _ hh => (by cases hh), fun _ => rfl, fun ⟨_, hh⟩ => (by cases hh), fun b hb => List.mem_cons_of_mem _ hb⟩⟩
        · cases h
      · cases h
theorem want_congr {ops : Array Oper} {tmps tmps' : Nat → SV} {o : Oper} (h : ∀ t ∈ o.looksAt ops, tmps' t = tmps t) : wantS ops tmps' o = wantS ops tmps o := by
  unfold wantS
  cases hg : o.guard with
  | none => rfl
  | some g =>
    obtain ⟨j, want⟩ := g
    have : yieldS ops tmps' j = yieldS ops tmps j := by
      unfold yieldS
      cases ho : ops[j]? with
      | none => rfl
      | some oj =>
        simp only
        cases hd : oj.dst with
        | none => rfl
        | some t =>
          simp only
          rw [h t (by simp [Oper.looksAt, hg, ho, hd])]
    simp only [this]
theorem knownG_congr {ops : Array Oper} {tmps tmps' : Nat → SV} {o : Oper} (h : ∀ t ∈ o.looksAt ops, tmps' t = tmps t) : knownG ops tmps' o = knownG ops tmps o := by
  unfold knownG
  cases hg : o.guard with
  | none => rfl
  | some g =>
    obtain ⟨j, want⟩ := g
    simp only
    cases ho : ops[j]? with
    | none => rfl
    | some oj =>
      simp only
      cases hd : oj.dst with
      | none => rfl
      | some t =>
        simp only
        rw [h t (by simp [Oper.looksAt, hg, ho, hd])]
section
variable {P : Program} {X : ExtFn} {call : CallFn} {I : World → Prop} {N : Nat} {ops : Array Oper} {Q : Exit → Act → World → Prop} {w0 : World}
def DInv (w0 : World) (N : Nat) (ops : Array Oper) (es : List Evt) (st0 : St) (m0 : Nat → Nat) (l : Array Bool) (a : Act) (w : World) : Prop :=
  l.size = ops.size ∧ Closed ops l ∧ ∃ m, Agree st0.mem m0 m ∧ MR w0 m (fun b => lastM (fun j => l.getD j false) b 0 es (st0.mem b)) w ∧
    AR N m (fun t => lastV (fun j => l.getD j false) t 0 es (st0.tmps t)) (fun b => lastM (fun j => l.getD j false) b 0 es (st0.mem b)) a ∧
    Grows st0.mem (fun b => lastM (fun j => l.getD j false) b 0 es (st0.mem b))
theorem closed_set {l : Array Bool} (hc : Closed ops l) {i : Nat} (hr : i ∈ Region.ready .any ops l) : Closed ops (l.setIfInBounds i true) := by
  intro j o e hj ho he hb
  refine getD_set_true ?_
  by_cases h : j = i
  · subst h
    obtain ⟨_, o', ho', hall⟩ := mem_ready.1 hr
    rw [ho] at ho'
    cases ho'
    exact hall e he hb
  · rw [getD_set_ne _ (Ne.symm h)] at hj
    exact hc j o e hj ho he hb
theorem draw_step (hX : ExtSound P X) (hI : I w0) (hs : Stable I) (hXO : ∀ w, I w → XOk w) (hcall : CallSound P I call) {es : List Evt} {st0 : St} {m0 : Nat → Nat} (hlen : es.length = ops.size)
    (hev : ∀ n o, ops[n]? = some o → ∃ e, es[n]? = some e ∧ evOne P X call ops N (fun t => lastV (fun i => decide (i < n)) t 0 es (st0.tmps t)) (fun b => lastM (fun i => decide (i < n)) b 0 es (st0.mem b)) (st0.next + n) o = some e)
    (hto : tmpsOk ops (cloL ops.toList []) = true) (hmo : memOk es (cloL ops.toList []) = true) {l : Array Bool} {a : Act} {w : World} {i : Nat} (hi : i ∈ Region.ready .any ops l) (h : DInv w0 N ops es st0 m0 l a w) :
    wpOp P ops Q i (DInv w0 N ops es st0 m0 (l.setIfInBounds i true)) a w := by
  obtain ⟨hsz, hc, m, hag, hmr, har, hgr⟩ := h
  obtain ⟨hun, o, ho, hneeds⟩ := mem_ready.1 hi
  have hilt : i < ops.size := (Array.getElem?_eq_some_iff.1 ho).1
  have hunf : l.getD i false = false := by
    have : i < l.size := by omega
    rw [Array.getD_eq_getD_getElem?, Array.getElem?_eq_getElem this] at hun ⊢
    simpa using hun
  obtain ⟨e, hei, hone⟩ := hev i o ho
  obtain ⟨hdst, hdok, hgk⟩ := one_dst hone
  have hdn : ∀ {n : Nat} {e' : Evt}, es[n]? = some e' → ∃ o', ops[n]? = some o' ∧ e'.dst = o'.dst := fun {n e'} hn => by
    have hlt : n < ops.size := by rw [← hlen]; exact (List.getElem?_eq_some_iff.1 hn).1
    obtain ⟨e2, h1, h2⟩ := hev n _ (Array.getElem?_eq_getElem hlt)
    rw [hn] at h1
    cases h1
    exact ⟨_, Array.getElem?_eq_getElem hlt, (one_dst h2).1⟩
  have hpair : ∀ {x y : Nat} {ox oy : Oper}, x < y → ops[x]? = some ox → ops[y]? = some oy → ((cloL ops.toList []).getD y 0).testBit x = true ∨ Oper.apart ops ox oy = true := fun {x y ox oy} hxy hx hy => by
    have h1 := List.all_eq_true.1 hto y (List.mem_range.2 (Array.getElem?_eq_some_iff.1 hy).1)
    have h2 := List.all_eq_true.1 h1 x (List.mem_range.2 hxy)
    rw [hx, hy] at h2
    simpa [Bool.or_eq_true] using h2
  have hpairM : ∀ {x y : Nat} {ex ey : Evt}, x < y → es[x]? = some ex → es[y]? = some ey → (farE ex ey = true ∧ farE ey ex = true) ∨ ((cloL ops.toList []).getD y 0).testBit x = true := fun {x y ex ey} hxy hx hy => by
    have h1 := List.all_eq_true.1 hmo y (List.mem_range.2 (List.getElem?_eq_some_iff.1 hy).1)
    have h2 := List.all_eq_true.1 h1 x (List.mem_range.2 hxy)
    rw [hx, hy] at h2
    simpa [Bool.or_eq_true, Bool.and_eq_true] using h2
  have hlook : ∀ t ∈ o.looksAt ops, lastV (fun j => l.getD j false) t 0 es (st0.tmps t) = lastV (fun j => decide (j < i)) t 0 es (st0.tmps t) := fun t ht => lastV_congr es 0 _ fun n e' hn hd' => by
    simp only [Nat.zero_add]
    obtain ⟨o', ho', hd2⟩ := hdn hn
    rcases Nat.lt_trichotomy n i with hlt | heq | hgt
    · rw [decide_eq_true hlt]
      rcases hpair hlt ho' ho with hb | hap
      · exact clo_ready hc hi hb
      · exact absurd ht ((Oper.apart_spec hap).1 t (hd2 ▸ hd'))
    · subst heq; rw [hunf]; simp
    · rw [decide_eq_false (by omega)]
      rcases hpair hgt ho ho' with hb | hap
      · cases hq : l.getD n false with
        | false => rfl
        | true => rw [clo_listed hc n hb hq] at hunf; cases hunf
      · exact absurd ht ((Oper.apart_spec hap).2.2 t (hd2 ▸ hd'))
  have hfoot : ∀ b ∈ e.foot, lastM (fun j => l.getD j false) b 0 es (st0.mem b) = lastM (fun j => decide (j < i)) b 0 es (st0.mem b) := fun b hb => lastM_congr es 0 _ fun n e' k hn hw' => by
    simp only [Nat.zero_add]
    have hfar : ∀ {x : Evt}, farE x e = true → x.wr = some (b, k) → False := fun {x} hf hx => by
      unfold farE at hf
      rw [hx] at hf
      have := List.all_eq_true.1 hf b hb
      simp at this
    rcases Nat.lt_trichotomy n i with hlt | heq | hgt
    · rw [decide_eq_true hlt]
      rcases hpairM hlt hn hei with hap | hb2
      · exact (hfar hap.1 hw').elim
      · exact clo_ready hc hi hb2
    · subst heq; rw [hunf]; simp
    · rw [decide_eq_false (by omega)]
      rcases hpairM hgt hei hn with hap | hb2
      · exact (hfar hap.2 hw').elim
      · cases hq : l.getD n false with
        | false => rfl
        | true => rw [clo_listed hc n hb2 hq] at hunf; cases hunf
  have hset : ∀ n, (l.setIfInBounds i true).getD n false = if n = i then true else l.getD n false := fun n => by
    by_cases hn : n = i
    · subst hn
      rw [if_pos rfl]
      have : n < l.size := by omega
      simp [this]
    · rw [if_neg hn, getD_set_ne _ (Ne.symm hn)]
  have htm : (fun t => lastV (fun j => (l.setIfInBounds i true).getD j false) t 0 es (st0.tmps t)) = putS (fun t => lastV (fun j => l.getD j false) t 0 es (st0.tmps t)) o.dst e.v := by
    funext t
    rw [putS_at]
    by_cases hd : o.dst = some t
    · rw [if_pos hd]
      refine lastV_at es 0 i e _ hei (by rw [Nat.zero_add, hset, if_pos rfl]) (hdst.trans hd) fun n' e' hn' hlt hS hd' => ?_
      rw [Nat.zero_add, hset, if_neg (by omega)] at hS
      obtain ⟨o', ho', hd2⟩ := hdn hn'
      rcases hpair hlt ho ho' with hb | hap
      · rw [clo_listed hc n' hb hS] at hunf; cases hunf
      · exact (Oper.apart_spec hap).2.1 t hd (hd2 ▸ hd')
    · rw [if_neg hd]
      refine lastV_congr es 0 _ fun n e' hn hd' => ?_
      rw [Nat.zero_add, hset, if_neg]
      rintro rfl
      rw [hei] at hn
      cases hn
      exact hd (hdst ▸ hd')
  have hmem : (fun b => lastM (fun j => (l.setIfInBounds i true).getD j false) b 0 es (st0.mem b)) = e.mem (fun b => lastM (fun j => l.getD j false) b 0 es (st0.mem b)) := by
    funext b
    rw [Evt.mem_at]
    have hsame : (∀ k, e.wr ≠ some (b, k)) → lastM (fun j => (l.setIfInBounds i true).getD j false) b 0 es (st0.mem b) = lastM (fun j => l.getD j false) b 0 es (st0.mem b) := fun hne =>
      lastM_congr es 0 _ fun n e' k hn hw' => by
        rw [Nat.zero_add, hset, if_neg]
        rintro rfl
        rw [hei] at hn
        cases hn
        exact hne k hw'
    cases hw : e.wr with
    | none => exact hsame (fun k hk => by rw [hw] at hk; cases hk)
    | some p =>
      obtain ⟨c, k⟩ := p
      simp only
      by_cases hcb : c = b
      · subst hcb
        rw [if_pos rfl]
        refine lastM_at es 0 i e _ hei (by rw [Nat.zero_add, hset, if_pos rfl]) hw fun n' e' k' hn' hlt hS hw' => ?_
        rw [Nat.zero_add, hset, if_neg (by omega)] at hS
        rcases hpairM hlt hei hn' with hap | hb
        · have hf := hap.2
          unfold farE at hf
          rw [hw'] at hf
          have hin : c ∈ e.foot := (one_spec hone).1 c k hw
          have := List.all_eq_true.1 hf c hin
          simp at this
        · rw [clo_listed hc n' hb hS] at hunf; cases hunf
      · rw [if_neg hcb]
        exact hsame (fun k' hk => by rw [hw] at hk; cases hk; exact hcb rfl)
  have hgrow : Grows (fun b => lastM (fun j => l.getD j false) b 0 es (st0.mem b)) (e.mem (fun b => lastM (fun j => l.getD j false) b 0 es (st0.mem b))) := fun b hb => by
    rw [Evt.mem_at]
    split
    · split
      · rfl
      · exact hb
    · exact hb
  have hgoal : ∀ m' w', Agree (fun b => lastM (fun j => l.getD j false) b 0 es (st0.mem b)) m m' → MR w0 m' (e.mem (fun b => lastM (fun j => l.getD j false) b 0 es (st0.mem b))) w' → e.v.ok (e.mem (fun b => lastM (fun j => l.getD j false) b 0 es (st0.mem b))) →
      DInv w0 N ops es st0 m0 (l.setIfInBounds i true) (a.put o.dst (e.v.den m')) w' := fun m' w' hag' hmr' hv => by
    refine ⟨by simpa using hsz, closed_set hc hi, m', hag.trans hgr hag', ?_⟩
    rw [htm, hmem]
    exact ⟨hmr', har.put hag' hgrow hdok hv, hgr.trans hgrow⟩
  unfold wpOp
  rw [ho]
  simp only
  rw [want_eq har.tm o ((knownG_congr hlook).trans hgk)]
  have hwc := want_congr (tmps := fun t => lastV (fun i_1 => decide (i_1 < i)) t 0 es (st0.tmps t)) (tmps' := fun t => lastV (fun j => l.getD j false) t 0 es (st0.tmps t)) (ops := ops) (o := o) hlook
  rw [hwc]
  rcases (one_spec hone).2 with ⟨hw, hv, hwr⟩ | ⟨hw, f, hf, hnall, hfm, hnew, htouch⟩
  · rw [hw]
    simp only [Bool.false_eq_true, if_false]
    have hme : ∀ M : Mem, e.mem M = M := fun M => by unfold Evt.mem; rw [hwr]
    have := hgoal m w (Agree.refl _ _) (by rw [hme]; exact hmr) (by rw [hv]; exact ok_val _ _)
    rw [hv, den_val] at this
    exact this
  · rw [hw]
    simp only [if_true]
    refine .inl ?_
    have hρ : ∀ x ∈ o.op.operands, look (fun t => lastV (fun j => l.getD j false) t 0 es (st0.tmps t)) x = look (fun t => lastV (fun j => decide (j < i)) t 0 es (st0.tmps t)) x := fun x hx => by
      cases x with
      | tmp t => exact hlook t (List.mem_append_left _ (List.mem_filterMap.2 ⟨.tmp t, by simpa using hx, rfl⟩))
      | const v => rfl
      | global g => rfl
      | func g => rfl
    have hf' := evOp_congr (ρ' := look (fun t => lastV (fun j => l.getD j false) t 0 es (st0.tmps t))) (mem' := fun b => lastM (fun j => l.getD j false) b 0 es (st0.mem b)) hf hnall hρ (fun b hb => hfoot b (htouch b hb))
    refine op_sound hX hI hs hXO hcall hf' (fun hk => ?_) (fun ⟨mm, nn, hh⟩ => absurd hh (hnall mm nn)) har.look_ok har.eval hmr ?_
    · obtain ⟨h1, h2⟩ := hnew hk
      show lastM (fun j => l.getD j false) (st0.next + i) 0 es (st0.mem (st0.next + i)) = none
      rw [hfoot _ h2]
      exact h1
    · intro m' w' hag' hmr' hv _ _
      rw [hfm] at hmr' hv
      exact hgoal m' w' hag' hmr' hv
theorem draw_any (hX : ExtSound P X) (hI : I w0) (hs : Stable I) (hXO : ∀ w, I w → XOk w) (hcall : CallSound P I call) {es : List Evt} {st0 : St} {m0 : Nat → Nat} (hlen : es.length = ops.size)
    (hev : ∀ n o, ops[n]? = some o → ∃ e, es[n]? = some e ∧ evOne P X call ops N (fun t => lastV (fun i => decide (i < n)) t 0 es (st0.tmps t)) (fun b => lastM (fun i => decide (i < n)) b 0 es (st0.mem b)) (st0.next + n) o = some e)
    (hdo : depsOk ops.toList 0 = true) (hto : tmpsOk ops (cloL ops.toList []) = true) (hmo : memOk es (cloL ops.toList []) = true)
    (hQ : ∀ l a w, (∀ j, j < ops.size → l.getD j false = true) → DInv w0 N ops es st0 m0 l a w → Q .normal a w) : ∀ (fuel : Nat) (l : Array Bool) (a : Act) (w : World), l.toList.countP (fun b => b) + fuel = ops.size → DInv w0 N ops es st0 m0 l a w → wpAny P .any ops Q fuel l a w
  | 0, l, a, w, hcnt, h => by
    have hall : ∀ j, j < ops.size → l.getD j false = true := fun j hj => by
      have hsz := h.1
      have h1 : l.toList.countP (fun b => b) = l.toList.length := by rw [Array.length_toList]; omega
      have h2 := List.countP_eq_length.1 h1
      have hj' : j < l.size := by omega
      rw [Array.getD_eq_getD_getElem?, Array.getElem?_eq_getElem hj']
      exact h2 _ (by simp)
    refine ⟨?_, hQ l a w hall h⟩
    refine List.eq_nil_iff_forall_not_mem.2 fun i hi => ?_
    obtain ⟨hun, o, ho, _⟩ := mem_ready.1 hi
    have hilt := (Array.getElem?_eq_some_iff.1 ho).1
    have h3 := hall i hilt
    have : i < l.size := by have := h.1; omega
    rw [Array.getD_eq_getD_getElem?, Array.getElem?_eq_getElem this] at hun h3
    simp at hun h3
    rw [hun] at h3
    cases h3
  | fuel + 1, l, a, w, hcnt, h => by
    refine ⟨fun hr => hQ l a w (fun j hj => ?_) h, fun i hi => ?_⟩
    · cases hq : l.getD j false with
      | true => rfl
      | false => exact absurd hr (ready_some hdo h.1 j hj hq)
    · refine wpOp_mono ?_ (draw_step hX hI hs hXO hcall hlen hev hto hmo hi h)
      intro a' w' h'
      refine draw_any hX hI hs hXO hcall hlen hev hdo hto hmo hQ fuel _ a' w' ?_ h'
      obtain ⟨hun, o, ho, _⟩ := mem_ready.1 hi
      have hilt := (Array.getElem?_eq_some_iff.1 ho).1
      have hil : i < l.toList.length := by have := h.1; rw [Array.length_toList]; omega
      have hli : l.toList[i] = false := by
        have : i < l.size := by simpa using hil
        rw [Array.getD_eq_getD_getElem?, Array.getElem?_eq_getElem this] at hun
        simpa using hun
      rw [Array.toList_setIfInBounds, List.countP_set hil, hli]
      simp only [Bool.false_eq_true, if_false, if_true]
      omega
theorem draw_sound (hmix : P.follows .mixedOrders = true) (hX : ExtSound P X) (hI : I w0) (hs : Stable I) (hXO : ∀ w, I w → XOk w) (hcall : CallSound P I call) {rid : Nat} {st st' : St} {m : Nat → Nat} {a : Act} {w : World} (h : evDraw P X call ops N st = some st') (hr : SR w0 N m st a w)
    (k : ∀ m' a' w', Later st m st' m' → SR w0 N m' st' a' w' → Q .normal a' w') : (Code.region rid ops true).wp P Q a w := by
  unfold evDraw at h
  split at h
  · rename_i es tmps' mem' hes
    cases hck : (depsOk ops.toList 0 && tmpsOk ops (cloL ops.toList []) && memOk es (cloL ops.toList []) && wrOk es (st.next + ops.size)) with
    | false => rw [hck] at h; cases h
    | true =>
      rw [hck] at h
      simp only [cond_true, Option.some.injEq] at h
      subst h
      simp only [Bool.and_eq_true] at hck
      obtain ⟨⟨⟨hdo, hto⟩, hmo⟩, hwo⟩ := hck
      obtain ⟨r, h1, h2, h3, h4, h5⟩ := seq_spec _ _ _ _ _ _ _ _ hes
      rw [List.nil_append] at h1
      subst h1
      have hlen : es.length = ops.size := by rw [h2, Array.length_toList]
      have hev : ∀ n o, ops[n]? = some o → ∃ e, es[n]? = some e ∧ evOne P X call ops N (fun t => lastV (fun i => decide (i < n)) t 0 es (st.tmps t)) (fun b => lastM (fun i => decide (i < n)) b 0 es (st.mem b)) (st.next + n) o = some e := fun n o hn => h5 n o (by simpa using hn)
      have hfill : ∀ (S : Nat → Bool), (∀ j, j < ops.size → S j = true) → (∀ t, lastV S t 0 es (st.tmps t) = tmps' t) ∧ (∀ b, lastM S b 0 es (st.mem b) = mem' b) := fun S hS => by
        refine ⟨fun t => ?_, fun b => ?_⟩
        · rw [h3]
          exact lastV_congr es 0 _ fun n e hn _ => by rw [Nat.zero_add]; exact hS n (by rw [← hlen]; exact (List.getElem?_eq_some_iff.1 hn).1)
        · rw [h4]
          exact lastM_congr es 0 _ fun n e k hn _ => by rw [Nat.zero_add]; exact hS n (by rw [← hlen]; exact (List.getElem?_eq_some_iff.1 hn).1)
      have hnone : ∀ (S : Nat → Bool), (∀ j, S j = false) → (∀ t, lastV S t 0 es (st.tmps t) = st.tmps t) ∧ (∀ b, lastM S b 0 es (st.mem b) = st.mem b) := fun S hS => by
        have e1 : S = fun _ => false := funext hS
        subst e1
        refine ⟨fun t => ?_, fun b => ?_⟩
        · have : ∀ (q : List Evt) (j : Nat) (d : SV), lastV (fun _ => false) t j q d = d := by
            intro q
            induction q with
            | nil => intro j d; rfl
            | cons y q ih => intro j d; simp [lastV, ih]
          exact this _ _ _
        · have : ∀ (q : List Evt) (j : Nat) (d : Option Blk), lastM (fun _ => false) b j q d = d := by
            intro q
            induction q with
            | nil => intro j d; rfl
            | cons y q ih =>
              intro j d
              simp only [lastM, Bool.false_eq_true, false_and, if_false]
              rw [ih]
              split <;> rfl
          exact this _ _ _
      refine wp_region_any hmix (draw_any hX hI hs hXO hcall (st0 := st) (m0 := m) hlen hev hdo hto hmo ?_ ops.size _ a _ (by simp [List.countP_replicate]) ?_)
      · rintro l a' w' hall ⟨_, _, m', hag, hmr, har, hgr⟩
        obtain ⟨e1, e2⟩ := hfill (fun j => l.getD j false) hall
        have e1' : (fun t => lastV (fun j => l.getD j false) t 0 es (st.tmps t)) = tmps' := funext e1
        have e2' : (fun b => lastM (fun j => l.getD j false) b 0 es (st.mem b)) = mem' := funext e2
        rw [e2'] at hmr hgr
        rw [e1', e2'] at har
        refine k m' a' w' ⟨hag, hgr, Nat.le_add_right _ _⟩ ⟨hmr, har, fun b hb => ?_⟩
        show mem' b = none
        have hb : st.next + ops.size ≤ b := hb
        rw [h4, lastM_congr (S' := fun _ => false) es 0 _ (fun n e k hn hw => by
          have := List.all_eq_true.1 hwo e (List.mem_of_getElem? hn)
          rw [hw] at this
          have := Nat.le_of_ble_eq_true this
          omega), (hnone (fun _ => false) (fun _ => rfl)).2]
        exact hr.fresh b (by omega)
      · have hz : ∀ j, (Array.replicate ops.size false).getD j false = false := fun j => by
          simp only [Array.getD_eq_getD_getElem?, Array.getElem?_replicate]
          split <;> rfl
        obtain ⟨e1, e2⟩ := hnone (fun j => (Array.replicate ops.size false).getD j false) hz
        have e1' : (fun t => lastV (fun j => (Array.replicate ops.size false).getD j false) t 0 es (st.tmps t)) = st.tmps := funext e1
        have e2' : (fun b => lastM (fun j => (Array.replicate ops.size false).getD j false) b 0 es (st.mem b)) = st.mem := funext e2
        refine ⟨by simp, fun j o e hj => ?_, m, Agree.refl _ _, ?_⟩
        · rw [hz] at hj; cases hj
        · rw [e1', e2']
          exact ⟨hr.mr.drew, hr.ar, Grows.refl _⟩
  · cases h
end
end Go.Ev
namespace Go.Ev
open Go.RowKit
variable [XEnv]
inductive DT (α : Type) where
  | leaf (a : α)
  | node (c : Bool) (t f : DT α)
  | bad
namespace DT
variable {α β R : Type}
def run : DT α → (α → Option R) → Option R
  | leaf a, κ => κ a
  | node c t f, κ => bif c then t.run κ else f.run κ
  | bad, _ => none
def val : DT α → Option α
  | leaf a => some a
  | node c t f => bif c then t.val else f.val
  | bad => none
theorem run_eq (κ : α → Option R) : ∀ t : DT α, t.run κ = t.val.bind κ
  | leaf _ => rfl
  | node c t f => by cases c <;> simp only [run, val, cond_true, cond_false, run_eq κ t, run_eq κ f]
  | bad => rfl
theorem val_leaf (a : α) : (leaf a).val = some a := rfl
theorem val_node (c : Bool) (t f : DT α) : (node c t f).val = bif c then t.val else f.val := rfl
theorem val_bad : (bad : DT α).val = none := rfl
end DT
structure GFn where
  v : FuncId → Option (List Value → Option (DT Value))
  s : FuncId → Option (List SV → Mem → Option (DT SV))
inductive Ex where
  | normal
  | exit (id : Nat)
  | ret
def Ex.out : Ex → Exit
  | .normal => .normal
  | .exit i => .exit i
  | .ret => .ret
def resOne (P : Program) (st : St) : ResultVar → Option SV
  | .tmp t => bif (st.tmps t).known then some (st.tmps t) else none
  | .cell a t => match st.tmps a with
    | .ptr b off => match st.mem b with
      | some k => evLoad P t k off
      | none => none
    | _ => none
def resAll (P : Program) (st : St) : List ResultVar → Option (List SV)
  | [] => some []
  | r :: l => match resOne P st r with
    | some v => match resAll P st l with
      | some vs => some (v :: vs)
      | none => none
    | none => none
def resS (P : Program) (fn : Func) (st : St) : Option SV :=
  match resAll P st fn.results.toList with
  | some [] => some (.val (.tuple #[]))
  | some (v :: l) => match l with
    | [] => some v
    | _ :: _ => match vals? (v :: l) with
      | some vs => some (.val (.tuple vs.toArray))
      | none => none
  | none => none
def argS (args : List SV) (t : Nat) : SV := args.getD t (.val undef)
def bodyWith (P : Program) (evk : Nat → Code → St → Option (Ex × St)) (fn : Func) (c : Code) (args : List SV) (mem : Mem) (id : Nat) : Option (SV × Mem × Nat) :=
  match evk (args.length + (fn.ntmps - args.length)) c ⟨argS args, mem, id⟩ with
  | some (ex, st) => match ex with
    | .exit _ => none
    | .normal => match resS P fn st with
      | some v => some (v, st.mem, st.next)
      | none => none
    | .ret => match resS P fn st with
      | some v => some (v, st.mem, st.next)
      | none => none
  | none => none
def callWith (P : Program) (G : GFn) (evk : Nat → Code → St → Option (Ex × St)) (f : FuncId) (args : List SV) (mem : Mem) (id : Nat) : Option (SV × Mem × Nat) :=
  match G.v f with
  | some g => match vals? args with
    | some vs => match g vs with
      | some t => match t.val with
        | some v => some (.val v, mem, id)
        | none => none
      | none => none
    | none => none
  | none => match G.s f with
    | some g => match g args mem with
        | some t => match t.val with
          | some v => some (v, mem, id)
          | none => none
        | none => none
    | none => match P.funcs[f]? with
      | some fn => match fn.body with
        | some c => bodyWith P evk fn c args mem id
        | none => none
      | none => none
def ev (P : Program) (X : ExtFn) (G : GFn) : Nat → Nat → Code → St → Option (Ex × St)
  | 0, _, _, _ => none
  | k + 1, N, c, st => match c with
    | .skip => some (.normal, st)
    | .label _ => some (.normal, st)
    | .ret => some (.ret, st)
    | .exit id => some (.exit id, st)
    | .seq a b => match ev P X G k N a st with
      | some (.normal, st') => ev P X G k N b st'
      | r => r
    | .cond c a b => match look st.tmps c with
      | .val (.bool t) => bif t then ev P X G k N a st else ev P X G k N b st
      | _ => none
    | .block id c => match ev P X G k N c st with
      | some (.exit i, st') => bif Nat.beq i id then some (.normal, st') else some (.exit i, st')
      | r => r
    | .loop c => match ev P X G k N c st with
      | some (.normal, st') => ev P X G k N (.loop c) st'
      | r => r
    | .region _ ops draw => bif draw then
        match evDraw P X (callWith P G (ev P X G k)) ops N st with
        | some st' => some (.normal, st')
        | none => none
      else match evOps P X (callWith P G (ev P X G k)) ops N ops.toList st with
        | some st' => some (.normal, st')
        | none => none
    | _ => none
def GivenSound (P : Program) (I : World → Prop) (G : GFn) : Prop :=
  (∀ f g, G.v f = some g → ∀ args t v, g args = some t → t.val = some v → ∀ w, I w → Calls P f args.toArray w (fun e w' => e = .returned v ∧ Below w.heap.size w w')) ∧
  (∀ f g, G.s f = some g → ∀ args mem t v, g args mem = some t → t.val = some v → (∀ x ∈ args, x.ok mem) → v.ok mem ∧ ∀ w0 m w, I w0 → MR w0 m mem w → Calls P f (args.map (SV.den m)).toArray w (fun e w' => e = .returned (v.den m) ∧ Below w.heap.size w w'))
section
variable {P : Program} {X : ExtFn} {G : GFn} {I : World → Prop} {w0 : World}
def EvSound (P : Program) (X : ExtFn) (G : GFn) (I : World → Prop) (k : Nat) : Prop :=
  ∀ N c st ex st', ev P X G k N c st = some (ex, st') → ∀ w0 m a w (Q : Exit → Act → World → Prop), I w0 → SR w0 N m st a w →
    (∀ m' a' w', Later st m st' m' → SR w0 N m' st' a' w' → Q ex.out a' w') → c.wp P Q a w
theorem res_one {N : Nat} {m : Nat → Nat} {st : St} {a : Act} {w : World} (hr : SR w0 N m st a w) {r : ResultVar} {v : SV} (h : resOne P st r = some v) :
    ((match r with
    | .tmp t => pure (a.tmps.getD t undef)
    | .cell x t => do loadVar t (← asAddr (a.tmps.getD x undef)) : Sem Value)).run P w = .ok (v.den m) w ∧ v.ok st.mem := by
  cases r with
  | tmp t =>
    simp only [resOne] at h
    cases hkn : (st.tmps t).known with
    | false => rw [hkn] at h; cases h
    | true =>
      rw [hkn] at h
      simp only [cond_true, Option.some.injEq] at h
      subst h
      refine ⟨?_, hr.ar.ok t⟩
      simp only [Sem.run_pure, hr.ar.tm t hkn]
  | cell x t =>
    simp only [resOne] at h
    split at h
    · rename_i b off hx
      split at h
      · rename_i k hk
        obtain ⟨_, h2, h3⟩ := hr.mr.blk b k hk
        obtain ⟨hl, hok⟩ := load_sound (P := P) h h2 h3
        refine ⟨?_, hok⟩
        have h4 : a.tmps.getD x undef = .pointer (some ⟨m b, off, none⟩) := by rw [hr.ar.tm x (known_of hx rfl), hx, den_ptr]
        simp only [Instr.loadAt, Instr.sureAddr, Sem.run_bind, Sem.run_pure, Result.andThen_ok] at hl
        simp only [h4, asAddr, Sem.run_bind, Sem.run_pure, Result.andThen_ok, hl]
      · cases h
    · cases h
theorem res_all {N : Nat} {m : Nat → Nat} {st : St} {a : Act} {w : World} (hr : SR w0 N m st a w) : ∀ (l : List ResultVar) (vs : List SV), resAll P st l = some vs →
    (l.mapM (fun
      | .tmp t => pure (a.tmps.getD t undef)
      | .cell x t => do loadVar t (← asAddr (a.tmps.getD x undef)) : ResultVar → Sem Value)).run P w = .ok (vs.map (SV.den m)) w ∧ ∀ v ∈ vs, v.ok st.mem
  | [], vs, h => by
    simp only [resAll, Option.some.injEq] at h
    subst h
    exact ⟨rfl, fun v hv => (by cases hv)⟩
  | r :: l, vs, h => by
    unfold resAll at h
    split at h
    · rename_i v hv
      split at h
      · rename_i us hus
        simp only [Option.some.injEq] at h
        subst h
        obtain ⟨h1, h2⟩ := res_one (P := P) hr hv
        obtain ⟨h3, h4⟩ := res_all hr l us hus
        refine ⟨?_, fun x hx => ?_⟩
        · rw [List.mapM_cons]
          rw [Sem.run_bind]
          cases r with
          | tmp t =>
            simp only at h1 ⊢
            rw [h1]
            simp only [Result.andThen_ok, Sem.run_bind, h3, Sem.run_pure, List.map_cons]
          | cell x t =>
            simp only at h1 ⊢
            rw [h1]
            simp only [Result.andThen_ok, Sem.run_bind, h3, Sem.run_pure, List.map_cons]
        · rcases List.mem_cons.1 hx with rfl | hx
          · exact h2
          · exact h4 x hx
      · cases h
    · cases h
theorem res_sound {N : Nat} {m : Nat → Nat} {fn : Func} {st : St} {a : Act} {w : World} (hr : SR w0 N m st a w) {v : SV} (h : resS P fn st = some v) : (results fn a.tmps).run P w = .ok (v.den m) w ∧ v.ok st.mem := by
  unfold resS at h
  have hres : ∀ vs us, resAll P st fn.results.toList = some vs → vs.map (SV.den m) = us → (results fn a.tmps).run P w = .ok (if h : us.toArray.size = 1 then us.toArray[0] else .tuple us.toArray) w := fun vs us hvs hus => by
    have h1 := (res_all (P := P) hr _ _ hvs).1
    rw [hus] at h1
    unfold results
    rw [Sem.run_bind, Array.mapM_eq_mapM_toList]
    rw [Sem.run_map]
    have h2 := h1
    generalize hgen : (List.mapM _ fn.results.toList : Sem (List Value)) = s
    have h3 : s.run P w = .ok us w := by rw [← hgen, ← h2]; rfl
    rw [h3]
    rfl
  split at h
  · rename_i hvs
    simp only [Option.some.injEq] at h
    subst h
    refine ⟨?_, ok_val _ _⟩
    rw [hres _ _ hvs rfl]
    rfl
  · rename_i u l hvs
    have hok := (res_all (P := P) hr _ _ hvs).2
    split at h
    · simp only [Option.some.injEq] at h
      subst h
      refine ⟨?_, hok _ (by simp)⟩
      rw [hres _ _ hvs rfl]
      rfl
    · split at h
      · rename_i us hus
        simp only [Option.some.injEq] at h
        subst h
        refine ⟨?_, ok_val _ _⟩
        rw [hres _ _ hvs (vals_den m _ hus)]
        have hl : us.length ≠ 1 := by
          have := congrArg List.length (vals_den m _ hus)
          simp at this
          omega
        rw [dif_neg (by simpa using hl)]
        rfl
      · cases h
  · cases h
theorem body_sound {k : Nat} (hk : EvSound P X G I k) {f : FuncId} {fn : Func} {c : Code} (hfn : P.funcs[f]? = some fn) (hc : fn.body = some c) {args : List SV} {mem mem' : Mem} {id id' : Nat} {v : SV}
    (h : bodyWith P (ev P X G k) fn c args mem id = some (v, mem', id')) (hfr : ∀ b, id ≤ b → mem b = none) {w0 w : World} {m : Nat → Nat} (hI : I w0) (hmr : MR w0 m mem w) (hok : ∀ x ∈ args, x.ok mem) :
    Calls P f (args.map (SV.den m)).toArray w (CallPost w0 m mem id v mem' id') := by
  have key : ∀ {st : St} {w2 : World} {a2 : Act} {m2 : Nat → Nat}, Later ⟨argS args, mem, id⟩ m st m2 → SR w0 (args.length + (fn.ntmps - args.length)) m2 st a2 w2 → ∀ {u : SV}, resS P fn st = some u → (v, mem', id') = (u, st.mem, st.next) →
      a2.defers = [] ∧ ∃ x, (results fn a2.tmps).run P w2 = .ok x w2 ∧ CallPost w0 m mem id v mem' id' (.returned x) w2 := fun {st w2 a2 m2} hl hr {u} hu he => by
    simp only [Prod.mk.injEq] at he
    obtain ⟨rfl, rfl, rfl⟩ := he
    obtain ⟨h1, h2⟩ := res_sound (P := P) hr hu
    exact ⟨hr.ar.defers, _, h1, m2, hl.agree, hr.mr, h2, hl.grows, hr.fresh, hl.le, rfl⟩
  refine calls_of_wp hfn hc ?_
  unfold bodyWith at h
  split at h
  · rename_i ex st hev
    refine hk _ _ _ _ _ hev w0 m _ w _ hI ⟨hmr, ⟨by simp, rfl, fun t _ => ?_, fun t => ?_⟩, hfr⟩ ?_
    · simp only [argS]
      by_cases ht : t < args.length
      · simp [ht, List.getD_eq_getElem?_getD, Array.getElem?_append]
      · simp only [List.getD_eq_getElem?_getD, List.getElem?_eq_none (Nat.le_of_not_lt ht), Option.getD_none, SV.den, Array.getD_eq_getD_getElem?, Array.getElem?_append, List.size_toArray, List.length_map, ht, if_false, Array.getElem?_replicate]
        split <;> rfl
    · simp only [argS]
      rw [List.getD_eq_getElem?_getD]
      cases hq : args[t]? with
      | none => exact ok_val _ _
      | some x => exact hok x (List.mem_of_getElem? hq)
    · intro m2 a2 w2 hl hr
      split at h
      · cases h
      · split at h
        · rename_i u hu
          simp only [Option.some.injEq] at h
          exact key hl hr hu h.symm
        · cases h
      · split at h
        · rename_i u hu
          simp only [Option.some.injEq] at h
          exact key hl hr hu h.symm
        · cases h
  · cases h
theorem call_sound {k : Nat} (hs : Stable I) (hG : GivenSound P I G) (hk : EvSound P X G I k) : CallSound P I (callWith P G (ev P X G k)) := by
  intro f args mem id v mem' id' h hfr w0 m w hI hmr hok
  unfold callWith at h
  split at h
  · rename_i g hg
    split at h
    · rename_i vs hvs
      split at h
      · rename_i u hu
        split at h
        · rename_i x hx
          simp only [Option.some.injEq, Prod.mk.injEq] at h
          obtain ⟨rfl, rfl, rfl⟩ := h
          rw [vals_den m _ hvs]
          refine Calls.mono (hG.1 f g hg vs u x hu hx w (hs _ _ hI hmr.below)) ?_
          rintro e w' ⟨rfl, hb⟩
          exact ⟨m, Agree.refl _ _, hmr.step hb, ok_val _ _, Grows.refl _, hfr, Nat.le_refl _, (den_val _ _).symm ▸ rfl⟩
        · cases h
      · cases h
    · cases h
  · split at h
    · rename_i g hg
      split at h
      · rename_i u hu
        split at h
        · rename_i x hx
          simp only [Option.some.injEq, Prod.mk.injEq] at h
          obtain ⟨rfl, rfl, rfl⟩ := h
          obtain ⟨hxo, hcl⟩ := hG.2 f g hg args mem u x hu hx hok
          refine Calls.mono (hcl w0 m w hI hmr) ?_
          rintro e w' ⟨rfl, hb⟩
          exact ⟨m, Agree.refl _ _, hmr.step hb, hxo, Grows.refl _, hfr, Nat.le_refl _, rfl⟩
        · cases h
      · cases h
    · split at h
      · rename_i fn hfn
        split at h
        · rename_i c hc
          exact body_sound hk hfn hc h hfr hI hmr hok
        · cases h
      · cases h
theorem ev_sound (hmix : P.follows .mixedOrders = true) (hX : ExtSound P X) (hs : Stable I) (hXO : ∀ w, I w → XOk w) (hG : GivenSound P I G) : ∀ k, EvSound P X G I k ∧ ∀ N c st ex st', ev P X G k N (.loop c) st = some (ex, st') → ∀ w0 m a w (Q : Exit → Act → World → Prop), I w0 → SR w0 N m st a w →
    (∀ m' a' w', Later st m st' m' → SR w0 N m' st' a' w' → Q ex.out a' w') → Code.rounds P c Q k a w
  | 0 => ⟨fun _ _ _ _ _ h => (by cases h), fun _ _ _ _ _ h => (by cases h)⟩
  | k + 1 => by
    obtain ⟨ih, il⟩ := ev_sound hmix hX hs hXO hG k
    have hcall := call_sound hs hG ih
    have hloop : ∀ N c st ex st', ev P X G (k + 1) N (.loop c) st = some (ex, st') → ∀ w0 m a w (Q : Exit → Act → World → Prop), I w0 → SR w0 N m st a w →
        (∀ m' a' w', Later st m st' m' → SR w0 N m' st' a' w' → Q ex.out a' w') → Code.rounds P c Q (k + 1) a w := by
      intro N c st ex st' h w0 m a w Q hI hr hq
      simp only [ev] at h
      rw [rounds_succ]
      split at h
      · rename_i st1 h1
        refine ih _ _ _ _ _ h1 w0 m a w _ hI hr fun m1 a1 w1 hl1 hr1 => ?_
        exact il _ _ _ _ _ h w0 m1 a1 w1 Q hI hr1 fun m2 a2 w2 hl2 hr2 => hq m2 a2 w2 (hl1.trans hl2) hr2
      · rename_i hne
        refine ih _ _ _ _ _ h w0 m a w _ hI hr fun m1 a1 w1 hl1 hr1 => ?_
        have := hq m1 a1 w1 hl1 hr1
        cases ex with
        | normal => exact absurd h (fun h => hne _ h)
        | exit i => exact this
        | ret => exact this
    refine ⟨?_, hloop⟩
    intro N c st ex st' h w0 m a w Q hI hr hq
    cases c with
    | skip =>
      simp only [ev, Option.some.injEq, Prod.mk.injEq] at h
      obtain ⟨rfl, rfl⟩ := h
      exact wp_skip (hq m a w (Later.refl _ _) hr)
    | label l =>
      simp only [ev, Option.some.injEq, Prod.mk.injEq] at h
      obtain ⟨rfl, rfl⟩ := h
      exact wp_label (hq m a w (Later.refl _ _) hr)
    | ret =>
      simp only [ev, Option.some.injEq, Prod.mk.injEq] at h
      obtain ⟨rfl, rfl⟩ := h
      exact wp_ret (hq m a w (Later.refl _ _) hr)
    | exit id =>
      simp only [ev, Option.some.injEq, Prod.mk.injEq] at h
      obtain ⟨rfl, rfl⟩ := h
      exact wp_exit (hq m a w (Later.refl _ _) hr)
    | seq x y =>
      simp only [ev] at h
      refine wp_seq ?_
      split at h
      · rename_i st1 h1
        refine ih _ _ _ _ _ h1 w0 m a w _ hI hr fun m1 a1 w1 hl1 hr1 => ?_
        exact ih _ _ _ _ _ h w0 m1 a1 w1 Q hI hr1 fun m2 a2 w2 hl2 hr2 => hq m2 a2 w2 (hl1.trans hl2) hr2
      · rename_i hne
        refine ih _ _ _ _ _ h w0 m a w _ hI hr fun m1 a1 w1 hl1 hr1 => ?_
        have := hq m1 a1 w1 hl1 hr1
        cases ex with
        | normal => exact absurd h (fun h => hne _ h)
        | exit i => exact this
        | ret => exact this
    | cond x y z =>
      simp only [ev] at h
      split at h
      · rename_i t ht
        refine wp_cond (t := t) (by rw [hr.ar.eval x (known_of ht rfl), ht, den_val]) ?_
        cases t
        · exact ih _ _ _ _ _ h w0 m a w Q hI hr hq
        · exact ih _ _ _ _ _ h w0 m a w Q hI hr hq
      · cases h
    | block id x =>
      simp only [ev] at h
      refine wp_block ?_
      split at h
      · rename_i i st1 h1
        refine ih _ _ _ _ _ h1 w0 m a w _ hI hr fun m1 a1 w1 hl1 hr1 => ?_
        cases hb : Nat.beq i id with
        | true =>
          rw [hb] at h
          simp only [cond_true, Option.some.injEq, Prod.mk.injEq] at h
          obtain ⟨rfl, rfl⟩ := h
          simp only [Ex.out, Exit.inBlock, Nat.eq_of_beq_eq_true hb, if_true]
          exact hq m1 a1 w1 hl1 hr1
        | false =>
          rw [hb] at h
          simp only [cond_false, Option.some.injEq, Prod.mk.injEq] at h
          obtain ⟨rfl, rfl⟩ := h
          have : i ≠ id := Nat.ne_of_beq_eq_false hb
          simp only [Ex.out, Exit.inBlock, this, if_false]
          exact hq m1 a1 w1 hl1 hr1
      · rename_i hne
        refine ih _ _ _ _ _ h w0 m a w _ hI hr fun m1 a1 w1 hl1 hr1 => ?_
        have := hq m1 a1 w1 hl1 hr1
        cases ex with
        | normal => exact this
        | exit i => exact absurd h (fun h => hne _ _ h)
        | ret => exact this
    | loop x => exact wp_loop_rounds (k + 1) (hloop N x st ex st' h w0 m a w Q hI hr hq)
    | region id ops draw =>
      simp only [ev] at h
      cases draw with
      | true =>
        simp only [cond_true] at h
        split at h
        · rename_i st1 h1
          simp only [Option.some.injEq, Prod.mk.injEq] at h
          obtain ⟨rfl, rfl⟩ := h
          exact draw_sound hmix hX hI hs hXO hcall h1 hr hq
        · cases h
      | false =>
        simp only [cond_false] at h
        split at h
        · rename_i st1 h1
          simp only [Option.some.injEq, Prod.mk.injEq] at h
          obtain ⟨rfl, rfl⟩ := h
          exact wp_region_list (ops_sound hX hI hs hXO hcall _ _ _ m a w h1 hr hq)
        · cases h
    | rangeFunc f p x y => simp only [ev] at h; cases h
    | scope x => simp only [ev] at h; cases h
    | goto l => simp only [ev] at h; cases h
    | refuse why => simp only [ev] at h; cases h
theorem ev_given (hmix : P.follows .mixedOrders = true) (hX : ExtSound P X) (hs : Stable I) (hXO : ∀ w, I w → XOk w) (hG : GivenSound P I G) {k : Nat} {f : FuncId} {fn : Func} {c : Code} {args : List Value} {v : Value} {mem' : Mem} {id' : Nat}
    (hf : P.funcs[f]? = some fn) (hc : fn.body = some c) (h : bodyWith P (ev P X G k) fn c (args.map .val) (fun _ => none) 0 = some (.val v, mem', id')) (w : World) (hI : I w) :
    Calls P f args.toArray w (fun e w' => e = .returned v ∧ Below w.heap.size w w') := by
  have := body_sound (ev_sound hmix hX hs hXO hG k).1 hf hc h (fun _ _ => rfl) hI (MR.start w (fun _ => 0)) (fun x hx => by
    simp only [List.mem_map] at hx
    obtain ⟨y, _, rfl⟩ := hx
    exact ok_val _ _)
  rw [show (args.map SV.val).map (SV.den fun _ => 0) = args by rw [List.map_map, show (SV.den (fun _ => 0) ∘ SV.val) = _root_.id from funext fun x => den_val _ x]; exact List.map_id _] at this
  refine Calls.mono this ?_
  rintro e w' ⟨m', _, hr, _, _, _, _, rfl⟩
  exact ⟨rfl, hr.below⟩
end
end Go.Ev
namespace Go.Ev
variable [XEnv]
section
variable {R : Type}
def splitK (tmps : Nat → SV) (t : Nat) (κ : (Nat → SV) → Option R) : Option R :=
  match tmps t with
  | .val (.bool b) => bif b then κ (upd tmps t (.val (.bool true))) else κ (upd tmps t (.val (.bool false)))
  | _ => κ tmps
theorem upd_same {α : Type} (f : Nat → α) (t : Nat) (x : α) (h : f t = x) : upd f t x = f := by
  funext j
  by_cases e : j = t
  · subst e; rw [upd_self, h]
  · rw [upd_ne _ _ e]
theorem splitK_eq (tmps : Nat → SV) (t : Nat) (κ : (Nat → SV) → Option R) : splitK tmps t κ = κ tmps := by
  unfold splitK
  split
  · rename_i b h
    cases b
    · rw [upd_same _ _ _ h]; rfl
    · rw [upd_same _ _ _ h]; rfl
  · rfl
def splitG (ops : Array Oper) (tmps : Nat → SV) (o : Oper) (κ : (Nat → SV) → Option R) : Option R :=
  match o.guard with
  | none => κ tmps
  | some (j, _) => match ops[j]? with
    | some oj => match oj.dst with
      | some t => splitK tmps t κ
      | none => κ tmps
    | none => κ tmps
theorem splitG_eq (ops : Array Oper) (tmps : Nat → SV) (o : Oper) (κ : (Nat → SV) → Option R) : splitG ops tmps o κ = κ tmps := by
  unfold splitG
  split
  · rfl
  · split
    · split
      · exact splitK_eq _ _ _
      · rfl
    · rfl
def splitX (tmps : Nat → SV) (x : Operand) (κ : (Nat → SV) → Option R) : Option R :=
  match x with
  | .tmp t => splitK tmps t κ
  | _ => κ tmps
theorem splitX_eq (tmps : Nat → SV) (x : Operand) (κ : (Nat → SV) → Option R) : splitX tmps x κ = κ tmps := by
  unfold splitX
  split
  · exact splitK_eq _ _ _
  · rfl
def splitP (tmps : Nat → SV) (o : Oper) (κ : (Nat → SV) → Option R) : Option R :=
  match o.op with
  | .pick c _ _ => splitX tmps c κ
  | _ => κ tmps
theorem splitP_eq (tmps : Nat → SV) (o : Oper) (κ : (Nat → SV) → Option R) : splitP tmps o κ = κ tmps := by
  unfold splitP
  split
  · exact splitX_eq _ _ _
  · rfl
def binVK (P : Program) (op : BinOp) (t : TypeId) (x y : Operand) (a b : Value) (κ : Value → Option R) : Option R :=
  bif isEq op && (isAggV a && isAggV b) then match cmpV P op t x y a b with
    | some v => κ v
    | none => none
  else match isF64 a, isF64 b with
    | some m, some n => bif isQuo op then (bif (Ieee.double.div m n).isSome then κ (.float .f64 ((Ieee.double.div m n).getD 0)) else none)
      else match pureRun P (do eqGuard op t x y a b; binOp op t a b) with
        | some v => κ v
        | none => none
    | _, _ => match pureRun P (do eqGuard op t x y a b; binOp op t a b) with
      | some v => κ v
      | none => none
theorem binVK_eq (P : Program) (op : BinOp) (t : TypeId) (x y : Operand) (a b : Value) (κ : Value → Option R) : binVK P op t x y a b κ = (binV P op t x y a b).bind κ := by
  unfold binVK binV
  cases (isEq op && (isAggV a && isAggV b)) with
  | true => simp only [cond_true]; cases cmpV P op t x y a b <;> rfl
  | false =>
    simp only [cond_false]
    have hpl : (match pureRun P (do eqGuard op t x y a b; binOp op t a b) with
        | some v => κ v
        | none => none) = (pureRun P (do eqGuard op t x y a b; binOp op t a b)).bind κ := by
      cases pureRun P (do eqGuard op t x y a b; binOp op t a b) <;> rfl
    cases isF64 a with
    | none => exact hpl
    | some m =>
      cases isF64 b with
      | none => exact hpl
      | some n =>
        simp only
        cases isQuo op with
        | false => exact hpl
        | true =>
          simp only [cond_true, quoV]
          cases (Ieee.double.div m n).isSome <;> rfl
abbrev CallK (R : Type) := FuncId → List SV → Mem → Nat → (SV → Mem → Nat → Option R) → Option R
def inCallK (call : CallK R) (f : FuncId) (args : List SV) (mem : Mem) (id : Nat) (κ : SV → Eff → Option R) : Option R :=
  bif args.all SV.known then
    bif args.all SV.free then call f args (fun _ => none) 0 (fun v _ _ => match v with
      | .val u => κ (.val u) .non
      | _ => call f args mem id (fun v m n => κ v (.all m n)))
    else call f args mem id (fun v m n => κ v (.all m n))
  else none
def doCallK (P : Program) (X : ExtFn) (call : CallK R) (f : FuncId) (args : List SV) (mem : Mem) (id : Nat) (κ : SV → Eff → Option R) : Option R :=
  match X f with
  | some g => match vals? args with
    | some vs => match g vs with
      | some v => κ (.val v) .non
      | none => none
    | none => none
  | none => bif enters P f then inCallK call f args mem id κ else none
def evGenK (P : Program) (call : CallK R) (ρ : Operand → SV) (mem : Mem) (id : Nat) (o : Oper) (κ : SV → Eff → Option R) : Option R :=
  bif o.op.operands.toList.all (fun x => (ρ x).isVal) && noSelect o.op then
    match pureRun P (execOp (fun x => (ρ x).un) o) with
    | some (.value v) => κ (.val v) .non
    | some .skip => κ (.val undef) .non
    | some (.enter f args) => inCallK call f (args.toList.map .val) mem id κ
    | _ => none
  else none
def idxAddrK (P : Program) (t : TypeId) (x i : SV) (κ : SV → Option R) : Option R :=
  match i with
  | .val (.int _ n) => match x with
    | .slc b off len _ => match pureRun P (underlying t) with
      | some (.slice elem) => match pureRun P (sizeOf elem) with
        | some size => bif decide (0 ≤ n) && decide (n < len) then κ (.ptr b (off + n.toNat * size)) else none
        | none => none
      | _ => none
    | .ptr b off => match pureRun P (underlying t) with
      | some (.array len elem) => match pureRun P (sizeOf elem) with
        | some size => bif decide (0 ≤ n) && decide (n < len) then κ (.ptr b (off + n.toNat * size)) else none
        | none => none
      | _ => none
    | .xs r => match pureRun P (underlying t) with
      | some (.slice elem) => match pureRun P (sizeOf elem) with
        | some size => bif Nat.beq size (XEnv.env r).sz then (bif decide (0 ≤ n) && decide (n < (XEnv.env r).n) then κ (.xp r n.toNat 0) else none) else none
        | none => none
      | _ => none
    | _ => none
  | _ => none
theorem bif_bind0 {α β : Type} (b : Bool) (x y : Option α) (f : α → Option β) : (bif b then x else y).bind f = bif b then x.bind f else y.bind f := by cases b <;> rfl
theorem idxAddrK_eq (P : Program) (t : TypeId) (x i : SV) (κ : SV → Option R) : idxAddrK P t x i κ = (idxAddr P t x i).bind κ := by
  unfold idxAddrK idxAddr
  cases i with
  | val q =>
    cases q with
    | int k n =>
      cases x with
      | slc b off len cap =>
        simp only
        cases pureRun P (underlying t) with
        | none => rfl
        | some d =>
          cases d <;> try rfl
          simp only
          cases pureRun P (sizeOf _) with
          | none => rfl
          | some sz => simp only [bif_bind0]; rfl
      | ptr b off =>
        simp only
        cases pureRun P (underlying t) with
        | none => rfl
        | some d =>
          cases d <;> try rfl
          simp only
          cases pureRun P (sizeOf _) with
          | none => rfl
          | some sz => simp only [bif_bind0]; rfl
      | xs r =>
        simp only
        cases pureRun P (underlying t) with
        | none => rfl
        | some d =>
          cases d <;> try rfl
          simp only
          cases pureRun P (sizeOf _) with
          | none => rfl
          | some sz => simp only [bif_bind0]; rfl
      | _ => rfl
    | _ => rfl
  | _ => rfl
def evOpK (P : Program) (X : ExtFn) (call : CallK R) (ρ : Operand → SV) (mem : Mem) (id : Nat) (o : Oper) (κ : SV → Eff → Option R) : Option R :=
  match o.op with
  | .move x => bif (ρ x).known then κ (ρ x) .non else none
  | .assign x => bif (ρ x).known then κ (ρ x) .non else none
  | .pick c a b => match ρ c with
    | .val (.bool t) => bif t then (bif (ρ a).known then κ (ρ a) .non else none) else (bif (ρ b).known then κ (ρ b) .non else none)
    | _ => none
  | .alloc t => match pureRun P (zeroValue t) with
    | some z => κ (.ptr id 0) (.new ⟨t, (SV.val z).cells⟩)
    | none => none
  | .box t x => bif (ρ x).known then κ (.ptr id 0) (.new ⟨t, (ρ x).cells⟩) else none
  | .load t x => match ρ x with
    | .xp r i off => match evLoad P t ⟨t, (XEnv.env r).g i⟩ off with
      | some v => κ v .non
      | none => none
    | .ptr b off => match mem b with
      | some k => match evLoad P t k off with
        | some v => κ v .non
        | none => none
      | none => none
    | _ => none
  | .store t x y => match ρ x with
    | .ptr b off => match mem b with
      | some k => match evStore P t k off (ρ y) with
        | some k' => κ (.val undef) (.put b k')
        | none => none
      | none => none
    | _ => none
  | .fieldAddr s x i => match ρ x with
    | .ptr b off => match fieldOff P s i with
      | some d => κ (.ptr b (off + d)) .non
      | none => none
    | .xp r j off => match fieldOff P s i with
      | some d => κ (.xp r j (off + d)) .non
      | none => none
    | _ => none
  | .nilCheck x => match ρ x with
    | .ptr b off => κ (.ptr b off) .non
    | .xp r j off => κ (.xp r j off) .non
    | .fn f l => κ (.fn f l) .non
    | _ => evGenK P call ρ mem id o κ
  | .makeFunc fn first captured => match fn with
    | .func f => bif first.isEmpty && (captured.toList.all (fun x => (ρ x).known) && !(captured.toList.all (fun x => (ρ x).isVal))) then κ (.fn f (captured.toList.map ρ)) .non else evGenK P call ρ mem id o κ
    | _ => evGenK P call ρ mem id o κ
  | .call c => match c.callee with
    | .value (.func f) => doCallK P X call f (c.args.toList.map ρ) mem id κ
    | .value (.tmp t) => match asFn (ρ (.tmp t)) with
      | some p => doCallK P X call p.1 (c.args.toList.map ρ ++ p.2) mem id κ
      | none => evGenK P call ρ mem id o κ
    | .builtin b => match lenOf P b c.argTypes (c.args.toList.map ρ) with
      | some v => κ v .non
      | none => evGenK P call ρ mem id o κ
    | _ => evGenK P call ρ mem id o κ
  | .binOp op t x y _ => match ρ x with
    | .val a => match ρ y with
      | .val b => binVK P op t x y a b fun v => κ (.val v) .non
      | _ => none
    | _ => none
  | .build t ps => bif (partsS ρ ps).all (fun p => p.2.isVal) then evGenK P call ρ mem id o κ else bif (partsS ρ ps).all (fun p => p.2.known) then (match buildArr P t (partsS ρ ps) with
    | some v => κ v .non
    | none => none) else none
  | .buildSlice t n ps => bif (partsS ρ ps).all (fun p => p.2.known) then (match buildRow P t n (partsS ρ ps) with
    | some k => κ (.slc id 0 n n) (.new k)
    | none => none) else none
  | .indexAddr t x i => idxAddrK P t (ρ x) (ρ i) fun v => κ v .non
  | _ => evGenK P call ρ mem id o κ
def evOpsK (P : Program) (X : ExtFn) (call : CallK R) (ops : Array Oper) (N : Nat) : List Oper → St → (St → Option R) → Option R
  | [], st, κ => κ st
  | o :: r, st, κ => bif dstOk N o.dst && knownG ops st.tmps o then
      splitG ops st.tmps o fun tm => bif wantS ops tm o then
        splitP tm o fun tm => evOpK P X call (look tm) st.mem st.next o fun v e => evOpsK P X call ops N r ⟨putS tm o.dst v, e.mem st.mem st.next, e.next st.next⟩ κ
      else evOpsK P X call ops N r ⟨putS tm o.dst (.val undef), st.mem, st.next⟩ κ
    else none
def evOneK (P : Program) (X : ExtFn) (call : CallK R) (ops : Array Oper) (N : Nat) (tmps : Nat → SV) (mem : Mem) (id : Nat) (o : Oper) (κ : (Nat → SV) → Evt → Option R) : Option R :=
  bif dstOk N o.dst && knownG ops tmps o then
    splitG ops tmps o fun tm => bif wantS ops tm o then
      splitP tm o fun tm => evOpK P X call (look tm) mem id o fun v e => match effEvt mem id o.dst (touchS tm o) v e with
        | some t => κ tm t
        | none => none
    else κ tm ⟨o.dst, .val undef, none, []⟩
  else none
def evSeqK (P : Program) (X : ExtFn) (call : CallK R) (ops : Array Oper) (N : Nat) : List Oper → Nat → (Nat → SV) → Mem → List Evt → (List Evt → (Nat → SV) → Mem → Option R) → Option R
  | [], _, tmps, mem, acc, κ => κ acc tmps mem
  | o :: r, id, tmps, mem, acc, κ => evOneK P X call ops N tmps mem id o fun tm e => evSeqK P X call ops N r (id + 1) (putS tm e.dst e.v) (e.mem mem) (acc ++ [e]) κ
def evDrawK (P : Program) (X : ExtFn) (call : CallK R) (ops : Array Oper) (N : Nat) (st : St) (κ : St → Option R) : Option R :=
  evSeqK P X call ops N ops.toList st.next st.tmps st.mem [] fun es tmps mem =>
    bif depsOk ops.toList 0 && tmpsOk ops (cloL ops.toList []) && memOk es (cloL ops.toList []) && wrOk es (st.next + ops.size) then κ ⟨tmps, mem, st.next + ops.size⟩ else none
def bodyWithK (P : Program) (evk : Nat → Code → St → (Ex → St → Option R) → Option R) (fn : Func) (c : Code) (args : List SV) (mem : Mem) (id : Nat) (κ : SV → Mem → Nat → Option R) : Option R :=
  evk (args.length + (fn.ntmps - args.length)) c ⟨argS args, mem, id⟩ fun ex st => match ex with
    | .exit _ => none
    | .normal => match resS P fn st with
      | some v => κ v st.mem st.next
      | none => none
    | .ret => match resS P fn st with
      | some v => κ v st.mem st.next
      | none => none
def callWithK (P : Program) (G : GFn) (evk : Nat → Code → St → (Ex → St → Option R) → Option R) (f : FuncId) (args : List SV) (mem : Mem) (id : Nat) (κ : SV → Mem → Nat → Option R) : Option R :=
  match G.v f with
  | some g => match vals? args with
    | some vs => match g vs with
      | some v => v.run fun v => κ (.val v) mem id
      | none => none
    | none => none
  | none => match G.s f with
    | some g => match g args mem with
        | some v => v.run fun v => κ v mem id
        | none => none
    | none => match P.funcs[f]? with
      | some fn => match fn.body with
        | some c => bodyWithK P evk fn c args mem id κ
        | none => none
      | none => none
def evK (P : Program) (X : ExtFn) (G : GFn) : Nat → Nat → Code → St → (Ex → St → Option R) → Option R
  | 0, _, _, _, _ => none
  | k + 1, N, c, st, κ => match c with
    | .skip => κ .normal st
    | .label _ => κ .normal st
    | .ret => κ .ret st
    | .exit id => κ (.exit id) st
    | .seq a b => evK P X G k N a st fun ex st' => match ex with
      | .normal => evK P X G k N b st' κ
      | .exit i => κ (.exit i) st'
      | .ret => κ .ret st'
    | .cond c a b => splitX st.tmps c fun tm => match look tm c with
      | .val (.bool t) => bif t then evK P X G k N a ⟨tm, st.mem, st.next⟩ κ else evK P X G k N b ⟨tm, st.mem, st.next⟩ κ
      | _ => none
    | .block id c => evK P X G k N c st fun ex st' => match ex with
      | .normal => κ .normal st'
      | .exit i => bif Nat.beq i id then κ .normal st' else κ (.exit i) st'
      | .ret => κ .ret st'
    | .loop c => evK P X G k N c st fun ex st' => match ex with
      | .normal => evK P X G k N (.loop c) st' κ
      | .exit i => κ (.exit i) st'
      | .ret => κ .ret st'
    | .region _ ops draw => bif draw then evDrawK P X (callWithK P G (evK P X G k)) ops N st (κ .normal)
      else evOpsK P X (callWithK P G (evK P X G k)) ops N ops.toList st (κ .normal)
    | _ => none
def CallEq (call : CallFn) (callK : CallK R) : Prop := ∀ f args mem id κ, callK f args mem id κ = (call f args mem id).bind fun p => κ p.1 p.2.1 p.2.2
variable {P : Program} {X : ExtFn} {G : GFn} {call : CallFn} {callK : CallK R}
theorem bif_bind {α β : Type} (b : Bool) (x y : Option α) (f : α → Option β) : (bif b then x else y).bind f = bif b then x.bind f else y.bind f := by cases b <;> rfl
theorem inCallK_eq (h : CallEq call callK) (f : FuncId) (args : List SV) (mem : Mem) (id : Nat) (κ : SV → Eff → Option R) : inCallK callK f args mem id κ = (inCall call f args mem id).bind fun p => κ p.1 p.2 := by
  unfold inCallK inCall
  rw [bif_bind, bif_bind, h, h]
  have hs : ((match call f args mem id with
      | some (v, mem', id') => some (v, Eff.all mem' id')
      | none => none).bind fun p => κ p.1 p.2) = (call f args mem id).bind fun p => κ p.1 (.all p.2.1 p.2.2) := by
    cases call f args mem id with
    | none => rfl
    | some p => rfl
  congr 2
  · cases call f args (fun _ => none) 0 with
    | none => rfl
    | some p =>
      obtain ⟨v, m, n⟩ := p
      cases v <;> first | rfl | exact hs.symm
  · cases call f args mem id with
    | none => rfl
    | some p => rfl
theorem doCallK_eq (h : CallEq call callK) (f : FuncId) (args : List SV) (mem : Mem) (id : Nat) (κ : SV → Eff → Option R) : doCallK P X callK f args mem id κ = (doCall P X call f args mem id).bind fun p => κ p.1 p.2 := by
  unfold doCallK doCall
  cases X f with
  | some g =>
    simp only
    cases vals? args with
    | none => rfl
    | some vs =>
      simp only
      cases g vs <;> rfl
  | none =>
    simp only
    rw [bif_bind, inCallK_eq h]
    rfl
theorem evGenK_eq (h : CallEq call callK) (ρ : Operand → SV) (mem : Mem) (id : Nat) (o : Oper) (κ : SV → Eff → Option R) : evGenK P callK ρ mem id o κ = (evGen P call ρ mem id o).bind fun p => κ p.1 p.2 := by
  unfold evGenK evGen
  rw [bif_bind]
  congr 1
  cases pureRun P (execOp (fun x => (ρ x).un) o) with
  | none => rfl
  | some n =>
    cases n <;> first
      | rfl
      | exact inCallK_eq h _ _ _ _ _
theorem evOpK_eq (h : CallEq call callK) (ρ : Operand → SV) (mem : Mem) (id : Nat) (o : Oper) (κ : SV → Eff → Option R) : evOpK P X callK ρ mem id o κ = (evOp P X call ρ mem id o).bind fun p => κ p.1 p.2 := by
  obtain ⟨dst, op, type, pos, after, guard⟩ := o
  have hg := fun o => evGenK_eq (P := P) h ρ mem id o κ
  have hif : ∀ (b : Bool) (x : SV) (e : Eff), (bif b then κ x e else none) = (bif b then some (x, e) else none).bind fun p => κ p.1 p.2 := fun b x e => by cases b <;> rfl
  cases op
  case move x => exact hif _ _ _
  case assign x => exact hif _ _ _
  case pick c x y =>
    simp only [evOpK, evOp]
    cases ρ c with
    | val v =>
      cases v <;> first
        | rfl
        | (simp only; rw [bif_bind, hif, hif])
    | _ => rfl
  case alloc t =>
    simp only [evOpK, evOp]
    cases pureRun P (zeroValue t) <;> rfl
  case box t x => exact hif _ _ _
  case load t x =>
    simp only [evOpK, evOp]
    cases ρ x with
    | ptr b off =>
      simp only
      cases mem b with
      | none => rfl
      | some k =>
        simp only
        cases evLoad P t k off <;> rfl
    | xp r i off =>
      simp only
      cases evLoad P t ⟨t, (XEnv.env r).g i⟩ off <;> rfl
    | _ => rfl
  case store t x y =>
    simp only [evOpK, evOp]
    cases ρ x with
    | ptr b off =>
      simp only
      cases mem b with
      | none => rfl
      | some k =>
        simp only
        cases evStore P t k off (ρ y) <;> rfl
    | _ => rfl
  case fieldAddr s x i =>
    simp only [evOpK, evOp]
    cases ρ x with
    | ptr b off =>
      simp only
      cases fieldOff P s i <;> rfl
    | xp r j off =>
      simp only
      cases fieldOff P s i <;> rfl
    | _ => rfl
  case nilCheck x =>
    simp only [evOpK, evOp]
    cases ρ x with
    | ptr b off => rfl
    | xp r j off => rfl
    | fn f l => rfl
    | _ => exact hg _
  case makeFunc fn first captured =>
    simp only [evOpK, evOp]
    cases fn with
    | func f =>
      simp only
      rw [bif_bind, hg]
      rfl
    | _ => exact hg _
  case call c =>
    simp only [evOpK, evOp]
    obtain ⟨cal, as_, ts⟩ := c
    cases cal with
    | value f =>
      cases f with
      | func g => exact doCallK_eq h _ _ _ _ _
      | tmp tt =>
        simp only
        cases asFn (ρ (.tmp tt)) with
        | some p => exact doCallK_eq h _ _ _ _ _
        | none => exact hg _
      | _ => exact hg _
    | builtin b =>
      simp only
      cases lenOf P b ts (as_.toList.map ρ) with
      | some v => rfl
      | none => exact hg _
    | invoke r n => exact hg _
  case build t ps =>
    simp only [evOpK, evOp]
    rw [bif_bind, hg, bif_bind]
    cases buildArr P t (partsS ρ ps) <;> rfl
  case buildSlice t n ps =>
    simp only [evOpK, evOp]
    rw [bif_bind]
    cases buildRow P t n (partsS ρ ps) <;> rfl
  case indexAddr t x i =>
    simp only [evOpK, evOp]
    rw [idxAddrK_eq]
    cases idxAddr P t (ρ x) (ρ i) <;> rfl
  case binOp bop t x y yt =>
    simp only [evOpK, evOp]
    cases ρ x with
    | val p =>
      cases ρ y with
      | val q =>
        simp only
        rw [binVK_eq]
        cases binV P bop t x y p q <;> rfl
      | _ => rfl
    | _ => rfl
  all_goals (simp only [evOpK, evOp]; exact hg _)
theorem evOpsK_eq (h : CallEq call callK) {ops : Array Oper} {N : Nat} : ∀ (l : List Oper) (st : St) (κ : St → Option R), evOpsK P X callK ops N l st κ = (evOps P X call ops N l st).bind κ
  | [], _, _ => rfl
  | o :: r, st, κ => by
    unfold evOpsK evOps
    rw [bif_bind, bif_bind, splitG_eq, splitP_eq, evOpK_eq h, evOpsK_eq h r]
    congr 2
    cases evOp P X call (look st.tmps) st.mem st.next o with
    | none => rfl
    | some p => exact evOpsK_eq h r _ κ
theorem evOneK_eq (h : CallEq call callK) {ops : Array Oper} {N : Nat} (tmps : Nat → SV) (mem : Mem) (id : Nat) (o : Oper) (κ : (Nat → SV) → Evt → Option R) : evOneK P X callK ops N tmps mem id o κ = (evOne P X call ops N tmps mem id o).bind (κ tmps) := by
  unfold evOneK evOne
  rw [bif_bind, bif_bind, splitG_eq, splitP_eq, evOpK_eq h]
  congr 2
  cases evOp P X call (look tmps) mem id o with
  | none => rfl
  | some p =>
    simp only [Option.bind_some]
    cases effEvt mem id o.dst (touchS tmps o) p.1 p.2 <;> rfl
theorem evSeqK_eq (h : CallEq call callK) {ops : Array Oper} {N : Nat} : ∀ (l : List Oper) (id : Nat) (tmps : Nat → SV) (mem : Mem) (acc : List Evt) (κ : List Evt → (Nat → SV) → Mem → Option R),
    evSeqK P X callK ops N l id tmps mem acc κ = (evSeq P X call ops N l id tmps mem acc).bind fun p => κ p.1 p.2.1 p.2.2
  | [], _, _, _, _, _ => rfl
  | o :: r, id, tmps, mem, acc, κ => by
    unfold evSeqK evSeq
    rw [evOneK_eq h]
    cases evOne P X call ops N tmps mem id o with
    | none => rfl
    | some e => exact evSeqK_eq h r _ _ _ _ κ
theorem evDrawK_eq (h : CallEq call callK) {ops : Array Oper} {N : Nat} (st : St) (κ : St → Option R) : evDrawK P X callK ops N st κ = (evDraw P X call ops N st).bind κ := by
  unfold evDrawK evDraw
  rw [evSeqK_eq h]
  cases evSeq P X call ops N ops.toList st.next st.tmps st.mem [] with
  | none => rfl
  | some p =>
    simp only [Option.bind_some]
    rw [bif_bind]
    rfl
theorem bodyWithK_eq {evk : Nat → Code → St → Option (Ex × St)} {evkK : Nat → Code → St → (Ex → St → Option R) → Option R} (h : ∀ N c st κ, evkK N c st κ = (evk N c st).bind fun p => κ p.1 p.2) (fn : Func) (c : Code) (args : List SV) (mem : Mem) (id : Nat) (κ : SV → Mem → Nat → Option R) :
    bodyWithK P evkK fn c args mem id κ = (bodyWith P evk fn c args mem id).bind fun p => κ p.1 p.2.1 p.2.2 := by
  unfold bodyWithK bodyWith
  rw [h]
  cases evk (args.length + (fn.ntmps - args.length)) c ⟨argS args, mem, id⟩ with
  | none => rfl
  | some p =>
    obtain ⟨ex, st⟩ := p
    cases ex with
    | exit i => rfl
    | normal =>
      simp only [Option.bind_some]
      cases resS P fn st <;> rfl
    | ret =>
      simp only [Option.bind_some]
      cases resS P fn st <;> rfl
theorem callWithK_eq {evk : Nat → Code → St → Option (Ex × St)} {evkK : Nat → Code → St → (Ex → St → Option R) → Option R} (h : ∀ N c st κ, evkK N c st κ = (evk N c st).bind fun p => κ p.1 p.2) : CallEq (callWith P G evk) (callWithK P G evkK) := by
  intro f args mem id κ
  unfold callWithK callWith
  cases G.v f with
  | some g =>
    simp only
    cases vals? args with
    | none => rfl
    | some vs =>
      simp only
      cases g vs with
      | none => rfl
      | some t =>
        simp only
        rw [DT.run_eq]
        cases t.val <;> rfl
  | none =>
    simp only
    cases G.s f with
    | some g =>
      simp only
      cases g args mem with
      | none => rfl
      | some t =>
        simp only
        rw [DT.run_eq]
        cases t.val <;> rfl
    | none =>
      simp only
      cases P.funcs[f]? with
      | none => rfl
      | some fn =>
        simp only
        cases fn.body with
        | none => rfl
        | some c => exact bodyWithK_eq h _ _ _ _ _ _
theorem evK_eq : ∀ (k N : Nat) (c : Code) (st : St) (κ : Ex → St → Option R), evK P X G k N c st κ = (ev P X G k N c st).bind fun p => κ p.1 p.2
  | 0, _, _, _, _ => rfl
  | k + 1, N, c, st, κ => by
    have ih := fun N c st κ => evK_eq k N c st κ
    have hc := callWithK_eq (P := P) (G := G) (evk := ev P X G k) (evkK := evK P X G k) ih
    cases c with
    | skip => rfl
    | label l => rfl
    | ret => rfl
    | exit id => rfl
    | seq a b =>
      simp only [evK, ev]
      rw [ih]
      cases ev P X G k N a st with
      | none => rfl
      | some p =>
        obtain ⟨ex, st'⟩ := p
        cases ex with
        | normal => exact ih _ _ _ _
        | exit i => rfl
        | ret => rfl
    | cond c a b =>
      simp only [evK, ev]
      rw [splitX_eq]
      cases look st.tmps c with
      | val v =>
        cases v <;> first
          | rfl
          | (simp only; rw [bif_bind, ih, ih])
      | _ => rfl
    | block id c =>
      simp only [evK, ev]
      rw [ih]
      cases ev P X G k N c st with
      | none => rfl
      | some p =>
        obtain ⟨ex, st'⟩ := p
        cases ex with
        | normal => rfl
        | exit i => simp only [Option.bind_some]; rw [bif_bind]; rfl
        | ret => rfl
    | loop c =>
      simp only [evK, ev]
      rw [ih]
      cases ev P X G k N c st with
      | none => rfl
      | some p =>
        obtain ⟨ex, st'⟩ := p
        cases ex with
        | normal => exact ih _ _ _ _
        | exit i => rfl
        | ret => rfl
    | region id ops draw =>
      simp only [evK, ev]
      rw [evDrawK_eq hc, evOpsK_eq hc]
      cases draw with
      | true =>
        simp only [cond_true]
        cases evDraw P X (callWith P G (ev P X G k)) ops N st <;> rfl
      | false =>
        simp only [cond_false]
        cases evOps P X (callWith P G (ev P X G k)) ops N ops.toList st <;> rfl
    | rangeFunc f p x y => rfl
    | scope x => rfl
    | goto l => rfl
    | refuse why => rfl
end
def asVal : SV → Mem → Nat → Option Value
  | .val v, _, _ => some v
  | _, _, _ => none
def evFn (P : Program) (X : ExtFn) (G : GFn) (k : Nat) (f : FuncId) (args : List Value) : Option Value :=
  match P.funcs[f]? with
  | some fn => match fn.body with
    | some c => bodyWithK P (evK P X G k) fn c (args.map .val) (fun _ => none) 0 asVal
    | none => none
  | none => none
theorem evFn_sound {P : Program} {X : ExtFn} {G : GFn} {I : World → Prop} (hmix : P.follows .mixedOrders = true) (hX : ExtSound P X) (hs : Stable I) (hXO : ∀ w, I w → XOk w) (hG : GivenSound P I G) {k : Nat} {f : FuncId} {args : List Value} {v : Value}
    (h : evFn P X G k f args = some v) (w : World) (hI : I w) : Calls P f args.toArray w (fun e w' => e = .returned v ∧ RowKit.Below w.heap.size w w') := by
  unfold evFn at h
  split at h
  · rename_i fn hf
    split at h
    · rename_i c hc
      rw [bodyWithK_eq (fun N c st κ => evK_eq k N c st κ)] at h
      cases hb : bodyWith P (ev P X G k) fn c (args.map .val) (fun _ => none) 0 with
      | none => rw [hb] at h; cases h
      | some p =>
        rw [hb] at h
        obtain ⟨u, m, n⟩ := p
        simp only [Option.bind_some] at h
        cases u with
        | val u =>
          simp only [asVal, Option.some.injEq] at h
          subst h
          exact ev_given hmix hX hs hXO hG hf hc hb w hI
        | _ => cases h
    · cases h
  · cases h
end Go.Ev
namespace Go.Ev
variable [XEnv]
abbrev Tab := List (Nat × (List Value → Option (DT Value)))
def tabV : Tab → FuncId → Option (List Value → Option (DT Value))
  | [], _ => none
  | p :: r, f => bif Nat.beq f p.1 then some p.2 else tabV r f
def tab (l : Tab) : GFn := ⟨tabV l, fun _ => none⟩
def Entry (P : Program) (I : World → Prop) (p : Nat × (List Value → Option (DT Value))) : Prop :=
  ∀ args t v, p.2 args = some t → t.val = some v → ∀ w, I w → Calls P p.1 args.toArray w (fun e w' => e = .returned v ∧ RowKit.Below w.heap.size w w')
theorem tabV_sound {P : Program} {I : World → Prop} : ∀ {l : Tab}, (∀ p ∈ l, Entry P I p) → ∀ f g, tabV l f = some g → Entry P I (f, g)
  | [], _ => fun f g h => (by cases h)
  | p :: r, hl => fun f g h => by
    unfold tabV at h
    cases hb : Nat.beq f p.1 with
    | true =>
      rw [hb] at h
      simp only [cond_true, Option.some.injEq] at h
      subst h
      have := Nat.eq_of_beq_eq_true hb
      subst this
      exact hl p List.mem_cons_self
    | false =>
      rw [hb] at h
      exact tabV_sound (fun q hq => hl q (List.mem_cons_of_mem _ hq)) f g h
theorem tab_sound {P : Program} {I : World → Prop} {l : Tab} (hl : ∀ p ∈ l, Entry P I p) : GivenSound P I (tab l) :=
  ⟨fun f g h => tabV_sound hl f g h, fun f g h => (by cases h)⟩
theorem entries_nil {P : Program} {I : World → Prop} : ∀ p ∈ ([] : Tab), Entry P I p := fun p hp => (by cases hp)
theorem entries_cons {P : Program} {I : World → Prop} {q : Nat × (List Value → Option (DT Value))} {l : Tab} (h : Entry P I q) (hl : ∀ p ∈ l, Entry P I p) : ∀ p ∈ q :: l, Entry P I p := fun p hp => by
  rcases List.mem_cons.1 hp with rfl | hp
  · exact h
  · exact hl p hp
theorem entry_of {P : Program} {X : ExtFn} {I : World → Prop} (hmix : P.follows .mixedOrders = true) (hX : ExtSound P X) (hs : Stable I) (hXO : ∀ w, I w → XOk w) {l : Tab} (hl : ∀ p ∈ l, Entry P I p) {q : Nat × (List Value → Option (DT Value))} (k : Nat)
    (h : ∀ args t, q.2 args = some t → evFn P X (tab l) k q.1 args = t.val) : Entry P I q :=
  fun args t v ht hv w hI => evFn_sound hmix hX hs hXO (tab_sound hl) ((h args t ht).trans hv) w hI
end Go.Ev
namespace Go.Ev
open Go.RowKit
variable [XEnv]
def pickT : List (Nat × SV) → Nat → SV
  | [], _ => .unk
  | p :: r, t => bif Nat.beq t p.1 then p.2 else pickT r t
def pickM : List (Nat × Blk) → Mem
  | [], _ => none
  | p :: r, b => bif Nat.beq b p.1 then some p.2 else pickM r b
structure Cut where
  ts : List (Nat × SV)
  bs : List (Nat × Blk)
def Cut.st (c : Cut) (next : Nat) : St := ⟨pickT c.ts, pickM c.bs, next⟩
mutual
def SV.inB (bs : List Nat) : SV → Bool
  | .val _ => true
  | .ptr b _ => bs.any (Nat.beq b)
  | .slc b _ _ _ => bs.any (Nat.beq b)
  | .arr l => SV.inBL bs l
  | .xs _ => true
  | .xp _ _ _ => true
  | .fn _ l => SV.inBL bs l
  | .unk => true
def SV.inBL (bs : List Nat) : List SV → Bool
  | [] => true
  | s :: r => s.inB bs && SV.inBL bs r
end
def cutT (st : St) : List Nat → List (Nat × SV)
  | [] => []
  | t :: r => (t, st.tmps t) :: cutT st r
def cutM (st : St) : List Nat → Option (List (Nat × Blk))
  | [] => some []
  | b :: r => match st.mem b with
    | some k => match cutM st r with
      | some l => some ((b, k) :: l)
      | none => none
    | none => none
def cutS (ts bs : List Nat) (next : Nat) (st : St) : Option Cut :=
  match cutM st bs with
  | some l => bif (cutT st ts).all (fun p => p.2.inB bs) && (l.all (fun p => p.2.cells.all (SV.inB bs)) && bs.all (fun b => Nat.blt b next)) then some ⟨cutT st ts, l⟩ else none
  | none => none
theorem pickT_cut (st : St) (t : Nat) : ∀ ts : List Nat, pickT (cutT st ts) t = SV.unk ∨ (t ∈ ts ∧ pickT (cutT st ts) t = st.tmps t)
  | [] => .inl rfl
  | x :: r => by
    simp only [cutT, pickT]
    cases h : Nat.beq t x with
    | true =>
      have := Nat.eq_of_beq_eq_true h
      subst this
      exact .inr ⟨List.mem_cons_self, rfl⟩
    | false =>
      rcases pickT_cut st t r with h | ⟨h1, h2⟩
      · exact .inl h
      · exact .inr ⟨List.mem_cons_of_mem _ h1, h2⟩
theorem pickM_cut {st : St} {b : Nat} : ∀ {bs : List Nat} {l : List (Nat × Blk)}, cutM st bs = some l → (b ∈ bs → (pickM l b).isSome = true) ∧ ∀ k, pickM l b = some k → b ∈ bs ∧ st.mem b = some k ∧ ∃ p ∈ l, p.2 = k
  | [], l, h => by
    simp only [cutM, Option.some.injEq] at h
    subst h
    exact ⟨fun h => (by cases h), fun k h => (by cases h)⟩
  | x :: r, l, h => by
    unfold cutM at h
    split at h
    · rename_i k hk
      split at h
      · rename_i l' hl
        simp only [Option.some.injEq] at h
        subst h
        obtain ⟨h1, h2⟩ := pickM_cut (b := b) hl
        simp only [pickM]
        cases hb : Nat.beq b x with
        | true =>
          have := Nat.eq_of_beq_eq_true hb
          subst this
          refine ⟨fun _ => rfl, fun k' hk' => ?_⟩
          simp only [cond_true, Option.some.injEq] at hk'
          subst hk'
          exact ⟨List.mem_cons_self, hk, _, List.mem_cons_self, rfl⟩
        | false =>
          refine ⟨fun hm => ?_, fun k' hk' => ?_⟩
          · rcases List.mem_cons.1 hm with rfl | hm
            · simp at hb
            · exact h1 hm
          · obtain ⟨h3, h4, p, h5, h6⟩ := h2 k' hk'
            exact ⟨List.mem_cons_of_mem _ h3, h4, p, List.mem_cons_of_mem _ h5, h6⟩
      · cases h
    · cases h
theorem any_beq {b : Nat} {bs : List Nat} (h : bs.any (Nat.beq b) = true) : b ∈ bs := by
  obtain ⟨x, hx, hb⟩ := List.any_eq_true.1 h
  have := Nat.eq_of_beq_eq_true hb
  subst this
  exact hx
mutual
theorem SV.inB_ok {mem mem' : Mem} {bs : List Nat} (hm : ∀ b ∈ bs, (mem' b).isSome = true) : ∀ {s : SV}, s.inB bs = true → s.ok mem → s.ok mem'
  | .val v, _, _ => ok_val _ _
  | .ptr b o, h, _ => ok_ptr.2 (hm b (any_beq (by simpa only [SV.inB] using h)))
  | .slc b o n c, h, _ => ok_slc.2 (hm b (any_beq (by simpa only [SV.inB] using h)))
  | .arr l, h, k => by
    simp only [SV.inB, SV.ok] at h k ⊢
    exact SV.inBL_ok hm h k
  | .xs r, _, _ => ok_xs
  | .xp r i o, _, k => ok_xp.2 (ok_xp.1 k)
  | .fn f l, h, k => by
    simp only [SV.inB, SV.ok] at h k ⊢
    exact SV.inBL_ok hm h k
  | .unk, _, _ => ok_unk
theorem SV.inBL_ok {mem mem' : Mem} {bs : List Nat} (hm : ∀ b ∈ bs, (mem' b).isSome = true) : ∀ {l : List SV}, SV.inBL bs l = true → SV.okL mem l → SV.okL mem' l
  | [], _, _ => by simp only [SV.okL]
  | s :: r, h, k => by
    simp only [SV.inBL, Bool.and_eq_true] at h
    simp only [SV.okL] at k ⊢
    exact ⟨SV.inB_ok hm h.1 k.1, SV.inBL_ok hm h.2 k.2⟩
end
theorem cutT_mem {st : St} {t : Nat} : ∀ {ts : List Nat}, t ∈ ts → (t, st.tmps t) ∈ cutT st ts
  | x :: r, h => by
    simp only [cutT]
    rcases List.mem_cons.1 h with rfl | h
    · exact List.mem_cons_self
    · exact List.mem_cons_of_mem _ (cutT_mem h)
section
variable {P : Program} {X : ExtFn} {G : GFn} {I : World → Prop} {w0 : World} {N : Nat} {m : Nat → Nat} {st : St} {a : Act} {w : World}
theorem cut_sound {ts bs : List Nat} {next : Nat} {c : Cut} (h : cutS ts bs next st = some c) (hr : SR w0 N m st a w) : SR w0 N m (c.st next) a w := by
  unfold cutS at h
  split at h
  · rename_i l hl
    cases hc : ((cutT st ts).all (fun p => p.2.inB bs) && (l.all (fun p => p.2.cells.all (SV.inB bs)) && bs.all (fun b => Nat.blt b next))) with
    | false => rw [hc] at h; cases h
    | true =>
      rw [hc] at h
      simp only [cond_true, Option.some.injEq] at h
      subst h
      simp only [Bool.and_eq_true] at hc
      obtain ⟨h1, h2, h3⟩ := hc
      have hm : ∀ b ∈ bs, (pickM l b).isSome = true := fun b hb => (pickM_cut hl).1 hb
      refine ⟨⟨hr.mr.below, fun b k hk => ?_, fun b b' k k' hk hk' he => ?_⟩, ⟨hr.ar.size, hr.ar.defers, fun t ht => ?_, fun t => ?_⟩, fun b hb => ?_⟩
      · obtain ⟨_, h4, p, h5, h6⟩ := (pickM_cut hl).2 k hk
        obtain ⟨g1, g2, g3⟩ := hr.mr.blk b k h4
        refine ⟨g1, g2, fun x hx => ?_⟩
        have := List.all_eq_true.1 h2 p h5
        rw [h6] at this
        exact SV.inB_ok hm (List.all_eq_true.1 this x hx) (g3 x hx)
      · exact hr.mr.inj b b' k k' ((pickM_cut hl).2 k hk).2.1 ((pickM_cut hl).2 k' hk').2.1 he
      · have ht : (pickT (cutT st ts) t).known = true := ht
        show a.tmps.getD t undef = (pickT (cutT st ts) t).den m
        rcases pickT_cut st t ts with h4 | ⟨_, h4⟩
        · rw [h4] at ht; cases ht
        · rw [h4] at ht ⊢
          exact hr.ar.tm t ht
      · show (pickT (cutT st ts) t).ok (pickM l)
        rcases pickT_cut st t ts with h4 | ⟨h5, h4⟩
        · rw [h4]; exact ok_unk
        · rw [h4]
          have := List.all_eq_true.1 h1 _ (cutT_mem (st := st) h5)
          exact SV.inB_ok hm this (hr.ar.ok t)
      · show pickM l b = none
        cases hq : pickM l b with
        | none => rfl
        | some k =>
          have h4 := ((pickM_cut hl).2 k hq).1
          have h5 := List.all_eq_true.1 h3 b h4
          have := Nat.le_of_ble_eq_true h5
          have hb : next ≤ b := hb
          omega
  · cases h
inductive Res where
  | ret (v : SV)
  | cut (ex : Ex) (c : Cut)
def grab (P : Program) (fn : Func) (ts bs : List Nat) (next : Nat) : Ex → St → Option Res
  | .ret, st => match resS P fn st with
    | some v => some (.ret v)
    | none => none
  | .normal, st => match cutS ts bs next st with
    | some c => some (.cut .normal c)
    | none => none
  | .exit i, st => match cutS ts bs next st with
    | some c => some (.cut (.exit i) c)
    | none => none
theorem start_sound {fn : Func} (args : List SV) (hok : ∀ x ∈ args, x.ok fun _ => none) (w : World) (m : Nat → Nat) :
    SR w (args.length + (fn.ntmps - args.length)) m ⟨argS args, fun _ => none, 0⟩ { tmps := (args.map (SV.den m)).toArray ++ Array.replicate (fn.ntmps - (args.map (SV.den m)).toArray.size) undef, defers := [] } w := by
  refine ⟨MR.start w m, ⟨by simp, rfl, fun t _ => ?_, fun t => ?_⟩, fun _ _ => rfl⟩
  · simp only [argS]
    by_cases ht : t < args.length
    · simp [ht, List.getD_eq_getElem?_getD, Array.getElem?_append]
    · simp only [List.getD_eq_getElem?_getD, List.getElem?_eq_none (Nat.le_of_not_lt ht), Option.getD_none, SV.den, Array.getD_eq_getD_getElem?, Array.getElem?_append, List.size_toArray, List.length_map, ht, if_false, Array.getElem?_replicate]
      split <;> rfl
  · simp only [argS]
    rw [List.getD_eq_getElem?_getD]
    cases hq : args[t]? with
    | none => exact ok_val _ _
    | some x => exact hok x (List.mem_of_getElem? hq)
end
def flat : Code → List Code
  | .seq a b => flat a ++ flat b
  | c => [c]
def seqL : List Code → Code
  | [] => .skip
  | x :: r => .seq x (seqL r)
section
variable {P : Program} {Q : Exit → Act → World → Prop} {a : Act} {w : World}
def wpL (P : Program) : List Code → (Exit → Act → World → Prop) → Act → World → Prop
  | [], Q, a, w => Q .normal a w
  | x :: r, Q, a, w => x.wp P (Exit.then (wpL P r Q) Q) a w
theorem wpL_app : ∀ (l r : List Code) {Q : Exit → Act → World → Prop} {a : Act} {w : World}, wpL P (l ++ r) Q a w ↔ wpL P l (Exit.then (wpL P r Q) Q) a w
  | [], r, Q, a, w => by simp [wpL, Exit.then]
  | x :: l, r, Q, a, w => by
    simp only [List.cons_append, wpL]
    have : (Exit.then (wpL P (l ++ r) Q) Q) = Exit.then (wpL P l (Exit.then (wpL P r Q) Q)) (Exit.then (wpL P r Q) Q) := by
      funext e a w
      cases e with
      | normal => exact propext (wpL_app l r)
      | _ => rfl
    rw [this]
theorem wpL_flat : ∀ (c : Code) {Q : Exit → Act → World → Prop} {a : Act} {w : World}, wpL P (flat c) Q a w → c.wp P Q a w := by
  intro c
  induction c with
  | seq x y ihx ihy =>
    intro Q a w h
    rw [flat, wpL_app] at h
    refine wp_seq (wp_mono (ihx h) ?_)
    intro e a w h
    cases e with
    | normal => exact ihy h
    | _ => exact h
  | _ =>
    intro Q a w h
    simp only [flat, wpL] at h
    refine wp_mono h ?_
    intro e a w h
    cases e <;> exact h
end
section
variable {P : Program} {X : ExtFn} {G : GFn} {I : World → Prop} {w0 : World} {N : Nat} {m : Nat → Nat} {st : St} {a : Act} {w : World}
theorem list_sound (hmix : P.follows .mixedOrders = true) (hX : ExtSound P X) (hs : Stable I) (hXO : ∀ w, I w → XOk w) (hG : GivenSound P I G) (hI : I w0) : ∀ (l : List Code) (k : Nat) (st st' : St) (ex : Ex), ev P X G k N (seqL l) st = some (ex, st') →
    ∀ (m : Nat → Nat) (a : Act) (w : World) (Q : Exit → Act → World → Prop), SR w0 N m st a w → (∀ m' a' w', SR w0 N m' st' a' w' → Q ex.out a' w') → wpL P l Q a w
  | _, 0, _, _, _, h => fun _ _ _ _ _ _ => by cases h
  | [], k + 1, st, st', ex, h => fun m a w Q hr hq => by
    simp only [seqL, ev, Option.some.injEq, Prod.mk.injEq] at h
    obtain ⟨rfl, rfl⟩ := h
    exact hq m a w hr
  | x :: r, k + 1, st, st', ex, h => fun m a w Q hr hq => by
    simp only [seqL, ev] at h
    simp only [wpL]
    have ih := (ev_sound hmix hX hs hXO hG k).1
    split at h
    · rename_i st1 h1
      refine ih _ _ _ _ _ h1 w0 m a w _ hI hr fun m1 a1 w1 _ hr1 => ?_
      exact list_sound hmix hX hs hXO hG hI r k st1 st' ex h m1 a1 w1 Q hr1 hq
    · rename_i hne
      refine ih _ _ _ _ _ h w0 m a w _ hI hr fun m1 a1 w1 _ hr1 => ?_
      have := hq m1 a1 w1 hr1
      cases ex with
      | normal => exact absurd h (fun h => hne _ h)
      | exit i => exact this
      | ret => exact this
theorem piece (hmix : P.follows .mixedOrders = true) (hX : ExtSound P X) (hs : Stable I) (hXO : ∀ w, I w → XOk w) (hG : GivenSound P I G) {k : Nat} {l : List Code} {fn : Func} {ts bs : List Nat} {next : Nat} {r : Res}
    (h : evK P X G k N (seqL l) st (grab P fn ts bs next) = some r) (hI : I w0) (hr : SR w0 N m st a w) {Q : Exit → Act → World → Prop}
    (hret : ∀ v, r = .ret v → ∀ m' a' w', a'.defers = [] → (results fn a'.tmps).run P w' = .ok (v.den m') w' → Below w0.heap.size w0 w' → Q .ret a' w')
    (hcut : ∀ ex d, r = .cut ex d → ∀ m' a' w', SR w0 N m' (d.st next) a' w' → Q ex.out a' w') : wpL P l Q a w := by
  rw [evK_eq] at h
  cases he : ev P X G k N (seqL l) st with
  | none => rw [he] at h; cases h
  | some p =>
    obtain ⟨ex, st'⟩ := p
    rw [he] at h
    simp only [Option.bind_some] at h
    refine list_sound hmix hX hs hXO hG hI _ _ _ _ _ he m a w Q hr fun m' a' w' hr' => ?_
    cases ex with
    | ret =>
      simp only [grab] at h
      split at h
      · rename_i v hv
        simp only [Option.some.injEq] at h
        subst h
        exact hret v rfl m' a' w' hr'.ar.defers (res_sound hr' hv).1 hr'.mr.below
      · cases h
    | normal =>
      simp only [grab] at h
      split at h
      · rename_i d hd
        simp only [Option.some.injEq] at h
        subst h
        exact hcut _ d rfl m' a' w' (cut_sound hd hr')
      · cases h
    | exit i =>
      simp only [grab] at h
      split at h
      · rename_i d hd
        simp only [Option.some.injEq] at h
        subst h
        exact hcut _ d rfl m' a' w' (cut_sound hd hr')
      · cases h
end
end Go.Ev
end
section
namespace Go.Ev
open Go.RowKit
section
variable [XEnv]
inductive Fr where
  | rest (l : List Code)
  | loop (id : Nat) (r : Code) (k : Nat)
  | blk (id : Nat)
structure Ctx (P : Program) (X : ExtFn) (G : GFn) (I : World → Prop) : Prop where
  mix : P.follows .mixedOrders = true
  hX : ExtSound P X
  hs : Stable I
  hXO : ∀ w, I w → XOk w
  hG : GivenSound P I G
section
variable {P : Program} {X : ExtFn} {G : GFn} {I : World → Prop} {N : Nat} {fn : Func} {v : SV} {fs : List Fr} {l : List Code} {st : St} {k : Nat} {ts bs : List Nat} {next : Nat} {c : Cut} {ex : Ex}
def seek {α : Type} (p : Nat → Option α) : Nat → Nat → Option α
  | 0, _ => none
  | k + 1, i => match p i with
    | some v => some v
    | none => seek p k (i + 1)
def hasLoop : List Code → Bool
  | [] => false
  | .block _ (.loop _) :: _ => true
  | _ :: r => hasLoop r
def roundOf : List Code → Code
  | [] => .skip
  | .block _ (.loop c) :: _ => c
  | _ :: r => roundOf r
end
end
end Go.Ev
end
section
namespace Go.Proofs.YtbpdpnoekkkapaaDoor.PDescKinds
open Go.RowKit Go.Ev Go.Proofs.YtbpdpnoekkkapaaDoorW.PrintWords Go.Proofs.YtbpdpnoekkkapaaDoorW.PrintLast Go.Proofs.YtbpdpnoekkkapaaDoorW.PrintMore
structure V where
  k : Int
  b : Bool
  n : Nat
  s : ByteArray
  id : Int
structure D where
  v : V
  g : V
  t : V
  w : Int
  e : Int
  c : Int
def V.agg (v : V) : Value := .agg #[.int .i64 v.k, .bool v.b, .float .f64 v.n, .string v.s, .int .i64 v.id]
def D.agg (d : D) : Value := .agg #[.int .i64 d.v.k, .bool d.v.b, .float .f64 d.v.n, .string d.v.s, .int .i64 d.v.id,
  .int .i64 d.g.k, .bool d.g.b, .float .f64 d.g.n, .string d.g.s, .int .i64 d.g.id, .int .i64 d.t.k, .bool d.t.b, .float .f64 d.t.n, .string d.t.s, .int .i64 d.t.id, .int .i64 d.w, .int .i64 d.e, .int .i64 d.c]
def getV : Value → Option V
  | .agg a => match a.toList with
    | [.int .i64 k, .bool b, .float .f64 n, .string s, .int .i64 id] => some ⟨k, b, n, s, id⟩
    | _ => none
  | _ => none
def cutV : List Value → Option (V × List Value)
  | .int .i64 k :: .bool b :: .float .f64 n :: .string s :: .int .i64 id :: r => some (⟨k, b, n, s, id⟩, r)
  | _ => none
def getD : Value → Option D
  | .agg a => match cutV a.toList with
    | some (v, r) => match cutV r with
      | some (g, r) => match cutV r with
        | some (t, r) => match r with
          | [.int .i64 w, .int .i64 e, .int .i64 c] => some ⟨v, g, t, w, e, c⟩
          | _ => none
        | none => none
      | none => none
    | none => none
  | _ => none
theorem getV_agg {x : Value} {v : V} (h : getV x = some v) : x = v.agg := by
  unfold getV at h
  split at h
  · rename_i a
    split at h
    · rename_i ha
      simp only [Option.some.injEq] at h
      subst h
      unfold V.agg
      rw [← ha]
    · cases h
  · cases h
theorem cutV_eq {l r : List Value} {v : V} (h : cutV l = some (v, r)) : l = .int .i64 v.k :: .bool v.b :: .float .f64 v.n :: .string v.s :: .int .i64 v.id :: r := by
  unfold cutV at h
  split at h
  · simp only [Option.some.injEq, Prod.mk.injEq] at h
    obtain ⟨rfl, rfl⟩ := h
    rfl
  · cases h
theorem getD_agg {x : Value} {d : D} (h : getD x = some d) : x = d.agg := by
  unfold getD at h
  split at h
  · rename_i a
    split at h
    · rename_i v r0 h0
      split at h
      · rename_i g r1 h1
        split at h
        · rename_i t r2 h2
          split at h
          · simp only [Option.some.injEq] at h
            subst h
            have e := cutV_eq h0
            rw [cutV_eq h1, cutV_eq h2] at e
            unfold D.agg
            simp only
            rw [← e]
          · cases h
        · cases h
      · cases h
    · cases h
  · cases h
def onV (g : V → DT Value) : List Value → Option (DT Value)
  | [x] => match getV x with
    | some v => some (g v)
    | none => none
  | _ => none
def onVV (g : V → V → DT Value) : List Value → Option (DT Value)
  | [x, y] => match getV x with
    | some v => match getV y with
      | some u => some (g v u)
      | none => none
    | none => none
  | _ => none
def onD (g : D → DT Value) : List Value → Option (DT Value)
  | [x] => match getD x with
    | some v => some (g v)
    | none => none
  | _ => none
def onDD (g : D → D → DT Value) : List Value → Option (DT Value)
  | [x, y] => match getD x with
    | some v => match getD y with
      | some u => some (g v u)
      | none => none
    | none => none
  | _ => none
def onF (g : Nat → DT Value) : List Value → Option (DT Value)
  | [.float .f64 n] => some (g n)
  | _ => none
def onI (g : Int → DT Value) : List Value → Option (DT Value)
  | [.int .i64 n] => some (g n)
  | _ => none
def onS (g : ByteArray → DT Value) : List Value → Option (DT Value)
  | [.string s] => some (g s)
  | _ => none
theorem onVV_eq {g : V → V → DT Value} {l : List Value} {t : DT Value} (h : onVV g l = some t) : ∃ v u, l = [v.agg, u.agg] ∧ t = g v u := by
  unfold onVV at h
  split at h
  · split at h
    · rename_i v hv
      split at h
      · rename_i u hu
        simp only [Option.some.injEq] at h
        exact ⟨v, u, by rw [getV_agg hv, getV_agg hu], h.symm⟩
      · cases h
    · cases h
  · cases h
theorem onDD_eq {g : D → D → DT Value} {l : List Value} {t : DT Value} (h : onDD g l = some t) : ∃ v u, l = [v.agg, u.agg] ∧ t = g v u := by
  unfold onDD at h
  split at h
  · split at h
    · rename_i v hv
      split at h
      · rename_i u hu
        simp only [Option.some.injEq] at h
        exact ⟨v, u, by rw [getD_agg hv, getD_agg hu], h.symm⟩
      · cases h
    · cases h
  · cases h
theorem onI_eq {g : Int → DT Value} {l : List Value} {t : DT Value} (h : onI g l = some t) : ∃ n, l = [.int .i64 n] ∧ t = g n := by
  unfold onI at h
  split at h
  · simp only [Option.some.injEq] at h; exact ⟨_, rfl, h.symm⟩
  · cases h
theorem onS_eq {g : ByteArray → DT Value} {l : List Value} {t : DT Value} (h : onS g l = some t) : ∃ n, l = [.string n] ∧ t = g n := by
  unfold onS at h
  split at h
  · simp only [Option.some.injEq] at h; exact ⟨_, rfl, h.symm⟩
  · cases h
def bitsOf : List Value → Option Value
  | [.float .f64 n] => some (.int .u64 (n : Int))
  | _ => none
def ext : ExtFn := fun f => bif Nat.beq f 59 then some bitsOf else none
theorem ext_sound : ExtSound Tryd.prog ext := by
  intro f g hg args v hv w
  unfold ext at hg
  cases hb : Nat.beq f 59 with
  | false => rw [hb] at hg; cases hg
  | true =>
    rw [hb] at hg
    have := Nat.eq_of_beq_eq_true hb
    subst this
    simp only [cond_true, Option.some.injEq] at hg
    subst hg
    unfold bitsOf at hv
    split at hv
    · simp only [Option.some.injEq] at hv
      subst hv
      exact run_f64bits 59 Tryd.func59 (by kernel_rfl) (by kernel_rfl) (by kernel_rfl) (by kernel_rfl) _ w
    · cases hv
theorem tabs_stable : Stable Tabs := fun _ _ h hb => tabs_b h hb
theorem mixed : Tryd.prog.follows .mixedOrders = true := by kernel_rfl
abbrev E (p : Nat × (List Value → Option (DT Value))) : Prop := Entry Tryd.prog Tabs p
instance noRows : XEnv := ⟨fun _ => ⟨none, 0, 0, 0, fun _ => []⟩⟩
theorem noX : ∀ w, Tabs w → XOk w := fun _ _ _ j hj => absurd hj (Nat.not_lt_zero _)
theorem byEv {l : Tab} (hl : ∀ p ∈ l, E p) {q : Nat × (List Value → Option (DT Value))} (k : Nat) (h : ∀ args t, q.2 args = some t → evFn Tryd.prog ext (tab l) k q.1 args = t.val) : E q :=
  entry_of mixed ext_sound tabs_stable noX hl k h
structure K where
  s : ByteArray
  n : Int
def K.agg (k : K) : Value := .agg #[.string k.s, .int .i64 k.n]
def getK : Value → Option K
  | .agg a => match a.toList with
    | [.string s, .int .i64 n] => some ⟨s, n⟩
    | _ => none
  | _ => none
theorem getK_agg {x : Value} {v : K} (h : getK x = some v) : x = v.agg := by
  unfold getK at h
  split at h
  · rename_i a
    split at h
    · rename_i s n ha
      simp only [Option.some.injEq] at h
      subst h
      unfold K.agg
      rw [← ha]
    · cases h
  · cases h
def onK (g : K → DT Value) : List Value → Option (DT Value)
  | [x] => match getK x with
    | some k => some (g k)
    | none => none
  | _ => none
theorem onK_eq {g : K → DT Value} {l : List Value} {t : DT Value} (h : onK g l = some t) : ∃ v, l = [v.agg] ∧ t = g v := by
  unfold onK at h
  split at h
  · split at h
    · rename_i v hv
      simp only [Option.some.injEq] at h
      exact ⟨v, by rw [getK_agg hv], h.symm⟩
    · cases h
  · cases h
theorem ba_beq (b : ByteArray) : (b == b) = true := by
  obtain ⟨d⟩ := b
  show ByteArray.beq ⟨d⟩ ⟨d⟩ = true
  unfold ByteArray.beq
  simp
namespace S
def nan (a : Nat) : Bool := FloatKind.f64.format.order a a != some Ordering.eq
def eqV (a b : V) : Bool := ((a.n : Int) == (b.n : Int) || (nan a.n && nan b.n)) && (a.k == b.k && (a.b == b.b && (a.s.toList == b.s.toList && a.id == b.id)))
def eqD (a b : D) : Bool := eqV a.v b.v && (eqV a.g b.g && (eqV a.t b.t && (a.w == b.w && (a.e == b.e && a.c == b.c))))
theorem eqV_refl (v : V) : eqV v v = true := by simp [eqV]
theorem eqD_refl (d : D) : eqD d d = true := by simp [eqD, eqV_refl]
end S
theorem wrb {i n : Nat} (h : i < n) (hn : n ≤ 9223372036854775807) : IntKind.i64.wrap ((i : Int) + 1) = ((i + 1 : Nat) : Int) := by rw [IntKind.wrap_i64]; omega
end Go.Proofs.YtbpdpnoekkkapaaDoor.PDescKinds
end
