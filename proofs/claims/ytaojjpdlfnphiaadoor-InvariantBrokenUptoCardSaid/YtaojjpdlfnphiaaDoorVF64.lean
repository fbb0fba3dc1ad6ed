/- Floats in a walk: their comparisons as plain Bools on the bits, a float as a one-cell kind. Conditions: none. -/
import Derived.Test.YtaojjpdlfnphiaaDoorVWords
import Derived.Test.YtaojjpdlfnphiaaDoorVFoot
import Derived.Laws.StructEq
import Derived.Laws.Externs
import GoSem.Extern.MathFloatBits
namespace Go.Proofs.YtaojjpdlfnphiaaDoorW.PrintWords
open Go.RowKit
/-- '==' of two float64 by their bits. -/
def feq (a b : Nat) : Bool := Ieee.double.order a b == some .eq
def fne (a b : Nat) : Bool := !(feq a b)
def flt (a b : Nat) : Bool := Ieee.double.order a b == some .lt
def fgt (a b : Nat) : Bool := Ieee.double.order a b == some .gt
def fle (a b : Nat) : Bool := flt a b || feq a b
def fge (a b : Nat) : Bool := fgt a b || feq a b
section
variable (t : TypeId) (a b : Nat)
@[go_sem] theorem binOp_f64_eql : binOp .eql t (.float .f64 a) (.float .f64 b) = pure (.bool (feq a b)) := by simp [binOp, Op.floatCmp, feq, FloatKind.format]
@[go_sem] theorem binOp_f64_neq : binOp .neq t (.float .f64 a) (.float .f64 b) = pure (.bool (fne a b)) := by simp [binOp, Op.floatCmp, fne, feq, FloatKind.format, bne]
@[go_sem] theorem binOp_f64_lss : binOp .lss t (.float .f64 a) (.float .f64 b) = pure (.bool (flt a b)) := by simp [binOp, Op.floatCmp, flt, FloatKind.format]
@[go_sem] theorem binOp_f64_gtr : binOp .gtr t (.float .f64 a) (.float .f64 b) = pure (.bool (fgt a b)) := by simp [binOp, Op.floatCmp, fgt, FloatKind.format]
@[go_sem] theorem binOp_f64_leq : binOp .leq t (.float .f64 a) (.float .f64 b) = pure (.bool (fle a b)) := by simp [binOp, Op.floatCmp, fle, flt, feq, FloatKind.format]
@[go_sem] theorem binOp_f64_geq : binOp .geq t (.float .f64 a) (.float .f64 b) = pure (.bool (fge a b)) := by simp [binOp, Op.floatCmp, fge, fgt, feq, FloatKind.format]
end
/-- A quotient that is a number (or an infinity): the model's own; where it is none, its bits are drawn: not told here. -/
def fquok (a b : Nat) : Bool := (Ieee.double.div a b).isSome
def fquo (a b : Nat) : Nat := (Ieee.double.div a b).getD 0
section
variable {P : Program} (w : World)
@[go_sem] theorem run_f64_quo (t : TypeId) (a b : Nat) (h : fquok a b = true) : (binOp .quo t (.float .f64 a) (.float .f64 b)).run P w = .ok (.float .f64 (fquo a b)) w := by
  unfold fquok at h
  obtain ⟨r, hr⟩ := Option.isSome_iff_exists.1 h
  simp [binOp, Op.floatArith, FloatKind.format, fquo, hr]
@[go_sem] theorem run_equalIn_f64 (d : Nat) (t : TypeId) (a b : Nat) (h : P.underlying t = some (.float .f64)) : (Op.equalIn (d + 1) t (.float .f64 a) (.float .f64 b)).run P w = .ok (feq a b) w := by
  simp [Op.equalIn, run_underlying h, feq, Op.floatEq, FloatKind.format]
@[go_sem] theorem run_store_f64 (a : Addr) (m : Mode) (b : Nat) : (store a (.float .f64 b) m).run P w = stored P w a (.float .f64 b) m := run_store P w a _ m rfl
end
/-- math.Float64bits has no body: its call is one step. -/
theorem run_f64bits {P : Program} (f : FuncId) {fn : Func} (hf : P.funcs[f]? = some fn) (hname : (fn.name == "runtime.NumGoroutine") = false)
    (hb : fn.body.isNone = true) (hn : Extern.findNext fn = none) (he : Extern.find fn = some Extern.MathFloatBits.float64bits) (b : Nat) (w : World) :
    (callFunc f #[.float .f64 b]).run P w = .ok (.value (.int .u64 (b : Int))) w := by
  rw [run_callFunc_extern hf hname hb hn he]
  rfl
theorem f_add_add (a : Addr) (i j : Nat) : (a.add i).add j = a.add (i + j) := by
  unfold Addr.add
  by_cases hi : i = 0 <;> by_cases hj : j = 0 <;> simp [hi, hj, Nat.add_assoc]
section
variable {P : Program} {ops : Array Oper} {rest : List Oper} {o : Oper} {a : Act} {Q : Exit → Act → World → Prop}
theorem run_loadVar_cells {W : World} {ty : TypeId} {b : Addr} {cs : List Value} {n : Nat} {d : TypeDesc} (hn : cs.length = n) (hi : (P.info? ty).map (·.size) = some n) (hu : P.underlying ty = some d)
    (hd : (match d with | .struct _ | .array _ _ => true | _ => false) = true) (hc : ∀ j u, cs[j]? = some u → W.cell? (b.add j) = some u) : (loadVar ty b).run P W = .ok (.agg cs.toArray) W := by
  have hl := run_loadCells_list (P := P) W b cs hc
  cases hq : P.info? ty with
  | none => simp [hq] at hi
  | some i =>
    have hs : i.size = cs.length := by rw [hn]; simpa [hq] using hi
    have hagg : (isAgg ty).run P W = .ok true W := by
      unfold isAgg
      rw [Sem.run_bind, run_underlying hu W]
      cases d <;> simp_all
    simp [loadVar, Sem.run_bind, hagg, sizeOf, typeInfo, hq, hs, hl]
/-- A whole struct is loaded from where its cells lie. -/
theorem load_cells_event {W : World} (hgd : o.guard = none) {N : Tmp} (_hd : o.dst = some N) {ty : TypeId} {x : Operand} (ho : o.op = .load ty x) {b : Addr} {cs : List Value}
    (hc : ∀ j u, cs[j]? = some u → W.cell? (b.add j) = some u) (hx : a.eval x = .pointer (some b)) {n : Nat} (hn : cs.length = n) (hi : (P.info? ty).map (·.size) = some n)
    {fs : Array Field} (hu : P.underlying ty = some (.struct fs)) (h : wpList P ops Q rest (a.put o.dst (.agg cs.toArray)) W) : wpList P ops Q (o :: rest) a W := by
  refine Kd.event_run hgd ?_ h
  unfold execOp
  simp only [ho, hx, Instr.loadAt, Instr.sureAddr, Sem.run_bind, Sem.run_pure, Result.andThen_ok, run_loadVar_cells hn hi hu rfl hc]
theorem blk_cells {W : World} {g off n : Nat} {arr : Array Value} {t : TypeId} {fr : Nat × Nat} {cs : List Value} (hb : W.heap[g]? = some (.cells arr t fr)) (hs : (arr.toList.drop off).take n = cs) :
    ∀ j u, cs[j]? = some u → W.cell? ((⟨g, off, none⟩ : Addr).add j) = some u := by
  intro j u hj
  subst hs
  have hj' : arr[off + j]? = some u := by
    rw [List.getElem?_take] at hj
    split at hj
    · rw [List.getElem?_drop] at hj
      simpa using hj
    · cases hj
  have ha : (⟨g, off, none⟩ : Addr).add j = ⟨g, off + j, none⟩ := by
    unfold Addr.add
    split
    · subst_vars; rfl
    · rfl
  rw [ha, cell_of_row W g (off + j) arr t fr hb]
  exact hj'
/-- The cells from the k-th on. -/
def CellsAt (W : World) (b : Addr) (k : Nat) (cs : List Value) : Prop := ∀ j u, cs[j]? = some u → W.cell? (b.add (k + j)) = some u
theorem CellsAt.nil {W : World} {b : Addr} {k : Nat} : CellsAt W b k [] := fun j u h => by simp at h
theorem CellsAt.cons {W : World} {b : Addr} {k : Nat} {v : Value} {cs : List Value} (h0 : W.cell? (b.add k) = some v) (h : CellsAt W b (k + 1) cs) : CellsAt W b k (v :: cs) := fun j u hj => by
  cases j with
  | zero => simp at hj; subst hj; exact h0
  | succ j => have := h j u (by simpa using hj); rwa [show k + 1 + j = k + (j + 1) by omega] at this
end
namespace Kd
def f64 : Kd Nat := scalar (Value.float .f64) (fun _ => rfl)
end Kd
section
variable {P : Program} {ops : Array Oper} {rest : List Oper} {o o2 : Oper} {a : Act} {Q : Exit → Act → World → Prop}
end
end Go.Proofs.YtaojjpdlfnphiaaDoorW.PrintWords
