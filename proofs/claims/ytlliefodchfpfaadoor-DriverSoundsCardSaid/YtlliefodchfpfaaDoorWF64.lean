/- Floats in a walk: their comparisons as plain Bools on the bits, a float as a one-cell kind. Conditions: none. -/
import Derived.Test.YtlliefodchfpfaaDoorWWords
import Derived.Test.YtlliefodchfpfaaDoorWFoot
import Derived.Laws.StructEq
import Derived.Laws.Externs
import GoSem.Extern.MathFloatBits
namespace Go.Proofs.YtlliefodchfpfaaDoorW.PrintWords
open Go.RowKit
/-- '==' of two float64 by their bits. -/
def feq (a b : Nat) : Bool := Ieee.double.order a b == some .eq
def fne (a b : Nat) : Bool := !(feq a b)
def flt (a b : Nat) : Bool := Ieee.double.order a b == some .lt
def fgt (a b : Nat) : Bool := Ieee.double.order a b == some .gt
def fle (a b : Nat) : Bool := flt a b || feq a b
def fge (a b : Nat) : Bool := fgt a b || feq a b
section
variable (t : TypeId) (a b : Nat)
@[go_sem] theorem binOp_f64_eql : binOp .eql t (.float .f64 a) (.float .f64 b) = pure (.bool (feq a b)) := by simp [binOp, Op.floatCmp, feq, FloatKind.format]
@[go_sem] theorem binOp_f64_neq : binOp .neq t (.float .f64 a) (.float .f64 b) = pure (.bool (fne a b)) := by simp [binOp, Op.floatCmp, fne, feq, FloatKind.format, bne]
@[go_sem] theorem binOp_f64_lss : binOp .lss t (.float .f64 a) (.float .f64 b) = pure (.bool (flt a b)) := by simp [binOp, Op.floatCmp, flt, FloatKind.format]
@[go_sem] theorem binOp_f64_gtr : binOp .gtr t (.float .f64 a) (.float .f64 b) = pure (.bool (fgt a b)) := by simp [binOp, Op.floatCmp, fgt, FloatKind.format]
@[go_sem] theorem binOp_f64_leq : binOp .leq t (.float .f64 a) (.float .f64 b) = pure (.bool (fle a b)) := by simp [binOp, Op.floatCmp, fle, flt, feq, FloatKind.format]
@[go_sem] theorem binOp_f64_geq : binOp .geq t (.float .f64 a) (.float .f64 b) = pure (.bool (fge a b)) := by simp [binOp, Op.floatCmp, fge, fgt, feq, FloatKind.format]
end
/-- A quotient that is a number (or an infinity): the model's own; where it is none, its bits are drawn: not told here. -/
def fquok (a b : Nat) : Bool := (Ieee.double.div a b).isSome
def fquo (a b : Nat) : Nat := (Ieee.double.div a b).getD 0
section
variable {P : Program} (w : World)
@[go_sem] theorem run_f64_quo (t : TypeId) (a b : Nat) (h : fquok a b = true) : (binOp .quo t (.float .f64 a) (.float .f64 b)).run P w = .ok (.float .f64 (fquo a b)) w := by
  unfold fquok at h
  obtain ⟨r, hr⟩ := Option.isSome_iff_exists.1 h
  simp [binOp, Op.floatArith, FloatKind.format, fquo, hr]
@[go_sem] theorem run_equalIn_f64 (d : Nat) (t : TypeId) (a b : Nat) (h : P.underlying t = some (.float .f64)) : (Op.equalIn (d + 1) t (.float .f64 a) (.float .f64 b)).run P w = .ok (feq a b) w := by
  simp [Op.equalIn, run_underlying h, feq, Op.floatEq, FloatKind.format]
@[go_sem] theorem run_store_f64 (a : Addr) (m : Mode) (b : Nat) : (store a (.float .f64 b) m).run P w = stored P w a (.float .f64 b) m := run_store P w a _ m rfl
end
/-- math.Float64bits has no body: its call is one step. -/
theorem run_f64bits {P : Program} (f : FuncId) {fn : Func} (hf : P.funcs[f]? = some fn) (hname : (fn.name == "runtime.NumGoroutine") = false)
    (hb : fn.body.isNone = true) (hn : Extern.findNext fn = none) (he : Extern.find fn = some Extern.MathFloatBits.float64bits) (b : Nat) (w : World) :
    (callFunc f #[.float .f64 b]).run P w = .ok (.value (.int .u64 (b : Int))) w := by
  rw [run_callFunc_extern hf hname hb hn he]
  rfl
theorem f_add_add (a : Addr) (i j : Nat) : (a.add i).add j = a.add (i + j) := by
  unfold Addr.add
  by_cases hi : i = 0 <;> by_cases hj : j = 0 <;> simp [hi, hj, Nat.add_assoc]
theorem cells_below {w w1 : World} (hb : Below w.heap.size w w1) {b : Addr} {cs : List Value} (h : ∀ j u, cs[j]? = some u → w.cell? (b.add j) = some u) : ∀ j u, cs[j]? = some u → w1.cell? (b.add j) = some u :=
  fun j u hj => (hb.cell (World.block_lt_of_cell? w _ (h j u hj))).trans (h j u hj)
theorem cells_far {w : World} {p : Addr} {b : Addr} {cs : List Value} (hne : b.block ≠ p.block) (v : Value) (h : ∀ j u, cs[j]? = some u → w.cell? (b.add j) = some u) : ∀ j u, cs[j]? = some u → (w.setCell p v).cell? (b.add j) = some u :=
  fun j u hj => (World.cell?_setCell_other w p _ v (fun e => hne (by rw [e]; unfold Addr.add; split <;> rfl))).trans (h j u hj)
section
variable {P : Program} {ops : Array Oper} {rest : List Oper} {o : Oper} {a : Act} {Q : Exit → Act → World → Prop}
theorem run_loadVar_cells {W : World} {ty : TypeId} {b : Addr} {cs : List Value} {n : Nat} {d : TypeDesc} (hn : cs.length = n) (hi : (P.info? ty).map (·.size) = some n) (hu : P.underlying ty = some d)
    (hd : (match d with | .struct _ | .array _ _ => true | _ => false) = true) (hc : ∀ j u, cs[j]? = some u → W.cell? (b.add j) = some u) : (loadVar ty b).run P W = .ok (.agg cs.toArray) W := by
  have hl := run_loadCells_list (P := P) W b cs hc
  cases hq : P.info? ty with
  | none => simp [hq] at hi
  | some i =>
    have hs : i.size = cs.length := by rw [hn]; simpa [hq] using hi
    have hagg : (isAgg ty).run P W = .ok true W := by
      unfold isAgg
      rw [Sem.run_bind, run_underlying hu W]
      cases d <;> simp_all
    simp [loadVar, Sem.run_bind, hagg, sizeOf, typeInfo, hq, hs, hl]
/-- A whole struct is loaded from where its cells lie. -/
theorem load_cells_event {W : World} (hgd : o.guard = none) {N : Tmp} (_hd : o.dst = some N) {ty : TypeId} {x : Operand} (ho : o.op = .load ty x) {b : Addr} {cs : List Value}
    (hc : ∀ j u, cs[j]? = some u → W.cell? (b.add j) = some u) (hx : a.eval x = .pointer (some b)) {n : Nat} (hn : cs.length = n) (hi : (P.info? ty).map (·.size) = some n)
    {fs : Array Field} (hu : P.underlying ty = some (.struct fs)) (h : wpList P ops Q rest (a.put o.dst (.agg cs.toArray)) W) : wpList P ops Q (o :: rest) a W := by
  refine Kd.event_run hgd ?_ h
  unfold execOp
  simp only [ho, hx, Instr.loadAt, Instr.sureAddr, Sem.run_bind, Sem.run_pure, Result.andThen_ok, run_loadVar_cells hn hi hu rfl hc]
theorem blk_cells {W : World} {g off n : Nat} {arr : Array Value} {t : TypeId} {fr : Nat × Nat} {cs : List Value} (hb : W.heap[g]? = some (.cells arr t fr)) (hs : (arr.toList.drop off).take n = cs) :
    ∀ j u, cs[j]? = some u → W.cell? ((⟨g, off, none⟩ : Addr).add j) = some u := by
  intro j u hj
  subst hs
  have hj' : arr[off + j]? = some u := by
    rw [List.getElem?_take] at hj
    split at hj
    · rw [List.getElem?_drop] at hj
      simpa using hj
    · cases hj
  have ha : (⟨g, off, none⟩ : Addr).add j = ⟨g, off + j, none⟩ := by
    unfold Addr.add
    split
    · subst_vars; rfl
    · rfl
  rw [ha, cell_of_row W g (off + j) arr t fr hb]
  exact hj'
/-- The cells from the k-th on. -/
def CellsAt (W : World) (b : Addr) (k : Nat) (cs : List Value) : Prop := ∀ j u, cs[j]? = some u → W.cell? (b.add (k + j)) = some u
theorem CellsAt.nil {W : World} {b : Addr} {k : Nat} : CellsAt W b k [] := fun j u h => by simp at h
theorem CellsAt.cons {W : World} {b : Addr} {k : Nat} {v : Value} {cs : List Value} (h0 : W.cell? (b.add k) = some v) (h : CellsAt W b (k + 1) cs) : CellsAt W b k (v :: cs) := fun j u hj => by
  cases j with
  | zero => simp at hj; subst hj; exact h0
  | succ j => have := h j u (by simpa using hj); rwa [show k + 1 + j = k + (j + 1) by omega] at this
theorem exec_load_cells {ty : TypeId} {fs : Array Field} (hu : P.underlying ty = some (.struct fs)) (n : Nat) {W : World} {ρ : Operand → Value} {x : Operand} {b : Addr} {cs : List Value} (ho : o.op = .load ty x) (hn : cs.length = n) (hi : (P.info? ty).map (·.size) = some n)
    (hx : ρ x = .pointer (some b)) (hc : CellsAt W b 0 cs) : (execOp ρ o).run P W = .ok (.value (.agg cs.toArray)) W := by
  have hc' : ∀ j u, cs[j]? = some u → W.cell? (b.add j) = some u := fun j u hj => by have := hc j u hj; rwa [Nat.zero_add] at this
  unfold execOp
  simp only [ho, hx, Instr.loadAt, Instr.sureAddr, Sem.run_bind, Sem.run_pure, Result.andThen_ok, run_loadVar_cells hn hi hu rfl hc']
end
namespace Kd
def f64 : Kd Nat := scalar (Value.float .f64) (fun _ => rfl)
theorem heap_f64 : Heap Kd.f64 := ⟨fun _ h => h⟩
theorem at_f64 {w : World} {A : Option Addr} {n : Nat} {xs : List Nat} (h : Kd.f64.C w A n xs) (i : Int) (h0 : 0 ≤ i) (h1 : i < n) : ∃ ad, A = some ad ∧ w.cell? (ad.add i.toNat) = some (.float .f64 (rdOf (0 : Nat) xs i)) :=
  ReadsOf.at_ (reads_of_C (enc := Value.float .f64) (d := (0 : Nat)) (h1 := fun _ => rfl) h) i h0 h1
end Kd
section
variable {P : Program} {ops : Array Oper} {rest : List Oper} {o o2 : Oper} {a : Act} {Q : Exit → Act → World → Prop}
/-- A variable is laid and filled by the next operation: one event. -/
theorem allocstore_event {W : World} (hgd : o.guard = none) {N : Tmp} (hd : o.dst = some N) {zs cs : Array Value} {t : TypeId} {x : Operand}
    (hrun : (execOp a.eval o).run P W = .ok (.value (.pointer (some ⟨W.heap.size, 0, none⟩))) (W.alloc (.cells zs t (0, 0))))
    (hgd2 : o2.guard = none) (hd2 : o2.dst = none) (ho2 : o2.op = .store t (.tmp N) x) (hN : N < a.tmps.size)
    (hx : ∀ v, (a.put (some N) v).eval x = .agg cs) {n : Nat} (hi : (P.info? t).map (·.size) = some n) (hn : cs.size = n) (hz : zs.size = cs.size) (h1 : cs.all (·.oneCell') = true)
    (h : ∀ g, g = W.heap.size → ∀ w1, w1.heap[g]? = some (.cells cs t (0, 0)) → Below W.heap.size W w1 → wpList P ops Q rest (a.put o.dst (.pointer (some ⟨g, 0, none⟩))) w1) : wpList P ops Q (o :: o2 :: rest) a W := by
  refine Kd.event_run hgd hrun ?_
  refine wpList_store_row hgd2 t (.tmp N) x ho2 W.heap.size cs ?_ (by rw [hd]; exact hx _) t zs (heap_alloc_new W _) (by rw [hn]; exact hi) hz h1 ?_
  · rw [hd]
    simp [Act.put, Act.eval, hN]
  · have e2 : (a.put o.dst (.pointer (some ⟨W.heap.size, 0, none⟩))).put o2.dst undef = a.put o.dst (.pointer (some ⟨W.heap.size, 0, none⟩)) := by rw [hd2]; rfl
    rw [e2]
    refine h _ rfl _ (setRow_heap _ _ zs cs t _ (heap_alloc_new W _)) ?_
    have hb0 : Below W.heap.size W (W.alloc (.cells zs t (0, 0))) := below_alloc (Below.refl W.heap.size W) (.cells zs t (0, 0))
    exact hb0.trans ⟨rfl, rfl, rfl, by simp [World.setRow], fun k hk => setRow_other _ _ _ _ (by omega)⟩
/-- The same, a move between the two. -/
theorem allocstore_event1 {W : World} {om : Oper} (hgd : o.guard = none) {N : Tmp} (hd : o.dst = some N) {zs cs : Array Value} {t : TypeId} {x y : Operand} {v : Value} {M : Tmp}
    (hrun : (execOp a.eval o).run P W = .ok (.value (.pointer (some ⟨W.heap.size, 0, none⟩))) (W.alloc (.cells zs t (0, 0))))
    (hgm : om.guard = none) (hom : om.op = .assign y ∨ om.op = .move y) (hdm : om.dst = some M) (hMN : M ≠ N) (hv : ∀ p, (a.put (some N) p).eval y = v)
    (hgd2 : o2.guard = none) (hd2 : o2.dst = none) (ho2 : o2.op = .store t (.tmp N) x) (hN : N < a.tmps.size)
    (hx : ∀ p, ((a.put (some N) p).put (some M) v).eval x = .agg cs) {n : Nat} (hi : (P.info? t).map (·.size) = some n) (hn : cs.size = n) (hz : zs.size = cs.size) (h1 : cs.all (·.oneCell') = true)
    (h : ∀ g, g = W.heap.size → ∀ w1, w1.heap[g]? = some (.cells cs t (0, 0)) → Below W.heap.size W w1 → wpList P ops Q rest ((a.put o.dst (.pointer (some ⟨g, 0, none⟩))).put om.dst v) w1) : wpList P ops Q (o :: om :: o2 :: rest) a W := by
  refine Kd.event_run hgd hrun ?_
  refine Kd.event_run (v := v) (w1 := W.alloc (.cells zs t (0, 0))) hgm ?_ ?_
  · rw [hd]
    unfold execOp
    rcases hom with e | e <;> simp only [e, Sem.run_pure, hv]
  refine wpList_store_row hgd2 t (.tmp N) x ho2 W.heap.size cs ?_ (by rw [hd, hdm]; exact hx _) t zs (heap_alloc_new W _) (by rw [hn]; exact hi) hz h1 ?_
  · rw [hd, hdm]
    simp [Act.put, Act.eval, hN, hMN]
  · have e2 : ((a.put o.dst (.pointer (some ⟨W.heap.size, 0, none⟩))).put om.dst v).put o2.dst undef = (a.put o.dst (.pointer (some ⟨W.heap.size, 0, none⟩))).put om.dst v := by rw [hd2]; rfl
    rw [e2]
    refine h _ rfl _ (setRow_heap _ _ zs cs t _ (heap_alloc_new W _)) ?_
    have hb0 : Below W.heap.size W (W.alloc (.cells zs t (0, 0))) := below_alloc (Below.refl W.heap.size W) (.cells zs t (0, 0))
    exact hb0.trans ⟨rfl, rfl, rfl, by simp [World.setRow], fun k hk => setRow_other _ _ _ _ (by omega)⟩
end
end Go.Proofs.YtlliefodchfpfaaDoorW.PrintWords
