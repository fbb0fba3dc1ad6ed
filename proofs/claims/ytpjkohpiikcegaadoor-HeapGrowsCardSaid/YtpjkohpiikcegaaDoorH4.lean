/- Heap.Add, Heap.Make: contracts. -/
import Derived.Test.YtpjkohpiikcegaaDoorH3
set_option linter.unusedSimpArgs false
set_option linter.unusedVariables false
set_option linter.unusedSectionVars false
namespace Go.Proofs.YtpjkohpiikcegaaDoor.PDescKinds
open Go.RowKit Go.Ev Go.Proofs.YtpjkohpiikcegaaDoorV.PrintLast
set_option maxRecDepth 100000
/-- A call. -/
theorem call_op {o : Oper} {f : FuncId} {xs : Array Operand} {ats : Array TypeId} {vs : Array Value} {a : Act} {w : World} {R : Ending → World → Prop} {K : Act → World → Prop} {Q : Exit → Act → World → Prop}
    (ho : o.op = .call { callee := .value (.func f), args := xs, argTypes := ats }) (he : enters Tryd.prog f = true) (hv : xs.map a.eval = vs) (hc : Calls Tryd.prog f vs w R) (hR : ∀ e w', R e w' → ∃ v, e = .returned v)
    (k : ∀ v w', R (.returned v) w' → K (a.put o.dst v) w') : o.wp Tryd.prog a w K Q := by
  have x2 : (execOp a.eval o).run Tryd.prog w = .ok (.enter f vs) w := by
    rw [← run_enters he vs w]
    unfold execOp
    simp only [ho, resolve, hv, Act.eval, Deferred.ofValue, Sem.run_bind, Sem.run_pure, Result.andThen_ok, invoke]
    simp
  unfold Oper.wp
  rw [x2, Oper.upon_enter]
  refine Calls.mono hc fun e w' hr => ?_
  obtain ⟨v, rfl⟩ := hR e w' hr
  exact k v w' hr
theorem den_h0 (h : HD) (bx : XR) (m : Nat → Nat) : @SV.den (rowsH h bx) m (.xp [] 0 0) = .pointer (some ⟨h.hb, 0, none⟩) := by
  rw [@den_xp (rowsH h bx)]
  show Value.pointer (some ((⟨h.hb, 0, none⟩ : Addr).add (0 * 5 + 0))) = _
  rw [add_none]
theorem ok_h0 (h : HD) (bx : XR) (mem : Mem) : @SV.ok (rowsH h bx) mem (.xp [] 0 0) := (@ok_xp (rowsH h bx) _ _ _ _).2 Nat.zero_lt_one
theorem SR.own {e : XEnv} {N : Nat} {c : Cut} {m : Nat → Nat} {a : Act} {w w' : World} {next b : Nat} {l : List Value} {ty : TypeId} (hr : @SR e w N m (c.st next) a w') (h : pickM c.bs b = some ⟨ty, l.map SV.val⟩) : w.heap.size ≤ m b ∧ w'.heap[m b]? = some (.cells l.toArray ty (0, 0)) := by
  letI := e
  obtain ⟨b1, b2, _⟩ := hr.mr.blk b ⟨ty, l.map SV.val⟩ h
  refine ⟨b1, ?_⟩
  rw [b2, List.map_map, show (SV.den m ∘ SV.val) = _root_.id from funext fun v => den_val _ v, List.map_id]
theorem SR.bel {e : XEnv} {N : Nat} {st : St} {m : Nat → Nat} {a : Act} {w w' : World} (hr : @SR e w N m st a w') : Below w.heap.size w w' := by
  letI := e
  exact hr.mr.below
/-- The tables, which lie below B. -/
def TabB (B : Nat) (w : World) : Prop := ∀ w', Below B w w' → Tabs w'
theorem TabB.here {B : Nat} {w : World} (h : TabB B w) : Tabs w := h w (Below.refl _ _)
theorem TabB.then {B : Nat} {w w' : World} (h : TabB B w) (hb : Below B w w') : TabB B w' := fun w2 h2 => h w2 (hb.trans h2)
theorem TabB.fr {B : Nat} {T : List Nat} {w w' : World} (h : TabB B w) (hf : FrT B T w w') (hB : B ≤ w.heap.size) : TabB B w' := h.then (hf.below hB)
section
variable {B : Nat} {T : List Nat} {w w' w0 : World} {h : HD} {a : Act} {Q : Exit → Act → World → Prop}
/-- A piece over a heap. -/
theorem pieceH {N k : Nat} {l : List Code} {fn : Func} {st : St} {ts bs : List Nat} {next : Nat} {r : Res} {m : Nat → Nat} (hT : Tabs w) (hO : OwnH B w h) (hev : @evK (rowsH h noX1) _ Tryd.prog ext (tab (L25 ck)) k N (seqL l) st (grab Tryd.prog fn ts bs next) = some r) (hr : @SR (rowsH h noX1) w N m st a w)
    (hret : ∀ v, r = .ret v → ∀ m' a' w', a'.defers = [] → (results fn a'.tmps).run Tryd.prog w' = .ok (@SV.den (rowsH h noX1) m' v) w' → Below w.heap.size w w' → Q .ret a' w')
    (hcut : ∀ ex d, r = .cut ex d → ∀ m' a' w', @SR (rowsH h noX1) w N m' (d.st next) a' w' → Q ex.out a' w') : wpL Tryd.prog l Q a w := by
  letI := rowsH h noX1
  have C := ctxH (h := h) noX1
  exact piece C.mix C.hX C.hs C.hXO C.hG hev (w0 := w) ⟨hT, hO.xok (xnone _ _)⟩ hr hret hcut
def full : Value := .tuple #[.int .i64 0, .iface 25 (.int .i64 3)]
/-- What Add answers. -/
def AddOut (B : Nat) (w : World) (h : HD) (v : V) : Ending → World → Prop := fun e w' =>
  (h.cap ≤ (h.n : Int) ∧ e = .returned full ∧ Below w.heap.size w w') ∨ ((h.n : Int) < h.cap ∧ e = .returned (.tuple #[.int .i64 ((h.n + 1 : Nat) : Int), .nilIface]) ∧ ∃ A c g, OwnH B w' (h.more A c g v) ∧ FrT B [51, 66] w w' ∧ w.heap.size ≤ g)
theorem Add.calls {v : V} (hT : TabB B w) (hO : OwnH B w h) (hB : B ≤ w.heap.size) (hn : h.n ≤ 1000000) :
    Calls Tryd.prog 15 #[.pointer (some ⟨h.hb, 0, none⟩), .int .i64 1, v.agg, .iface 55 (.agg #[]), .nilIface] w (AddOut B w h v) := by
  refine calls_of_wp Tryd.func15 (c := Tryd.f15.body.getD .skip) (by kernel_rfl) ?_
  refine wpL_flat _ ?_
  show wpL Tryd.prog ad _ _ _
  rw [ad_eq, wpL_app]
  have hst := @start_sound (rowsH h noX1) Tryd.f15 [.xp [] 0 0, .val (.int .i64 1), .val v.agg, .val (.iface 55 (.agg #[])), .val .nilIface] (fun y hy => by
    simp only [List.mem_cons, List.not_mem_nil, or_false] at hy
    rcases hy with rfl | rfl | rfl | rfl | rfl <;> first | exact ok_h0 _ _ _ | exact @ok_val (rowsH h noX1) _ _) w (fun _ => 0)
  simp only [List.map_cons, List.map_nil, @den_val (rowsH h noX1), den_h0] at hst
  have ev := t_add h v
  by_cases hc : (h.n : Int) ≥ h.cap
  · rw [decide_eq_true hc] at ev
    refine pieceH hT.here hO ev hst (fun v hv m' a' w' hd hres hb => ?_) (fun ex d hd => by cases hd)
    cases hv
    rw [@den_val (rowsH h noX1)] at hres
    exact ⟨hd, _, hres, .inl ⟨hc, rfl, hb⟩⟩
  · rw [decide_eq_false hc] at ev
    refine pieceH hT.here hO ev hst (fun v hv => by cases hv) (fun ex d hd m a1 w1 hr => ?_)
    cases hd
    obtain ⟨b1, b2⟩ := SR.own (b := 0) (l := v.list) (ty := 35) hr rfl
    have hb := SR.bel hr
    have K1 : Kp 39 (AK h (m 0)) a1 := SR.kp hr fun p hp => by
      simp only [List.mem_cons, List.not_mem_nil, or_false] at hp
      rcases hp with rfl | rfl | rfl | rfl | rfl
      · exact ⟨rfl, den_h0 _ _ _⟩
      · exact ⟨rfl, @den_val (rowsH h noX1) _ _⟩
      · exact ⟨rfl, @den_val (rowsH h noX1) _ _⟩
      · exact ⟨rfl, @den_val (rowsH h noX1) _ _⟩
      · exact ⟨rfl, @den_ptr (rowsH h noX1) _ _ _⟩
    show wpL Tryd.prog (.region 4 a4 true :: ad.drop 5) _ a1 w1
    have hv : w1.heap[m 0]? = some (.cells v.list.toArray 35 (0, 0)) := b2
    refine add_reg4 (hO.below hb) (Nat.le_trans hB hb.size) hn hv K1 fun a2 w2 A c g K2 O2 F2 hg1 hg2 => ?_
    show wpL Tryd.prog (ad.drop 5) _ a2 w2
    have hr2 : @SR (rowsH (h.more A c g v) noX1) w2 39 (fun _ => 0) ((⟨[(0, .xp [] 0 0)], []⟩ : Cut).st 0) a2 w2 := by
      letI := rowsH (h.more A c g v) noX1
      refine epoch K2.size K2.defers _ _ (fun p hp => ?_) (fun p hp => ?_)
      · obtain rfl := List.mem_singleton.1 hp
        rw [den_h0]
        exact K2.vals (0, _) (by simp; rfl)
      · obtain rfl := List.mem_singleton.1 hp
        exact ok_h0 _ _ _
    have F1 : FrT B [51, 66] w w1 := FrT.of hb
    have F12 := F1.trans F2
    refine pieceH (hT.fr F12 hB).here O2 (t_addr _) hr2 (fun v hv m' a' w' hd hres hb' => ?_) (fun ex d hd => by cases hd)
    cases hv
    rw [@den_val (rowsH (h.more A c g v) noX1)] at hres
    exact ⟨hd, _, hres, .inr ⟨by omega, rfl, A, c, g, O2.below hb', F12.then hb', Nat.le_trans hb.size hg2⟩⟩
end
end Go.Proofs.YtpjkohpiikcegaaDoor.PDescKinds
