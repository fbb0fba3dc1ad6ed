/- cameoref10.Copy: shapes in memory of their own. -/
import Derived.Test.YtaojjpdlfnphiaaDoorN2
import Derived.Test.YtaojjpdlfnphiaaDoorC0
import Derived.Laws.AppendOwnNone
set_option linter.unusedSimpArgs false
set_option linter.unusedVariables false
set_option linter.unusedSectionVars false
namespace Go.Ev
open Go.RowKit
section
variable [XEnv]
variable {P : Program} {X : ExtFn} {call : CallFn} {I : World → Prop} {N : Nat} {ops : Array Oper} {w0 : World} {Q : Exit → Act → World → Prop}
/-- Some operations of a region, and what is behind them. -/
theorem ops_sound_tail (hX : ExtSound P X) (hI : I w0) (hs : Stable I) (hXO : ∀ w, I w → XOk w) (hcall : CallSound P I call) (tail : List Oper) : ∀ (l : List Oper) (st st' : St) (m : Nat → Nat) (a : Act) (w : World), evOps P X call ops N l st = some st' → SR w0 N m st a w →
    (∀ m' a' w', Later st m st' m' → SR w0 N m' st' a' w' → wpList P ops Q tail a' w') → wpList P ops Q (l ++ tail) a w
  | [], st, st', m, a, w, h, hr, k => by
    simp only [evOps, Option.some.injEq] at h
    subst h
    exact k m a w (Later.refl _ _) hr
  | o :: r, st, st', m, a, w, h, hr, k => by
    unfold evOps at h
    cases hdg : dstOk N o.dst && knownG ops st.tmps o with
    | false => rw [hdg] at h; cases h
    | true =>
      rw [hdg] at h
      rw [Bool.and_eq_true] at hdg
      obtain ⟨hd, hgk⟩ := hdg
      simp only [cond_true] at h
      simp only [List.cons_append]
      unfold wpList
      rw [want_eq hr.ar.tm o hgk]
      cases hw : wantS ops st.tmps o with
      | true =>
        rw [hw] at h
        simp only [cond_true] at h
        simp only [if_true]
        split at h
        · rename_i v e he
          refine .inl (op_sound hX hI hs hXO hcall he (fun _ => hr.fresh _ (Nat.le_refl _)) (fun _ => hr.fresh) hr.ar.look_ok hr.ar.eval hr.mr ?_)
          intro m' w' hag hmr hv hg hall
          have hf := hall hr.fresh
          exact ops_sound_tail hX hI hs hXO hcall tail r _ st' m' _ w' h ⟨hmr, hr.ar.put hag hg hd hv, hf.1⟩ (fun m2 a2 w2 hl hr2 => k m2 a2 w2 (Later.trans ⟨hag, hg, hf.2⟩ hl) hr2)
        · cases h
      | false =>
        rw [hw] at h
        simp only [cond_false] at h
        simp only [Bool.false_eq_true, if_false]
        exact ops_sound_tail hX hI hs hXO hcall tail r _ st' m _ w h ⟨hr.mr, (den_val m undef) ▸ hr.ar.put (v := .val undef) (Agree.refl _ _) (Grows.refl _) hd (ok_val _ _), hr.fresh⟩ (fun m2 a2 w2 hl hr2 => k m2 a2 w2 ⟨hl.agree, hl.grows, hl.le⟩ hr2)
theorem pickT_mem (t : Nat) : ∀ ts : List (Nat × SV), pickT ts t = SV.unk ∨ (t, pickT ts t) ∈ ts
  | [] => .inl rfl
  | p :: r => by
    simp only [pickT]
    cases h : Nat.beq t p.1 with
    | true =>
      have := Nat.eq_of_beq_eq_true h
      subst this
      exact .inr List.mem_cons_self
    | false =>
      rcases pickT_mem t r with h | h
      · exact .inl h
      · exact .inr (List.mem_cons_of_mem _ h)
/-- All that is, is as if it had come in. -/
theorem epoch {a : Act} {w : World} (hs : a.tmps.size = N) (hd : a.defers = []) (ts : List (Nat × SV)) (m : Nat → Nat) (h : ∀ p ∈ ts, a.tmps.getD p.1 undef = p.2.den m) (hok : ∀ p ∈ ts, p.2.ok fun _ => none) :
    SR w N m ((Cut.mk ts []).st 0) a w := by
  refine ⟨MR.start w m, ⟨hs, hd, fun t ht => ?_, fun t => ?_⟩, fun _ _ => rfl⟩
  · have ht : (pickT ts t).known = true := ht
    show a.tmps.getD t undef = (pickT ts t).den m
    rcases pickT_mem t ts with h1 | h1
    · rw [h1] at ht; cases ht
    · exact h _ h1
  · show (pickT ts t).ok _
    rcases pickT_mem t ts with h1 | h1
    · rw [h1]; exact ok_unk
    · exact hok _ h1
/-- The same, with own blocks. -/
theorem epochB {a : Act} {w w' : World} {next : Nat} (hb : Below w.heap.size w w') (hs : a.tmps.size = N) (hd : a.defers = []) (ts : List (Nat × SV)) (bs : List (Nat × Blk)) (m : Nat → Nat) (h : ∀ p ∈ ts, a.tmps.getD p.1 undef = p.2.den m)
    (hok : ∀ p ∈ ts, p.2.ok (pickM bs)) (hblk : ∀ b k, pickM bs b = some k → w.heap.size ≤ m b ∧ w'.heap[m b]? = some (.cells (k.cells.map (SV.den m)).toArray k.ty (0, 0)) ∧ ∀ c ∈ k.cells, c.ok (pickM bs))
    (hinj : ∀ b b' k k', pickM bs b = some k → pickM bs b' = some k' → m b = m b' → b = b') (hfr : ∀ b, next ≤ b → pickM bs b = none) :
    SR w N m ((Cut.mk ts bs).st next) a w' := by
  refine ⟨⟨hb, hblk, hinj⟩, ⟨hs, hd, fun t ht => ?_, fun t => ?_⟩, hfr⟩
  · have ht : (pickT ts t).known = true := ht
    show a.tmps.getD t undef = (pickT ts t).den m
    rcases pickT_mem t ts with h1 | h1
    · rw [h1] at ht; cases ht
    · exact h _ h1
  · show (pickT ts t).ok _
    rcases pickT_mem t ts with h1 | h1
    · rw [h1]; exact ok_unk
    · exact hok _ h1
theorem pickM_two {x y b : Nat} {k k1 k2 : Blk} (h : pickM [(x, k1), (y, k2)] b = some k) : (b = x ∧ k = k1) ∨ (b = y ∧ k = k2) := by
  simp only [pickM] at h
  cases h1 : Nat.beq b x with
  | true =>
    rw [h1] at h
    simp only [cond_true, Option.some.injEq] at h
    exact .inl ⟨Nat.eq_of_beq_eq_true h1, h.symm⟩
  | false =>
    rw [h1] at h
    simp only [cond_false] at h
    cases h2 : Nat.beq b y with
    | true =>
      rw [h2] at h
      simp only [cond_true, Option.some.injEq] at h
      exact .inr ⟨Nat.eq_of_beq_eq_true h2, h.symm⟩
    | false => rw [h2] at h; cases h
end
end Go.Ev
namespace Go.Proofs.YtaojjpdlfnphiaaDoor.PDescKinds
open Go.RowKit Go.Ev
/-! ### Moments as the world has them -/
def Pr.list (q : Pr) : List Value := .string q.k.s :: .int .i64 q.k.n :: q.d.list
theorem Pr.cells_list (q : Pr) : q.cells = q.list.map SV.val := rfl
/-- A shape's cells, its properties where u says. -/
def shVals (s : Sh) (u : Value) : List Value := [.int .i64 s.cl, .int .i64 s.p.k, .bool s.p.b, .float .f64 s.p.n, .string s.p.s, .int .i64 s.p.id, .bool s.x, u]
def Sh.row (s : Sh) : Value := .slice s.A s.n s.c
structure RawMo (w : World) (mo : Mo) : Prop where
  nils : ∀ j, (mo.g j).A = none → (mo.g j).n = 0 ∧ (mo.g j).c = 0
  top : ∀ j, j < mo.n → ∃ a, mo.A = some a ∧ a.block < w.heap.size ∧ ∀ t v, (shVals (mo.g j) (mo.g j).row)[t]? = some v → w.cell? (a.add (j * 8 + t)) = some v
  row : ∀ j i, i < (mo.g j).n → ∃ a, (mo.g j).A = some a ∧ a.block < w.heap.size ∧ ∀ t v, ((mo.g j).g i).list[t]? = some v → w.cell? (a.add (i * 20 + t)) = some v
theorem add_block (a : Addr) (k : Nat) : (a.add k).block = a.block := by unfold Addr.add; split <;> rfl
theorem RawMo.below {w w' : World} {mo : Mo} (h : RawMo w mo) (hb : Below w.heap.size w w') : RawMo w' mo := by
  refine ⟨h.nils, fun j hj => ?_, fun j i hi => ?_⟩
  · obtain ⟨a, h1, h2, h3⟩ := h.top j hj
    exact ⟨a, h1, Nat.lt_of_lt_of_le h2 hb.size, fun t v ht => (hb.cell (by rw [add_block]; exact h2)).trans (h3 t v ht)⟩
  · obtain ⟨a, h1, h2, h3⟩ := h.row j i hi
    exact ⟨a, h1, Nat.lt_of_lt_of_le h2 hb.size, fun t v ht => (hb.cell (by rw [add_block]; exact h2)).trans (h3 t v ht)⟩
/-- No box. -/
def noBox : XR := ⟨none, 1, 0, 0, fun _ => []⟩
theorem xok_raw {M : Nat → Mo} {w : World} (h : ∀ k, RawMo w (M k)) : @XOk (rowsB M noBox) w := by
  intro r
  match r with
  | [k] =>
    intro j hj
    obtain ⟨a, h1, h2, h3⟩ := (h k).top j hj
    refine ⟨rfl, fun s hs mem => @Simple.ok (rowsB M noBox) _ (simple_sh _ _ _ _ _ s hs) mem, a, h1, h2, fun t s ht m => ?_⟩
    have ht : (shCells ((M k).g j).cl ((M k).g j).p ((M k).g j).x [k, j])[t]? = some s := ht
    have e : (shCells ((M k).g j).cl ((M k).g j).p ((M k).g j).x [k, j]).map (@SV.den (rowsB M noBox) m) = shVals ((M k).g j) ((M k).g j).row := by
      simp only [shCells, List.map_cons, List.map_nil, @den_val (rowsB M noBox), @den_xs (rowsB M noBox)]
      rfl
    refine h3 t _ ?_
    rw [← e, List.getElem?_map, ht]
    rfl
  | [k, j] =>
    intro i hi
    obtain ⟨a, h1, h2, h3⟩ := (h k).row j i hi
    refine ⟨rfl, fun s hs mem => @Simple.ok (rowsB M noBox) _ (simple_pr _ s hs) mem, a, h1, h2, fun t s ht m => ?_⟩
    have ht : (((M k).g j).g i).cells[t]? = some s := ht
    rw [Pr.cells_list, List.getElem?_map, Option.map_eq_some_iff] at ht
    obtain ⟨v, hv, rfl⟩ := ht
    rw [@den_val (rowsB M noBox)]
    exact h3 t v hv
  | [] => intro j hj; exact absurd hj (Nat.not_lt_zero _)
  | _ :: _ :: _ :: _ => intro j hj; exact absurd hj (Nat.not_lt_zero _)
def inB : Code → Code
  | .block _ c => c
  | c => c
def opsOf : Code → Array Oper
  | .region _ ops _ => ops
  | _ => #[]
namespace Copy
noncomputable def rd : List Code := flat (roundOf (bodyOf Tryd.f36))
noncomputable def inn : List Code := flat (inB (rd.getD 2 .skip))
noncomputable def ops6 : Array Oper := opsOf (inn.getD 1 .skip)
noncomputable def ops7 : Array Oper := opsOf (inn.getD 2 .skip)
noncomputable def o19 : Oper := ops6.toList.getD 3 default
noncomputable def o24 : Oper := ops7.toList.getD 3 default
noncomputable def o25 : Oper := ops7.toList.getD 4 default
abbrev CL : GFn := tab2 BvL5 []
noncomputable abbrev cw : CallFn := callWith Tryd.prog CL (ev Tryd.prog ext CL 0)
end Copy
namespace Copy
/-- A shape's cells, its properties where u says. -/
def shCells7 (s : Sh) (u : SV) : List SV := [.val (.int .i64 s.cl), .val (.int .i64 s.p.k), .val (.bool s.p.b), .val (.float .f64 s.p.n), .val (.string s.p.s), .val (.int .i64 s.p.id), .val (.bool s.x), u]
abbrev hd (a i : Nat) (v : Value) : Cut := ⟨[(0, .xs [a]), (3, .val v), (4, .val (.int .i64 (i : Int)))], []⟩
abbrev boxed (a i : Nat) (v : Value) (l : List SV) : Cut := ⟨[(0, .xs [a]), (3, .val v), (4, .val (.int .i64 (i : Int))), (5, .ptr 0 0)], [(0, ⟨60, l⟩)]⟩
set_option maxRecDepth 100000 in
theorem cp0 (M : Nat → Mo) (bx : XR) (a : Nat) : letI := rowsB M bx
    evK Tryd.prog ext Copy.CL 80 26 (seqL (preOf (bodyOf Tryd.f36))) ⟨argS [.xs [a]], fun _ => none, 0⟩ (grab Tryd.prog Tryd.f36 [0, 3, 4] [] 0) =
    some (.cut .normal (hd a 0 (.slice none 0 0))) := by kernel_rfl
set_option maxRecDepth 100000 in
theorem cp1 (M : Nat → Mo) (bx : XR) (a i : Nat) (v : Value) : letI := rowsB M bx
    evK Tryd.prog ext Copy.CL 80 26 (seqL (rd.take 2)) ((hd a i v).st 0) (grab Tryd.prog Tryd.f36 [0, 3, 4] [] 0) =
    bif decide ((i : Int) < ((M a).n : Int)) then some (.cut .normal (hd a i v)) else some (.cut (.exit 0) (hd a i v)) := by kernel_rfl
set_option maxRecDepth 100000 in
theorem cp2 (M : Nat → Mo) (bx : XR) (a i : Nat) (v : Value) : letI := rowsB M bx
    evK Tryd.prog ext Copy.CL 80 26 (seqL (inn.take 1)) ((hd a i v).st 0) (grab Tryd.prog Tryd.f36 [0, 3, 4, 5] [0] 1) =
    bif decide (0 ≤ (i : Int)) && decide ((i : Int) < ((M a).n : Int)) then some (.cut .normal (boxed a i v (shCells ((M a).g i).cl ((M a).g i).p ((M a).g i).x [a, i]))) else none := by kernel_rfl
set_option maxRecDepth 100000 in
theorem cp3 (M : Nat → Mo) (bx : XR) (a i : Nat) (v : Value) (s : Sh) : letI := rowsB M bx
    (evOps Tryd.prog ext cw ops6 26 (ops6.toList.take 3) ((boxed a i v (shCells s.cl s.p s.x [a, i])).st 1)).bind (cutS [0, 3, 4, 5, 16, 18] [0, 1] 2) =
    some ⟨[(0, .xs [a]), (3, .val v), (4, .val (.int .i64 (i : Int))), (5, .ptr 0 0), (16, .slc 1 0 0 0), (18, .xs [a, i])], [(0, ⟨60, shCells s.cl s.p s.x [a, i]⟩), (1, ⟨66, []⟩)]⟩ := by kernel_rfl
set_option maxRecDepth 100000 in
theorem cp4 (M : Nat → Mo) (bx : XR) (a i : Nat) (v : Value) (s : Sh) (L : List SV) (n c : Nat) : letI := rowsB M bx
    (evOps Tryd.prog ext cw ops6 26 (ops6.toList.drop 4) ((⟨[(0, .xs [a]), (3, .val v), (4, .val (.int .i64 (i : Int))), (5, .ptr 0 0), (19, .slc 1 0 n c)], [(0, ⟨60, shCells s.cl s.p s.x [a, i]⟩), (1, ⟨66, L⟩)]⟩ : Cut).st 2)).map (fun st => (st.tmps 0, st.tmps 3, st.tmps 4, st.tmps 5, st.mem 0, st.mem 1)) =
    some (.xs [a], .val v, .val (.int .i64 (i : Int)), .ptr 0 0, some ⟨60, shCells7 s (.slc 1 0 n c)⟩, some ⟨66, L⟩) := by kernel_rfl
set_option maxRecDepth 100000 in
theorem cp5 (M : Nat → Mo) (bx : XR) (a i : Nat) (v : Value) (s : Sh) (L : List SV) (n c : Nat) : letI := rowsB M bx
    (evOps Tryd.prog ext cw ops7 26 (ops7.toList.take 3) ((⟨[(0, .xs [a]), (3, .val v), (4, .val (.int .i64 (i : Int))), (5, .ptr 0 0)], [(0, ⟨60, shCells7 s (.slc 1 0 n c)⟩), (1, ⟨66, L⟩)]⟩ : Cut).st 2)).map (fun st => (st.tmps 0, st.tmps 4, st.tmps 21, st.tmps 23, st.mem 1, st.mem 2)) =
    some (.xs [a], .val (.int .i64 (i : Int)), .val v, .slc 2 0 1 1, some ⟨66, L⟩, some ⟨60, shCells7 s (.slc 1 0 n c)⟩) := by kernel_rfl
set_option maxRecDepth 100000 in
theorem cp6 (M : Nat → Mo) (bx : XR) (a i : Nat) (v : Value) : letI := rowsB M bx
    evK Tryd.prog ext Copy.CL 80 26 (seqL (rd.drop 3)) ((hd a i v).st 0) (grab Tryd.prog Tryd.f36 [0, 3, 4] [] 0) =
    some (.cut .normal ⟨[(0, .xs [a]), (3, .val v), (4, .val (.int .i64 (IntKind.i64.wrap ((i : Int) + 1))))], []⟩) := by kernel_rfl
set_option maxRecDepth 100000 in
theorem cp7 (M : Nat → Mo) (bx : XR) (a i : Nat) (v : Value) : letI := rowsB M bx
    evK Tryd.prog ext Copy.CL 80 26 (seqL (postOf (bodyOf Tryd.f36))) ((hd a i v).st 0) (grab Tryd.prog Tryd.f36 [0, 3, 4] [] 0) =
    some (.ret (.val v)) := by kernel_rfl
theorem rd_eq : rd = rd.take 2 ++ (Code.block 1 (inB (rd.getD 2 .skip)) :: rd.drop 3) := by kernel_rfl
theorem inn_eq : inn = inn.take 1 ++ [.region 6 ops6 false, .region 7 ops7 false] := by kernel_rfl
theorem ops6_eq : ops6.toList = ops6.toList.take 3 ++ (o19 :: ops6.toList.drop 4) := by kernel_rfl
theorem ops7_eq : ops7.toList = ops7.toList.take 3 ++ [o24, o25] := by kernel_rfl
theorem o19_op : o19.op = .call { callee := .builtin .append, args := #[.tmp 16, .tmp 18], argTypes := #[58, 58] } := by kernel_rfl
theorem o19_guard : o19.guard = none := by kernel_rfl
theorem o19_dst : o19.dst = some 19 := by kernel_rfl
theorem o24_op : o24.op = .call { callee := .builtin .append, args := #[.tmp 21, .tmp 23], argTypes := #[51, 51] } := by kernel_rfl
theorem o24_guard : o24.guard = none := by kernel_rfl
theorem o24_dst : o24.dst = some 24 := by kernel_rfl
theorem o25_op : o25.op = .assign (.tmp 24) := by kernel_rfl
theorem o25_guard : o25.guard = none := by kernel_rfl
theorem o25_dst : o25.dst = some 3 := by kernel_rfl
theorem info60 : ∃ (i : TypeInfo) (z : Value), Tryd.prog.info? 60 = some i ∧ i.zero = some z ∧ i.size = 8 ∧ i.bytes = 88 ∧ z.cells.size = 8 := by
  have h : (Tryd.prog.info? 60).bind (fun i => i.zero.map fun z => (i.size, i.bytes, z.cells.size)) = some (8, 88, 8) := by kernel_rfl
  obtain ⟨i, hi, h⟩ := Option.bind_eq_some_iff.1 h
  obtain ⟨z, hz, h⟩ := Option.map_eq_some_iff.1 h
  simp only [Prod.mk.injEq] at h
  exact ⟨i, z, hi, hz, h.1, h.2.1, h.2.2⟩
theorem info66 : ∃ (i : TypeInfo) (z : Value), Tryd.prog.info? 66 = some i ∧ i.zero = some z ∧ i.size = 20 ∧ i.bytes = 192 ∧ z.cells.size = 20 := by
  have h : (Tryd.prog.info? 66).bind (fun i => i.zero.map fun z => (i.size, i.bytes, z.cells.size)) = some (20, 192, 20) := by kernel_rfl
  obtain ⟨i, hi, h⟩ := Option.bind_eq_some_iff.1 h
  obtain ⟨z, hz, h⟩ := Option.map_eq_some_iff.1 h
  simp only [Prod.mk.injEq] at h
  exact ⟨i, z, hi, hz, h.1, h.2.1, h.2.2⟩
end Copy
end Go.Proofs.YtaojjpdlfnphiaaDoor.PDescKinds

/-! #### part B8 -/
set_option linter.unusedSimpArgs false
set_option linter.unusedVariables false
set_option linter.unusedSectionVars false
namespace Go.Proofs.YtaojjpdlfnphiaaDoor.PDescKinds
open Go.RowKit Go.Ev
/-! Rows laid one behind the other -/
theorem flat_len {f : Nat → List Value} {z : Nat} (hz : ∀ t, (f t).length = z) (n : Nat) : ((List.range n).flatMap f).length = n * z := by
  induction n with
  | zero => simp
  | succ n ih => rw [List.range_succ, List.flatMap_append, List.length_append, ih, Nat.succ_mul]; simp [hz]
theorem flat_in {f : Nat → List Value} {z : Nat} (hz : ∀ t, (f t).length = z) : ∀ (n t k : Nat) (u : Value), t < n → (f t)[k]? = some u → ((List.range n).flatMap f)[t * z + k]? = some u
  | 0, t, k, u, h, _ => absurd h (Nat.not_lt_zero _)
  | n + 1, t, k, u, h, hk => by
    have hkz : k < z := by rw [← hz t]; exact (List.getElem?_eq_some_iff.1 hk).1
    rw [List.range_succ, List.flatMap_append]
    by_cases e : t = n
    · subst e
      rw [List.getElem?_append_right (by rw [flat_len hz]; omega), flat_len hz]
      simpa using hk
    · have hlt : t < n := by omega
      have h1 : t * z + k < n * z := by
        have : (t + 1) * z ≤ n * z := Nat.mul_le_mul_right z hlt
        rw [Nat.add_mul] at this
        omega
      rw [List.getElem?_append_left (by rw [flat_len hz]; exact h1)]
      exact flat_in hz n t k u hlt hk
theorem flat_out {f : Nat → List Value} {z : Nat} (hz : ∀ t, (f t).length = z) : ∀ (n j : Nat) (u : Value), ((List.range n).flatMap f)[j]? = some u → ∃ t k, t < n ∧ j = t * z + k ∧ (f t)[k]? = some u
  | 0, j, u, h => by simp at h
  | n + 1, j, u, h => by
    rw [List.range_succ, List.flatMap_append] at h
    by_cases hj : j < n * z
    · rw [List.getElem?_append_left (by rw [flat_len hz]; exact hj)] at h
      obtain ⟨t, k, h1, h2, h3⟩ := flat_out hz n j u h
      exact ⟨t, k, by omega, h2, h3⟩
    · rw [List.getElem?_append_right (by rw [flat_len hz]; omega), flat_len hz] at h
      refine ⟨n, j - n * z, by omega, by omega, by simpa using h⟩
theorem flat_congr {f g : Nat → List Value} (n : Nat) (h : ∀ j, j < n → f j = g j) : (List.range n).flatMap f = (List.range n).flatMap g := by
  induction n with
  | zero => rfl
  | succ n ih => rw [List.range_succ, List.flatMap_append, List.flatMap_append, ih fun j hj => h j (by omega)]; simp [h n (by omega)]
theorem Pr.list_length (q : Pr) : q.list.length = 20 := rfl
theorem shVals_length (s : Sh) (u : Value) : (shVals s u).length = 8 := rfl
theorem Pr.list_one (q : Pr) : ∀ u ∈ q.list, u.oneCell' = true := by
  intro u hu
  simp only [Pr.list, D.list, V.list, List.cons_append, List.nil_append, List.mem_cons, List.not_mem_nil, or_false] at hu
  rcases hu with rfl | rfl | rfl | rfl | rfl | rfl | rfl | rfl | rfl | rfl | rfl | rfl | rfl | rfl | rfl | rfl | rfl | rfl | rfl | rfl <;> rfl
theorem shVals_one (s : Sh) (A : Option Addr) (n c : Nat) : ∀ u ∈ shVals s (.slice A n c), u.oneCell' = true := by
  intro u hu
  simp only [shVals, List.mem_cons, List.not_mem_nil, or_false] at hu
  rcases hu with rfl | rfl | rfl | rfl | rfl | rfl | rfl | rfl <;> rfl
theorem own_ne {w : World} {b b' n n' : Nat} {v u : Value} {xs ys : List Value} (h : w.ownsRow b 60 8 v n xs) (h' : w.ownsRow b' 66 20 u n' ys) : u.ownBlock = none ∨ u.ownBlock ≠ v.ownBlock := by
  rcases h'.2 with ⟨rfl, _⟩ | ⟨g', cap', cur', rfl, _, hg', _⟩
  · exact .inl rfl
  · refine .inr fun e => ?_
    rcases h.2 with ⟨rfl, _⟩ | ⟨g, cap, cur, rfl, _, hg, _⟩
    · simp [Value.ownBlock] at e
    · simp only [Value.ownBlock, Option.some.injEq] at e
      subst e
      rw [hg] at hg'
      simp at hg'
theorem grown_of {w w' : World} (hb : Below w.heap.size w w') (row : Option Nat) : w.grownBy w' row := ⟨hb.os, hb.tape, hb.output, hb.size, fun k hk _ => hb.block k hk⟩
namespace Copy
theorem put_self (a : Act) (d : Nat) (v : Value) (h : d < a.tmps.size) : (a.put (some d) v).tmps.getD d undef = v := by
  show (a.tmps.setIfInBounds d v).getD d undef = v
  simp [h]
theorem put_ne (a : Act) (d t : Nat) (v : Value) (h : d ≠ t) : (a.put (some d) v).tmps.getD t undef = a.tmps.getD t undef := by
  show (a.tmps.setIfInBounds d v).getD t undef = _
  simp [Array.getElem?_setIfInBounds_ne h]
section
variable {M : Nat → Mo} {bx : XR} {a : Nat} {w0 : World}
def rowOf (s : Sh) : List Value := (List.range s.n).flatMap fun t => (s.g t).list
structure Head (M : Nat → Mo) (a : Nat) (w0 : World) (i k : Nat) (v : Value) (S : Nat → Value) (act : Act) (w : World) : Prop where
  below : Below w0.heap.size w0 w
  size : act.tmps.size = 26
  defers : act.defers = []
  t0 : act.tmps.getD 0 undef = .slice (M a).A (M a).n (M a).c
  t3 : act.tmps.getD 3 undef = v
  t4 : act.tmps.getD 4 undef = .int .i64 (i : Int)
  own : w.ownsRow w0.heap.size 60 8 v k ((List.range k).flatMap fun j => shVals ((M a).g j) (S j))
  rows : ∀ j, j < k → w.ownsRow w0.heap.size 66 20 (S j) ((M a).g j).n (rowOf ((M a).g j))
theorem Head.enter {i k : Nat} {v : Value} {S : Nat → Value} {act : Act} {w : World} (h : Head M a w0 i k v S act w) : @SR (rowsB M bx) w 26 (fun _ => 0) ((hd a i v).st 0) act w := by
  letI := rowsB M bx
  refine epoch h.size h.defers _ _ (fun p hp => ?_) (fun p hp => ?_)
  · simp only [List.mem_cons, List.not_mem_nil, or_false] at hp
    rcases hp with rfl | rfl | rfl
    · exact h.t0.trans (den_xs _ [a]).symm
    · exact h.t3.trans (den_val _ _).symm
    · exact h.t4.trans (den_val _ _).symm
  · simp only [List.mem_cons, List.not_mem_nil, or_false] at hp
    rcases hp with rfl | rfl | rfl
    · exact ok_xs
    · exact ok_val _ _
    · exact ok_val _ _
theorem Head.later {i i' k : Nat} {v : Value} {S : Nat → Value} {act act' : Act} {w w' : World} (h : Head M a w0 i k v S act w) (hb : Below w.heap.size w w') (h1 : act'.tmps.size = 26) (h2 : act'.defers = [])
    (h3 : act'.tmps.getD 0 undef = .slice (M a).A (M a).n (M a).c) (h4 : act'.tmps.getD 3 undef = v) (h5 : act'.tmps.getD 4 undef = .int .i64 (i' : Int)) : Head M a w0 i' k v S act' w' :=
  ⟨h.below.trans (hb.mono h.below.size), h1, h2, h3, h4, h5, h.own.kept (grown_of hb none) (by cases hv : v.ownBlock <;> simp), fun j hj => (h.rows j hj).kept (grown_of hb none) (by cases hv : (S j).ownBlock <;> simp)⟩
theorem cells7_den [XEnv] (m : Nat → Nat) (s : Sh) (n c : Nat) : (shCells7 s (.slc 1 0 n c)).map (SV.den m) = shVals s (.slice (some ⟨m 1, 0, none⟩) n c) := by
  simp only [shCells7, List.map_cons, List.map_nil, den_val, den_slc]
  rfl
theorem vals_den' [XEnv] (m : Nat → Nat) (cur : Array Value) : ((cur.toList.map SV.val).map (SV.den m)).toArray = cur := by
  rw [List.map_map, show (SV.den m ∘ SV.val) = _root_.id from funext fun v => den_val m v, List.map_id]
abbrev two (a i : Nat) (v : Value) (s : Sh) (n c : Nat) (cur : Array Value) : Cut := ⟨[(0, .xs [a]), (3, .val v), (4, .val (.int .i64 (i : Int))), (5, .ptr 0 0)], [(0, ⟨60, shCells7 s (.slc 1 0 n c)⟩), (1, ⟨66, cur.toList.map SV.val⟩)]⟩
set_option maxRecDepth 100000 in
theorem tail7 (hI : Inv M bx w0) (hn : (M a).n ≤ 1048576) {i c : Nat} {v : Value} {S : Nat → Value} {act a5 : Act} {w w5 : World} {m : Nat → Nat} {cur : Array Value} (h : Head M a w0 i i v S act w) (hi : i < (M a).n)
    (hr : @SR (rowsB M bx) w 26 m ((two a i v ((M a).g i) ((M a).g i).n c cur).st 2) a5 w5) (hc1 : ((M a).g i).n ≤ c) (hc2 : c ≤ maxLen) (hc3 : cur.size = c * 20) (hc4 : cur.toList.take (((M a).g i).n * 20) = rowOf ((M a).g i))
    {Q : Exit → Act → World → Prop} (hQ : ∀ v' S' act' w', Head M a w0 i (i + 1) v' S' act' w' → Q .normal act' w') : wpL Tryd.prog [.region 7 ops7 false] Q a5 w5 := by
  letI := rowsB M bx
  have hIw : Inv M bx w := inv_stable _ _ _ _ hI h.below
  have C := ctxB M bx Bvents5 entsS_nil
  have hc : CallSound Tryd.prog (Inv M bx) cw := call_sound C.hs C.hG (ev_sound mixed ext_sound C.hs C.hXO C.hG 0).1
  simp only [wpL]
  refine wp_region_list ?_
  rw [ops7_eq]
  obtain ⟨st, hst, hpr⟩ := Option.map_eq_some_iff.1 (cp5 M bx a i v ((M a).g i) (cur.toList.map SV.val) ((M a).g i).n c)
  simp only [Prod.mk.injEq] at hpr
  obtain ⟨p0, p4, p21, p23, pm1, pm2⟩ := hpr
  refine ops_sound_tail ext_sound hIw C.hs C.hXO hc _ _ _ _ m a5 w5 hst hr ?_
  intro m6 a6 w6 _ hr6
  have b6 := hr6.mr.below
  have e21 : a6.eval (.tmp 21) = v := (hr6.ar.tm 21 (by rw [p21]; rfl)).trans (by rw [p21]; exact den_val _ _)
  have e23 : a6.eval (.tmp 23) = .slice (some ⟨m6 2, 0, none⟩) 1 1 := (hr6.ar.tm 23 (by rw [p23]; rfl)).trans (by rw [p23]; exact den_slc _ _ _ _ _)
  have hb1 := hr6.mr.blk 1 _ pm1
  have hb2 := hr6.mr.blk 2 _ pm2
  have hsz6 : a6.tmps.size = 26 := hr6.ar.size
  have hh1 : w6.heap[m6 1]? = some (.cells cur 66 (0, 0)) := by
    have := hb1.2.1
    rw [vals_den'] at this
    exact this
  have hh2 : w6.heap[m6 2]? = some (.cells (shVals ((M a).g i) (.slice (some ⟨m6 1, 0, none⟩) ((M a).g i).n c)).toArray 60 (0, 0)) := by
    have := hb2.2.1
    rw [cells7_den] at this
    exact this
  have hown : w6.ownsRow w0.heap.size 60 8 v i ((List.range i).flatMap fun j => shVals ((M a).g j) (S j)) := h.own.kept (grown_of b6 none) (by cases hv : v.ownBlock <;> simp)
  have hU : w6.ownsRow w0.heap.size 66 20 (.slice (some ⟨m6 1, 0, none⟩) ((M a).g i).n c) ((M a).g i).n (rowOf ((M a).g i)) :=
    ⟨flat_len (fun t => Pr.list_length _) _, .inr ⟨m6 1, c, cur, rfl, Nat.le_trans h.below.size hb1.1, hh1, hc1, hc2, hc3, hc4⟩⟩
  have hM : maxLen = 9223372036854775807 := by decide +kernel
  obtain ⟨i60, z60, hi1, hi2, hi3, hi4, hi5⟩ := info60
  refine wpList_append_own w6 o24_guard (.tmp 21) (.tmp 23) 51 o24_op w0.heap.size 60 i60 z60 8 88 Tryd.underlying51 hi1 hi2 hi3 hi4 hi5 (by decide) _ i _ e21 hown ⟨m6 2, 0, none⟩ 1 1 (shVals ((M a).g i) (.slice (some ⟨m6 1, 0, none⟩) ((M a).g i).n c)) e23 rfl ?_ (shVals_one _ _ _ _) ?_ ?_ ?_ ?_
  · intro j u hu
    rw [add_none, cell_of_row w6 (m6 2) _ _ 60 (0, 0) hh2]
    simpa using hu
  · omega
  · omega
  · exact Nat.le_trans h.below.size b6.size
  intro v' w7 hown7 hgr hnil
  refine wpList_plain o25_guard fun K hK => ?_
  have hex : (execOp (a6.put o24.dst v').eval o25).run Tryd.prog w7 = .ok (.value v') w7 := by
    have e24 : (a6.put o24.dst v').eval (.tmp 24) = v' := by rw [o24_dst]; exact put_self a6 24 v' (by omega)
    unfold execOp
    simp only [o25_op, e24, Sem.run_pure]
  unfold Oper.wp
  rw [hex, Oper.upon_value, o24_dst, o25_dst]
  have hsz7 : (a6.put (some 24) v').tmps.size = 26 := by simp [Act.put, hsz6]
  have e3 : ((a6.put (some 24) v').put (some 3) v').tmps.getD 3 undef = v' := put_self _ 3 v' (by omega)
  have eo : ∀ t, t ≠ 24 → t ≠ 3 → ((a6.put (some 24) v').put (some 3) v').tmps.getD t undef = a6.tmps.getD t undef := fun t h1 h2 => by rw [put_ne _ _ _ _ (Ne.symm h2), put_ne _ _ _ _ (Ne.symm h1)]
  have hbel6 : Below w0.heap.size w0 w6 := h.below.trans (b6.mono h.below.size)
  refine hK _ _ (hQ v' (fun j => if j = i then .slice (some ⟨m6 1, 0, none⟩) ((M a).g i).n c else S j) _ _ ⟨?_, by simp [Act.put, hsz6], hr6.ar.defers, ?_, e3, ?_, ?_, ?_⟩)
  · exact hbel6.trans ⟨hgr.os, hgr.tape, hgr.output, hgr.size, fun k hk => hgr.block k (Nat.lt_of_lt_of_le hk hbel6.size) (fun e => by
      have := (hown.lt k e.symm).1
      omega)⟩
  · rw [eo 0 (by decide) (by decide)]
    exact (hr6.ar.tm 0 (by rw [p0]; rfl)).trans (by rw [p0]; exact den_xs _ [a])
  · rw [eo 4 (by decide) (by decide)]
    exact (hr6.ar.tm 4 (by rw [p4]; rfl)).trans (by rw [p4]; exact den_val _ _)
  · have e : ((List.range (i + 1)).flatMap fun j => shVals ((M a).g j) (if j = i then .slice (some ⟨m6 1, 0, none⟩) ((M a).g i).n c else S j)) =
        ((List.range i).flatMap fun j => shVals ((M a).g j) (S j)) ++ shVals ((M a).g i) (.slice (some ⟨m6 1, 0, none⟩) ((M a).g i).n c) := by
      rw [List.range_succ, List.flatMap_append, flat_congr i (g := fun j => shVals ((M a).g j) (S j)) fun j hj => by rw [if_neg (by omega)]]
      simp
    rw [e]
    exact hown7
  · intro j hj
    by_cases e : j = i
    · subst e
      simp only [if_true]
      exact hU.kept hgr (own_ne hown hU)
    · simp only [if_neg e]
      have := (h.rows j (by omega)).kept (grown_of b6 none) (by cases hv : (S j).ownBlock <;> simp)
      exact this.kept hgr (own_ne hown this)
set_option maxRecDepth 100000 in
theorem tail6 (hI : Inv M bx w0) (hn : (M a).n ≤ 1048576) {i c g : Nat} {v : Value} {S : Nat → Value} {act a3 : Act} {w w3 w4 : World} {m3 : Nat → Nat} (h : Head M a w0 i i v S act w) (hi : i < (M a).n) {st3 : St}
    (hr3 : @SR (rowsB M bx) w 26 m3 ((⟨[(0, .xs [a]), (3, .val v), (4, .val (.int .i64 (i : Int))), (5, .ptr 0 0), (16, .slc 1 0 0 0), (18, .xs [a, i])], [(0, ⟨60, shCells ((M a).g i).cl ((M a).g i).p ((M a).g i).x [a, i]⟩), (1, ⟨66, []⟩)]⟩ : Cut).st 2) a3 w3)
    (hown : w4.ownsRow w.heap.size 66 20 (.slice (some ⟨g, 0, none⟩) ((M a).g i).n c) ((M a).g i).n (rowOf ((M a).g i))) (hgr : w3.grownBy w4 (some (m3 1)))
    {Q : Exit → Act → World → Prop} (hQ : ∀ v' S' act' w', Head M a w0 i (i + 1) v' S' act' w' → Q .normal act' w') :
    wpList Tryd.prog ops6 (Exit.then (wpL Tryd.prog [.region 7 ops7 false] Q) Q) (ops6.toList.drop 4) (a3.put o19.dst (.slice (some ⟨g, 0, none⟩) ((M a).g i).n c)) w4 := by
  letI := rowsB M bx
  have hIw : Inv M bx w := inv_stable _ _ _ _ hI h.below
  have C := ctxB M bx Bvents5 entsS_nil
  have hc : CallSound Tryd.prog (Inv M bx) cw := call_sound C.hs C.hG (ev_sound mixed ext_sound C.hs C.hXO C.hG 0).1
  have b3 := hr3.mr.below
  have hb0 := hr3.mr.blk 0 ⟨60, shCells ((M a).g i).cl ((M a).g i).p ((M a).g i).x [a, i]⟩ rfl
  have hb1 := hr3.mr.blk 1 ⟨66, []⟩ rfl
  have hne01 : m3 0 ≠ m3 1 := fun e => by have := hr3.mr.inj 0 1 _ _ rfl rfl e; cases this
  have hsz3 : a3.tmps.size = 26 := hr3.ar.size
  rcases hown.2 with ⟨e, _⟩ | ⟨g', cap, cur, e, hgb, hgh, h1, h2, h3, h4⟩
  · cases e
  simp only [Value.slice.injEq, Option.some.injEq, Addr.mk.injEq, and_true] at e
  obtain ⟨rfl, _, rfl⟩ := e
  have hw40 : w4.heap[m3 0]? = some (.cells ((shCells ((M a).g i).cl ((M a).g i).p ((M a).g i).x [a, i]).map (SV.den m3)).toArray 60 (0, 0)) := (hgr.block (m3 0) (Array.getElem?_eq_some_iff.1 hb0.2.1).1 (fun e => hne01 (Option.some.inj e))).trans hb0.2.1
  have hne : m3 0 ≠ g := fun e => by
    rw [e, hgh] at hw40
    simp at hw40
  have b4 : Below w.heap.size w w4 := b3.trans ⟨hgr.os, hgr.tape, hgr.output, hgr.size, fun k hk => hgr.block k (Nat.lt_of_lt_of_le hk b3.size) (fun e => by
    have := Option.some.inj e
    have := hb1.1
    omega)⟩
  have hr4 : SR w 26 (fun b => if b = 0 then m3 0 else g) ((⟨[(0, .xs [a]), (3, .val v), (4, .val (.int .i64 (i : Int))), (5, .ptr 0 0), (19, .slc 1 0 ((M a).g i).n c)], [(0, ⟨60, shCells ((M a).g i).cl ((M a).g i).p ((M a).g i).x [a, i]⟩), (1, ⟨66, cur.toList.map SV.val⟩)]⟩ : Cut).st 2) (a3.put o19.dst (.slice (some ⟨g, 0, none⟩) ((M a).g i).n c)) w4 := by
    rw [o19_dst]
    have eo : ∀ t, t ≠ 19 → (a3.put (some 19) (.slice (some ⟨g, 0, none⟩) ((M a).g i).n c)).tmps.getD t undef = a3.tmps.getD t undef := fun t h1 => put_ne _ _ _ _ (Ne.symm h1)
    refine epochB (a := a3.put (some 19) (.slice (some ⟨g, 0, none⟩) ((M a).g i).n c)) b4 (by simp [Act.put, hsz3]) hr3.ar.defers _ _ _ (fun p hp => ?_) (fun p hp => ?_) (fun b k hk => ?_) (fun b b' k k' hk hk' he => ?_) (fun b hb => ?_)
    · simp only [List.mem_cons, List.not_mem_nil, or_false] at hp
      rcases hp with rfl | rfl | rfl | rfl | rfl
      · rw [eo 0 (by decide)]; exact (hr3.ar.tm 0 rfl).trans (by rw [den_xs]; exact den_xs _ [a])
      · rw [eo 3 (by decide)]; exact (hr3.ar.tm 3 rfl).trans (by rw [den_val]; exact den_val _ _)
      · rw [eo 4 (by decide)]; exact (hr3.ar.tm 4 rfl).trans (by rw [den_val]; exact den_val _ _)
      · rw [eo 5 (by decide)]; exact (hr3.ar.tm 5 rfl).trans (by rw [den_ptr]; exact den_ptr _ 0 0)
      · rw [put_self a3 19 _ (by omega), den_slc]; rfl
    · simp only [List.mem_cons, List.not_mem_nil, or_false] at hp
      rcases hp with rfl | rfl | rfl | rfl | rfl
      · exact ok_xs
      · exact ok_val _ _
      · exact ok_val _ _
      · exact ok_ptr.2 rfl
      · exact ok_slc.2 rfl
    · rcases pickM_two hk with ⟨rfl, rfl⟩ | ⟨rfl, rfl⟩
      · refine ⟨hb0.1, ?_, fun c hc => (simple_sh _ _ _ _ _ c hc).ok _⟩
        show w4.heap[m3 0]? = _
        rw [hw40]
        rfl
      · refine ⟨hgb, ?_, fun c hc => ?_⟩
        · show w4.heap[g]? = _
          rw [vals_den']
          exact hgh
        · obtain ⟨u, _, rfl⟩ := List.mem_map.1 hc
          exact ok_val _ _
    · rcases pickM_two hk with ⟨rfl, _⟩ | ⟨rfl, _⟩ <;> rcases pickM_two hk' with ⟨rfl, _⟩ | ⟨rfl, _⟩
      · rfl
      · exact absurd he hne
      · exact absurd he.symm hne
      · rfl
    · cases hq : pickM _ b with
      | none => rfl
      | some k => rcases pickM_two hq with ⟨rfl, _⟩ | ⟨rfl, _⟩ <;> omega
  obtain ⟨st, hst, hpr⟩ := Option.map_eq_some_iff.1 (cp4 M bx a i v ((M a).g i) (cur.toList.map SV.val) ((M a).g i).n c)
  simp only [Prod.mk.injEq] at hpr
  obtain ⟨p0, p3, p4, p5, pm0, pm1⟩ := hpr
  rw [← List.append_nil (ops6.toList.drop 4)]
  refine ops_sound_tail ext_sound hIw C.hs C.hXO hc [] _ _ _ _ _ _ hst hr4 ?_
  intro m5 a5 w5 _ hr5
  refine tail7 (bx := bx) (m := m5) (cur := cur) hI hn h hi ?_ h1 h2 h3 h4 hQ
  have q0 := hr5.mr.blk 0 _ pm0
  have q1 := hr5.mr.blk 1 _ pm1
  refine epochB hr5.mr.below hr5.ar.size hr5.ar.defers _ _ _ (fun p hp => ?_) (fun p hp => ?_) (fun b k hk => ?_) (fun b b' k k' hk hk' he => ?_) (fun b hb => ?_)
  · simp only [List.mem_cons, List.not_mem_nil, or_false] at hp
    rcases hp with rfl | rfl | rfl | rfl
    · exact (hr5.ar.tm 0 (by rw [p0]; rfl)).trans (by rw [p0])
    · exact (hr5.ar.tm 3 (by rw [p3]; rfl)).trans (by rw [p3])
    · exact (hr5.ar.tm 4 (by rw [p4]; rfl)).trans (by rw [p4])
    · exact (hr5.ar.tm 5 (by rw [p5]; rfl)).trans (by rw [p5])
  · simp only [List.mem_cons, List.not_mem_nil, or_false] at hp
    rcases hp with rfl | rfl | rfl | rfl
    · exact ok_xs
    · exact ok_val _ _
    · exact ok_val _ _
    · exact ok_ptr.2 rfl
  · rcases pickM_two hk with ⟨rfl, rfl⟩ | ⟨rfl, rfl⟩
    · refine ⟨q0.1, q0.2.1, fun c hc => ?_⟩
      simp only [shCells7, List.mem_cons, List.not_mem_nil, or_false] at hc
      rcases hc with rfl | rfl | rfl | rfl | rfl | rfl | rfl | rfl <;> first | exact ok_val _ _ | exact ok_slc.2 rfl
    · refine ⟨q1.1, q1.2.1, fun c hc => ?_⟩
      obtain ⟨u, _, rfl⟩ := List.mem_map.1 hc
      exact ok_val _ _
  · rcases pickM_two hk with ⟨rfl, _⟩ | ⟨rfl, _⟩ <;> rcases pickM_two hk' with ⟨rfl, _⟩ | ⟨rfl, _⟩
    · rfl
    · exact hr5.mr.inj 0 1 _ _ pm0 pm1 he
    · exact hr5.mr.inj 1 0 _ _ pm1 pm0 he
    · rfl
  · cases hq : pickM _ b with
    | none => rfl
    | some k => rcases pickM_two hq with ⟨rfl, _⟩ | ⟨rfl, _⟩ <;> omega
set_option maxRecDepth 100000 in
theorem inner (hI : Inv M bx w0) (hn : (M a).n ≤ 1048576) (hp : ∀ j, ((M a).g j).n ≤ 1048576) (hnil : ∀ j, ((M a).g j).A = none → ((M a).g j).n = 0 ∧ ((M a).g j).c = 0)
    {i : Nat} {v : Value} {S : Nat → Value} {act a1 : Act} {w w1 : World} {m1 : Nat → Nat} (h : Head M a w0 i i v S act w) (hi : i < (M a).n) (hr1 : @SR (rowsB M bx) w 26 m1 ((hd a i v).st 0) a1 w1) {Q : Exit → Act → World → Prop}
    (hQ : ∀ v' S' act' w', Head M a w0 i (i + 1) v' S' act' w' → Q .normal act' w') : wpL Tryd.prog inn Q a1 w1 := by
  letI := rowsB M bx
  have hIw : Inv M bx w := inv_stable _ _ _ _ hI h.below
  have C := ctxB M bx Bvents5 entsS_nil
  have hc : CallSound Tryd.prog (Inv M bx) cw := call_sound C.hs C.hG (ev_sound mixed ext_sound C.hs C.hXO C.hG 0).1
  rw [inn_eq, wpL_app]
  have e2 := cp2 M bx a i v
  rw [dlt hi, dge] at e2
  simp only [cond_true, Bool.and_self] at e2
  refine piece C.mix C.hX C.hs C.hXO C.hG e2 hIw hr1 (fun v hv => by cases hv) (fun ex d hd m2 a2 w2 hr2 => ?_)
  cases hd
  show (Code.region 6 ops6 false).wp Tryd.prog (Exit.then (wpL Tryd.prog [.region 7 ops7 false] Q) Q) a2 w2
  refine wp_region_list ?_
  rw [ops6_eq]
  obtain ⟨st3, hst3, hcut3⟩ := Option.bind_eq_some_iff.1 (cp3 M bx a i v ((M a).g i))
  refine ops_sound_tail ext_sound hIw C.hs C.hXO hc _ _ _ _ m2 a2 w2 hst3 hr2 ?_
  intro m3 a3 w3 _ hr3
  have hr3 := cut_sound hcut3 hr3
  have b3 := hr3.mr.below
  have e16 : a3.eval (.tmp 16) = .slice (some ⟨m3 1, 0, none⟩) 0 0 := (hr3.ar.tm 16 rfl).trans (den_slc m3 1 0 0 0)
  have e18 : a3.eval (.tmp 18) = .slice ((M a).g i).A ((M a).g i).n ((M a).g i).c := (hr3.ar.tm 18 rfl).trans (den_xs m3 [a, i])
  have hb1 := hr3.mr.blk 1 ⟨66, []⟩ rfl
  have hlit : w3.ownsRow w.heap.size 66 20 (.slice (some ⟨m3 1, 0, none⟩) 0 0) 0 [] := ⟨rfl, .inr ⟨m3 1, 0, #[], rfl, hb1.1, hb1.2.1, Nat.le_refl _, Nat.zero_le _, rfl, rfl⟩⟩
  have key : ∀ (g c' : Nat) (w4 : World), w4.ownsRow w.heap.size 66 20 (.slice (some ⟨g, 0, none⟩) ((M a).g i).n c') ((M a).g i).n (rowOf ((M a).g i)) → w3.grownBy w4 (some (m3 1)) → _ :=
    fun g c' w4 h1 h2 => tail6 (bx := bx) (Q := Q) hI hn h hi (st3 := st3) hr3 h1 h2 hQ
  obtain ⟨i66, z66, hi1, hi2, hi3, hi4, hi5⟩ := info66
  cases hA : ((M a).g i).A with
  | none =>
    obtain ⟨h0, h0c⟩ := hnil i hA
    rw [hA, h0, h0c] at e18
    refine wpList_append_own_none o19_guard (.tmp 16) (.tmp 18) 58 o19_op w.heap.size 66 i66 20 Tryd.underlying58 hi1 _ 0 [] e16 hlit e18 ?_
    have := key (m3 1) 0 w3 (by
      have e : rowOf ((M a).g i) = [] := by unfold rowOf; rw [h0]; rfl
      rw [e, h0]; exact hlit) ⟨rfl, rfl, rfl, Nat.le_refl _, fun _ _ _ => rfl⟩
    rw [h0] at this
    exact this
  | some ad =>
    rw [hA] at e18
    refine wpList_append_own w3 o19_guard (.tmp 16) (.tmp 18) 58 o19_op w.heap.size 66 i66 z66 20 192 Tryd.underlying58 hi1 hi2 hi3 hi4 hi5 (by decide) _ 0 [] e16 hlit ad ((M a).g i).n ((M a).g i).c (rowOf ((M a).g i)) e18 ?_ ?_ ?_ ?_ ?_ b3.size ?_
    · exact flat_len (fun t => Pr.list_length _) _
    · intro j u hu
      obtain ⟨t, k, ht, rfl, hk⟩ := flat_out (fun t => Pr.list_length _) _ _ _ hu
      have hX := (inv_stable M bx _ _ hIw b3).2 [a, i] t ht
      obtain ⟨_, _, ad', hA', _, hcell⟩ := hX
      have hA' : ((M a).g i).A = some ad' := hA'
      rw [hA] at hA'
      cases hA'
      have := hcell k (.val u) (by
        show (((M a).g i).g t).cells[k]? = _
        rw [Pr.cells_list, List.getElem?_map, hk]; rfl) m3
      rw [den_val] at this
      exact this
    · intro u hu
      obtain ⟨t, _, hu⟩ := List.mem_flatMap.1 hu
      exact Pr.list_one _ u hu
    · have : maxLen = 9223372036854775807 := by decide +kernel
      have := hp i
      omega
    · have := hp i
      omega
    · intro v' w4 hown hgr hnilv
      rw [Nat.zero_add, List.nil_append] at hown
      have hown' := hown
      rcases hown.2 with ⟨rfl, _⟩ | ⟨g, cap, cur, rfl, _⟩
      · have := (hnilv.1 rfl).1
        cases this
      · exact key g cap w4 hown' hgr
set_option maxRecDepth 100000 in
theorem round (hI : Inv M bx w0) (hn : (M a).n ≤ 1048576) (hp : ∀ j, ((M a).g j).n ≤ 1048576) (hnil : ∀ j, ((M a).g j).A = none → ((M a).g j).n = 0 ∧ ((M a).g j).c = 0)
    {i : Nat} {v : Value} {S : Nat → Value} {act : Act} {w : World} (h : Head M a w0 i i v S act w) (hi : i < (M a).n) {Q : Exit → Act → World → Prop}
    (hQ : ∀ v' S' act' w', Head M a w0 (i + 1) (i + 1) v' S' act' w' → Q .normal act' w') : wpL Tryd.prog rd Q act w := by
  letI := rowsB M bx
  have hIw : Inv M bx w := inv_stable _ _ _ _ hI h.below
  have C := ctxB M bx Bvents5 entsS_nil
  have hr := h.enter (bx := bx)
  rw [rd_eq, wpL_app]
  have e1 := cp1 M bx a i v
  rw [dlt hi] at e1
  simp only [cond_true] at e1
  refine piece C.mix C.hX C.hs C.hXO C.hG e1 hIw hr (fun v hv => by cases hv) (fun ex d hd m1 a1 w1 hr1 => ?_)
  cases hd
  show wpL Tryd.prog (Code.block 1 (inB (rd.getD 2 .skip)) :: rd.drop 3) Q a1 w1
  simp only [wpL]
  refine wp_block (wpL_flat _ ?_)
  refine inner (bx := bx) hI hn hp hnil h hi hr1 (fun v' S' act' w' h' => ?_)
  show wpL Tryd.prog (rd.drop 3) Q act' w'
  have hI' : Inv M bx w' := inv_stable _ _ _ _ hI h'.below
  have e6 := cp6 M bx a i v'
  rw [wr hi (by omega)] at e6
  refine piece C.mix C.hX C.hs C.hXO C.hG e6 hI' (h'.enter (bx := bx)) (fun v hv => by cases hv) (fun ex d hd m2 a2 w2 hr2 => ?_)
  cases hd
  exact hQ v' S' a2 w2 (h'.later (hr2.mr.below) hr2.ar.size hr2.ar.defers ((hr2.ar.tm 0 rfl).trans (den_xs _ [a])) ((hr2.ar.tm 3 rfl).trans (den_val _ _)) ((hr2.ar.tm 4 rfl).trans (den_val _ _)))
/-- What Copy hands out. -/
def Copied (M : Nat → Mo) (a : Nat) (w0 : World) (v : Value) (S : Nat → Value) (w : World) : Prop :=
  Below w0.heap.size w0 w ∧ w.ownsRow w0.heap.size 60 8 v (M a).n ((List.range (M a).n).flatMap fun j => shVals ((M a).g j) (S j)) ∧
  ∀ j, j < (M a).n → w.ownsRow w0.heap.size 66 20 (S j) ((M a).g j).n (rowOf ((M a).g j))
set_option maxRecDepth 100000 in
theorem calls (hI : Inv M bx w0) (hn : (M a).n ≤ 1048576) (hp : ∀ j, ((M a).g j).n ≤ 1048576) (hnil : ∀ j, ((M a).g j).A = none → ((M a).g j).n = 0 ∧ ((M a).g j).c = 0) :
    Calls Tryd.prog 36 #[.slice (M a).A (M a).n (M a).c] w0 (fun e w' => ∃ v S, e = .returned v ∧ Copied M a w0 v S w') := by
  letI := rowsB M bx
  have C := ctxB M bx Bvents5 entsS_nil
  refine calls_of_wp Tryd.func36 (c := Tryd.f36.body.getD .skip) (by kernel_rfl) ?_
  refine wpL_flat _ ?_
  show wpL Tryd.prog (bodyOf Tryd.f36) _ _ _
  rw [split_loop (bodyOf Tryd.f36) (by kernel_rfl), wpL_app]
  have hst := start_sound (fn := Tryd.f36) [.xs [a]] (fun x hx => by
    simp only [List.mem_cons, List.not_mem_nil, or_false] at hx
    subst hx
    exact ok_xs) w0 (fun _ => 0)
  have loop : ∀ (k i : Nat) (v : Value) (S : Nat → Value) (act : Act) (w : World), Head M a w0 i i v S act w → i ≤ (M a).n → (M a).n - i < k →
      Code.rounds Tryd.prog (roundOf (bodyOf Tryd.f36)) (Exit.inBlock (idOf (bodyOf Tryd.f36)) (Exit.then (wpL Tryd.prog (postOf (bodyOf Tryd.f36)) (bodyPost Tryd.prog Tryd.f36 (fun e w' => ∃ v S, e = .returned v ∧ Copied M a w0 v S w'))) (bodyPost Tryd.prog Tryd.f36 (fun e w' => ∃ v S, e = .returned v ∧ Copied M a w0 v S w')))) k act w := by
    intro k
    induction k with
    | zero => intro i v S act w h h1 h2; omega
    | succ k ih =>
      intro i v S act w h h1 h2
      rw [rounds_succ]
      refine wpL_flat _ ?_
      show wpL Tryd.prog rd _ act w
      by_cases hi : i < (M a).n
      · exact round (bx := bx) hI hn hp hnil h hi (fun v' S' act' w' h' => ih (i + 1) v' S' act' w' h' (by omega) (by omega))
      · obtain rfl : i = (M a).n := by omega
        have hIw : Inv M bx w := inv_stable _ _ _ _ hI h.below
        rw [rd_eq, wpL_app]
        have e1 := cp1 M bx a (M a).n v
        rw [dnl] at e1
        simp only [cond_false] at e1
        refine piece C.mix C.hX C.hs C.hXO C.hG e1 hIw (h.enter (bx := bx)) (fun v hv => by cases hv) (fun ex d hd m1 a1 w1 hr1 => ?_)
        cases hd
        have h1 := h.later (hr1.mr.below) hr1.ar.size hr1.ar.defers ((hr1.ar.tm 0 rfl).trans (den_xs _ [a])) ((hr1.ar.tm 3 rfl).trans (den_val _ _)) ((hr1.ar.tm 4 rfl).trans (den_val _ _))
        have hI1 : Inv M bx w1 := inv_stable _ _ _ _ hI h1.below
        show wpL Tryd.prog (postOf (bodyOf Tryd.f36)) _ a1 w1
        refine piece C.mix C.hX C.hs C.hXO C.hG (cp7 M bx a (M a).n v) hI1 (h1.enter (bx := bx)) (fun u hu m' a' w' g1 g2 g3 => ?_) (fun ex d hd => by cases hd)
        cases hu
        rw [den_val] at g2
        have h2 := h1.below.trans (g3.mono h1.below.size)
        exact ⟨g1, _, g2, v, S, rfl, h2, h1.own.kept (grown_of g3 none) (by cases hv : v.ownBlock <;> simp), fun j hj => (h1.rows j hj).kept (grown_of g3 none) (by cases hv : (S j).ownBlock <;> simp)⟩
  refine piece C.mix C.hX C.hs C.hXO C.hG (cp0 M bx a) hI hst (fun v hv => by cases hv) (fun ex d hd m1 a1 w1 hr1 => ?_)
  cases hd
  show wpL Tryd.prog (Code.block (idOf (bodyOf Tryd.f36)) (.loop (roundOf (bodyOf Tryd.f36))) :: postOf (bodyOf Tryd.f36)) _ a1 w1
  simp only [wpL]
  refine wp_block (wp_loop_rounds ((M a).n + 1) ?_)
  refine loop ((M a).n + 1) 0 (.slice none 0 0) (fun _ => undef) a1 w1 ⟨hr1.mr.below, hr1.ar.size, hr1.ar.defers, (hr1.ar.tm 0 rfl).trans (den_xs _ [a]), (hr1.ar.tm 3 rfl).trans (den_val _ _), (hr1.ar.tm 4 rfl).trans (den_val _ _), World.ownsRow_nil _ _ _ _, fun j hj => absurd hj (Nat.not_lt_zero _)⟩ (Nat.zero_le _) (by omega)
end
end Copy
end Go.Proofs.YtaojjpdlfnphiaaDoor.PDescKinds

/-! #### part B9 -/
set_option linter.unusedSimpArgs false
set_option linter.unusedVariables false
set_option linter.unusedSectionVars false
namespace Go.Proofs.YtaojjpdlfnphiaaDoor.PDescKinds
open Go.RowKit Go.Ev
def slA : Value → Option Addr
  | .slice A _ _ => A
  | _ => none
def slC : Value → Nat
  | .slice _ _ c => c
  | _ => 0
/-- The same moment, elsewhere. -/
def Twin (mo m : Mo) : Prop := mo.n = m.n ∧ ∃ f : Nat → Option Addr × Nat, mo.g = fun j => { m.g j with A := (f j).1, c := (f j).2 }
theorem own_slice {w : World} {b e z n : Nat} {v : Value} {xs : List Value} (h : w.ownsRow b e z v n xs) : v = .slice (slA v) n (slC v) ∧ (slA v = none → n = 0 ∧ slC v = 0) := by
  rcases h.2 with ⟨rfl, rfl⟩ | ⟨g, cap, cur, rfl, _⟩
  · exact ⟨rfl, fun _ => ⟨rfl, rfl⟩⟩
  · exact ⟨rfl, fun h => by cases h⟩
theorem own_cell {w : World} {b e z n : Nat} {v : Value} {f : Nat → List Value} (hz : ∀ t, (f t).length = z) (h : w.ownsRow b e z v n ((List.range n).flatMap f)) (t : Nat) (ht : t < n) :
    ∃ a, slA v = some a ∧ a.block < w.heap.size ∧ ∀ k u, (f t)[k]? = some u → w.cell? (a.add (t * z + k)) = some u := by
  have hl := h.lt
  have hc := h.cells (g := (v.ownBlock).getD 0)
  rcases h.2 with ⟨_, h0⟩ | ⟨g, cap, cur, rfl, _⟩
  · omega
  · exact ⟨⟨g, 0, none⟩, rfl, (hl g rfl).2, fun k u hk => hc rfl _ _ (flat_in hz n t k u ht hk)⟩
theorem copied_mo {M : Nat → Mo} {a : Nat} {w0 w : World} {v : Value} {S : Nat → Value} (h : Copy.Copied M a w0 v S w) (hr : RawMo w0 (M a)) :
    ∃ mo : Mo, v = .slice mo.A mo.n mo.c ∧ RawMo w mo ∧ Twin mo (M a) := by
  obtain ⟨hb, ho, hrow⟩ := h
  have hr' := hr.below hb
  refine ⟨⟨slA v, (M a).n, slC v, fun j => { (M a).g j with A := if j < (M a).n then slA (S j) else ((M a).g j).A, c := if j < (M a).n then slC (S j) else ((M a).g j).c }⟩, (own_slice ho).1, ?_, rfl, fun j => (if j < (M a).n then slA (S j) else ((M a).g j).A, if j < (M a).n then slC (S j) else ((M a).g j).c), rfl⟩
  refine ⟨fun j hj => ?_, fun j hj => ?_, fun j i hi => ?_⟩
  · simp only at hj ⊢
    by_cases h : j < (M a).n
    · simp only [if_pos h] at hj ⊢
      exact (own_slice (hrow j h)).2 hj
    · simp only [if_neg h] at hj ⊢
      exact hr.nils j hj
  · simp only at hj ⊢
    obtain ⟨ad, h1, h2, h3⟩ := own_cell (fun t => shVals_length _ _) ho j hj
    refine ⟨ad, h1, h2, fun t u ht => h3 t u ?_⟩
    simp only [Sh.row, if_pos hj] at ht
    have e := (own_slice (hrow j hj)).1
    rw [e]
    exact ht
  · simp only at hi ⊢
    by_cases h : j < (M a).n
    · simp only [if_pos h]
      exact own_cell (fun t => Pr.list_length _) (hrow j h) i hi
    · simp only [if_neg h]
      exact hr'.row j i hi
/-! A call of one argument, and its answer in a variable -/
theorem call_region {P : Program} {id : Nat} {ops : Array Oper} {mv cl asg : Oper} {src d1 d2 d3 : Nat} {f : FuncId} {ats : Array TypeId} {va : Value} {a : Act} {w : World} {N : Nat} {R : Ending → World → Prop} {Q : Exit → Act → World → Prop}
    (hops : ops.toList = [mv, cl, asg]) (g1 : mv.guard = none) (g2 : cl.guard = none) (g3 : asg.guard = none) (o1 : mv.op = .move (.tmp src)) (t1 : mv.dst = some d1) (o2 : cl.op = .call { callee := .value (.func f), args := #[.tmp d1], argTypes := ats }) (t2 : cl.dst = some d2)
    (o3 : asg.op = .assign (.tmp d2)) (t3 : asg.dst = some d3) (he : enters P f = true) (hs : a.tmps.size = N) (l1 : d1 < N) (l2 : d2 < N) (hv : a.tmps.getD src undef = va) (hc : Calls P f #[va] w R) (hR : ∀ e w', R e w' → ∃ v, e = .returned v)
    (h : ∀ v w', R (.returned v) w' → Q .normal (((a.put (some d1) va).put (some d2) v).put (some d3) v) w') : (Code.region id ops false).wp P Q a w := by
  refine wp_region_list ?_
  rw [hops]
  refine wpList_plain g1 fun K hK => ?_
  have e1 : a.eval (.tmp src) = va := hv
  have x1 : (execOp a.eval mv).run P w = .ok (.value va) w := by
    unfold execOp
    simp only [o1, e1, Sem.run_pure]
  unfold Oper.wp
  rw [x1, Oper.upon_value, t1]
  refine hK _ _ (wpList_plain g2 fun K hK => ?_)
  have e2 : (a.put (some d1) va).eval (.tmp d1) = va := Copy.put_self a d1 va (by omega)
  have x2 : (execOp (a.put (some d1) va).eval cl).run P w = .ok (.enter f #[va]) w := by
    rw [← run_enters he #[va] w]
    unfold execOp
    have em : (#[Operand.tmp d1] : Array Operand).map (a.put (some d1) va).eval = #[va] := by simp [e2]
    simp only [o2, resolve, em, Act.eval, Deferred.ofValue, Sem.run_bind, Sem.run_pure, Result.andThen_ok, invoke]
    simp
  unfold Oper.wp
  rw [x2, Oper.upon_enter, t2]
  refine Calls.mono hc fun e w' hr => ?_
  obtain ⟨v, rfl⟩ := hR e w' hr
  refine hK _ _ (wpList_plain g3 fun K hK => ?_)
  have e3 : ((a.put (some d1) va).put (some d2) v).eval (.tmp d2) = v := Copy.put_self _ d2 v (by simp [Act.put]; omega)
  have x3 : (execOp ((a.put (some d1) va).put (some d2) v).eval asg).run P w' = .ok (.value v) w' := by
    unfold execOp
    simp only [o3, e3, Sem.run_pure]
  unfold Oper.wp
  rw [x3, Oper.upon_value, t3]
  exact hK _ _ (h v w' hr)
theorem body_mono {P : Program} {fn : Func} {R R' : Ending → World → Prop} (h : ∀ e w, R e w → R' e w) {e : Exit} {a : Act} {w : World} (hb : bodyPost P fn R e a w) : bodyPost P fn R' e a w := by
  cases e with
  | normal => obtain ⟨h1, v, h2, h3⟩ := hb; exact ⟨h1, v, h2, h _ _ h3⟩
  | ret => obtain ⟨h1, v, h2, h3⟩ := hb; exact ⟨h1, v, h2, h _ _ h3⟩
  | panic c => exact ⟨hb.1, h _ _ hb.2⟩
  | outgrown => exact h _ _ hb
  | _ => exact hb
/-! The law -/
def Sh0 : Sh := ⟨0, S.V0, false, none, 0, 0, fun _ => ⟨⟨⟨#[]⟩, 0⟩, S.D0⟩⟩
def Mo0 : Mo := ⟨none, 0, 0, fun _ => Sh0⟩
def moments (m0 m1 m2 m3 : Mo) : Nat → Mo
  | 0 => m0
  | 1 => m1
  | 2 => m2
  | 3 => m3
  | _ => Mo0
theorem raw0 (w : World) : RawMo w Mo0 := ⟨fun _ _ => ⟨rfl, rfl⟩, fun j hj => absurd hj (Nat.not_lt_zero _), fun j i hi => absurd hi (Nat.not_lt_zero _)⟩
theorem raw_moments {w : World} {m0 m1 m2 m3 : Mo} (h0 : RawMo w m0) (h1 : RawMo w m1) (h2 : RawMo w m2) (h3 : RawMo w m3) : ∀ k, RawMo w (moments m0 m1 m2 m3 k)
  | 0 => h0
  | 1 => h1
  | 2 => h2
  | 3 => h3
  | _ + 4 => raw0 w
def Small (m : Mo) : Prop := m.n ≤ 1048576 ∧ ∀ j, (m.g j).n ≤ 1048576
theorem small0 : Small Mo0 := ⟨by decide, fun _ => by show 0 ≤ _; omega⟩
theorem fit_moments {m0 m1 m2 m3 : Mo} (h0 : Small m0) (h1 : Small m1) (h2 : Small m2) (h3 : Small m3) : Fit (moments m0 m1 m2 m3) := by
  have key : ∀ m : Mo, Small m → (m.n : Int) ≤ 9223372036854775807 ∧ ∀ j, ((m.g j).n : Int) ≤ 9223372036854775807 := fun m h => ⟨by have := h.1; omega, fun j => by have := h.2 j; omega⟩
  intro k
  match k with
  | 0 => exact key m0 h0
  | 1 => exact key m1 h1
  | 2 => exact key m2 h2
  | 3 => exact key m3 h3
  | _ + 4 => exact key Mo0 small0
theorem Twin.small {mo m : Mo} (h : Twin mo m) (hs : Small m) : Small mo := by
  obtain ⟨h1, f, h2⟩ := h
  refine ⟨by rw [h1]; exact hs.1, fun j => ?_⟩
  rw [h2]
  exact hs.2 j
namespace Brk
noncomputable def r3 : Code := (bodyOf Tryd.f8).getD 3 .skip
noncomputable def r4 : Code := (bodyOf Tryd.f8).getD 4 .skip
noncomputable def o (c : Code) (k : Nat) : Oper := (opsOf c).toList.getD k default
theorem split8 : bodyOf Tryd.f8 = brkA ++ (.region 3 (opsOf r3) false :: .region 4 (opsOf r4) false :: brkR) := by kernel_rfl
theorem ops3 : (opsOf r3).toList = [o r3 0, o r3 1, o r3 2] := by kernel_rfl
theorem ops4 : (opsOf r4).toList = [o r4 0, o r4 1, o r4 2] := by kernel_rfl
/-- What the plain law must give. -/
structure Plain (m0 m1 m2 m3 : Mo) : Prop where
  broken : S.brokenO m2 m3 = R.broken m0 m1
  same : S.sameC m2 m3 = R.sameM m0 m1
  sealed : ∀ i, i < m2.n → S.sealedC (m2.g i) = R.sealed (m0.g i)
  frozen : ∀ i, i < m2.n → S.frozenC (m2.g i) = R.frozen (m0.g i)
  back0 : R.sameM m2 m0 = true
  back1 : R.sameM m3 m1 = true
set_option maxRecDepth 100000 in
theorem calls {m0 m1 : Mo} {w : World} (ht : Tabs w) (h0 : RawMo w m0) (h1 : RawMo w m1) (s0 : Small m0) (s1 : Small m1) (hplain : ∀ m2 m3, Twin m2 m0 → Twin m3 m1 → Plain m0 m1 m2 m3) :
    Calls Tryd.prog 8 #[.slice m0.A m0.n m0.c, .slice m1.A m1.n m1.c] w (fun e w' => e = .returned (.bool true) ∧ Below w.heap.size w w') := by
  have hI : Inv (moments m0 m1 Mo0 Mo0) noBox w := ⟨ht, xok_raw (raw_moments h0 h1 (raw0 w) (raw0 w))⟩
  have hM := fit_moments s0 s1 small0 small0
  have hfew : ∀ p ∈ ([(35, noMem (onM fun a => LB (S.few (moments m0 m1 Mo0 Mo0 a))))] : TabS), Ent (moments m0 m1 Mo0 Mo0) noBox p := entsS_cons (ent_few35 _ _ hM) entsS_nil
  letI := rowsB (moments m0 m1 Mo0 Mo0) noBox
  have C := ctxB (moments m0 m1 Mo0 Mo0) noBox Bvents5 hfew
  refine calls_of_wp Tryd.func8 (c := Tryd.f8.body.getD .skip) (by kernel_rfl) ?_
  refine wpL_flat _ ?_
  show wpL Tryd.prog (bodyOf Tryd.f8) _ _ _
  rw [split8, wpL_app]
  have hst := start_sound (fn := Tryd.f8) [.xs [0], .xs [1]] (fun x hx => by
    simp only [List.mem_cons, List.not_mem_nil, or_false] at hx
    rcases hx with rfl | rfl <;> exact ok_xs) w (fun _ => 0)
  have hev := brkA_all (moments m0 m1 Mo0 Mo0) noBox
  have hret : ∀ (m' : Nat → Nat) (a' : Act) (w' : World), a'.defers = [] → (results Tryd.f8 a'.tmps).run Tryd.prog w' = .ok ((SV.val (.bool true)).den m') w' → Below w.heap.size w w' → bodyPost Tryd.prog Tryd.f8 (fun e w' => e = .returned (.bool true) ∧ Below w.heap.size w w') .ret a' w' := by
    intro m' a' w' g1 g2 g3
    rw [den_val] at g2
    exact ⟨g1, _, g2, rfl, g3⟩
  cases f0 : S.few (moments m0 m1 Mo0 Mo0 0) with
  | false =>
    rw [f0] at hev
    refine piece C.mix C.hX C.hs C.hXO C.hG hev hI hst (fun v hv => ?_) (fun ex d hd => by cases hd)
    cases hv
    exact hret
  | true =>
  cases f1 : S.few (moments m0 m1 Mo0 Mo0 1) with
  | false =>
    rw [f0, f1] at hev
    refine piece C.mix C.hX C.hs C.hXO C.hG hev hI hst (fun v hv => ?_) (fun ex d hd => by cases hd)
    cases hv
    exact hret
  | true =>
  rw [f0, f1] at hev
  refine piece C.mix C.hX C.hs C.hXO C.hG hev hI hst (fun v hv => by cases hv) (fun ex d hd m' a1 w1 hr1 => ?_)
  cases hd
  simp only [Ex.out, Exit.then, wpL]
  have b1 : Below w.heap.size w w1 := hr1.mr.below
  have hI1 : Inv (moments m0 m1 Mo0 Mo0) noBox w1 := inv_stable _ _ _ _ hI b1
  have hs1 : a1.tmps.size = 91 := hr1.ar.size
  have t0 : a1.tmps.getD 0 undef = .slice m0.A m0.n m0.c := (hr1.ar.tm 0 rfl).trans (den_xs _ [0])
  have t1 : a1.tmps.getD 1 undef = .slice m1.A m1.n m1.c := (hr1.ar.tm 1 rfl).trans (den_xs _ [1])
  -- the first copy
  refine call_region (mv := o r3 0) (cl := o r3 1) (asg := o r3 2) (src := 0) (d1 := 20) (d2 := 21) (d3 := 5) (f := 36) (ats := #[51]) (N := 91) ops3 (by kernel_rfl) (by kernel_rfl) (by kernel_rfl) (by kernel_rfl) (by kernel_rfl) (by kernel_rfl) (by kernel_rfl) (by kernel_rfl) (by kernel_rfl) (by kernel_rfl) hs1 (by decide) (by decide) t0
    (Copy.calls (M := moments m0 m1 Mo0 Mo0) (bx := noBox) (a := 0) hI1 s0.1 s0.2 h0.nils) (fun e w' ⟨v, _, h, _⟩ => ⟨v, h⟩) (fun v2 w2 ⟨v2', S2, e2, c2⟩ => ?_)
  cases e2
  have b2 : Below w.heap.size w w2 := b1.trans (c2.1.mono b1.size)
  obtain ⟨mb, rfl, rb, tb⟩ := copied_mo c2 (h0.below b1)
  have hI2 : Inv (moments m0 m1 Mo0 Mo0) noBox w2 := inv_stable _ _ _ _ hI b2
  generalize ha2 : ((a1.put (some 20) (.slice m0.A m0.n m0.c)).put (some 21) (.slice mb.A mb.n mb.c)).put (some 5) (.slice mb.A mb.n mb.c) = a2
  have hs2 : a2.tmps.size = 91 := by rw [← ha2]; simp [Act.put, hs1]
  have d2 : a2.defers = [] := by rw [← ha2]; exact hr1.ar.defers
  have u0 : a2.tmps.getD 0 undef = .slice m0.A m0.n m0.c := by rw [← ha2, Copy.put_ne _ _ _ _ (by decide), Copy.put_ne _ _ _ _ (by decide), Copy.put_ne _ _ _ _ (by decide)]; exact t0
  have u1 : a2.tmps.getD 1 undef = .slice m1.A m1.n m1.c := by rw [← ha2, Copy.put_ne _ _ _ _ (by decide), Copy.put_ne _ _ _ _ (by decide), Copy.put_ne _ _ _ _ (by decide)]; exact t1
  have u5 : a2.tmps.getD 5 undef = .slice mb.A mb.n mb.c := by rw [← ha2]; exact Copy.put_self _ 5 _ (by simp [Act.put, hs1])
  -- the second
  show (Code.region 4 (opsOf r4) false).wp Tryd.prog _ a2 w2
  refine call_region (mv := o r4 0) (cl := o r4 1) (asg := o r4 2) (src := 1) (d1 := 22) (d2 := 23) (d3 := 6) (f := 36) (ats := #[51]) (N := 91) ops4 (by kernel_rfl) (by kernel_rfl) (by kernel_rfl) (by kernel_rfl) (by kernel_rfl) (by kernel_rfl) (by kernel_rfl) (by kernel_rfl) (by kernel_rfl) (by kernel_rfl) hs2 (by decide) (by decide) u1
    (Copy.calls (M := moments m0 m1 Mo0 Mo0) (bx := noBox) (a := 1) hI2 s1.1 s1.2 h1.nils) (fun e w' ⟨v, _, h, _⟩ => ⟨v, h⟩) (fun v3 w3 ⟨v3', S3, e3, c3⟩ => ?_)
  cases e3
  have b3 : Below w.heap.size w w3 := b2.trans (c3.1.mono b2.size)
  obtain ⟨ma, rfl, ra, ta⟩ := copied_mo c3 (h1.below b2)
  generalize ha3 : ((a2.put (some 22) (.slice m1.A m1.n m1.c)).put (some 23) (.slice ma.A ma.n ma.c)).put (some 6) (.slice ma.A ma.n ma.c) = a3
  have hs3 : a3.tmps.size = 91 := by rw [← ha3]; simp [Act.put, hs2]
  have d3 : a3.defers = [] := by rw [← ha3]; exact d2
  have x0 : a3.tmps.getD 0 undef = .slice m0.A m0.n m0.c := by rw [← ha3, Copy.put_ne _ _ _ _ (by decide), Copy.put_ne _ _ _ _ (by decide), Copy.put_ne _ _ _ _ (by decide)]; exact u0
  have x1 : a3.tmps.getD 1 undef = .slice m1.A m1.n m1.c := by rw [← ha3, Copy.put_ne _ _ _ _ (by decide), Copy.put_ne _ _ _ _ (by decide), Copy.put_ne _ _ _ _ (by decide)]; exact u1
  have x5 : a3.tmps.getD 5 undef = .slice mb.A mb.n mb.c := by rw [← ha3, Copy.put_ne _ _ _ _ (by decide), Copy.put_ne _ _ _ _ (by decide), Copy.put_ne _ _ _ _ (by decide)]; exact u5
  have x6 : a3.tmps.getD 6 undef = .slice ma.A ma.n ma.c := by rw [← ha3]; exact Copy.put_self _ 6 _ (by simp [Act.put, hs2])
  show wpL Tryd.prog brkR _ a3 w3
  have hp := hplain mb ma tb ta
  have hI3 : Inv (moments m0 m1 mb ma) noBox w3 := ⟨tabs_stable _ _ ht b3, xok_raw (raw_moments (h0.below b3) (h1.below b3) (rb.below c3.1) ra)⟩
  have hrun := run_brkR (moments m0 m1 mb ma) noBox (fit_moments s0 s1 (tb.small s0) (ta.small s1)) tb.1 hp.broken hp.same hp.sealed hp.frozen hp.back0 hp.back1
  have hsr : @SR (rowsB (moments m0 m1 mb ma) noBox) w3 91 (fun _ => 0) ((⟨[(0, .xs [0]), (1, .xs [1]), (5, .xs [2]), (6, .xs [3])], []⟩ : Cut).st 0) a3 w3 := by
    letI := rowsB (moments m0 m1 mb ma) noBox
    refine epoch hs3 d3 _ _ (fun p hp => ?_) (fun p hp => ?_)
    · simp only [List.mem_cons, List.not_mem_nil, or_false] at hp
      rcases hp with rfl | rfl | rfl | rfl
      · exact x0.trans (den_xs _ [0]).symm
      · exact x1.trans (den_xs _ [1]).symm
      · exact x5.trans (den_xs _ [2]).symm
      · exact x6.trans (den_xs _ [3]).symm
    · simp only [List.mem_cons, List.not_mem_nil, or_false] at hp
      rcases hp with rfl | rfl | rfl | rfl <;> exact ok_xs
  refine wpL_mono brkR (hrun w3 hI3 _ a3 w3 hsr) fun e a' w' h => body_mono (fun e w' ⟨⟨m', he⟩, g3⟩ => ?_) h
  rw [@den_val (rowsB (moments m0 m1 mb ma) noBox)] at he
  exact ⟨he, b3.trans (g3.mono b3.size)⟩
end Brk
end Go.Proofs.YtaojjpdlfnphiaaDoor.PDescKinds

