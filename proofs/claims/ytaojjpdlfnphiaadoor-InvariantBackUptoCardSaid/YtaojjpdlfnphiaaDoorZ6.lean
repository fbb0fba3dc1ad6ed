/- Parts of the proof, joined (6). -/
import Derived.Test.YtaojjpdlfnphiaaDoorZ5
section
/- Parts of the proof, joined (7). -/
section
/- invariant.Patch: its pieces, by computing. -/
set_option linter.unusedSimpArgs false
set_option linter.unusedVariables false
set_option linter.unusedSectionVars false
namespace Go.Proofs.YtaojjpdlfnphiaaDoor.PDescKinds
open Go.RowKit Go.Ev
/-- One row that came in. -/
@[instance_reducible] def rowL (A : Option Addr) (n c : Nat) (g : Nat → Dl) : XEnv := ⟨fun _ => ⟨A, 29, n, c, fun j => (g j).cells⟩⟩
namespace Pa
noncomputable def pt : List Code := bodyOf Tryd.f51
noncomputable def rd : List Code := flat (roundOf pt)
noncomputable def inn : List Code := flat (inB (rd.getD 2 .skip))
noncomputable def o5 : Array Oper := opsOf (inn.getD 1 .skip)
noncomputable def o6 : Array Oper := opsOf (inn.getD 2 .skip)
noncomputable def p2 : List Code := pt.drop 4
noncomputable def rd2 : List Code := flat (roundOf p2)
noncomputable def inn2 : List Code := flat (inB (rd2.getD 2 .skip))
noncomputable def o11 : Array Oper := opsOf (inn2.getD 1 .skip)
noncomputable def o12 : Array Oper := opsOf (inn2.getD 2 .skip)
noncomputable def o14 : Array Oper := opsOf (inn2.getD 4 .skip)
set_option maxRecDepth 100000
theorem pt_eq : pt = pt.take 3 ++ (.block 0 (.loop (roundOf pt)) :: p2) := by kernel_rfl
theorem rd_eq : rd = rd.take 2 ++ (.block 1 (inB (rd.getD 2 .skip)) :: rd.drop 3) := by kernel_rfl
theorem inn_eq : inn = inn.take 1 ++ [.region 5 o5 false, .region 6 o6 false] := by kernel_rfl
theorem p2_eq : p2 = p2.take 1 ++ (.block 2 (.loop (roundOf p2)) :: p2.drop 2) := by kernel_rfl
theorem rd2_eq : rd2 = rd2.take 2 ++ (.block 3 (inB (rd2.getD 2 .skip)) :: rd2.drop 3) := by kernel_rfl
theorem inn2_eq : inn2 = inn2.take 1 ++ [.region 11 o11 false, .region 12 o12 false, .cond (.tmp 41) (thenOf (inn2.getD 3 .skip)) .skip, .region 14 o14 false] := by kernel_rfl
theorem o5_eq : o5.toList = o5.toList.take 2 ++ (o5.toList.getD 2 default :: ([o5.toList.getD 3 default] ++ [o5.toList.getD 4 default])) := by kernel_rfl
theorem o6_eq : o6.toList = o6.toList.take 2 ++ (o6.toList.getD 2 default :: o6.toList.getD 3 default :: ([o6.toList.getD 4 default] ++ [])) := by kernel_rfl
theorem o11_eq : o11.toList = o11.toList.take 2 ++ (o11.toList.getD 2 default :: (o11.toList.drop 3 ++ [])) := by kernel_rfl
theorem op5 : (o5.toList.getD 2 default).op = .call { callee := .value (.func 89), args := #[.tmp 20], argTypes := #[58] } := by kernel_rfl
theorem op11 : (o11.toList.getD 2 default).op = .call { callee := .value (.func 90), args := #[.tmp 35, .tmp 36], argTypes := #[51, 99] } := by kernel_rfl
abbrev H1 (M : Nat → Mo) (lv v : Value) (i : Nat) : List (Nat × SV) := [(1, .val lv), (6, .val v), (13, .xs [0]), (14, .val (.int .i64 (M 0).n)), (15, .val (.int .i64 (i : Int)))]
abbrev H2 (v : Value) (n j : Nat) : List (Nat × SV) := [(6, .val v), (28, .xs []), (29, .val (.int .i64 n)), (30, .val (.int .i64 (j : Int)))]
theorem a0 (M : Nat → Mo) (lv : Value) : letI := rowsB M noBox
    evK Tryd.prog ext (tab []) 80 45 (seqL (pt.take 3)) (⟨argS [.xs [0], .val lv], fun _ => none, 0⟩) (grab Tryd.prog Tryd.f51 [1, 6, 13, 14, 15] [] 0) =
    some (.cut .normal ⟨H1 M lv (.slice none 0 0) 0, []⟩) := by kernel_rfl
theorem a1 (M : Nat → Mo) (lv v : Value) (i : Nat) : letI := rowsB M noBox
    evK Tryd.prog ext (tab []) 80 45 (seqL (rd.take 2)) ((⟨H1 M lv v i, []⟩ : Cut).st 0) (grab Tryd.prog Tryd.f51 [1, 6, 13, 14, 15] [] 0) =
    bif decide ((i : Int) < ((M 0).n : Int)) then some (.cut .normal ⟨H1 M lv v i, []⟩) else some (.cut (.exit 0) ⟨H1 M lv v i, []⟩) := by kernel_rfl
theorem a2 (M : Nat → Mo) (lv v : Value) (i : Nat) : letI := rowsB M noBox
    evK Tryd.prog ext (tab []) 80 45 (seqL (inn.take 1)) ((⟨H1 M lv v i, []⟩ : Cut).st 0) (grab Tryd.prog Tryd.f51 [1, 6, 13, 14, 15, 8] [0] 1) =
    bif decide (0 ≤ (i : Int)) && decide ((i : Int) < ((M 0).n : Int)) then some (.cut .normal ⟨[(1, .val lv), (6, .val v), (13, .xs [0]), (14, .val (.int .i64 (M 0).n)), (15, .val (.int .i64 (i : Int))), (8, .ptr 0 0)], [(0, ⟨60, shCells ((M 0).g i).cl ((M 0).g i).p ((M 0).g i).x [0, i]⟩)]⟩) else none := by kernel_rfl
theorem a3 (M : Nat → Mo) (lv v : Value) (i : Nat) : letI := rowsB M noBox
    evK Tryd.prog ext (tab []) 80 45 (seqL (rd.drop 3)) ((⟨H1 M lv v i, []⟩ : Cut).st 0) (grab Tryd.prog Tryd.f51 [1, 6, 13, 14, 15] [] 0) =
    some (.cut .normal ⟨[(1, .val lv), (6, .val v), (13, .xs [0]), (14, .val (.int .i64 (M 0).n)), (15, .val (.int .i64 (IntKind.i64.wrap ((i : Int) + 1))))], []⟩) := by kernel_rfl
theorem c5a (bA : Option Addr) (s : Sh) (A : Option Addr) (n c : Nat) : letI := rowsX bA ((shVals s (.slice A n c)).map SV.val) bA ((shVals s (.slice A n c)).map SV.val)
    (reads Tryd.prog 45 (o5.toList.take 2) (pickT [(8, .xp [] 0 0)])).map (fun t => [20].map t) = some [.val (.slice A n c)] := by kernel_rfl
theorem c5b (P : Addr) (v : Value) : letI := row0
    (reads Tryd.prog 45 [o5.toList.getD 3 default] (pickT [(8, .val (.pointer (some P))), (21, .val v)])).map (fun t => [21, 22].map t) = some [.val v, .val (.pointer (some (P.add 7)))] := by kernel_rfl
theorem c6a (bA : Option Addr) (s : Sh) (A : Option Addr) (n c : Nat) (v : Value) : letI := rowsX bA ((shVals s (.slice A n c)).map SV.val) bA ((shVals s (.slice A n c)).map SV.val)
    (reads Tryd.prog 45 (o6.toList.take 2) (pickT [(6, .val v), (8, .xp [] 0 0)])).map (fun t => [23, 24].map t) = some [.val v, .val (.agg (shVals s (.slice A n c)).toArray)] := by kernel_rfl
theorem c6n (s : Sh) (u : Value) : letI := row0
    evOp Tryd.prog ext (fun _ _ _ _ => none) (Ev.look (pickT [(24, .val (.agg (shVals s u).toArray))])) (fun _ => none) 0 (o6.toList.getD 2 default) = some (.slc 0 0 1 1, .new ⟨60, (shVals s u).map SV.val⟩) := by kernel_rfl
theorem c6b (v : Value) : letI := row0
    (reads Tryd.prog 45 [o6.toList.getD 4 default] (pickT [(26, .val v)])).map (fun t => [6].map t) = some [.val v] := by kernel_rfl
theorem b0 (A : Option Addr) (n c : Nat) (g : Nat → Dl) (v : Value) : letI := rowL A n c g
    evK Tryd.prog ext (tab []) 80 45 (seqL (p2.take 1)) ((⟨[(1, .xs []), (6, .val v)], []⟩ : Cut).st 0) (grab Tryd.prog Tryd.f51 [6, 28, 29, 30] [] 0) =
    some (.cut .normal ⟨H2 v n 0, []⟩) := by kernel_rfl
theorem b1 (A : Option Addr) (n c : Nat) (g : Nat → Dl) (v : Value) (j : Nat) : letI := rowL A n c g
    evK Tryd.prog ext (tab []) 80 45 (seqL (rd2.take 2)) ((⟨H2 v n j, []⟩ : Cut).st 0) (grab Tryd.prog Tryd.f51 [6, 28, 29, 30] [] 0) =
    bif decide ((j : Int) < (n : Int)) then some (.cut .normal ⟨H2 v n j, []⟩) else some (.cut (.exit 2) ⟨H2 v n j, []⟩) := by kernel_rfl
theorem b2 (A : Option Addr) (n c : Nat) (g : Nat → Dl) (v : Value) (j : Nat) : letI := rowL A n c g
    evK Tryd.prog ext (tab []) 80 45 (seqL (inn2.take 1)) ((⟨H2 v n j, []⟩ : Cut).st 0) (grab Tryd.prog Tryd.f51 [6, 28, 29, 30, 10] [0] 1) =
    bif decide (0 ≤ (j : Int)) && decide ((j : Int) < (n : Int)) then some (.cut .normal ⟨[(6, .val v), (28, .xs []), (29, .val (.int .i64 n)), (30, .val (.int .i64 (j : Int))), (10, .ptr 0 0)], [(0, ⟨99, (g j).cells⟩)]⟩) else none := by kernel_rfl
theorem b3 (A : Option Addr) (n c : Nat) (g : Nat → Dl) (v : Value) (j : Nat) : letI := rowL A n c g
    evK Tryd.prog ext (tab []) 80 45 (seqL (rd2.drop 3)) ((⟨H2 v n j, []⟩ : Cut).st 0) (grab Tryd.prog Tryd.f51 [6, 28, 29, 30] [] 0) =
    some (.cut .normal ⟨[(6, .val v), (28, .xs []), (29, .val (.int .i64 n)), (30, .val (.int .i64 (IntKind.i64.wrap ((j : Int) + 1))))], []⟩) := by kernel_rfl
theorem d11 (bA : Option Addr) (δ : Dl) (v : Value) : letI := rowsX bA δ.cells bA δ.cells
    (reads Tryd.prog 45 (o11.toList.take 2) (pickT [(6, .val v), (10, .xp [] 0 0)])).map (fun t => [35, 36].map t) = some [.val v, .val δ.agg] := by kernel_rfl
theorem d11b (v : Value) (b : Bool) : letI := row0
    (reads Tryd.prog 45 (o11.toList.drop 3) (pickT [(37, .val (.tuple #[v, .bool b]))])).map (fun t => [11, 12].map t) = some [.val v, .val (.bool b)] := by kernel_rfl
theorem d12 (v : Value) (b : Bool) : letI := row0
    (reads Tryd.prog 45 o12.toList (pickT [(11, .val v), (12, .val (.bool b))])).map (fun t => [11, 41].map t) = some [.val v, .val (.bool !b)] := by kernel_rfl
theorem d14 (v : Value) : letI := row0
    (reads Tryd.prog 45 o14.toList (pickT [(11, .val v)])).map (fun t => [6].map t) = some [.val v] := by kernel_rfl
theorem d13 : letI := row0
    evK Tryd.prog ext (tab []) 80 45 (seqL (flat (thenOf (inn2.getD 3 .skip)))) ((⟨[], []⟩ : Cut).st 0) (grab Tryd.prog Tryd.f51 [] [] 0) = some (.ret (.val (.tuple #[.slice none 0 0, .int .i64 7]))) := by kernel_rfl
theorem d16 (v : Value) : letI := row0
    evK Tryd.prog ext (tab []) 80 45 (seqL (p2.drop 2)) ((⟨[(6, .val v)], []⟩ : Cut).st 0) (grab Tryd.prog Tryd.f51 [] [] 0) = some (.ret (.val (.tuple #[v, .int .i64 0]))) := by kernel_rfl
end Pa
end Go.Proofs.YtaojjpdlfnphiaaDoor.PDescKinds
end
section
/- invariant.Patch: the copy. -/
set_option linter.unusedSimpArgs false
set_option linter.unusedVariables false
set_option linter.unusedSectionVars false
namespace Go.Ev
open Go.RowKit Go.Proofs.YtaojjpdlfnphiaaDoor.PDescKinds
/-- Is a temporary left alone? -/
def offD (l : List Oper) (t : Nat) : Bool := l.all fun o => match o.dst with
  | some d => !(Nat.beq d t)
  | none => true
def offDs (l : List Oper) (ts : List Nat) : Bool := ts.all (offD l)
section
variable [XEnv] {P : Program} {N : Nat} {m : Nat → Nat} {Q : Exit → Act → World → Prop}
theorem put_off {a : Act} {d : Option Nat} {v : Value} {t : Nat} (h : (match d with | some d => !(Nat.beq d t) | none => true) = true) : (a.put d v).tmps.getD t undef = a.tmps.getD t undef := by
  cases d with
  | none => rfl
  | some d =>
    refine Copy.put_ne a d t v fun e => ?_
    subst e
    simp only [Nat.beq_refl, Bool.not_true] at h
    cases h
theorem reads_off {os : Array Oper} {rest : List Oper} : ∀ (ops : List Oper) (t t' : Nat → SV) (a : Act) (w : World), XOk w → reads P N ops t = some t' → AR N m t (fun _ => none) a →
    (∀ a', AR N m t' (fun _ => none) a' → (∀ i, offD ops i = true → a'.tmps.getD i undef = a.tmps.getD i undef) → wpList P os Q rest a' w) → wpList P os Q (ops ++ rest) a w
  | [], t, t', a, w, _, h, har, k => by
    simp only [reads, Option.some.injEq] at h
    subst h
    exact k a har fun _ _ => rfl
  | o :: r, t, t', a, w, hX, h, har, k => by
    unfold reads at h
    cases hc : (o.guard.isNone && dstOk N o.dst) with
    | false => rw [hc] at h; cases h
    | true =>
      rw [hc] at h
      simp only [if_true] at h
      rw [Bool.and_eq_true] at hc
      obtain ⟨hg, hd⟩ := hc
      split at h
      · rename_i v hv
        obtain ⟨hr, hvok⟩ := evP_run (m := m) (w := w) hX (fun x => har.look_ok x) (fun x hk => har.eval x hk) hv
        show wpList P os Q (o :: (r ++ rest)) a w
        refine wpList_plain (by simpa using hg) fun K hK => ?_
        unfold Oper.wp
        rw [hr, Oper.upon_value]
        refine hK _ _ (reads_off r _ t' _ w hX h (har.put (Agree.refl _ _) (Grows.refl _) hd hvok) fun a' h1 h2 => k a' h1 fun i hi => ?_)
        simp only [offD, List.all_cons, Bool.and_eq_true] at hi
        exact (h2 i hi.2).trans (put_off hi.1)
      · cases h
theorem wpList_readsF {os : Array Oper} {l rest : List Oper} {ns : List Nat} {vs : List SV} {t : Nat → SV} {a : Act} {w : World} (keep : List Nat) (hX : XOk w) (hev : (reads P N l t).map (fun t => ns.map t) = some vs) (hk : offDs l keep = true) (har : AR N m t (fun _ => none) a)
    (k : ∀ a' t', AR N m t' (fun _ => none) a' → ns.map t' = vs → (∀ i ∈ keep, a'.tmps.getD i undef = a.tmps.getD i undef) → wpList P os Q rest a' w) : wpList P os Q (l ++ rest) a w := by
  obtain ⟨t', h1, h2⟩ := Option.map_eq_some_iff.1 hev
  exact reads_off l _ t' a w hX h1 har fun a' h h' => k a' t' h h2 fun i hi => h' i (List.all_eq_true.1 hk i hi)
theorem region_readsF {id : Nat} {ops : Array Oper} {ns : List Nat} {vs : List SV} {t : Nat → SV} {a : Act} {w : World} (keep : List Nat) (hX : XOk w) (hev : (reads P N ops.toList t).map (fun t => ns.map t) = some vs) (hk : offDs ops.toList keep = true) (har : AR N m t (fun _ => none) a)
    (k : ∀ a' t', AR N m t' (fun _ => none) a' → ns.map t' = vs → (∀ i ∈ keep, a'.tmps.getD i undef = a.tmps.getD i undef) → Q .normal a' w) : (Code.region id ops false).wp P Q a w := by
  refine wp_region_list ?_
  rw [← List.append_nil ops.toList]
  exact wpList_readsF keep hX hev hk har k
end
end Go.Ev
namespace Go.Proofs.YtaojjpdlfnphiaaDoor.PDescKinds
open Go.RowKit Go.Ev
namespace Pa
/-- A shape's box. -/
def BoxS (B : Nat) (w : World) (gb : Nat) (s : Sh) (u : Value) : Prop := w.ownsRow B 60 8 (.slice (some ⟨gb, 0, none⟩) 1 1) 1 ((List.range 1).flatMap fun _ => shVals s u)
theorem BoxS.of {B : Nat} {w : World} {gb : Nat} {s : Sh} {u : Value} (h : w.heap[gb]? = some (.cells (shVals s u).toArray 60 (0, 0))) (hB : B ≤ gb) : BoxS B w gb s u :=
  ⟨rfl, .inr ⟨gb, 1, _, rfl, hB, h, Nat.le_refl _, by decide, rfl, rfl⟩⟩
theorem BoxS.xok {B : Nat} {w : World} {gb : Nat} {s : Sh} {u : Value} (h : BoxS B w gb s u) : @XOk (rowsX (some ⟨gb, 0, none⟩) ((shVals s u).map SV.val) (some ⟨gb, 0, none⟩) ((shVals s u).map SV.val)) w := by
  have := fun e => xrow_val (l := shVals s u) (w := w) (A := ⟨gb, 0, none⟩) (h.lt gb rfl).2 (fun k v hk => by
    have := own_at (fun t => shVals_length _ _) h (t := 0) (by decide) k v hk
    rw [Nat.zero_mul, Nat.zero_add] at this
    exact this) e
  exact xok_X this this
theorem ar_box {N gb d : Nat} {s : Sh} {u : Value} {a : Act} {ts : List (Nat × Value)} (w : World) (hs : a.tmps.size = N) (hd : a.defers = []) (h8 : a.tmps.getD d undef = .pointer (some ⟨gb, 0, none⟩)) (h : ∀ p ∈ ts, a.tmps.getD p.1 undef = p.2) :
    @AR (rowsX (some ⟨gb, 0, none⟩) ((shVals s u).map SV.val) (some ⟨gb, 0, none⟩) ((shVals s u).map SV.val)) N (fun _ => 0) (pickT (ts.map (fun p => (p.1, .val p.2)) ++ [(d, .xp [] 0 0)])) (fun _ => none) a := by
  letI := rowsX (some ⟨gb, 0, none⟩) ((shVals s u).map SV.val) (some ⟨gb, 0, none⟩) ((shVals s u).map SV.val)
  refine ar_of w hs hd (fun p hp => ?_) (fun p hp => ?_)
  · rcases List.mem_append.1 hp with hp | hp
    · obtain ⟨q, hq, rfl⟩ := List.mem_map.1 hp
      exact (h q hq).trans (den_val _ _).symm
    · obtain rfl := List.mem_singleton.1 hp
      refine h8.trans ?_
      rw [den_xp]
      rfl
  · rcases List.mem_append.1 hp with hp | hp
    · obtain ⟨q, hq, rfl⟩ := List.mem_map.1 hp
      exact ok_val _ _
    · obtain rfl := List.mem_singleton.1 hp
      exact ok_xp.2 (by show 0 < 1; omega)
theorem ar_vals {N : Nat} {a : Act} {ts : List (Nat × Value)} (w : World) (hs : a.tmps.size = N) (hd : a.defers = []) (h : ∀ p ∈ ts, a.tmps.getD p.1 undef = p.2) : @AR row0 N (fun _ => 0) (pickT (ts.map fun p => (p.1, .val p.2))) (fun _ => none) a := by
  letI := row0
  refine ar_of w hs hd (fun p hp => ?_) (fun p hp => ?_)
  · obtain ⟨q, hq, rfl⟩ := List.mem_map.1 hp
    exact (h q hq).trans (den_val _ _).symm
  · obtain ⟨q, hq, rfl⟩ := List.mem_map.1 hp
    exact ok_val _ _
/-- What stays in a round of the copy. -/
structure Ts (x : Mo) (lv v : Value) (i : Nat) (a : Act) : Prop where
  size : a.tmps.size = 45
  defers : a.defers = []
  t1 : a.tmps.getD 1 undef = lv
  t6 : a.tmps.getD 6 undef = v
  t13 : a.tmps.getD 13 undef = .slice x.A x.n x.c
  t14 : a.tmps.getD 14 undef = .int .i64 x.n
  t15 : a.tmps.getD 15 undef = .int .i64 (i : Int)
section
variable {x : Mo} {lv v : Value} {i : Nat} {a : Act} {w w0 : World} {Q : Exit → Act → World → Prop}
theorem Ts.next {a' : Act} (h : Ts x lv v i a) (hs : a'.tmps.size = 45) (hd : a'.defers = []) (hk : ∀ t ∈ [1, 6, 13, 14, 15], a'.tmps.getD t undef = a.tmps.getD t undef) : Ts x lv v i a' :=
  ⟨hs, hd, (hk 1 (by simp)).trans h.t1, (hk 6 (by simp)).trans h.t6, (hk 13 (by simp)).trans h.t13, (hk 14 (by simp)).trans h.t14, (hk 15 (by simp)).trans h.t15⟩
theorem Ts.sr (h : Ts x lv v i a) (w : World) : @SR (rowsB (fun _ => x) noBox) w 45 (fun _ => 0) ((⟨H1 (fun _ => x) lv v i, []⟩ : Cut).st 0) a w := by
  letI := rowsB (fun _ => x) noBox
  refine epoch h.size h.defers _ _ (fun p hp => ?_) (fun p hp => ?_)
  · simp only [List.mem_cons, List.not_mem_nil, or_false] at hp
    rcases hp with rfl | rfl | rfl | rfl | rfl
    · exact h.t1.trans (den_val _ _).symm
    · exact h.t6.trans (den_val _ _).symm
    · exact h.t13.trans (den_xs _ [0]).symm
    · exact h.t14.trans (den_val _ _).symm
    · exact h.t15.trans (den_val _ _).symm
  · simp only [List.mem_cons, List.not_mem_nil, or_false] at hp
    rcases hp with rfl | rfl | rfl | rfl | rfl <;> first | exact ok_val _ _ | exact ok_xs
theorem Ts.back {m : Nat → Nat} {a' : Act} {bs : List (Nat × Blk)} {tl : List (Nat × SV)} {nx : Nat} {mem : Mem} (har : @AR (rowsB (fun _ => x) noBox) 45 m (pickT (H1 (fun _ => x) lv v i ++ tl)) mem a') : Ts x lv v i a' := by
  letI := rowsB (fun _ => x) noBox
  exact ⟨har.size, har.defers, (har.tm 1 rfl).trans (den_val _ _), (har.tm 6 rfl).trans (den_val _ _), (har.tm 13 rfl).trans (den_xs _ [0]), (har.tm 14 rfl).trans (den_val _ _), (har.tm 15 rfl).trans (den_val _ _)⟩
theorem sh_den (x : Mo) (i : Nat) (m : Nat → Nat) : (shCells (x.g i).cl (x.g i).p (x.g i).x [0, i]).map (@SV.den (rowsB (fun _ => x) noBox) m) = shVals (x.g i) (x.g i).row := by
  simp only [shCells, List.map_cons, List.map_nil, @den_val (rowsB (fun _ => x) noBox), @den_xs (rowsB (fun _ => x) noBox)]
  rfl
set_option maxRecDepth 100000 in
/-- The properties are cloned. -/
theorem reg5 {B gb : Nat} {s : Sh} (h : Ts x lv v i a) (h8 : a.tmps.getD 8 undef = .pointer (some ⟨gb, 0, none⟩)) (hbx : BoxS B w gb s s.row) (hB : B ≤ w.heap.size) (hnil : s.A = none → s.n = 0 ∧ s.c = 0) (hcell : ∀ t, t < s.n → ∃ a, s.A = some a ∧ ∀ k u, ((s.g t).list)[k]? = some u → w.cell? (a.add (t * 20 + k)) = some u)
    (hlt : ∀ a, s.A = some a → 0 < s.n → a.block < w.heap.size) (hn : s.n ≤ 2000000)
    (hQ : ∀ u a' w' w1, Ts x lv v i a' → a'.tmps.getD 8 undef = .pointer (some ⟨gb, 0, none⟩) → Below w.heap.size w w1 → w1.grownBy w' (some gb) → w'.ownsRow w.heap.size 66 20 u s.n (Copy.rowOf s) → BoxS B w' gb s u → Q .normal a' w') : (Code.region 5 o5 false).wp Tryd.prog Q a w := by
  refine wp_region_list ?_
  rw [o5_eq]
  have har := ar_box (s := s) (u := s.row) (ts := []) w h.size h.defers h8 (fun p hp => by cases hp)
  refine @wpList_readsF (rowsX (some ⟨gb, 0, none⟩) ((shVals s s.row).map SV.val) (some ⟨gb, 0, none⟩) ((shVals s s.row).map SV.val)) _ _ _ _ _ _ _ _ _ _ _ _ [1, 6, 8, 13, 14, 15] hbx.xok (c5a (some ⟨gb, 0, none⟩) s s.A s.n s.c) (by kernel_rfl) har fun a1 t1 har1 e hk1 => ?_
  simp only [List.map_cons, List.map_nil, List.cons.injEq, and_true] at e
  have q20 : a1.eval (.tmp 20) = s.row := @ar_eval (rowsX (some ⟨gb, 0, none⟩) ((shVals s s.row).map SV.val) (some ⟨gb, 0, none⟩) ((shVals s s.row).map SV.val)) _ _ _ _ _ har1 _ _ e
  have T1 := h.next (@AR.size (rowsX (some ⟨gb, 0, none⟩) ((shVals s s.row).map SV.val) (some ⟨gb, 0, none⟩) ((shVals s s.row).map SV.val)) _ _ _ _ _ har1) (@AR.defers (rowsX (some ⟨gb, 0, none⟩) ((shVals s s.row).map SV.val) (some ⟨gb, 0, none⟩) ((shVals s s.row).map SV.val)) _ _ _ _ _ har1) (fun t ht => hk1 t (by
    simp only [List.mem_cons, List.not_mem_nil, or_false] at ht ⊢
    omega))
  have p8 := (hk1 8 (by simp)).trans h8
  have hrun : (execOp a1.eval (o5.toList.getD 2 default)).run Tryd.prog w = .ok (.enter 89 #[s.row]) w := by
    rw [← run_enters (P := Tryd.prog) (f := 89) (by kernel_rfl)]
    have em : (#[Operand.tmp 20] : Array Operand).map a1.eval = #[s.row] := by
      simp only [List.map_toArray, List.map_cons, List.map_nil, q20]
    unfold execOp
    simp only [op5, resolve, em, Act.eval, Deferred.ofValue, Sem.run_bind, Sem.run_pure, Result.andThen_ok, invoke]
    simp
  refine wpList_plain (by kernel_rfl) fun K hK => ?_
  unfold Oper.wp
  rw [hrun, Oper.upon_enter]
  refine Calls.mono (Clone.calls hnil hcell hlt hn) fun e w1 ⟨u, he, hb1, hown⟩ => ?_
  subst he
  refine hK _ _ ?_
  rw [show (o5.toList.getD 2 default).dst = some 21 by kernel_rfl]
  obtain ⟨s2, f2, x2, r2⟩ := put_all a1 45 21 u T1.size (by decide)
  generalize hA2 : a1.put (some 21) u = a2 at s2 f2 x2 r2 ⊢
  have T2 := T1.next s2 (f2.trans T1.defers) (fun t ht => r2 t (by
    simp only [List.mem_cons, List.not_mem_nil, or_false] at ht
    omega))
  letI := row0
  refine wpList_readsF [1, 6, 8, 13, 14, 15] (xok_0 w1) (c5b ⟨gb, 0, none⟩ u) (by kernel_rfl) (ar_vals (ts := [(8, .pointer (some ⟨gb, 0, none⟩)), (21, u)]) w1 s2 T2.defers (fun p hp => ?_)) fun a3 t3 har3 e hk3 => ?_
  · simp only [List.mem_cons, List.not_mem_nil, or_false] at hp
    rcases hp with rfl | rfl
    · exact (r2 8 (by decide)).trans p8
    · exact x2
  simp only [List.map_cons, List.map_nil, List.cons.injEq, and_true] at e
  obtain ⟨e21, e22⟩ := e
  rw [add_none] at e22
  have T3 := T2.next har3.size har3.defers (fun t ht => hk3 t (by
    simp only [List.mem_cons, List.not_mem_nil, or_false] at ht ⊢
    omega))
  have hbx1 : BoxS B w1 gb s s.row := hbx.kept (grown_of hb1 none) (.inr (by simp [Value.ownBlock]))
  have hcs : u.cells.toList = [u] := by rw [(own_slice hown).1]; rfl
  have hcz : u.cells.size = 1 := by rw [← Array.length_toList, hcs]; rfl
  obtain ⟨w2, hst, hown2, hgr⟩ := own_splice (P := Tryd.prog) (ty := 58) (x := u) (t := 0) (o := 7) hbx1 (fun t => shVals_length _ _) (by decide) (by rw [hcz]; kernel_rfl) (by rw [hcz]; exact Nat.le_refl 8) (fun y hy => by
    rw [hcs] at hy
    obtain rfl := List.mem_singleton.1 hy
    rw [(own_slice hown).1]
    rfl)
  refine wpList_store (t := 58) (x := .tmp 22) (y := .tmp 21) (by kernel_rfl) (by kernel_rfl) (by kernel_rfl) (ar_eval har3 e22) (ar_eval har3 e21) hst (hQ u a3 w2 w1 T3 ((hk3 8 (by simp)).trans ((r2 8 (by decide)).trans p8)) hb1 hgr ?_ ?_)
  · refine hown.kept hgr ?_
    cases hu : u.ownBlock with
    | none => exact .inl rfl
    | some b =>
      refine .inr fun e => ?_
      have h1 := (hown.lt b hu).1
      have h2 := (hbx.lt gb rfl).2
      simp only [Option.some.injEq] at e
      omega
  · have : ((List.range 1).flatMap (fput (fun _ => shVals s s.row) 0 (splice (shVals s s.row) 7 u.cells.toList))) = ((List.range 1).flatMap fun _ => shVals s u) := by
      rw [hcs]
      rfl
    rw [this] at hown2
    exact hown2
end
end Pa
end Go.Proofs.YtaojjpdlfnphiaaDoor.PDescKinds
end
section
/- invariant.Patch: the copy's loop. -/
set_option linter.unusedSimpArgs false
set_option linter.unusedVariables false
set_option linter.unusedSectionVars false
namespace Go.Proofs.YtaojjpdlfnphiaaDoor.PDescKinds
open Go.RowKit Go.Ev
namespace Pa
section
variable {x mo : Mo} {lv v : Value} {i : Nat} {a : Act} {w w0 : World} {Q : Exit → Act → World → Prop}
theorem ar_box' {N gb d : Nat} {s : Sh} {u : Value} {a : Act} {p : Nat × Value} (w : World) (hs : a.tmps.size = N) (hd : a.defers = []) (h8 : a.tmps.getD d undef = .pointer (some ⟨gb, 0, none⟩)) (h : a.tmps.getD p.1 undef = p.2) :
    @AR (rowsX (some ⟨gb, 0, none⟩) ((shVals s u).map SV.val) (some ⟨gb, 0, none⟩) ((shVals s u).map SV.val)) N (fun _ => 0) (pickT [(p.1, .val p.2), (d, .xp [] 0 0)]) (fun _ => none) a :=
  ar_box (ts := [p]) w hs hd h8 fun q hq => by
    obtain rfl := List.mem_singleton.1 hq
    exact h
set_option maxRecDepth 100000 in
/-- The shape joins the copy. -/
theorem reg6 {B gb : Nat} {s : Sh} (h : Ts x lv v i a) (h8 : a.tmps.getD 8 undef = .pointer (some ⟨gb, 0, none⟩)) (hbx : BoxS B w gb s s.row) (hB : B ≤ w.heap.size) (hO : OwnMo w0.heap.size w mo) (hB0 : w0.heap.size ≤ w.heap.size) (hv : v = .slice mo.A mo.n mo.c) (hn : mo.n ≤ 2000000)
    (hrow : ∀ A n c, s.row = .slice A n c → s.A = A ∧ s.n = n ∧ s.c = c)
    (hown : w.ownsRow w0.heap.size 66 20 s.row s.n (Copy.rowOf s)) (hf : ∀ t b c, s.row.ownBlock = some b → (mo.g t).row.ownBlock = some c → b ≠ c)
    (hQ : ∀ v' a' w', Ts x lv v' i a' → Below w0.heap.size w w' → v' = .slice (slA v') (mo.n + 1) (slC v') → OwnMo w0.heap.size w' ⟨slA v', mo.n + 1, slC v', fput mo.g mo.n s⟩ → Q .normal a' w') : (Code.region 6 o6 false).wp Tryd.prog Q a w := by
  refine wp_region_list ?_
  rw [o6_eq]
  have har := ar_box' (s := s) (u := s.row) (p := (6, v)) w h.size h.defers h8 h.t6
  refine @wpList_readsF (rowsX (some ⟨gb, 0, none⟩) ((shVals s s.row).map SV.val) (some ⟨gb, 0, none⟩) ((shVals s s.row).map SV.val)) _ _ _ _ _ _ _ _ _ _ _ _ [1, 6, 13, 14, 15] hbx.xok (c6a (some ⟨gb, 0, none⟩) s s.A s.n s.c v) (by kernel_rfl) har fun a1 t1 har1 e hk1 => ?_
  simp only [List.map_cons, List.map_nil, List.cons.injEq, and_true] at e
  obtain ⟨e23, e24⟩ := e
  have p23 : a1.tmps.getD 23 undef = v := @ar_eval (rowsX (some ⟨gb, 0, none⟩) ((shVals s s.row).map SV.val) (some ⟨gb, 0, none⟩) ((shVals s s.row).map SV.val)) _ _ _ _ _ har1 _ _ e23
  have p24 : a1.tmps.getD 24 undef = .agg (shVals s s.row).toArray := @ar_eval (rowsX (some ⟨gb, 0, none⟩) ((shVals s s.row).map SV.val) (some ⟨gb, 0, none⟩) ((shVals s s.row).map SV.val)) _ _ _ _ _ har1 _ _ e24
  have T1 := h.next (@AR.size (rowsX (some ⟨gb, 0, none⟩) ((shVals s s.row).map SV.val) (some ⟨gb, 0, none⟩) ((shVals s s.row).map SV.val)) _ _ _ _ _ har1) (@AR.defers (rowsX (some ⟨gb, 0, none⟩) ((shVals s s.row).map SV.val) (some ⟨gb, 0, none⟩) ((shVals s s.row).map SV.val)) _ _ _ _ _ har1) hk1
  letI := row0
  refine wpList_plain (by kernel_rfl) fun K hK => ?_
  refine build1 (ar_vals (ts := [(24, .agg (shVals s s.row).toArray)]) w T1.size T1.defers (fun p hp => by
    obtain rfl := List.mem_singleton.1 hp
    exact p24)) (c6n s s.row) fun gn w1 b1 b2 b3 => hK _ _ ?_
  rw [show (o6.toList.getD 2 default).dst = some 25 by kernel_rfl]
  obtain ⟨s2, f2, x2, r2⟩ := put_all a1 45 25 (.slice (some ⟨gn, 0, none⟩) 1 1) T1.size (by decide)
  generalize hA2 : a1.put (some 25) (.slice (some ⟨gn, 0, none⟩) 1 1) = a2 at s2 f2 x2 r2 ⊢
  have T2 := T1.next s2 (f2.trans T1.defers) (fun t ht => r2 t (by
    simp only [List.mem_cons, List.not_mem_nil, or_false] at ht
    omega))
  have hO1 := hO.below b1
  have hB1 : w0.heap.size ≤ w1.heap.size := Nat.le_trans hB0 b1.size
  obtain ⟨i60, z60, q1, q2, q3, q4, q5⟩ := Copy.info60
  have hM : maxLen = 9223372036854775807 := by decide +kernel
  refine wpList_append_own w1 (by kernel_rfl) (.tmp 23) (.tmp 25) 51 (by kernel_rfl) w0.heap.size 60 i60 z60 8 88 (by kernel_rfl) q1 q2 q3 q4 q5 (by decide) (.slice mo.A mo.n mo.c) mo.n _ ((r2 23 (by decide)).trans (p23.trans hv)) hO1.row ⟨gn, 0, none⟩ 1 1 (shVals s s.row) x2 (shVals_length _ _) (fun j u hu => ?_) (Ap.shVals_one _) (by omega) (by omega) hB1 fun v' w2 hown2 hgr hnil => ?_
  · rw [add_none, cell_of_row w1 gn _ _ 60 (0, 0) b3]
    simpa using hu
  rw [show (o6.toList.getD 3 default).dst = some 26 by kernel_rfl]
  obtain ⟨s3, f3, x3, r3⟩ := put_all a2 45 26 v' s2 (by decide)
  generalize hA3 : a2.put (some 26) v' = a3 at s3 f3 x3 r3 ⊢
  have T3 := T2.next s3 (f3.trans T2.defers) (fun t ht => r3 t (by
    simp only [List.mem_cons, List.not_mem_nil, or_false] at ht
    omega))
  refine wpList_readsF [1, 13, 14, 15] (xok_0 w2) (c6b v') (by kernel_rfl) (ar_vals (ts := [(26, v')]) w2 s3 T3.defers (fun p hp => by
    obtain rfl := List.mem_singleton.1 hp
    exact x3)) fun a4 t4 har4 e hk4 => ?_
  simp only [List.map_cons, List.map_nil, List.cons.injEq, and_true] at e
  obtain ⟨hv', hmo⟩ := hO1.snoc (s := s) hgr ((hown.kept (grown_of b1 none) (by cases s.row.ownBlock <;> simp)).kept hgr (own_ne hO1.row (hown.kept (grown_of b1 none) (by cases s.row.ownBlock <;> simp)))) hf hown2
  exact hQ v' a4 w2 ⟨har4.size, har4.defers, (hk4 1 (by simp)).trans T3.t1, ar_eval har4 e, (hk4 13 (by simp)).trans T3.t13, (hk4 14 (by simp)).trans T3.t14, (hk4 15 (by simp)).trans T3.t15⟩ ((b1.mono hB0).trans (below_own hB1 hO1.row hgr)) hv' hmo
/-- At the copy's head. -/
structure L1 (x : Mo) (lv : Value) (w0 : World) (i : Nat) (mo : Mo) (a : Act) (w : World) : Prop where
  ts : Ts x lv (.slice mo.A mo.n mo.c) i a
  below : Below w0.heap.size w0 w
  own : OwnMo w0.heap.size w mo
  n : mo.n = i
  ls : mo.ls = x.ls.take i
theorem ls_fput_n (mo : Mo) (A : Option Addr) (c : Nat) (s : Sh) : (⟨A, mo.n + 1, c, fput mo.g mo.n s⟩ : Mo).ls = mo.ls ++ [s.ls] := by
  show (List.range (mo.n + 1)).map (fun j => (fput mo.g mo.n s j).ls) = _
  rw [List.range_succ, List.map_append, List.map_congr_left (g := fun j => (mo.g j).ls) fun t ht => by
    have := List.mem_range.1 ht
    simp only [fput]
    rw [if_neg (by omega)]]
  simp [fput, Mo.ls]
set_option maxRecDepth 100000 in
theorem round1 (hI : Inv (fun _ => x) noBox w0) (hx : RawMo w0 x) (hn : x.n ≤ 1000000) (hp : ∀ j, j < x.n → (x.g j).n ≤ 1000000) (h : L1 x lv w0 i mo a w) (hi : i < x.n) (hQ : ∀ mo' a' w', L1 x lv w0 (i + 1) mo' a' w' → Q .normal a' w') : wpL Tryd.prog rd Q a w := by
  letI := rowsB (fun _ => x) noBox
  have C := ctxB (fun _ => x) noBox entries_nil entsS_nil
  have C : Ctx Tryd.prog ext (tab []) (Inv (fun _ => x) noBox) := ⟨C.mix, C.hX, C.hs, C.hXO, tab_sound entries_nil⟩
  rw [rd_eq, wpL_app]
  have e1 := Pa.a1 (fun _ => x) lv (.slice mo.A mo.n mo.c) i
  rw [show decide ((i : Int) < (x.n : Int)) = true from decide_eq_true (by omega)] at e1
  refine piece C.mix C.hX C.hs C.hXO C.hG e1 (inv_stable _ _ _ _ hI h.below) (h.ts.sr w) (fun v hv => by cases hv) (fun ex d hd m a1 w1 hr1 => ?_)
  cases hd
  have T1 : Ts x lv (.slice mo.A mo.n mo.c) i a1 := Ts.back (bs := []) (tl := []) (nx := 0) hr1.ar
  have b1 : Below w0.heap.size w0 w1 := h.below.trans (hr1.mr.below.mono h.below.size)
  have hO1 := h.own.below hr1.mr.below
  show wpL Tryd.prog (.block 1 (inB (rd.getD 2 .skip)) :: rd.drop 3) Q a1 w1
  simp only [wpL]
  refine wp_block (wpL_flat _ ?_)
  show wpL Tryd.prog inn _ a1 w1
  rw [inn_eq, wpL_app]
  have e2 := Pa.a2 (fun _ => x) lv (.slice mo.A mo.n mo.c) i
  rw [show decide (0 ≤ (i : Int)) = true from decide_eq_true (by omega), show decide ((i : Int) < (x.n : Int)) = true from decide_eq_true (by omega)] at e2
  refine piece C.mix C.hX C.hs C.hXO C.hG e2 (inv_stable _ _ _ _ hI b1) (T1.sr w1) (fun v hv => by cases hv) (fun ex d hd m2 a2 w2 hr2 => ?_)
  cases hd
  have T2 : Ts x lv (.slice mo.A mo.n mo.c) i a2 := Ts.back (bs := []) (tl := [(8, .ptr 0 0)]) (nx := 1) hr2.ar
  have p8 : a2.tmps.getD 8 undef = .pointer (some ⟨m2 0, 0, none⟩) := (hr2.ar.tm 8 rfl).trans (den_ptr _ _ _)
  have b2 : Below w0.heap.size w0 w2 := b1.trans (hr2.mr.below.mono b1.size)
  have hO2 := hO1.below hr2.mr.below
  have hb := hr2.mr.blk 0 ⟨60, shCells (x.g i).cl (x.g i).p (x.g i).x [0, i]⟩ rfl
  have hbx : BoxS w1.heap.size w2 (m2 0) (x.g i) (x.g i).row := BoxS.of (by
    have := hb.2.1
    rw [sh_den] at this
    exact this) hb.1
  have hx2 := hx.below (b2.mono (Nat.le_refl _))
  show (Code.region 5 o5 false).wp Tryd.prog (Exit.then (wpL Tryd.prog [.region 6 o6 false] _) _) a2 w2
  refine reg5 (s := x.g i) T2 p8 hbx hr2.mr.below.size (hx2.nils i) (fun t ht => ?_) (fun ad hA h0 => ?_) (by have := hp i hi; omega) fun u a3 w3 w23 T3 q8 b3 hgr hown hbx3 => ?_
  · obtain ⟨ad, h1, h2, h3⟩ := hx2.row i t ht
    exact ⟨ad, h1, h3⟩
  · obtain ⟨ad', h1, h2, h3⟩ := hx2.row i 0 h0
    rw [hA] at h1
    cases h1
    exact h2
  show wpL Tryd.prog [.region 6 o6 false] _ a3 w3
  simp only [wpL]
  have hu := (own_slice hown).1
  obtain ⟨s', hs'⟩ : ∃ s' : Sh, s' = { x.g i with A := slA u, c := slC u } := ⟨_, rfl⟩
  have hrow' : s'.row = u := by rw [hs']; exact hu.symm
  have hg8 : w1.heap.size ≤ m2 0 := hb.1
  have b3' : Below w1.heap.size w2 w3 := (b3.mono hr2.mr.below.size).trans ⟨hgr.os, hgr.tape, hgr.output, hgr.size, fun k hk => hgr.block k (Nat.lt_of_lt_of_le (Nat.lt_of_lt_of_le hk hr2.mr.below.size) b3.size) (fun e => by
    simp only [Option.some.injEq] at e
    omega)⟩
  have hb13 : Below w1.heap.size w1 w3 := hr2.mr.below.trans b3'
  have hO3 := hO1.below hb13
  refine reg6 (w0 := w0) (mo := mo) (gb := m2 0) (B := w1.heap.size) (s := s') T3 q8 (by
    rw [hrow']
    have : shVals s' u = shVals (x.g i) u := by rw [hs']; rfl
    unfold BoxS
    rw [this]
    exact hbx3) hb13.size hO3 (Nat.le_trans b1.size hb13.size) rfl (by have := h.n; omega) (fun A n c hr => by
      unfold Sh.row at hr
      cases hr
      exact ⟨rfl, rfl, rfl⟩) ?_ ?_ fun v' a4 w4 T4 b4 hv' hmo => ?_
  · rw [hrow']
    have : Copy.rowOf s' = Copy.rowOf (x.g i) := by rw [hs']; rfl
    rw [this, show s'.n = (x.g i).n by rw [hs']]
    exact own_base hown (Nat.le_trans b1.size hr2.mr.below.size)
  · intro t b c h1 h2
    rw [hrow'] at h1
    have l1 := (hown.lt b h1).1
    have l2 := ((hO1.props t).lt c h2).2
    have := hr2.mr.below.size
    omega
  show wpL Tryd.prog (rd.drop 3) Q a4 w4
  have b04 : Below w0.heap.size w0 w4 := (b1.trans (hb13.mono b1.size)).trans b4
  have e3 := Pa.a3 (fun _ => x) lv v' i
  rw [wr hi (by omega)] at e3
  refine piece C.mix C.hX C.hs C.hXO C.hG e3 (inv_stable _ _ _ _ hI b04) (T4.sr w4) (fun v hv => by cases hv) (fun ex d hd m5 a5 w5 hr5 => ?_)
  cases hd
  refine hQ ⟨slA v', mo.n + 1, slC v', fput mo.g mo.n s'⟩ a5 w5 ⟨?_, b04.trans (hr5.mr.below.mono b04.size), hmo.below hr5.mr.below, by have := h.n; show mo.n + 1 = _; omega, ?_⟩
  · rw [← hv']
    exact ⟨hr5.ar.size, hr5.ar.defers, (hr5.ar.tm 1 rfl).trans (den_val _ _), (hr5.ar.tm 6 rfl).trans (den_val _ _), (hr5.ar.tm 13 rfl).trans (den_xs _ [0]), (hr5.ar.tm 14 rfl).trans (den_val _ _), (hr5.ar.tm 15 rfl).trans (den_val _ _)⟩
  · rw [ls_fput_n, h.ls, List.take_add_one, ls_at x hi]
    have : s'.ls = (x.g i).ls := by rw [hs']; rfl
    rw [this]
    rfl
end
end Pa
end Go.Proofs.YtaojjpdlfnphiaaDoor.PDescKinds
end
section
/- invariant.Patch runs. -/
set_option linter.unusedSimpArgs false
set_option linter.unusedVariables false
set_option linter.unusedSectionVars false
namespace Go.Proofs.YtaojjpdlfnphiaaDoor.PDescKinds
open Go.RowKit Go.Ev
namespace L
/-- Small moments. -/
def Bd (N : Nat) (l : List LS) : Prop := l.length ≤ N ∧ ∀ s ∈ l, s.ps.length ≤ N
theorem shape_bd {N : Nat} {s s' : LS} {δ : Dl} (h : s.ps.length ≤ N) (e : shape s δ = some s') : s'.ps.length ≤ N + 1 := by
  unfold shape at e
  split at e
  · cases e; exact Nat.le_succ_of_le h
  split at e
  · cases e; exact Nat.le_succ_of_le h
  split at e
  · cases e; exact Nat.le_succ_of_le h
  split at e
  · obtain ⟨i, _, rfl⟩ := Option.map_eq_some_iff.1 e
    show (s.ps.eraseIdx i).length ≤ _
    exact Nat.le_trans (List.length_eraseIdx_le _ _) (Nat.le_succ_of_le h)
  split at e
  · split at e
    · cases e
      show (s.ps ++ [_]).length ≤ _
      rw [List.length_append]
      simpa using h
    · cases e
      show (s.ps.modify _ _).length ≤ _
      rw [List.length_modify]
      exact Nat.le_succ_of_le h
  · cases e
theorem apply_bd {N : Nat} {l l' : List LS} {δ : Dl} (h : Bd N l) (e : apply l δ = some l') : Bd (N + 1) l' := by
  unfold apply at e
  split at e
  · split at e
    · cases e
      refine ⟨by rw [List.length_append]; have := h.1; simp; omega, fun s hs => ?_⟩
      rcases List.mem_append.1 hs with hs | hs
      · exact Nat.le_succ_of_le (h.2 s hs)
      · obtain rfl := List.mem_singleton.1 hs
        exact Nat.zero_le _
    · cases e
  split at e
  · cases e
  split at e
  · rename_i s hs
    obtain ⟨s', h1, rfl⟩ := Option.map_eq_some_iff.1 e
    refine ⟨by rw [List.length_set]; exact Nat.le_succ_of_le h.1, fun t ht => ?_⟩
    rcases List.mem_or_eq_of_mem_set ht with ht | rfl
    · exact Nat.le_succ_of_le (h.2 t ht)
    · exact shape_bd (h.2 s (List.mem_of_getElem? hs)) h1
  · cases e
/-- A list of deltas. -/
def patch (l : List LS) (ds : List Dl) : Option (List LS) := ds.foldlM apply l
end L
theorem Bd.mo {N : Nat} {B : Nat} {w : World} {mo : Mo} (h : L.Bd N mo.ls) (hO : OwnMo B w mo) : mo.n ≤ N ∧ ∀ j, (mo.g j).n ≤ N := by
  refine ⟨by rw [← ls_len]; exact h.1, fun j => ?_⟩
  by_cases hj : j < mo.n
  · have := h.2 (mo.g j).ls (List.mem_of_getElem? (ls_at mo hj))
    rw [ps_len] at this
    exact this
  · rw [hO.rest j (by omega)]
    exact Nat.zero_le _
namespace Pa
section
variable {x mo : Mo} {lv v : Value} {i j K n c : Nat} {A : Option Addr} {g : Nat → Dl} {a : Act} {w w0 : World} {Q : Exit → Act → World → Prop}
/-- What stays in a round of the deltas. -/
structure Us (A : Option Addr) (n c : Nat) (v : Value) (j : Nat) (a : Act) : Prop where
  size : a.tmps.size = 45
  defers : a.defers = []
  t6 : a.tmps.getD 6 undef = v
  t28 : a.tmps.getD 28 undef = .slice A n c
  t29 : a.tmps.getD 29 undef = .int .i64 n
  t30 : a.tmps.getD 30 undef = .int .i64 (j : Int)
theorem Us.sr (h : Us A n c v j a) (w : World) : @SR (rowL A n c g) w 45 (fun _ => 0) ((⟨H2 v n j, []⟩ : Cut).st 0) a w := by
  letI := rowL A n c g
  refine epoch h.size h.defers _ _ (fun p hp => ?_) (fun p hp => ?_)
  · simp only [List.mem_cons, List.not_mem_nil, or_false] at hp
    rcases hp with rfl | rfl | rfl | rfl
    · exact h.t6.trans (den_val _ _).symm
    · exact h.t28.trans (den_xs _ []).symm
    · exact h.t29.trans (den_val _ _).symm
    · exact h.t30.trans (den_val _ _).symm
  · simp only [List.mem_cons, List.not_mem_nil, or_false] at hp
    rcases hp with rfl | rfl | rfl | rfl <;> first | exact ok_val _ _ | exact ok_xs
theorem Us.back {m : Nat → Nat} {a' : Act} {tl : List (Nat × SV)} {mem : Mem} (har : @AR (rowL A n c g) 45 m (pickT (H2 v n j ++ tl)) mem a') : Us A n c v j a' := by
  letI := rowL A n c g
  exact ⟨har.size, har.defers, (har.tm 6 rfl).trans (den_val _ _), (har.tm 28 rfl).trans (den_xs _ []), (har.tm 29 rfl).trans (den_val _ _), (har.tm 30 rfl).trans (den_val _ _)⟩
/-- At the deltas' head. -/
structure L2 (x : Mo) (A : Option Addr) (n c : Nat) (g : Nat → Dl) (w0 : World) (K j : Nat) (mo : Mo) (a : Act) (w : World) : Prop where
  us : Us A n c (.slice mo.A mo.n mo.c) j a
  below : Below w0.heap.size w0 w
  own : OwnMo w0.heap.size w mo
  ls : L.patch x.ls ((List.range j).map g) = some mo.ls
  bd : L.Bd (K + j) mo.ls
theorem ctxL : @Ctx (rowL A n c g) Tryd.prog ext (tab []) (fun w => @XOk (rowL A n c g) w) := by
  letI := rowL A n c g
  exact ⟨mixed, ext_sound, fun w w' h hb => XOk.below h hb, fun w h => h, tab_sound entries_nil⟩
theorem patch_succ (l : List LS) (g : Nat → Dl) (j : Nat) : L.patch l ((List.range (j + 1)).map g) = (L.patch l ((List.range j).map g)).bind fun l' => L.apply l' (g j) := by
  unfold L.patch
  rw [List.range_succ, List.map_append, List.foldlM_append]
  simp
theorem patch_none {l : List LS} {g : Nat → Dl} {j n : Nat} (h : L.patch l ((List.range j).map g) = none) (hj : j ≤ n) : L.patch l ((List.range n).map g) = none := by
  induction n with
  | zero =>
    obtain rfl : j = 0 := by omega
    exact h
  | succ n ih =>
    by_cases e : j = n + 1
    · rw [← e]; exact h
    · rw [patch_succ, ih (by omega)]; rfl
theorem Us.next {a' : Act} (h : Us A n c v j a) (hs : a'.tmps.size = 45) (hd : a'.defers = []) (hk : ∀ t ∈ [6, 28, 29, 30], a'.tmps.getD t undef = a.tmps.getD t undef) : Us A n c v j a' :=
  ⟨hs, hd, (hk 6 (by simp)).trans h.t6, (hk 28 (by simp)).trans h.t28, (hk 29 (by simp)).trans h.t29, (hk 30 (by simp)).trans h.t30⟩
set_option maxRecDepth 100000 in
theorem piece1 (hX : @XOk (rowL A n c g) w) (h : Us A n c v j a) (hj : j < n) (hQ : ∀ a' w', Us A n c v j a' → Below w.heap.size w w' → Q .normal a' w') : wpL Tryd.prog (rd2.take 2) Q a w := by
  letI := rowL A n c g
  have C := ctxL (A := A) (n := n) (c := c) (g := g)
  have e1 := Pa.b1 A n c g v j
  rw [show decide ((j : Int) < (n : Int)) = true from decide_eq_true (by omega)] at e1
  refine piece C.mix C.hX C.hs C.hXO C.hG e1 hX (h.sr w) (fun v hv => by cases hv) (fun ex d hd m a1 w1 hr1 => ?_)
  cases hd
  exact hQ a1 w1 (Us.back (g := g) (tl := []) hr1.ar) hr1.mr.below
set_option maxRecDepth 100000 in
theorem pieceE (hX : @XOk (rowL A n c g) w) (h : Us A n c v n a) (hQ : ∀ a' w', Us A n c v n a' → Below w.heap.size w w' → Q (.exit 2) a' w') : wpL Tryd.prog (rd2.take 2) Q a w := by
  letI := rowL A n c g
  have C := ctxL (A := A) (n := n) (c := c) (g := g)
  have e1 := Pa.b1 A n c g v n
  rw [show decide ((n : Int) < (n : Int)) = false from decide_eq_false (by omega)] at e1
  refine piece C.mix C.hX C.hs C.hXO C.hG e1 hX (h.sr w) (fun v hv => by cases hv) (fun ex d hd m a1 w1 hr1 => ?_)
  cases hd
  exact hQ a1 w1 (Us.back (g := g) (tl := []) hr1.ar) hr1.mr.below
set_option maxRecDepth 100000 in
theorem piece2 (hX : @XOk (rowL A n c g) w) (h : Us A n c v j a) (hj : j < n) (hQ : ∀ a' w' gb, Us A n c v j a' → a'.tmps.getD 10 undef = .pointer (some ⟨gb, 0, none⟩) → Below w.heap.size w w' → w.heap.size ≤ gb → Boxed w' gb (g j) → Q .normal a' w') : wpL Tryd.prog (inn2.take 1) Q a w := by
  letI := rowL A n c g
  have C := ctxL (A := A) (n := n) (c := c) (g := g)
  have e2 := Pa.b2 A n c g v j
  rw [show decide (0 ≤ (j : Int)) = true from decide_eq_true (by omega), show decide ((j : Int) < (n : Int)) = true from decide_eq_true (by omega)] at e2
  refine piece C.mix C.hX C.hs C.hXO C.hG e2 hX (h.sr w) (fun v hv => by cases hv) (fun ex d hd m a1 w1 hr1 => ?_)
  cases hd
  have hb := hr1.mr.blk 0 ⟨99, (g j).cells⟩ rfl
  refine hQ a1 w1 (m 0) (Us.back (g := g) (tl := [(10, .ptr 0 0)]) hr1.ar) ((hr1.ar.tm 10 rfl).trans (den_ptr _ _ _)) hr1.mr.below hb.1 ?_
  have := hb.2.1
  simp only [Dl.cells, List.map_map] at this
  rw [show (SV.den m ∘ SV.val) = _root_.id from funext fun v => den_val m v, List.map_id] at this
  exact this
set_option maxRecDepth 100000 in
theorem piece3 (hX : @XOk (rowL A n c g) w) (h : Us A n c v j a) (hj : j < n) (hn : n ≤ 500000) (hQ : ∀ a' w', Us A n c v (j + 1) a' → Below w.heap.size w w' → Q .normal a' w') : wpL Tryd.prog (rd2.drop 3) Q a w := by
  letI := rowL A n c g
  have C := ctxL (A := A) (n := n) (c := c) (g := g)
  have e3 := Pa.b3 A n c g v j
  rw [wr hj (by omega)] at e3
  refine piece C.mix C.hX C.hs C.hXO C.hG e3 hX (h.sr w) (fun v hv => by cases hv) (fun ex d hd m a1 w1 hr1 => ?_)
  cases hd
  exact hQ a1 w1 ⟨hr1.ar.size, hr1.ar.defers, (hr1.ar.tm 6 rfl).trans (den_val _ _), (hr1.ar.tm 28 rfl).trans (den_xs _ []), (hr1.ar.tm 29 rfl).trans (den_val _ _), (hr1.ar.tm 30 rfl).trans (den_val _ _)⟩ hr1.mr.below
set_option maxRecDepth 100000 in
theorem reg11 {gb : Nat} {δ : Dl} {R : Ending → World → Prop} (h : Us A n c v j a) (h10 : a.tmps.getD 10 undef = .pointer (some ⟨gb, 0, none⟩)) (hbx : Boxed w gb δ) (hc : Calls Tryd.prog 90 #[v, δ.agg] w R)
    (hQ : ∀ e w', R e w' → ∃ u b, e = .returned (.tuple #[u, .bool b]) ∧ ∀ a', Us A n c v j a' → a'.tmps.getD 11 undef = u → a'.tmps.getD 12 undef = .bool b → Q .normal a' w') : (Code.region 11 o11 false).wp Tryd.prog Q a w := by
  refine wp_region_list ?_
  rw [o11_eq]
  have har : @AR (rowsX (some ⟨gb, 0, none⟩) δ.cells (some ⟨gb, 0, none⟩) δ.cells) 45 (fun _ => 0) (pickT [(6, .val v), (10, .xp [] 0 0)]) (fun _ => none) a := by
    letI := rowsX (some ⟨gb, 0, none⟩) δ.cells (some ⟨gb, 0, none⟩) δ.cells
    refine ar_of w h.size h.defers (fun p hp => ?_) (fun p hp => ?_)
    · simp only [List.mem_cons, List.not_mem_nil, or_false] at hp
      rcases hp with rfl | rfl
      · exact h.t6.trans (den_val _ _).symm
      · refine h10.trans ?_
        rw [den_xp]
        rfl
    · simp only [List.mem_cons, List.not_mem_nil, or_false] at hp
      rcases hp with rfl | rfl
      · exact ok_val _ _
      · exact ok_xp.2 (by show 0 < 1; omega)
  refine @wpList_readsF (rowsX (some ⟨gb, 0, none⟩) δ.cells (some ⟨gb, 0, none⟩) δ.cells) _ _ _ _ _ _ _ _ _ _ _ _ [6, 28, 29, 30] hbx.xok (d11 (some ⟨gb, 0, none⟩) δ v) (by kernel_rfl) har fun a3 t3 har3 e hk3 => ?_
  simp only [List.map_cons, List.map_nil, List.cons.injEq, and_true] at e
  obtain ⟨e35, e36⟩ := e
  have q35 : a3.eval (.tmp 35) = v := @ar_eval (rowsX (some ⟨gb, 0, none⟩) δ.cells (some ⟨gb, 0, none⟩) δ.cells) _ _ _ _ _ har3 _ _ e35
  have q36 : a3.eval (.tmp 36) = δ.agg := @ar_eval (rowsX (some ⟨gb, 0, none⟩) δ.cells (some ⟨gb, 0, none⟩) δ.cells) _ _ _ _ _ har3 _ _ e36
  have U3 := h.next (@AR.size (rowsX (some ⟨gb, 0, none⟩) δ.cells (some ⟨gb, 0, none⟩) δ.cells) _ _ _ _ _ har3) (@AR.defers (rowsX (some ⟨gb, 0, none⟩) δ.cells (some ⟨gb, 0, none⟩) δ.cells) _ _ _ _ _ har3) hk3
  have hrun : (execOp a3.eval (o11.toList.getD 2 default)).run Tryd.prog w = .ok (.enter 90 #[v, δ.agg]) w := by
    rw [← run_enters (P := Tryd.prog) (f := 90) (by kernel_rfl)]
    have em : (#[Operand.tmp 35, .tmp 36] : Array Operand).map a3.eval = #[v, δ.agg] := by
      simp only [List.map_toArray, List.map_cons, List.map_nil, q35, q36]
    unfold execOp
    simp only [op11, resolve, em, Act.eval, Deferred.ofValue, Sem.run_bind, Sem.run_pure, Result.andThen_ok, invoke]
    simp
  refine wpList_plain (by kernel_rfl) fun K hK => ?_
  unfold Oper.wp
  rw [hrun, Oper.upon_enter]
  refine Calls.mono hc fun e w4 hR => ?_
  obtain ⟨u, b, he, hq⟩ := hQ e w4 hR
  subst he
  refine hK _ _ ?_
  rw [show (o11.toList.getD 2 default).dst = some 37 by kernel_rfl]
  obtain ⟨s4, f4, x4, r4⟩ := put_all a3 45 37 (.tuple #[u, .bool b]) U3.size (by decide)
  generalize hA4 : a3.put (some 37) (.tuple #[u, .bool b]) = a4 at s4 f4 x4 r4 ⊢
  have U4 := U3.next s4 (f4.trans U3.defers) (fun t ht => r4 t (by
    simp only [List.mem_cons, List.not_mem_nil, or_false] at ht
    omega))
  letI := row0
  refine wpList_readsF [6, 28, 29, 30] (xok_0 w4) (d11b u b) (by kernel_rfl) (ar_vals (ts := [(37, .tuple #[u, .bool b])]) w4 s4 U4.defers (fun p hp => by
    obtain rfl := List.mem_singleton.1 hp
    exact x4)) fun a5 t5 har5 e hk5 => ?_
  simp only [List.map_cons, List.map_nil, List.cons.injEq, and_true] at e
  obtain ⟨e11, e12⟩ := e
  exact hq a5 (U4.next har5.size har5.defers hk5) (ar_eval har5 e11) (ar_eval har5 e12)
set_option maxRecDepth 100000 in
theorem tail12 {u : Value} {b : Bool} (h : Us A n c v j a) (h11 : a.tmps.getD 11 undef = u) (h12 : a.tmps.getD 12 undef = .bool b)
    (hT : b = true → ∀ a', Us A n c u j a' → Q .normal a' w) (hF : b = false → ∀ a' w' m, a'.defers = [] → (results Tryd.f51 a'.tmps).run Tryd.prog w' = .ok (@SV.den row0 m (.val (.tuple #[.slice none 0 0, .int .i64 7]))) w' → Below w.heap.size w w' → Q .ret a' w') :
    wpL Tryd.prog [.region 12 o12 false, .cond (.tmp 41) (thenOf (inn2.getD 3 .skip)) .skip, .region 14 o14 false] Q a w := by
  letI := row0
  show (Code.region 12 o12 false).wp Tryd.prog (Exit.then (wpL Tryd.prog [.cond (.tmp 41) (thenOf (inn2.getD 3 .skip)) .skip, .region 14 o14 false] Q) Q) a w
  refine region_readsF [6, 28, 29, 30] (xok_0 w) (d12 u b) (by kernel_rfl) (ar_vals (ts := [(11, u), (12, .bool b)]) w h.size h.defers (fun p hp => ?_)) fun a1 t1 har1 e hk1 => ?_
  · simp only [List.mem_cons, List.not_mem_nil, or_false] at hp
    rcases hp with rfl | rfl
    · exact h11
    · exact h12
  simp only [List.map_cons, List.map_nil, List.cons.injEq, and_true] at e
  obtain ⟨e11, e41⟩ := e
  have U1 := h.next har1.size har1.defers hk1
  have p41 : a1.eval (.tmp 41) = .bool !b := ar_eval har1 e41
  have p11 : a1.tmps.getD 11 undef = u := ar_eval har1 e11
  show (Code.cond (.tmp 41) (thenOf (inn2.getD 3 .skip)) .skip).wp Tryd.prog (Exit.then (wpL Tryd.prog [.region 14 o14 false] Q) Q) a1 w
  cases b with
  | true =>
    refine wp_cond_false p41 (wp_skip ?_)
    show (Code.region 14 o14 false).wp Tryd.prog (Exit.then (wpL Tryd.prog [] Q) Q) a1 w
    rw [then_nil]
    refine region_readsF [28, 29, 30] (xok_0 w) (d14 u) (by kernel_rfl) (ar_vals (ts := [(11, u)]) w U1.size U1.defers (fun p hp => by
      obtain rfl := List.mem_singleton.1 hp
      exact p11)) fun a2 t2 har2 e hk2 => ?_
    simp only [List.map_cons, List.map_nil, List.cons.injEq, and_true] at e
    exact hT rfl a2 ⟨har2.size, har2.defers, ar_eval har2 e, (hk2 28 (by simp)).trans U1.t28, (hk2 29 (by simp)).trans U1.t29, (hk2 30 (by simp)).trans U1.t30⟩
  | false =>
    refine wp_cond_true p41 (wpL_flat _ ?_)
    refine piece Ap.ctx0.mix Ap.ctx0.hX Ap.ctx0.hs Ap.ctx0.hXO Ap.ctx0.hG d13 (w0 := w) trivial (epoch U1.size U1.defers [] (fun _ => 0) (fun p hp => by cases hp) fun p hp => by cases hp) (fun v hv m' a' w' g1 g2 g3 => ?_) (fun ex d hd => by cases hd)
    cases hv
    exact hF rfl a' w' m' g1 g2 g3
set_option maxRecDepth 100000 in
theorem round2 (hT : Tabs w0) (hX : @XOk (rowL A n c g) w0) (hn : n ≤ 500000) (hK : K ≤ 400000) (h : L2 x A n c g w0 K j mo a w) (hj : j < n)
    (hQ : ∀ mo' a' w', L2 x A n c g w0 K (j + 1) mo' a' w' → Q .normal a' w')
    (hR : ∀ a' w' m, a'.defers = [] → (results Tryd.f51 a'.tmps).run Tryd.prog w' = .ok (@SV.den row0 m (.val (.tuple #[.slice none 0 0, .int .i64 7]))) w' → Below w0.heap.size w0 w' → L.patch x.ls ((List.range (j + 1)).map g) = none → Q .ret a' w') : wpL Tryd.prog rd2 Q a w := by
  have hx : ∀ w', Below w0.heap.size w0 w' → @XOk (rowL A n c g) w' := fun w' hb => @XOk.below (rowL A n c g) _ _ hX hb
  rw [rd2_eq, wpL_app]
  refine piece1 (g := g) (hx w h.below) h.us hj fun a1 w1 U1 d1 => ?_
  have b1 : Below w0.heap.size w0 w1 := h.below.trans (d1.mono h.below.size)
  have hO1 := h.own.below d1
  show wpL Tryd.prog (.block 3 (inB (rd2.getD 2 .skip)) :: rd2.drop 3) Q a1 w1
  simp only [wpL]
  refine wp_block (wpL_flat _ ?_)
  show wpL Tryd.prog inn2 _ a1 w1
  rw [inn2_eq, wpL_app]
  refine piece2 (g := g) (hx w1 b1) U1 hj fun a2 w2 gb U2 p10 d2 hgb hbx => ?_
  have b2 : Below w0.heap.size w0 w2 := b1.trans (d2.mono b1.size)
  have hO2 := hO1.below d2
  obtain ⟨hm1, hm2⟩ := Bd.mo h.bd h.own
  show (Code.region 11 o11 false).wp Tryd.prog (Exit.then (wpL Tryd.prog [.region 12 o12 false, .cond (.tmp 41) (thenOf (inn2.getD 3 .skip)) .skip, .region 14 o14 false] _) _) a2 w2
  refine reg11 U2 p10 hbx (Ap.calls (δ := g j) (tabs_stable _ _ hT b2) b2.size hO2 (by omega) (fun t => by have := hm2 t; omega)) fun e w3 ⟨d3, hout⟩ => ?_
  have b3 : Below w0.heap.size w0 w3 := b2.trans d3
  rcases hout with ⟨mo', h1, rfl, hO3⟩ | ⟨h1, u, rfl⟩
  · refine ⟨_, true, rfl, fun a4 U4 p11 p12 => ?_⟩
    show wpL Tryd.prog [.region 12 o12 false, .cond (.tmp 41) (thenOf (inn2.getD 3 .skip)) .skip, .region 14 o14 false] _ a4 w3
    refine tail12 U4 p11 p12 (fun _ a5 U5 => ?_) (fun hb => by cases hb)
    show wpL Tryd.prog (rd2.drop 3) Q a5 w3
    refine piece3 (g := g) (hx w3 b3) U5 hj hn fun a6 w6 U6 d6 => ?_
    refine hQ mo' a6 w6 ⟨U6, b3.trans (d6.mono b3.size), hO3.below d6, ?_, L.apply_bd h.bd h1⟩
    rw [patch_succ, h.ls]
    exact h1
  · refine ⟨u, false, rfl, fun a4 U4 p11 p12 => ?_⟩
    show wpL Tryd.prog [.region 12 o12 false, .cond (.tmp 41) (thenOf (inn2.getD 3 .skip)) .skip, .region 14 o14 false] _ a4 w3
    refine tail12 U4 p11 p12 (fun hb => by cases hb) (fun _ a5 w5 m g1 g2 g3 => ?_)
    show Q .ret a5 w5
    refine hR a5 w5 m g1 g2 (b3.trans (g3.mono b3.size)) ?_
    rw [patch_succ, h.ls]
    exact h1
end
end Pa
end Go.Proofs.YtaojjpdlfnphiaaDoor.PDescKinds
end
section
/- invariant.Patch: its contract. -/
set_option linter.unusedSimpArgs false
set_option linter.unusedVariables false
set_option linter.unusedSectionVars false
namespace Go.Proofs.YtaojjpdlfnphiaaDoor.PDescKinds
open Go.RowKit Go.Ev
theorem ownMo0 (B : Nat) (w : World) : OwnMo B w Mo0 := by
  have h0 : ∀ j, (Mo0.g j).row = .slice none 0 0 := fun _ => rfl
  refine ⟨World.ownsRow_nil _ _ _ _, fun j => ?_, fun j l _ => .inl rfl, fun j _ => rfl⟩
  exact World.ownsRow_nil _ _ _ _
namespace Pa
section
variable {x mo : Mo} {lv v : Value} {i j K n c : Nat} {A : Option Addr} {g : Nat → Dl} {a : Act} {w w0 : World} {Q : Exit → Act → World → Prop}
set_option maxRecDepth 100000 in
theorem start (hI : Inv (fun _ => x) noBox w0) (hQ : ∀ a' w', L1 x lv w0 0 Mo0 a' w' → Q .normal a' w') :
    wpL Tryd.prog (pt.take 3) Q { tmps := #[.slice x.A x.n x.c, lv] ++ Array.replicate (Tryd.f51.ntmps - (#[.slice x.A x.n x.c, lv] : Array Value).size) undef, defers := [] } w0 := by
  letI := rowsB (fun _ => x) noBox
  have C := ctxB (fun _ => x) noBox entries_nil entsS_nil
  have C : Ctx Tryd.prog ext (tab []) (Inv (fun _ => x) noBox) := ⟨C.mix, C.hX, C.hs, C.hXO, tab_sound entries_nil⟩
  have hst := start_sound (fn := Tryd.f51) [.xs [0], .val lv] (fun x hx => by
    simp only [List.mem_cons, List.not_mem_nil, or_false] at hx
    rcases hx with rfl | rfl
    · exact ok_xs
    · exact ok_val _ _) w0 (fun _ => 0)
  simp only [List.map_cons, List.map_nil, den_xs, den_val] at hst
  refine piece C.mix C.hX C.hs C.hXO C.hG (a0 (fun _ => x) lv) hI hst (fun v hv => by cases hv) (fun ex d hd m a1 w1 hr => ?_)
  cases hd
  exact hQ a1 w1 ⟨Ts.back (bs := []) (tl := []) (nx := 0) hr.ar, hr.mr.below, ownMo0 _ _, rfl, by simp [Mo.ls, Mo0]⟩
set_option maxRecDepth 100000 in
theorem end1 (hI : Inv (fun _ => x) noBox w0) (h : L1 x lv w0 x.n mo a w) (hQ : ∀ a' w', L1 x lv w0 x.n mo a' w' → Q (.exit 0) a' w') : wpL Tryd.prog rd Q a w := by
  letI := rowsB (fun _ => x) noBox
  have C := ctxB (fun _ => x) noBox entries_nil entsS_nil
  have C : Ctx Tryd.prog ext (tab []) (Inv (fun _ => x) noBox) := ⟨C.mix, C.hX, C.hs, C.hXO, tab_sound entries_nil⟩
  rw [rd_eq, wpL_app]
  have e1 := Pa.a1 (fun _ => x) lv (.slice mo.A mo.n mo.c) x.n
  rw [show decide ((x.n : Int) < (x.n : Int)) = false from decide_eq_false (by omega)] at e1
  refine piece C.mix C.hX C.hs C.hXO C.hG e1 (inv_stable _ _ _ _ hI h.below) (h.ts.sr w) (fun v hv => by cases hv) (fun ex d hd m a1 w1 hr => ?_)
  cases hd
  exact hQ a1 w1 ⟨Ts.back (bs := []) (tl := []) (nx := 0) hr.ar, h.below.trans (hr.mr.below.mono h.below.size), h.own.below hr.mr.below, h.n, h.ls⟩
set_option maxRecDepth 100000 in
theorem mid (hX : @XOk (rowL A n c g) w0) (h : L1 x (.slice A n c) w0 x.n mo a w) (hbd : L.Bd K x.ls) (hQ : ∀ a' w', L2 x A n c g w0 K 0 mo a' w' → Q .normal a' w') : wpL Tryd.prog (p2.take 1) Q a w := by
  letI := rowL A n c g
  have C := ctxL (A := A) (n := n) (c := c) (g := g)
  have hsr : SR w 45 (fun _ => 0) ((⟨[(1, .xs []), (6, .val (.slice mo.A mo.n mo.c))], []⟩ : Cut).st 0) a w := by
    refine epoch h.ts.size h.ts.defers _ _ (fun p hp => ?_) (fun p hp => ?_)
    · simp only [List.mem_cons, List.not_mem_nil, or_false] at hp
      rcases hp with rfl | rfl
      · exact h.ts.t1.trans (den_xs _ []).symm
      · exact h.ts.t6.trans (den_val _ _).symm
    · simp only [List.mem_cons, List.not_mem_nil, or_false] at hp
      rcases hp with rfl | rfl <;> first | exact ok_val _ _ | exact ok_xs
  refine piece C.mix C.hX C.hs C.hXO C.hG (b0 A n c g (.slice mo.A mo.n mo.c)) (XOk.below hX h.below) hsr (fun v hv => by cases hv) (fun ex d hd m a1 w1 hr => ?_)
  cases hd
  have e : mo.ls = x.ls := by rw [h.ls, ← ls_len x, List.take_length]
  exact hQ a1 w1 ⟨Us.back (g := g) (tl := []) hr.ar, h.below.trans (hr.mr.below.mono h.below.size), h.own.below hr.mr.below, by rw [e]; rfl, by rw [e]; exact hbd⟩
/-- What Patch answers. -/
def Out (x : Mo) (ds : List Dl) (w0 : World) : Ending → World → Prop := fun e w' => Below w0.heap.size w0 w' ∧
  ((∃ mo, L.patch x.ls ds = some mo.ls ∧ e = .returned (.tuple #[.slice mo.A mo.n mo.c, .int .i64 0]) ∧ OwnMo w0.heap.size w' mo) ∨ L.patch x.ls ds = none ∧ e = .returned (.tuple #[.slice none 0 0, .int .i64 7]))
set_option maxRecDepth 100000 in
theorem calls (hT : Tabs w0) (hx : RawMo w0 x) (hxn : x.n ≤ 400000) (hxp : ∀ j, j < x.n → (x.g j).n ≤ 400000) (hX : @XOk (rowL A n c g) w0) (hn : n ≤ 500000) : Calls Tryd.prog 51 #[.slice x.A x.n x.c, .slice A n c] w0 (Out x ((List.range n).map g) w0) := by
  have hI : Inv (fun _ => x) noBox w0 := ⟨hT, xok_raw fun _ => hx⟩
  have hbd : L.Bd 400000 x.ls := by
    refine ⟨by rw [ls_len]; exact hxn, fun s hs => ?_⟩
    obtain ⟨j, hj, rfl⟩ := List.mem_map.1 hs
    rw [ps_len]
    exact hxp j (List.mem_range.1 hj)
  refine calls_of_wp Tryd.func51 (c := Tryd.f51.body.getD .skip) (by kernel_rfl) ?_
  refine wpL_flat _ ?_
  show wpL Tryd.prog pt _ _ _
  rw [pt_eq, wpL_app]
  refine start hI fun a1 w1 h1 => ?_
  show wpL Tryd.prog (.block 0 (.loop (roundOf pt)) :: p2) _ a1 w1
  simp only [wpL]
  refine wp_block (wp_loop_rounds (x.n + 1) ?_)
  have loop2 : ∀ (k j : Nat) (mo : Mo) (a : Act) (w : World), L2 x A n c g w0 400000 j mo a w → j ≤ n → n - j < k →
      Code.rounds Tryd.prog (roundOf p2) (Exit.inBlock 2 (Exit.then (wpL Tryd.prog (p2.drop 2) (bodyPost Tryd.prog Tryd.f51 (Out x ((List.range n).map g) w0))) (bodyPost Tryd.prog Tryd.f51 (Out x ((List.range n).map g) w0)))) k a w := by
    intro k
    induction k with
    | zero => intro j mo a w h h1 h2; omega
    | succ k ih =>
      intro j mo a w h h1 h2
      rw [rounds_succ]
      refine wpL_flat _ ?_
      show wpL Tryd.prog rd2 _ a w
      by_cases hj : j < n
      · refine round2 hT hX hn (Nat.le_refl _) h hj (fun mo' a' w' h' => ih (j + 1) mo' a' w' h' (by omega) (by omega)) (fun a' w' m g1 g2 g3 g4 => ?_)
        rw [@den_val row0] at g2
        exact ⟨g1, _, g2, g3, .inr ⟨patch_none g4 (by omega), rfl⟩⟩
      · obtain rfl : j = n := by omega
        rw [rd2_eq, wpL_app]
        refine pieceE (g := g) (@XOk.below (rowL A j c g) _ _ hX h.below) h.us fun a2 w2 U2 d2 => ?_
        have b2 : Below w0.heap.size w0 w2 := h.below.trans (d2.mono h.below.size)
        show wpL Tryd.prog (p2.drop 2) _ a2 w2
        letI := row0
        refine piece Ap.ctx0.mix Ap.ctx0.hX Ap.ctx0.hs Ap.ctx0.hXO Ap.ctx0.hG (d16 (.slice mo.A mo.n mo.c)) (w0 := w2) trivial (epoch U2.size U2.defers [(6, .val (.slice mo.A mo.n mo.c))] (fun _ => 0) (fun p hp => ?_) fun p hp => ?_) (fun v hv m' a' w' g1 g2 g3 => ?_) (fun ex d hd => by cases hd)
        · obtain rfl := List.mem_singleton.1 hp
          exact U2.t6.trans (den_val _ _).symm
        · obtain rfl := List.mem_singleton.1 hp
          exact ok_val _ _
        cases hv
        rw [den_val] at g2
        exact ⟨g1, _, g2, b2.trans (g3.mono b2.size), .inl ⟨mo, h.ls, rfl, (h.own.below d2).below g3⟩⟩
  have loop1 : ∀ (k i : Nat) (mo : Mo) (a : Act) (w : World), L1 x (.slice A n c) w0 i mo a w → i ≤ x.n → x.n - i < k →
      Code.rounds Tryd.prog (roundOf pt) (Exit.inBlock 0 (Exit.then (wpL Tryd.prog p2 (bodyPost Tryd.prog Tryd.f51 (Out x ((List.range n).map g) w0))) (bodyPost Tryd.prog Tryd.f51 (Out x ((List.range n).map g) w0)))) k a w := by
    intro k
    induction k with
    | zero => intro i mo a w h h1 h2; omega
    | succ k ih =>
      intro i mo a w h h1 h2
      rw [rounds_succ]
      refine wpL_flat _ ?_
      show wpL Tryd.prog rd _ a w
      by_cases hi : i < x.n
      · exact round1 hI hx (by omega) (fun j hj => by have := hxp j hj; omega) h hi (fun mo' a' w' h' => ih (i + 1) mo' a' w' h' (by omega) (by omega))
      · obtain rfl : i = x.n := by omega
        refine end1 hI h fun a2 w2 h2 => ?_
        show wpL Tryd.prog p2 _ a2 w2
        rw [p2_eq, wpL_app]
        refine mid hX h2 hbd fun a3 w3 h3 => ?_
        show wpL Tryd.prog (.block 2 (.loop (roundOf p2)) :: p2.drop 2) _ a3 w3
        simp only [wpL]
        exact wp_block (wp_loop_rounds (n + 1) (loop2 (n + 1) 0 mo a3 w3 h3 (Nat.zero_le _) (by omega)))
  exact loop1 (x.n + 1) 0 Mo0 a1 w1 h1 (Nat.zero_le _) (by omega)
end
end Pa
end Go.Proofs.YtaojjpdlfnphiaaDoor.PDescKinds
end
section
/- There and back, in plain lists: what Diff tells makes the one moment of the other. -/
set_option linter.unusedSimpArgs false
set_option linter.unusedVariables false
set_option linter.unusedSectionVars false
namespace Go.Proofs.YtaojjpdlfnphiaaDoor.PDescKinds
open Go.RowKit Go.Ev
def EV (p q : V) : Prop := S.eqC p q = true ∧ R.eqR p q = true
def ED (d e : D) : Prop := S.alikeC d e = true ∧ R.eqDR d e = true
theorem EV.refl {p : V} (h : p.wf) : EV p p := ⟨by rw [eqV_eq h h]; exact eqR_refl p, eqR_refl p⟩
theorem ED.refl {d : D} (h : d.wf) : ED d d := ⟨by rw [eqD_eq h h]; exact eqDR_refl d, eqDR_refl d⟩
theorem EV.of {p q : V} (hp : p.wf) (hq : q.wf) (h : S.eqC q p = true) : EV p q := by
  have : R.eqR p q = true := by rw [eqR_symm, ← eqV_eq hq hp]; exact h
  exact ⟨by rw [eqV_eq hp hq]; exact this, this⟩
theorem ED.of {d e : D} (hd : d.wf) (he : e.wf) (h : S.alikeC d e = true) : ED d e := ⟨h, by rw [← eqD_eq hd he]; exact h⟩
def RelP (q r : Pr) : Prop := q.k = r.k ∧ ED q.d r.d
structure RelS (s t : LS) : Prop where
  cl : s.cl = t.cl
  p : EV s.p t.p
  x : s.x = t.x
  len : s.ps.length = t.ps.length
  ps : ∀ (i : Nat) (q r : Pr), s.ps[i]? = some q → t.ps[i]? = some r → RelP q r
/-! Sublists -/
theorem filter_sub {α : Type} {p : α → Bool} {l1 l : List α} (h : l1.Sublist l) : l.Pairwise (· ≠ ·) → (∀ q ∈ l, p q = true ↔ q ∈ l1) → l.filter p = l1 := by
  induction h with
  | slnil => intro _ _; rfl
  | @cons l1 l a h ih =>
    intro hn hp
    rw [List.pairwise_cons] at hn
    have hna : a ∉ l1 := fun ha => hn.1 a (h.subset ha) rfl
    have hpa : p a = false := by
      cases hq : p a with
      | false => rfl
      | true => exact absurd ((hp a (by simp)).1 hq) hna
    rw [List.filter_cons_of_neg (by rw [hpa]; decide)]
    exact ih hn.2 fun q hq => hp q (List.mem_cons_of_mem _ hq)
  | @cons_cons l1 l a h ih =>
    intro hn hp
    rw [List.pairwise_cons] at hn
    rw [List.filter_cons_of_pos ((hp a (by simp)).2 (by simp))]
    congr 1
    refine ih hn.2 fun q hq => ?_
    have hne : q ≠ a := fun e => hn.1 q hq e.symm
    rw [hp q (List.mem_cons_of_mem _ hq), List.mem_cons]
    exact ⟨fun h => h.resolve_left hne, .inr⟩
theorem range_sub {idx : Nat → Nat} : ∀ (m N : Nat), (∀ i j, i < j → j < m → idx i < idx j) → (∀ i, i < m → idx i < N) → ((List.range m).map idx).Sublist (List.range N)
  | 0, N, _, _ => by simp
  | m + 1, N, h1, h2 => by
    rw [List.range_succ, List.map_append]
    have ih := range_sub (idx := idx) m (idx m) (fun i j hi hj => h1 i j hi (by omega)) (fun i hi => h1 i m hi (by omega))
    have h3 : ((List.range m).map idx ++ [m].map idx).Sublist (List.range (idx m + 1)) := by
      rw [List.range_succ]
      exact ih.append (List.Sublist.refl _)
    refine h3.trans ?_
    have := h2 m (by omega)
    exact List.range_sublist.2 (by omega)
/-! Keys -/
theorem at_none {l : List Pr} {k : K} (h : ∀ q ∈ l, q.k ≠ k) : L.at_ l k = none := by
  unfold L.at_
  rw [List.findIdx?_eq_none_iff]
  intro q hq
  cases hb : S.keq q.k k with
  | false => rfl
  | true => exact absurd (keq_iff.1 hb) (h q hq)
theorem at_some {l r : List Pr} {q : Pr} {k : K} (h : ∀ q ∈ l, q.k ≠ k) (hq : q.k = k) : L.at_ (l ++ q :: r) k = some l.length := by
  unfold L.at_
  rw [List.findIdx?_eq_some_iff_getElem]
  refine ⟨by simp, ?_, fun j hj => ?_⟩
  · simp only [List.getElem_append_right (Nat.le_refl _), Nat.sub_self, List.getElem_cons_zero]
    exact keq_iff.2 hq
  · rw [List.getElem_append_left hj]
    cases hb : S.keq (l[j]).k k with
    | false => decide
    | true => exact absurd (keq_iff.1 hb) (h _ (List.getElem_mem hj))
theorem modify_mid {α : Type} (p r : List α) (u : α) (f : α → α) : (p ++ u :: r).modify p.length f = p ++ f u :: r := by
  induction p with
  | nil => rfl
  | cons x p ih =>
    show x :: (p ++ u :: r).modify p.length f = x :: (p ++ f u :: r)
    rw [ih]
/-- Each key stands once. -/
def Once (s : Sh) : Prop := ∀ i j, i < s.n → j < s.n → (s.g i).k = (s.g j).k → i = j
namespace L
/-- Deltas of one shape. -/
def shapes (s : LS) (ds : List Dl) : Option LS := ds.foldlM shape s
theorem shapes_app (s : LS) (a b : List Dl) : shapes s (a ++ b) = (shapes s a).bind fun s' => shapes s' b := by
  unfold shapes
  rw [List.foldlM_append]
  rfl
theorem shapes_nil (s : LS) : shapes s [] = some s := rfl
theorem shapes_one (s : LS) (δ : Dl) : shapes s [δ] = shape s δ := by
  unfold shapes
  simp
theorem shapes_cons (s : LS) (δ : Dl) (l : List Dl) : shapes s (δ :: l) = (shape s δ).bind fun s' => shapes s' l := by
  unfold shapes
  simp
theorem shape_3 {s : LS} {δ : Dl} (h : δ.what = 3) : shape s δ = some { s with p := δ.v } := by
  unfold shape
  rw [if_neg (by omega), if_pos h]
theorem shape_5 {s : LS} {δ : Dl} (h : δ.what = 5) : shape s δ = (at_ s.ps δ.k).map fun i => { s with ps := s.ps.eraseIdx i } := by
  unfold shape
  rw [if_neg (by omega), if_neg (by omega), if_neg (by omega), if_pos h]
theorem shape_6n {s : LS} {δ : Dl} (h : δ.what = 6) (ha : at_ s.ps δ.k = none) : shape s δ = some { s with ps := s.ps ++ [⟨δ.k, δ.d⟩] } := by
  unfold shape
  rw [if_neg (by omega), if_neg (by omega), if_neg (by omega), if_neg (by omega), if_pos h, ha]
theorem shape_6s {s : LS} {δ : Dl} {i : Nat} (h : δ.what = 6) (ha : at_ s.ps δ.k = some i) : shape s δ = some { s with ps := s.ps.modify i fun q => { q with d := δ.d } } := by
  unfold shape
  rw [if_neg (by omega), if_neg (by omega), if_neg (by omega), if_neg (by omega), if_pos h, ha]
theorem shape_gone {s : LS} {o : Int} {q : Pr} {p r : List Pr} (hs : s.ps = p ++ q :: r) (hp : ∀ x ∈ p, x.k ≠ q.k) : shape s (S.dGone o q) = some { s with ps := p ++ r } := by
  rw [shape_5 (show (S.dGone o q).what = 5 from rfl), show (S.dGone o q).k = q.k from rfl, hs, at_some hp rfl, Option.map_some]
  congr 2
  rw [List.eraseIdx_append_of_length_le (Nat.le_refl _), Nat.sub_self]
  rfl
theorem shape_put {s : LS} {o : Int} {q u : Pr} {p r : List Pr} (hs : s.ps = p ++ u :: r) (hp : ∀ x ∈ p, x.k ≠ q.k) (hu : u.k = q.k) : shape s (S.dPut o q) = some { s with ps := p ++ q :: r } := by
  rw [shape_6s (show (S.dPut o q).what = 6 from rfl) (i := p.length) (by rw [hs]; exact at_some hp hu), hs]
  show some { s with ps := (p ++ u :: r).modify p.length fun x => { x with d := q.d } } = _
  congr 2
  rw [modify_mid]
  show p ++ (⟨u.k, q.d⟩ : Pr) :: r = _
  rw [hu]
theorem shape_new {s : LS} {o : Int} {q : Pr} (hp : ∀ x ∈ s.ps, x.k ≠ q.k) : shape s (S.dPut o q) = some { s with ps := s.ps ++ [q] } := by
  rw [shape_6n (show (S.dPut o q).what = 6 from rfl) (at_none hp)]
  rfl
/-- Properties that go. -/
theorem gones_fold {G : Pr → Bool} {o : Int} : ∀ (suf p : List Pr) (s : LS), s.ps = p ++ suf → (∀ x ∈ p, ∀ q ∈ suf, x.k ≠ q.k) → suf.Pairwise (fun x q => x.k ≠ q.k) →
    shapes s (suf.flatMap fun q => S.iff (G q) (S.dGone o q)) = some { s with ps := p ++ suf.filter fun q => !G q }
  | [], p, s, hs, _, _ => by
    simp only [List.flatMap_nil, List.filter_nil, shapes_nil, Option.some.injEq]
    rw [← hs]
  | q :: r, p, s, hs, h1, h2 => by
    rw [List.pairwise_cons] at h2
    rw [List.flatMap_cons, shapes_app]
    cases hg : G q with
    | true =>
      have hp : ∀ x ∈ p, x.k ≠ q.k := fun x hx => h1 x hx q (by simp)
      rw [show S.iff true (S.dGone o q) = [S.dGone o q] from rfl, shapes_one, shape_gone hs hp, Option.bind_some, List.filter_cons_of_neg (by rw [hg]; decide)]
      exact gones_fold r p { s with ps := p ++ r } rfl (fun x hx y hy => h1 x hx y (List.mem_cons_of_mem _ hy)) h2.2
    | false =>
      rw [show S.iff false (S.dGone o q) = [] from rfl, shapes_nil, Option.bind_some, List.filter_cons_of_pos (by rw [hg]; decide)]
      have := gones_fold (G := G) (o := o) r (p ++ [q]) s (by rw [hs]; simp) (fun x hx y hy => by
        rcases List.mem_append.1 hx with hx | hx
        · exact h1 x hx y (List.mem_cons_of_mem _ hy)
        · obtain rfl := List.mem_singleton.1 hx
          exact h2.1 y hy) h2.2
      rw [this]
      simp
end L
/-! What was kept -/
theorem kept_scan (b a : Sh) : ∀ (k i : Nat) (s : Int), ∃ m : Nat, scanned (fun _ => ((i + k : Nat) : Int)) (Ev.scan (S.keptStep b a) k i s) = (m : Int) ∧ i ≤ m ∧ m ≤ i + k ∧ ∀ j, i ≤ j → j < m → (if j = i then s else S.find b (a.g (j - 1)).k) < S.find b (a.g j).k
  | 0, i, s => ⟨i, rfl, Nat.le_refl _, Nat.le_refl _, fun j h1 h2 => by omega⟩
  | k + 1, i, s => by
    simp only [Ev.scan]
    cases hd : decide (S.find b (a.g i).k ≤ s) with
    | true =>
      have : S.keptStep b a i s = .error (i : Int) := by unfold S.keptStep; rw [hd]; rfl
      rw [this]
      exact ⟨i, rfl, Nat.le_refl _, by omega, fun j h1 h2 => by omega⟩
    | false =>
      have : S.keptStep b a i s = .ok (S.find b (a.g i).k) := by unfold S.keptStep; rw [hd]; rfl
      rw [this]
      have hlt : s < S.find b (a.g i).k := by
        have := of_decide_eq_false hd
        omega
      obtain ⟨m, h1, h2, h3, h4⟩ := kept_scan b a k (i + 1) (S.find b (a.g i).k)
      refine ⟨m, by rw [← h1, show i + 1 + k = i + (k + 1) by omega], by omega, by omega, fun j g1 g2 => ?_⟩
      by_cases e : j = i
      · rw [if_pos e, e]; exact hlt
      · rw [if_neg e]
        have := h4 j (by omega) g2
        by_cases e2 : j = i + 1
        · rw [if_pos e2] at this
          rw [e2]
          rw [e2] at this
          exact this
        · rw [if_neg e2] at this
          exact this
theorem kept_spec (b a : Sh) : ∃ m : Nat, S.kept b a = (m : Int) ∧ m ≤ a.n ∧ (∀ j, j < m → 0 ≤ S.find b (a.g j).k) ∧ ∀ i j, i < j → j < m → S.find b (a.g i).k < S.find b (a.g j).k := by
  obtain ⟨m, h1, _, h3, h4⟩ := kept_scan b a a.n 0 (-1)
  have hs : ∀ j, j + 1 < m → S.find b (a.g j).k < S.find b (a.g (j + 1)).k := fun j hj => by
    have := h4 (j + 1) (Nat.zero_le _) hj
    simpa using this
  have h0 : 0 < m → -1 < S.find b (a.g 0).k := fun h => by simpa using h4 0 (Nat.le_refl _) h
  have inc : ∀ d i, i + d + 1 < m → S.find b (a.g i).k < S.find b (a.g (i + d + 1)).k := by
    intro d
    induction d with
    | zero => intro i hi; exact hs i hi
    | succ d ih =>
      intro i hi
      have := ih i (by omega)
      have := hs (i + d + 1) (by omega)
      rw [show i + (d + 1) + 1 = i + d + 1 + 1 by omega]
      omega
  refine ⟨m, ?_, by omega, fun j hj => ?_, fun i j hij hj => ?_⟩
  · rw [← h1, Nat.zero_add]; rfl
  · by_cases e : j = 0
    · subst e
      have := h0 hj
      omega
    · have := inc (j - 1) 0 (by omega)
      rw [show 0 + (j - 1) + 1 = j by omega] at this
      have := h0 (by omega)
      omega
  · have := inc (j - i - 1) i (by omega)
    rw [show i + (j - i - 1) + 1 = j by omega] at this
    exact this
theorem find_once {s : Sh} (h : Once s) {j : Nat} (hj : j < s.n) : S.find s (s.g j).k = (j : Int) := by
  obtain ⟨i, h1, h2, h3⟩ := find_of (s := s) (find_mem hj)
  rw [h1, h i j h2 hj h3]
section
variable {b a : Sh} {o : Int} {m : Nat}
/-- What stays of the one, in the other's order. -/
def yOf (b a : Sh) (i : Nat) : Pr := b.g (S.find b (a.g i).k).toNat
theorem y_key (hm : ∀ j, j < m → 0 ≤ S.find b (a.g j).k) {i : Nat} (hi : i < m) : (yOf b a i).k = (a.g i).k ∧ (S.find b (a.g i).k).toNat < b.n := by
  obtain ⟨j, h1, h2, h3⟩ := find_of (hm i hi)
  unfold yOf
  rw [h1, Int.toNat_natCast]
  exact ⟨h3, h2⟩
def goneP (a : Sh) (m : Nat) (q : Pr) : Bool := decide (S.find a q.k < 0) || decide (S.find a q.k ≥ (m : Int))
theorem pair_keys (h : Once b) : ((List.range b.n).map b.g).Pairwise (fun x q => x.k ≠ q.k) := by
  rw [List.pairwise_map]
  have := List.nodup_range (n := b.n)
  refine List.Pairwise.imp_of_mem (fun {i j} hi hj hij e => hij (h i j (List.mem_range.1 hi) (List.mem_range.1 hj) e)) this
theorem gones_spec (hb : Once b) (ha : Once a) (hk : S.kept b a = (m : Int)) (hma : m ≤ a.n) (hm : ∀ j, j < m → 0 ≤ S.find b (a.g j).k) (hinc : ∀ i j, i < j → j < m → S.find b (a.g i).k < S.find b (a.g j).k) (s : LS) (hs : s.ps = b.ls.ps) :
    L.shapes s (S.gones o b a b.n) = some { s with ps := (List.range m).map (yOf b a) } := by
  have e : S.gones o b a b.n = ((List.range b.n).map b.g).flatMap fun q => S.iff (goneP a m q) (S.dGone o q) := by
    unfold S.gones
    rw [List.flatMap_map]
    refine congrArg (fun f => (List.range b.n).flatMap f) (funext fun i => ?_)
    unfold S.goneAt goneP
    rw [hk]
  rw [e, L.gones_fold _ [] s (by rw [hs]; rfl) (fun x hx => by cases hx) (pair_keys hb)]
  congr 2
  rw [List.nil_append]
  have hsub : ((List.range m).map (yOf b a)).Sublist ((List.range b.n).map b.g) := by
    have := range_sub (idx := fun i => (S.find b (a.g i).k).toNat) m b.n (fun i j hij hj => by
      have := hinc i j hij hj
      have := hm i (by omega)
      omega) (fun i hi => (y_key hm hi).2)
    have := this.map b.g
    rw [List.map_map] at this
    exact this
  refine filter_sub hsub ((pair_keys hb).imp fun {x y} h e => h (by rw [e])) fun q hq => ?_
  obtain ⟨j, hj, rfl⟩ := List.mem_map.1 hq
  have hj := List.mem_range.1 hj
  constructor
  · intro h
    have hg : goneP a m (b.g j) = false := by simpa using h
    unfold goneP at hg
    rw [Bool.or_eq_false_iff, decide_eq_false_iff_not, decide_eq_false_iff_not] at hg
    obtain ⟨i, h1, h2, h3⟩ := find_of (s := a) (k := (b.g j).k) (by omega)
    refine List.mem_map.2 ⟨i, List.mem_range.2 (by omega), ?_⟩
    unfold yOf
    rw [h3, find_once hb hj, Int.toNat_natCast]
  · intro h
    obtain ⟨i, hi, he⟩ := List.mem_map.1 h
    have hi := List.mem_range.1 hi
    have hkey : (b.g j).k = (a.g i).k := by rw [← he]; exact (y_key hm hi).1
    have hf : S.find a (b.g j).k = (i : Int) := by rw [hkey]; exact find_once ha (by omega)
    have : goneP a m (b.g j) = false := by
      unfold goneP
      rw [hf, decide_eq_false (by omega), decide_eq_false (by omega)]
      rfl
    rw [this]
    rfl
/-- What the puts make. -/
def zOf (b a : Sh) (i : Nat) : Pr := if S.putAt b a i then a.g i else yOf b a i
theorem z_key (hk : S.kept b a = (m : Int)) (hm : ∀ j, j < m → 0 ≤ S.find b (a.g j).k) (i : Nat) : (zOf b a i).k = (a.g i).k := by
  unfold zOf
  split
  · rfl
  · rename_i h
    have : i < m := by
      unfold S.putAt at h
      rw [hk] at h
      simp only [Bool.or_eq_true, decide_eq_true_eq, not_or] at h
      omega
    exact (y_key hm this).1
theorem puts_spec (ha : Once a) (hk : S.kept b a = (m : Int)) (hma : m ≤ a.n) (hm : ∀ j, j < m → 0 ≤ S.find b (a.g j).k) (s : LS) (hs : s.ps = (List.range m).map (yOf b a)) :
    ∀ n, n ≤ a.n → L.shapes s (S.puts o b a n) = some { s with ps := (List.range n).map (zOf b a) ++ ((List.range m).map (yOf b a)).drop n }
  | 0, _ => by
    simp only [S.puts, List.range_zero, List.flatMap_nil, L.shapes_nil, List.map_nil, List.nil_append, List.drop_zero]
    rw [← hs]
  | n + 1, hn => by
    have ih := puts_spec ha hk hma hm s hs n (by omega)
    have e : S.puts o b a (n + 1) = S.puts o b a n ++ S.iff (S.putAt b a n) (S.dPut o (a.g n)) := by
      unfold S.puts
      rw [List.range_succ, List.flatMap_append]
      simp
    have hz : ∀ x ∈ (List.range n).map (zOf b a), x.k ≠ (a.g n).k := by
      intro x hx e
      obtain ⟨i, hi, rfl⟩ := List.mem_map.1 hx
      have hi := List.mem_range.1 hi
      rw [z_key hk hm] at e
      have := ha i n (by omega) (by omega) e
      omega
    rw [e, L.shapes_app, ih, Option.bind_some, List.range_succ, List.map_append]
    by_cases hnm : n < m
    · have hd : ((List.range m).map (yOf b a)).drop n = yOf b a n :: ((List.range m).map (yOf b a)).drop (n + 1) := by
        rw [List.drop_eq_getElem_cons (by simpa using hnm)]
        simp
      have hyk := (y_key hm hnm).1
      cases hp : S.putAt b a n with
      | true =>
        rw [show S.iff true (S.dPut o (a.g n)) = [S.dPut o (a.g n)] from rfl, L.shapes_one, hd]
        rw [L.shape_put (s := { s with ps := (List.range n).map (zOf b a) ++ yOf b a n :: ((List.range m).map (yOf b a)).drop (n + 1) }) rfl hz hyk]
        have : zOf b a n = a.g n := by unfold zOf; rw [if_pos hp]
        simp [this]
      | false =>
        rw [show S.iff false (S.dPut o (a.g n)) = [] from rfl, L.shapes_nil, hd]
        have : zOf b a n = yOf b a n := by unfold zOf; rw [if_neg (by rw [hp]; decide)]
        simp [this]
    · have hd : ((List.range m).map (yOf b a)).drop n = [] := List.drop_of_length_le (by simp; omega)
      have hd' : ((List.range m).map (yOf b a)).drop (n + 1) = [] := List.drop_of_length_le (by simp; omega)
      have hp : S.putAt b a n = true := by
        unfold S.putAt
        rw [hk, decide_eq_true (by omega)]
        rfl
      rw [hd, hd', hp, show S.iff true (S.dPut o (a.g n)) = [S.dPut o (a.g n)] from rfl, L.shapes_one, List.append_nil]
      rw [L.shape_new (s := { s with ps := (List.range n).map (zOf b a) }) hz]
      have : zOf b a n = a.g n := by unfold zOf; rw [if_pos hp]
      simp [this]
theorem between_spec (hb : Once b) (ha : Once a) (wb : b.p.wf) (wa : a.p.wf) (wbd : ∀ i, (b.g i).d.wf) (wad : ∀ i, (a.g i).d.wf) : ∃ s, L.shapes b.ls (S.between o b a) = some s ∧ RelS s a.ls := by
  obtain ⟨m, hk, hma, hm, hinc⟩ := kept_spec b a
  unfold S.between
  rw [L.shapes_app, L.shapes_app]
  obtain ⟨p', hp', hev⟩ : ∃ p', L.shapes b.ls (S.heads o b a) = some ⟨a.cl, p', a.x, b.ls.ps⟩ ∧ EV p' a.p := by
    unfold S.heads
    rw [L.shapes_app, L.shapes_app]
    have h1 : L.shapes b.ls (S.iff (a.cl != b.cl) (S.dCl o a)) = some { b.ls with cl := a.cl } := by
      cases h : (a.cl != b.cl) with
      | true => rfl
      | false =>
        have : a.cl = b.cl := by simpa using h
        rw [show S.iff false (S.dCl o a) = [] from rfl, L.shapes_nil, this]
        rfl
    rw [h1, Option.bind_some]
    have h3 : ∀ p', L.shapes ⟨a.cl, p', b.x, b.ls.ps⟩ (S.iff (a.x != b.x) (S.dEx o a)) = some ⟨a.cl, p', a.x, b.ls.ps⟩ := by
      intro p'
      cases h : (a.x != b.x) with
      | true => rfl
      | false =>
        have : a.x = b.x := by simpa using h
        rw [show S.iff false (S.dEx o a) = [] from rfl, L.shapes_nil, this]
    cases h : S.eqC a.p b.p with
    | true =>
      refine ⟨b.p, ?_, EV.of wb wa h⟩
      rw [show S.iff (!true) (S.dPr o a) = [] from rfl, L.shapes_nil, Option.bind_some]
      exact h3 b.p
    | false =>
      refine ⟨a.p, ?_, EV.refl wa⟩
      rw [show S.iff (!false) (S.dPr o a) = [S.dPr o a] from rfl, L.shapes_one]
      have : L.shape { b.ls with cl := a.cl } (S.dPr o a) = some ⟨a.cl, a.p, b.x, b.ls.ps⟩ := by
        rw [L.shape_3 (show (S.dPr o a).what = 3 from rfl)]
        rfl
      rw [this, Option.bind_some]
      exact h3 a.p
  rw [hp', Option.bind_some, gones_spec (o := o) hb ha hk hma hm hinc ⟨a.cl, p', a.x, b.ls.ps⟩ rfl, Option.bind_some, puts_spec (o := o) ha hk hma hm ⟨a.cl, p', a.x, (List.range m).map (yOf b a)⟩ rfl a.n (Nat.le_refl _)]
  have hd : ((List.range m).map (yOf b a)).drop a.n = [] := List.drop_of_length_le (by simp; omega)
  rw [hd, List.append_nil]
  refine ⟨_, rfl, rfl, hev, rfl, by simp [Sh.ls], fun i q r hq hr => ?_⟩
  have hq : ((List.range a.n).map (zOf b a))[i]? = some q := hq
  have hr : ((List.range a.n).map a.g)[i]? = some r := hr
  have hi : i < a.n := by simpa using (List.getElem?_eq_some_iff.1 hr).1
  rw [List.getElem?_map, List.getElem?_range hi, Option.map_some, Option.some.injEq] at hq hr
  subst hq hr
  refine ⟨z_key hk hm i, ?_⟩
  unfold zOf
  split
  · exact ED.refl (wad i)
  · rename_i h
    refine ED.of (wbd _) (wad i) ?_
    unfold S.putAt at h
    simp only [Bool.or_eq_true, Bool.not_eq_true', not_or, Bool.not_eq_false] at h
    exact h.2
theorem made_spec (ha : Once a) (s : LS) (hs : s.ps = []) : ∀ n, n ≤ a.n → L.shapes s (S.dPuts o a n) = some { s with ps := (List.range n).map a.g }
  | 0, _ => by
    simp only [S.dPuts, List.range_zero, List.map_nil, L.shapes_nil]
    rw [← hs]
  | n + 1, hn => by
    have e : S.dPuts o a (n + 1) = S.dPuts o a n ++ [S.dPut o (a.g n)] := by
      unfold S.dPuts
      rw [List.range_succ, List.map_append]
      rfl
    rw [e, L.shapes_app, made_spec ha s hs n (by omega), Option.bind_some, L.shapes_one, L.shape_new (s := { s with ps := (List.range n).map a.g }) (fun x hx e => ?_)]
    · rw [List.range_succ, List.map_append]
      rfl
    · obtain ⟨i, hi, rfl⟩ := List.mem_map.1 hx
      have hi := List.mem_range.1 hi
      have := ha i n (by omega) (by omega) e
      omega
end
end Go.Proofs.YtaojjpdlfnphiaaDoor.PDescKinds
end
section
/- There and back: moments. -/
set_option linter.unusedSimpArgs false
set_option linter.unusedVariables false
set_option linter.unusedSectionVars false
namespace Go.Proofs.YtaojjpdlfnphiaaDoor.PDescKinds
open Go.RowKit Go.Ev
/-! Keys that stand once -/
theorem seen_mem (s : Sh) : ∀ (j i : Nat), i < j → ((s.g i).k.s, (s.g i).k.n) ∈ Tw.seen s j
  | 0, i, h => by omega
  | j + 1, i, h => by
    simp only [Tw.seen, List.mem_cons]
    by_cases e : i = j
    · subst e; exact .inl rfl
    · exact .inr (seen_mem s j i (by omega))
theorem once_of {s : Sh} (h : S.dup s = false) : Once s := by
  have key : ∀ i j, i < j → j < s.n → (s.g i).k ≠ (s.g j).k := by
    intro i j hij hj e
    have h1 : S.dupAt s j = true := by
      unfold S.dupAt Tw.keySeen
      rw [List.any_eq_true]
      refine ⟨_, seen_mem s j i hij, ?_⟩
      rw [e]
      simp
    have := S.any_true hj h1
    unfold S.dup at h
    rw [h] at this
    cases this
  intro i j hi hj e
  rcases Nat.lt_trichotomy i j with h1 | h1 | h1
  · exact absurd e (key i j h1 hj)
  · exact h1
  · exact absurd e.symm (key j i h1 hi)
theorem onces_of {m : Mo} (h : S.twice m = false) : ∀ j, j < m.n → Once (m.g j) := by
  intro j hj
  cases hd : S.dup (m.g j) with
  | false => exact once_of hd
  | true =>
    have := S.any_true (q := fun i => S.dup (m.g i)) hj hd
    unfold S.twice at h
    rw [h] at this
    cases this
namespace L
theorem patch_app (l : List LS) (a b : List Dl) : patch l (a ++ b) = (patch l a).bind fun l' => patch l' b := by
  unfold patch
  rw [List.foldlM_append]
  rfl
theorem patch_cons (l : List LS) (δ : Dl) (r : List Dl) : patch l (δ :: r) = (apply l δ).bind fun l' => patch l' r := by
  unfold patch
  simp
/-- Deltas of one object. -/
theorem patch_one : ∀ (ds : List Dl) (l : List LS) (k : Nat) (s : LS), l[k]? = some s → (∀ δ ∈ ds, δ.o = (k : Int) + 1 ∧ δ.what ≠ 1) → patch l ds = (shapes s ds).map fun s' => l.set k s'
  | [], l, k, s, hs, _ => by
    show some l = some (l.set k s)
    congr 1
    apply List.ext_getElem?
    intro j
    rw [List.getElem?_set]
    by_cases e : k = j
    · subst e
      have hlt : k < l.length := (List.getElem?_eq_some_iff.1 hs).1
      rw [if_pos rfl, if_pos hlt, hs]
    · rw [if_neg e]
  | δ :: r, l, k, s, hs, h => by
    obtain ⟨ho, hw⟩ := h δ (by simp)
    have hlt : k < l.length := (List.getElem?_eq_some_iff.1 hs).1
    rw [patch_cons, shapes_cons]
    have ha : apply l δ = (shape s δ).map fun s' => l.set k s' := by
      unfold apply
      have e : (δ.o - 1).toNat = k := by rw [ho]; omega
      rw [if_neg hw, if_neg (by omega), e, hs]
    rw [ha]
    cases hsh : shape s δ with
    | none => rfl
    | some s' =>
      simp only [Option.map_some, Option.bind_some]
      rw [patch_one r (l.set k s') k s' (by rw [List.getElem?_set, if_pos rfl, if_pos hlt]) (fun δ' h' => h δ' (List.mem_cons_of_mem _ h'))]
      congr 1
      funext t
      rw [List.set_set]
end L
theorem iff_mem {c : Bool} {d δ : Dl} (h : δ ∈ S.iff c d) : δ = d := by
  cases c with
  | true => exact List.mem_singleton.1 h
  | false => cases h
theorem between_mem {o : Int} {b a : Sh} {δ : Dl} (h : δ ∈ S.between o b a) : δ.o = o ∧ δ.what ≠ 1 := by
  unfold S.between S.heads S.gones S.puts at h
  simp only [List.mem_append, List.mem_flatMap] at h
  rcases h with (((h | h) | h) | ⟨i, _, h⟩) | ⟨i, _, h⟩ <;> rw [iff_mem h] <;> refine ⟨rfl, ?_⟩ <;> first | exact (by decide : (2 : Int) ≠ 1) | exact (by decide : (3 : Int) ≠ 1) | exact (by decide : (4 : Int) ≠ 1) | exact (by decide : (5 : Int) ≠ 1) | exact (by decide : (6 : Int) ≠ 1)
theorem puts_mem {o : Int} {s : Sh} {n : Nat} {δ : Dl} (h : δ ∈ S.dPuts o s n) : δ.o = o ∧ δ.what ≠ 1 := by
  unfold S.dPuts at h
  obtain ⟨i, _, rfl⟩ := List.mem_map.1 h
  exact ⟨rfl, (by decide : (6 : Int) ≠ 1)⟩
section
variable {b a : Mo}
/-- What Diff tells makes the one of the other. -/
theorem patch_diff (hb : ∀ j, j < b.n → Once (b.g j)) (ha : ∀ j, j < a.n → Once (a.g j)) (wb : WfMo b) (wa : WfMo a) (hn : b.n ≤ a.n) :
    ∀ n, n ≤ a.n → ∃ r, L.patch b.ls (S.diffG b a n) = some r ∧ r.length = max b.n n ∧ (∀ j, j < n → ∃ s, r[j]? = some s ∧ RelS s (a.g j).ls) ∧ ∀ j, n ≤ j → j < b.n → r[j]? = some (b.g j).ls
  | 0, _ => ⟨b.ls, rfl, by rw [ls_len]; omega, fun j hj => by omega, fun j _ hj => ls_at b hj⟩
  | n + 1, hna => by
    obtain ⟨r, h1, h2, h3, h4⟩ := patch_diff hb ha wb wa hn n (by omega)
    rw [Df.diffG_succ, L.patch_app, h1, Option.bind_some]
    by_cases hnb : n < b.n
    · have e : S.step b a n = S.between ((n : Int) + 1) (b.g n) (a.g n) := by unfold S.step; rw [decide_eq_true hnb]; rfl
      have hrn := h4 n (Nat.le_refl _) hnb
      obtain ⟨s, hs, hrel⟩ := between_spec (o := (n : Int) + 1) (hb n hnb) (ha n (by omega)) (wb n).1 (wa n).1 (wb n).2 (wa n).2
      rw [e, L.patch_one _ r n _ hrn (fun δ h => between_mem h), hs, Option.map_some]
      have hlt : n < r.length := (List.getElem?_eq_some_iff.1 hrn).1
      refine ⟨_, rfl, by rw [List.length_set, h2]; omega, fun j hj => ?_, fun j hj1 hj2 => ?_⟩
      · by_cases ej : n = j
        · subst ej
          exact ⟨s, by rw [List.getElem?_set, if_pos rfl, if_pos hlt], hrel⟩
        · obtain ⟨s', g1, g2⟩ := h3 j (by omega)
          exact ⟨s', by rw [List.getElem?_set, if_neg ej]; exact g1, g2⟩
      · rw [List.getElem?_set, if_neg (by omega)]
        exact h4 j (by omega) hj2
    · have e : S.step b a n = S.made ((n : Int) + 1) (a.g n) := by unfold S.step; rw [decide_eq_false hnb]; rfl
      have hrl : r.length = n := by rw [h2]; omega
      rw [e]
      unfold S.made
      rw [L.patch_cons]
      have hm : L.apply r (S.dMake ((n : Int) + 1) (a.g n)) = some (r ++ [⟨(a.g n).cl, (a.g n).p, (a.g n).x, []⟩]) := by
        unfold L.apply
        rw [if_pos (show (S.dMake ((n : Int) + 1) (a.g n)).what = 1 from rfl), if_pos (show (S.dMake ((n : Int) + 1) (a.g n)).o = (r.length : Int) + 1 by rw [hrl]; rfl)]
        rfl
      rw [hm, Option.bind_some]
      have hlast : (r ++ [(⟨(a.g n).cl, (a.g n).p, (a.g n).x, []⟩ : LS)])[n]? = some ⟨(a.g n).cl, (a.g n).p, (a.g n).x, []⟩ := by
        rw [List.getElem?_append_right (by omega), hrl, Nat.sub_self]
        rfl
      rw [L.patch_one _ _ n _ hlast (fun δ h => puts_mem h), made_spec (o := (n : Int) + 1) (ha n (by omega)) ⟨(a.g n).cl, (a.g n).p, (a.g n).x, []⟩ rfl (a.g n).n (Nat.le_refl _), Option.map_some]
      refine ⟨_, rfl, by rw [List.length_set, List.length_append, hrl]; simp; omega, fun j hj => ?_, fun j hj1 hj2 => by omega⟩
      have hlen : n < (r ++ [(⟨(a.g n).cl, (a.g n).p, (a.g n).x, []⟩ : LS)]).length := by rw [List.length_append, hrl]; simp
      by_cases ej : n = j
      · subst ej
        refine ⟨⟨(a.g n).cl, (a.g n).p, (a.g n).x, (List.range (a.g n).n).map (a.g n).g⟩, by rw [List.getElem?_set, if_pos rfl, if_pos hlen], rfl, EV.refl (wa n).1, rfl, by simp [Sh.ls], fun i q t hq ht => ?_⟩
        have hq : ((List.range (a.g n).n).map (a.g n).g)[i]? = some q := hq
        have ht : ((List.range (a.g n).n).map (a.g n).g)[i]? = some t := ht
        rw [hq] at ht
        cases ht
        obtain ⟨i', _, rfl⟩ := List.mem_map.1 (List.mem_of_getElem? hq)
        exact ⟨rfl, ED.refl ((wa n).2 i')⟩
      · obtain ⟨s', g1, g2⟩ := h3 j (by omega)
        refine ⟨s', ?_, g2⟩
        rw [List.getElem?_set, if_neg ej, List.getElem?_append_left (by rw [hrl]; omega)]
        exact g1
/-- Moments that read alike. -/
theorem same_of {x : Mo} (hn : x.n = a.n) (h : ∀ j, j < a.n → RelS (x.g j).ls (a.g j).ls) : S.sameC x a = true ∧ R.sameM x a = true := by
  have hb : ((x.n : Int) != (a.n : Int)) = false := by rw [hn]; simp
  have hp : ∀ j, j < x.n → (x.g j).n = (a.g j).n ∧ ∀ i, i < (x.g j).n → RelP ((x.g j).g i) ((a.g j).g i) := by
    intro j hj
    have hr := h j (by omega)
    have hl : (x.g j).n = (a.g j).n := by
      have := hr.len
      rw [ps_len, ps_len] at this
      exact this
    exact ⟨hl, fun i hi => hr.ps i _ _ (ps_at _ hi) (ps_at _ (by omega))⟩
  constructor
  · unfold S.sameC
    rw [hb, cond_false]
    have : seek (fun i => bif S.sameSh (x.g i) (a.g i) then none else some false) x.n 0 = none := by
      refine (S.seek_none _ _).2 fun j _ hj => ?_
      have hj : j < x.n := by omega
      obtain ⟨hl, hq⟩ := hp j hj
      have hr := h j (by omega)
      have : S.sameSh (x.g j) (a.g j) = true := by
        unfold S.sameSh S.sameP
        have e1 : (x.g j).cl = (a.g j).cl := hr.cl
        have e2 : (x.g j).x = (a.g j).x := hr.x
        have e3 : S.eqC (x.g j).p (a.g j).p = true := hr.p.1
        have e4 : seek (fun i => bif S.keq ((x.g j).g i).k ((a.g j).g i).k && S.alikeC ((x.g j).g i).d ((a.g j).g i).d then none else some false) (x.g j).n 0 = none := by
          refine (S.seek_none _ _).2 fun i _ hi => ?_
          obtain ⟨q1, q2⟩ := hq i (by omega)
          rw [q1, keq_refl, q2.1]
          rfl
        rw [e4, e1, e2, e3, hl]
        simp
      rw [this]
      rfl
    rw [this]
    rfl
  · unfold R.sameM
    rw [hb, cond_false]
    have : seek (fun i => bif !R.sameSh (x.g i) (a.g i) then some false else none) x.n 0 = none := by
      refine (S.seek_none _ _).2 fun j _ hj => ?_
      have hj : j < x.n := by omega
      obtain ⟨hl, hq⟩ := hp j hj
      have hr := h j (by omega)
      have : R.sameSh (x.g j) (a.g j) = true := by
        unfold R.sameSh
        have e1 : (x.g j).cl = (a.g j).cl := hr.cl
        have e2 : (x.g j).x = (a.g j).x := hr.x
        have e3 : R.eqR (x.g j).p (a.g j).p = true := hr.p.2
        have e4 : seek (fun i => bif !S.keq ((x.g j).g i).k ((a.g j).g i).k || !R.eqDR ((x.g j).g i).d ((a.g j).g i).d then some false else none) (x.g j).n 0 = none := by
          refine (S.seek_none _ _).2 fun i _ hi => ?_
          obtain ⟨q1, q2⟩ := hq i (by omega)
          rw [q1, keq_refl, q2.2]
          rfl
        rw [e4, e1, e2, e3, hl]
        simp
      rw [this]
      rfl
    rw [this]
    rfl
theorem back_plain (hb : S.twice b = false) (ha : S.twice a = false) (wb : WfMo b) (wa : WfMo a) (hn : b.n ≤ a.n) :
    ∃ r, L.patch b.ls (S.diffG b a a.n) = some r ∧ ∀ x : Mo, x.ls = r → S.sameC x a = true ∧ R.sameM x a = true := by
  obtain ⟨r, h1, h2, h3, _⟩ := patch_diff (onces_of hb) (onces_of ha) wb wa hn a.n (Nat.le_refl _)
  refine ⟨r, h1, fun x hx => ?_⟩
  have hxn : x.n = a.n := by rw [← ls_len, hx, h2]; omega
  refine same_of hxn fun j hj => ?_
  obtain ⟨s, g1, g2⟩ := h3 j hj
  rw [← hx, ls_at x (by omega)] at g1
  cases g1
  exact g2
/-- Of a moment and itself there is nothing. -/
theorem diff_self (ha : S.twice a = false) (wa : WfMo a) : S.diffG a a a.n = [] := by
  unfold S.diffG
  rw [List.flatMap_eq_nil_iff]
  intro j hj
  have hj := List.mem_range.1 hj
  have ho := onces_of ha j hj
  have e : S.step a a j = S.between ((j : Int) + 1) (a.g j) (a.g j) := by unfold S.step; rw [decide_eq_true hj]; rfl
  rw [e]
  have hf : ∀ i, i < (a.g j).n → S.find (a.g j) ((a.g j).g i).k = (i : Int) := fun i hi => find_once ho hi
  have hkept : S.kept (a.g j) (a.g j) = ((a.g j).n : Int) := by
    obtain ⟨m, h1, _, h3, h4⟩ := kept_scan (a.g j) (a.g j) (a.g j).n 0 (-1)
    have key : ∀ (k i : Nat), i + k = (a.g j).n → Ev.scan (S.keptStep (a.g j) (a.g j)) k i ((i : Int) - 1) = .ok (((a.g j).n : Int) - 1) := by
      intro k
      induction k with
      | zero => intro i hi; simp only [Ev.scan]; rw [show i = (a.g j).n by omega]
      | succ k ih =>
        intro i hi
        simp only [Ev.scan]
        have : S.keptStep (a.g j) (a.g j) i ((i : Int) - 1) = .ok (i : Int) := by
          unfold S.keptStep
          rw [hf i (by omega), decide_eq_false (by omega)]
          rfl
        rw [this]
        have := ih (i + 1) (by omega)
        rw [show (((i + 1 : Nat) : Int) - 1) = (i : Int) by omega] at this
        exact this
    unfold S.kept
    have := key (a.g j).n 0 (by omega)
    rw [show (((0 : Nat) : Int) - 1) = -1 by rfl] at this
    rw [this]
    rfl
  have hh : S.heads ((j : Int) + 1) (a.g j) (a.g j) = [] := by
    unfold S.heads
    have e3 : S.eqC (a.g j).p (a.g j).p = true := (EV.refl (wa j).1).1
    rw [e3]
    simp [S.iff]
  have hg : S.gones ((j : Int) + 1) (a.g j) (a.g j) (a.g j).n = [] := by
    unfold S.gones
    rw [List.flatMap_eq_nil_iff]
    intro i hi
    have hi := List.mem_range.1 hi
    have : S.goneAt (a.g j) (a.g j) i = false := by
      unfold S.goneAt
      rw [hkept, hf i hi, decide_eq_false (by omega), decide_eq_false (by omega)]
      rfl
    rw [this]
    rfl
  have hp : S.puts ((j : Int) + 1) (a.g j) (a.g j) (a.g j).n = [] := by
    unfold S.puts
    rw [List.flatMap_eq_nil_iff]
    intro i hi
    have hi := List.mem_range.1 hi
    have : S.putAt (a.g j) (a.g j) i = false := by
      unfold S.putAt
      rw [hkept, hf i hi, Int.toNat_natCast, (ED.refl ((wa j).2 i)).1, decide_eq_false (by omega)]
      rfl
    rw [this]
    rfl
  unfold S.between
  rw [hh, hg, hp]
  rfl
end
/-! How much there is -/
theorem few_acc (s : Mo) (hs : Small s) : ∀ (k i : Nat) (x : Int), 0 ≤ x → x + (k : Int) * 1048576 ≤ 4000000000 → x ≤ S.fewAcc s k i x ∧ ∀ j, i ≤ j → j < i + k → j < s.n → j ≤ 60 → ((s.g j).n : Int) ≤ S.fewAcc s k i x
  | 0, i, x, _, _ => ⟨Int.le_refl _, fun j h1 h2 => by omega⟩
  | k + 1, i, x, hx, hk => by
    simp only [S.fewAcc]
    have h1 := hs.2 i
    have hm : ((k + 1 : Nat) : Int) * 1048576 = (k : Int) * 1048576 + 1048576 := by
      rw [Int.natCast_add, Int.add_mul]
      rfl
    rw [hm] at hk
    have hk0 : 0 ≤ (k : Int) * 1048576 := by omega
    have hw : IntKind.i64.wrap (x + ((s.g i).n : Int)) = x + ((s.g i).n : Int) := by
      rw [IntKind.wrap_i64]
      omega
    rw [hw]
    cases hc : (decide ((i : Int) < (s.n : Int)) && decide ((i : Int) ≤ 60)) with
    | false =>
      simp only [cond_false]
      refine ⟨Int.le_refl _, fun j h1 h2 h3 h4 => ?_⟩
      rw [Bool.and_eq_false_iff, decide_eq_false_iff_not, decide_eq_false_iff_not] at hc
      omega
    | true =>
      simp only [cond_true]
      obtain ⟨g1, g2⟩ := few_acc s hs k (i + 1) (x + ((s.g i).n : Int)) (by omega) (by omega)
      refine ⟨by omega, fun j h1 h2 h3 h4 => ?_⟩
      by_cases e : j = i
      · subst e; omega
      · exact g2 j (by omega) (by omega) h3 h4
theorem few_spec {s : Mo} (hs : Small s) (h : S.few s = true) : s.n ≤ 60 ∧ ∀ j, j < s.n → (s.g j).n ≤ 400 := by
  unfold S.few at h
  rw [Bool.and_eq_true, decide_eq_true_eq, decide_eq_true_eq] at h
  obtain ⟨_, g2⟩ := few_acc s hs 62 0 0 (Int.le_refl _) (by decide)
  refine ⟨by omega, fun j hj => ?_⟩
  have := g2 j (Nat.zero_le _) (by omega) hj (by omega)
  omega
theorem flat_bound {α β : Type} (f : α → List β) (M : Nat) : ∀ (l : List α), (∀ x ∈ l, (f x).length ≤ M) → (l.flatMap f).length ≤ l.length * M
  | [], _ => by simp
  | x :: r, h => by
    have h1 := h x (by simp)
    have h2 := flat_bound f M r fun y hy => h y (List.mem_cons_of_mem _ hy)
    rw [List.flatMap_cons, List.length_append, List.length_cons, Nat.add_mul]
    omega
theorem iff_len1 (c : Bool) (d : Dl) : (S.iff c d).length ≤ 1 := by cases c <;> simp [S.iff]
theorem diff_len {b a : Mo} (hb : ∀ j, j < b.n → (b.g j).n ≤ 400) (han : a.n ≤ 60) (ha : ∀ j, j < a.n → (a.g j).n ≤ 400) : (S.diffG b a a.n).length ≤ 60000 := by
  unfold S.diffG
  refine Nat.le_trans (flat_bound _ 1000 _ fun i hi => ?_) (by rw [List.length_range]; omega)
  have hi := List.mem_range.1 hi
  have h2 := ha i hi
  unfold S.step
  by_cases h : i < b.n
  · rw [decide_eq_true h, cond_true]
    have h1 := hb i h
    unfold S.between S.heads
    have g1 : (S.gones ((i : Int) + 1) (b.g i) (a.g i) (b.g i).n).length ≤ 400 := by
      refine Nat.le_trans (flat_bound _ 1 _ fun j _ => iff_len1 _ _) ?_
      rw [List.length_range]
      omega
    have g2 : (S.puts ((i : Int) + 1) (b.g i) (a.g i) (a.g i).n).length ≤ 400 := by
      refine Nat.le_trans (flat_bound _ 1 _ fun j _ => iff_len1 _ _) ?_
      rw [List.length_range]
      omega
    simp only [List.length_append]
    have := iff_len1 ((a.g i).cl != (b.g i).cl) (S.dCl ((i : Int) + 1) (a.g i))
    have := iff_len1 (!S.eqC (a.g i).p (b.g i).p) (S.dPr ((i : Int) + 1) (a.g i))
    have := iff_len1 ((a.g i).x != (b.g i).x) (S.dEx ((i : Int) + 1) (a.g i))
    omega
  · rw [decide_eq_false h, cond_false]
    unfold S.made S.dPuts
    rw [List.length_cons, List.length_map, List.length_range]
    omega
end Go.Proofs.YtaojjpdlfnphiaaDoor.PDescKinds
end
section
/- InvariantBack: the law runs. -/
set_option linter.unusedSimpArgs false
set_option linter.unusedVariables false
set_option linter.unusedSectionVars false
namespace Go.Proofs.YtaojjpdlfnphiaaDoor.PDescKinds
open Go.RowKit Go.Ev
def KeysM (m : Mo) : Prop := ∀ i j, wfK ((m.g i).g j).k = true
theorem keysM0 : KeysM Mo0 := fun _ _ => (by decide +kernel : wfK ⟨⟨#[]⟩, 0⟩ = true)
theorem keys_moments {m0 m1 m2 m3 : Mo} (h0 : KeysM m0) (h1 : KeysM m1) (h2 : KeysM m2) (h3 : KeysM m3) : KeysOk (moments m0 m1 m2 m3) := by
  intro k
  match k with
  | 0 => exact h0
  | 1 => exact h1
  | 2 => exact h2
  | 3 => exact h3
  | _ + 4 => exact keysM0
theorem small_moments {m0 m1 m2 m3 : Mo} (h0 : Small m0) (h1 : Small m1) (h2 : Small m2) (h3 : Small m3) : ∀ a, Small (moments m0 m1 m2 m3 a) := by
  intro k
  match k with
  | 0 => exact h0
  | 1 => exact h1
  | 2 => exact h2
  | 3 => exact h3
  | _ + 4 => exact small0
def FitM (m : Mo) : Prop := (m.n : Int) ≤ 9223372036854775807 ∧ ∀ j, ((m.g j).n : Int) ≤ 9223372036854775807
theorem Small.fit {m : Mo} (h : Small m) : FitM m := ⟨by have := h.1; omega, fun j => by have := h.2 j; omega⟩
theorem fit_moments' {m0 m1 m2 m3 : Mo} (h0 : FitM m0) (h1 : FitM m1) (h2 : FitM m2) (h3 : FitM m3) : Fit (moments m0 m1 m2 m3) := by
  intro k
  match k with
  | 0 => exact h0
  | 1 => exact h1
  | 2 => exact h2
  | 3 => exact h3
  | _ + 4 => exact small0.fit
theorem own_fit {w : World} {b e z n : Nat} {v : Value} {xs : List Value} (h : w.ownsRow b e z v n xs) : (n : Int) ≤ 9223372036854775807 := by
  have hM : maxLen = 9223372036854775807 := by decide +kernel
  rcases h.2 with ⟨_, h0⟩ | ⟨g', cap, cur, e, h2, h3, h4, h5, h6, h7⟩
  · omega
  · omega
theorem OwnMo.fit {B : Nat} {w : World} {mo : Mo} (h : OwnMo B w mo) : FitM mo := ⟨own_fit h.row, fun j => own_fit (h.props j)⟩
/-- A call of two arguments, of which two results are taken. -/
theorem pairR {id N f m1 m2 tp d1 d2 : Nat} {ops : Array Oper} {ats : Array TypeId} {ts : List (Nat × Value)} {v1 v2 : Value} {a : Act} {w : World} {R : Ending → World → Prop} {Q : Exit → Act → World → Prop} (keep : List Nat)
    (hsp : ops.toList = ops.toList.take 2 ++ (ops.toList.getD 2 default :: (ops.toList.drop 3 ++ []))) (hop : (ops.toList.getD 2 default).op = .call { callee := .value (.func f), args := #[.tmp m1, .tmp m2], argTypes := ats })
    (hgd : (ops.toList.getD 2 default).guard = none) (hdst : (ops.toList.getD 2 default).dst = some tp) (hen : enters Tryd.prog f = true) (htp : tp < N) (htk : ∀ t ∈ keep, tp ≠ t)
    (hr1 : letI := row0; (reads Tryd.prog N (ops.toList.take 2) (pickT (ts.map fun p => (p.1, .val p.2)))).map (fun t => [m1, m2].map t) = some [.val v1, .val v2])
    (hr2 : ∀ x y, letI := row0; (reads Tryd.prog N (ops.toList.drop 3) (pickT [(tp, .val (.tuple #[x, y]))])).map (fun t => [d1, d2].map t) = some [.val x, .val y])
    (ho1 : offDs (ops.toList.take 2) keep = true) (ho2 : offDs (ops.toList.drop 3) keep = true)
    (hs : a.tmps.size = N) (hd : a.defers = []) (hts : ∀ p ∈ ts, a.tmps.getD p.1 undef = p.2) (hc : Calls Tryd.prog f #[v1, v2] w R)
    (hQ : ∀ e w', R e w' → ∃ x y, e = .returned (.tuple #[x, y]) ∧ ∀ a', a'.tmps.size = N → a'.defers = [] → (∀ t ∈ keep, a'.tmps.getD t undef = a.tmps.getD t undef) → a'.tmps.getD d1 undef = x → a'.tmps.getD d2 undef = y → Q .normal a' w') :
    (Code.region id ops false).wp Tryd.prog Q a w := by
  letI := row0
  refine wp_region_list ?_
  rw [hsp]
  refine wpList_readsF keep (xok_0 w) hr1 ho1 (Pa.ar_vals w hs hd hts) fun a1 t1 har1 e hk1 => ?_
  simp only [List.map_cons, List.map_nil, List.cons.injEq, and_true] at e
  obtain ⟨e1, e2⟩ := e
  have q1 : a1.eval (.tmp m1) = v1 := ar_eval har1 e1
  have q2 : a1.eval (.tmp m2) = v2 := ar_eval har1 e2
  have hrun : (execOp a1.eval (ops.toList.getD 2 default)).run Tryd.prog w = .ok (.enter f #[v1, v2]) w := by
    rw [← run_enters (P := Tryd.prog) (f := f) hen]
    have em : (#[Operand.tmp m1, .tmp m2] : Array Operand).map a1.eval = #[v1, v2] := by
      simp only [List.map_toArray, List.map_cons, List.map_nil, q1, q2]
    unfold execOp
    simp only [hop, resolve, em, Act.eval, Deferred.ofValue, Sem.run_bind, Sem.run_pure, Result.andThen_ok, invoke]
    simp
  refine wpList_plain hgd fun K hK => ?_
  unfold Oper.wp
  rw [hrun, Oper.upon_enter]
  refine Calls.mono hc fun e w4 hR => ?_
  obtain ⟨x, y, he, hq⟩ := hQ e w4 hR
  subst he
  refine hK _ _ ?_
  rw [hdst]
  obtain ⟨s4, f4, x4, r4⟩ := put_all a1 N tp (.tuple #[x, y]) har1.size htp
  generalize hA4 : a1.put (some tp) (.tuple #[x, y]) = a4 at s4 f4 x4 r4 ⊢
  refine wpList_readsF keep (xok_0 w4) (hr2 x y) ho2 (Pa.ar_vals (ts := [(tp, .tuple #[x, y])]) w4 s4 (f4.trans har1.defers) (fun p hp => by
    obtain rfl := List.mem_singleton.1 hp
    exact x4)) fun a5 t5 har5 e hk5 => ?_
  simp only [List.map_cons, List.map_nil, List.cons.injEq, and_true] at e
  obtain ⟨e5, e6⟩ := e
  exact hq a5 har5.size har5.defers (fun t ht => ((hk5 t ht).trans (r4 t (htk t ht))).trans (hk1 t ht)) (ar_eval har5 e5) (ar_eval har5 e6)
/-- Own deltas, as_ a row that came in. -/
theorem deltas_row {B : Nat} {w : World} {ds : List Dl} {v : Value} {d0 : Dl} (h : w.ownsRow B 99 29 v ds.length (ds.flatMap Dl.list)) : v = .slice (slA v) ds.length (slC v) ∧ @XOk (rowL (slA v) ds.length (slC v) fun j => ds.getD j d0) w ∧ (List.range ds.length).map (fun j => ds.getD j d0) = ds := by
  have hm : (List.range ds.length).map (fun j => ds.getD j d0) = ds := by
    apply List.ext_getElem?
    intro j
    rw [List.getElem?_map]
    by_cases hj : j < ds.length
    · rw [List.getElem?_range hj]
      simp [List.getD_eq_getElem?_getD, List.getElem?_eq_getElem hj]
    · rw [List.getElem?_eq_none (l := List.range ds.length) (by simpa using hj), List.getElem?_eq_none (by omega)]
      rfl
  have hv := (own_slice h).1
  refine ⟨hv, ?_, hm⟩
  intro r j hj
  have hj : j < ds.length := hj
  have h' : w.ownsRow B 99 29 v ds.length ((List.range ds.length).flatMap fun j => (ds.getD j d0).list) := by
    have : (List.range ds.length).flatMap (fun j => (ds.getD j d0).list) = ds.flatMap Dl.list := by
      rw [← List.flatMap_map (f := fun j => ds.getD j d0) (g := Dl.list), hm]
    rw [this]
    exact h
  rw [hv] at h'
  rcases row_slice h' with ⟨_, h0, _⟩ | ⟨g, hA, _, hlt⟩
  · omega
  rw [hA] at h'
  refine ⟨rfl, fun s hs mem => ?_, ⟨g, 0, none⟩, hA, hlt, fun k s hk m => ?_⟩
  · obtain ⟨u, _, rfl⟩ := List.mem_map.1 hs
    exact @ok_val (rowL (slA v) ds.length (slC v) fun j => ds.getD j d0) _ _
  · have hk : (ds.getD j d0).cells[k]? = some s := hk
    unfold Dl.cells at hk
    rw [List.getElem?_map] at hk
    obtain ⟨u, hu, rfl⟩ := Option.map_eq_some_iff.1 hk
    rw [@den_val (rowL (slA v) ds.length (slC v) fun j => ds.getD j d0)]
    exact own_at (z := 29) (fun t => rfl) h' hj k u hu
namespace Bk
noncomputable def bk : List Code := bodyOf Tryd.f11
noncomputable def o5 : Array Oper := opsOf (bk.getD 5 .skip)
noncomputable def o8 : Array Oper := opsOf (bk.getD 8 .skip)
noncomputable def o9 : Array Oper := opsOf (bk.getD 9 .skip)
abbrev BT (M : Nat → Mo) : GFn := tab2 BvL5 [(45, noMem (onNone (LB true))), (35, noMem (onM fun a => LB (S.few (M a)))), (75, noMem (onFM 76 fun a b => LB (S.sameC (M a) (M b)))), (40, noMem (onMM fun a b => LB (R.sameM (M a) (M b))))]
set_option maxRecDepth 100000
theorem bk_eq : bk = bk.take 5 ++ (.region 5 o5 false :: bk.drop 6) := by kernel_rfl
theorem bk6_eq : bk.drop 6 = (bk.drop 6).take 2 ++ [.region 8 o8 false, .region 9 o9 false] ++ bk.drop 10 := by kernel_rfl
theorem gA (M : Nat → Mo) (bx : Nat → XR) : letI := rowsB M bx
    evK Tryd.prog ext (BT M) 80 68 (seqL (bk.take 5)) ⟨argS [.xs [0], .xs [1]], fun _ => none, 0⟩ (grab Tryd.prog Tryd.f11 [0, 1] [] 0) =
    (bif !S.few (M 0) then some (Res.ret (SV.val (Value.bool true))) else (bif !S.few (M 1) then some (Res.ret (SV.val (Value.bool true))) else some (Res.cut Ex.normal (Cut.mk [(0, SV.xs [0]), (1, SV.xs [1])] [])))) := by kernel_rfl
theorem gE5 (M : Nat → Mo) (bx : Nat → XR) : letI := rowsB M bx
    evK Tryd.prog ext (BT M) 80 68 (seqL (bk.drop 6)) ((⟨[(0, .xs [0]), (1, .xs [1]), (5, .xs [2]), (6, .val (.int .i64 5))], []⟩ : Cut).st 0) (grab Tryd.prog Tryd.f11 [] [] 0) = some (Res.ret (SV.val (Value.bool (((M 2).n : Int) == 0)))) := by kernel_rfl
theorem gE7 (M : Nat → Mo) (bx : Nat → XR) : letI := rowsB M bx
    evK Tryd.prog ext (BT M) 80 68 (seqL (bk.drop 6)) ((⟨[(0, .xs [0]), (1, .xs [1]), (5, .xs [2]), (6, .val (.int .i64 7))], []⟩ : Cut).st 0) (grab Tryd.prog Tryd.f11 [] [] 0) = some (Res.ret (SV.val (Value.bool (((M 2).n : Int) == 0)))) := by kernel_rfl
theorem gB (M : Nat → Mo) (bx : Nat → XR) (v : Value) : letI := rowsB M bx
    evK Tryd.prog ext (BT M) 80 68 (seqL ((bk.drop 6).take 2)) ((⟨[(0, .xs [0]), (1, .xs [1]), (5, .val v), (6, .val (.int .i64 0))], []⟩ : Cut).st 0) (grab Tryd.prog Tryd.f11 [0, 1, 5] [] 0) = some (Res.cut Ex.normal (Cut.mk [(0, SV.xs [0]), (1, SV.xs [1]), (5, SV.val v)] [])) := by kernel_rfl
theorem gC (M : Nat → Mo) (bx : Nat → XR) : letI := rowsB M bx
    evK Tryd.prog ext (BT M) 80 68 (seqL (bk.drop 10)) ((⟨[(1, .xs [1]), (7, .xs [2]), (8, .val (.int .i64 0)), (9, .xs [3]), (10, .val (.int .i64 0))], []⟩ : Cut).st 0) (grab Tryd.prog Tryd.f11 [] [] 0) =
    (bif S.sameC (M 2) (M 1) then (bif R.sameM (M 2) (M 1) then some (Res.ret (SV.val (Value.bool (((M 3).n : Int) == 0)))) else some (Res.ret (SV.val (Value.bool false)))) else some (Res.ret (SV.val (Value.bool false)))) := by kernel_rfl
theorem ctxM (M : Nat → Mo) (bx : Nat → XR) (hM : Fit M) : @Ctx (rowsB M bx) Tryd.prog ext (BT M) (Inv M bx) :=
  ctxB M bx Bvents5 (entsS_cons (ent_works45 M bx) (entsS_cons (ent_few35 M bx hM) (entsS_cons (ent_eqS75 M bx hM) (entsS_cons (ent_same40 M bx hM) entsS_nil))))
section
variable {m0 m1 : Mo} {a : Act} {w w0 : World} {Q : Exit → Act → World → Prop}
/-- The law's facts. -/
structure G (m0 m1 : Mo) (a : Act) : Prop where
  size : a.tmps.size = 68
  defers : a.defers = []
  t0 : a.tmps.getD 0 undef = .slice m0.A m0.n m0.c
  t1 : a.tmps.getD 1 undef = .slice m1.A m1.n m1.c
theorem head (hI : Inv (moments m0 m1 Mo0 Mo0) noBox w) (hM : Fit (moments m0 m1 Mo0 Mo0)) (hr : ∀ a' w' m, a'.defers = [] → (results Tryd.f11 a'.tmps).run Tryd.prog w' = .ok (@SV.den row0 m (.val (.bool true))) w' → Below w.heap.size w w' → Q .ret a' w')
    (hQ : S.few m0 = true → S.few m1 = true → ∀ a' w', G m0 m1 a' → Below w.heap.size w w' → Q .normal a' w') :
    wpL Tryd.prog (bk.take 5) Q { tmps := #[.slice m0.A m0.n m0.c, .slice m1.A m1.n m1.c] ++ Array.replicate (Tryd.f11.ntmps - (#[.slice m0.A m0.n m0.c, .slice m1.A m1.n m1.c] : Array Value).size) undef, defers := [] } w := by
  letI := rowsB (moments m0 m1 Mo0 Mo0) noBox
  have C := ctxM (moments m0 m1 Mo0 Mo0) noBox hM
  have hst := start_sound (fn := Tryd.f11) [.xs [0], .xs [1]] (fun x hx => by
    simp only [List.mem_cons, List.not_mem_nil, or_false] at hx
    rcases hx with rfl | rfl <;> exact ok_xs) w (fun _ => 0)
  simp only [List.map_cons, List.map_nil, den_xs] at hst
  have e := gA (moments m0 m1 Mo0 Mo0) noBox
  have f0 : S.few (moments m0 m1 Mo0 Mo0 0) = S.few m0 := rfl
  have f1 : S.few (moments m0 m1 Mo0 Mo0 1) = S.few m1 := rfl
  rw [f0, f1] at e
  have ret : ∀ v, Res.ret (SV.val (Value.bool true)) = .ret v → ∀ m' a' w', a'.defers = [] → (results Tryd.f11 a'.tmps).run Tryd.prog w' = .ok (v.den m') w' → Below w.heap.size w w' → Q .ret a' w' := by
    intro v hv m' a' w' g1 g2 g3
    cases hv
    exact hr a' w' m' g1 g2 g3
  cases h0 : S.few m0 with
  | false =>
    rw [h0] at e
    exact piece C.mix C.hX C.hs C.hXO C.hG e hI hst ret (fun ex d hd => by cases hd)
  | true =>
  cases h1 : S.few m1 with
  | false =>
    rw [h0, h1] at e
    exact piece C.mix C.hX C.hs C.hXO C.hG e hI hst ret (fun ex d hd => by cases hd)
  | true =>
  rw [h0, h1] at e
  refine piece C.mix C.hX C.hs C.hXO C.hG e hI hst (fun v hv => by cases hv) (fun ex d hd m a' w' hr => ?_)
  cases hd
  exact hQ h0 h1 a' w' ⟨hr.ar.size, hr.ar.defers, (hr.ar.tm 0 rfl).trans (den_xs _ [0]), (hr.ar.tm 1 rfl).trans (den_xs _ [1])⟩ hr.mr.below
theorem failed (hI : Inv (moments m0 m1 Mo0 Mo0) noBox w) (hM : Fit (moments m0 m1 Mo0 Mo0)) (h : G m0 m1 a) (h5 : a.tmps.getD 5 undef = .slice none 0 0) (h6 : a.tmps.getD 6 undef = .int .i64 5 ∨ a.tmps.getD 6 undef = .int .i64 7)
    (hr : ∀ a' w' m, a'.defers = [] → (results Tryd.f11 a'.tmps).run Tryd.prog w' = .ok (@SV.den row0 m (.val (.bool true))) w' → Below w.heap.size w w' → Q .ret a' w') : wpL Tryd.prog (bk.drop 6) Q a w := by
  letI := rowsB (moments m0 m1 Mo0 Mo0) noBox
  have C := ctxM (moments m0 m1 Mo0 Mo0) noBox hM
  have sr : ∀ e : Int, a.tmps.getD 6 undef = .int .i64 e → SR w 68 (fun _ => 0) ((⟨[(0, .xs [0]), (1, .xs [1]), (5, .xs [2]), (6, .val (.int .i64 e))], []⟩ : Cut).st 0) a w := by
    intro e he
    refine epoch h.size h.defers _ _ (fun p hp => ?_) (fun p hp => ?_)
    · simp only [List.mem_cons, List.not_mem_nil, or_false] at hp
      rcases hp with rfl | rfl | rfl | rfl
      · exact h.t0.trans (den_xs _ [0]).symm
      · exact h.t1.trans (den_xs _ [1]).symm
      · exact h5.trans (den_xs _ [2]).symm
      · exact he.trans (den_val _ _).symm
    · simp only [List.mem_cons, List.not_mem_nil, or_false] at hp
      rcases hp with rfl | rfl | rfl | rfl <;> first | exact ok_val _ _ | exact ok_xs
  rcases h6 with h6 | h6
  · refine piece C.mix C.hX C.hs C.hXO C.hG (gE5 (moments m0 m1 Mo0 Mo0) noBox) hI (sr 5 h6) (fun v hv m' a' w' g1 g2 g3 => ?_) (fun ex d hd => by cases hd)
    cases hv
    exact hr a' w' m' g1 g2 g3
  · refine piece C.mix C.hX C.hs C.hXO C.hG (gE7 (moments m0 m1 Mo0 Mo0) noBox) hI (sr 7 h6) (fun v hv m' a' w' g1 g2 g3 => ?_) (fun ex d hd => by cases hd)
    cases hv
    exact hr a' w' m' g1 g2 g3
theorem mid {v : Value} (hI : Inv (moments m0 m1 Mo0 Mo0) noBox w) (hM : Fit (moments m0 m1 Mo0 Mo0)) (h : G m0 m1 a) (h5 : a.tmps.getD 5 undef = v) (h6 : a.tmps.getD 6 undef = .int .i64 0)
    (hQ : ∀ a' w', G m0 m1 a' → a'.tmps.getD 5 undef = v → Below w.heap.size w w' → Q .normal a' w') : wpL Tryd.prog ((bk.drop 6).take 2) Q a w := by
  letI := rowsB (moments m0 m1 Mo0 Mo0) noBox
  have C := ctxM (moments m0 m1 Mo0 Mo0) noBox hM
  have sr : SR w 68 (fun _ => 0) ((⟨[(0, .xs [0]), (1, .xs [1]), (5, .val v), (6, .val (.int .i64 0))], []⟩ : Cut).st 0) a w := by
    refine epoch h.size h.defers _ _ (fun p hp => ?_) (fun p hp => ?_)
    · simp only [List.mem_cons, List.not_mem_nil, or_false] at hp
      rcases hp with rfl | rfl | rfl | rfl
      · exact h.t0.trans (den_xs _ [0]).symm
      · exact h.t1.trans (den_xs _ [1]).symm
      · exact h5.trans (den_val _ _).symm
      · exact h6.trans (den_val _ _).symm
    · simp only [List.mem_cons, List.not_mem_nil, or_false] at hp
      rcases hp with rfl | rfl | rfl | rfl <;> first | exact ok_val _ _ | exact ok_xs
  refine piece C.mix C.hX C.hs C.hXO C.hG (gB (moments m0 m1 Mo0 Mo0) noBox v) hI sr (fun v hv => by cases hv) (fun ex d hd m a' w' hr => ?_)
  cases hd
  exact hQ a' w' ⟨hr.ar.size, hr.ar.defers, (hr.ar.tm 0 rfl).trans (den_xs _ [0]), (hr.ar.tm 1 rfl).trans (den_xs _ [1])⟩ ((hr.ar.tm 5 rfl).trans (den_val _ _)) hr.mr.below
theorem last {mo md : Mo} (hI : Inv (moments m0 m1 mo md) noBox w) (hM : Fit (moments m0 m1 mo md)) (h : G m0 m1 a) (h7 : a.tmps.getD 7 undef = .slice mo.A mo.n mo.c) (h8 : a.tmps.getD 8 undef = .int .i64 0) (h9 : a.tmps.getD 9 undef = .slice md.A md.n md.c) (h10 : a.tmps.getD 10 undef = .int .i64 0)
    (e1 : S.sameC mo m1 = true) (e2 : R.sameM mo m1 = true) (e3 : md.n = 0)
    (hr : ∀ a' w' m, a'.defers = [] → (results Tryd.f11 a'.tmps).run Tryd.prog w' = .ok (@SV.den row0 m (.val (.bool true))) w' → Below w.heap.size w w' → Q .ret a' w') : wpL Tryd.prog (bk.drop 10) Q a w := by
  letI := rowsB (moments m0 m1 mo md) noBox
  have C := ctxM (moments m0 m1 mo md) noBox hM
  have e := gC (moments m0 m1 mo md) noBox
  have f1 : S.sameC (moments m0 m1 mo md 2) (moments m0 m1 mo md 1) = true := e1
  have f2 : R.sameM (moments m0 m1 mo md 2) (moments m0 m1 mo md 1) = true := e2
  have f3 : (((moments m0 m1 mo md 3).n : Int) == 0) = true := by
    show ((md.n : Int) == 0) = true
    rw [e3]
    rfl
  rw [f1, f2, f3] at e
  have sr : SR w 68 (fun _ => 0) ((⟨[(1, .xs [1]), (7, .xs [2]), (8, .val (.int .i64 0)), (9, .xs [3]), (10, .val (.int .i64 0))], []⟩ : Cut).st 0) a w := by
    refine epoch h.size h.defers _ _ (fun p hp => ?_) (fun p hp => ?_)
    · simp only [List.mem_cons, List.not_mem_nil, or_false] at hp
      rcases hp with rfl | rfl | rfl | rfl | rfl
      · exact h.t1.trans (den_xs _ [1]).symm
      · exact h7.trans (den_xs _ [2]).symm
      · exact h8.trans (den_val _ _).symm
      · exact h9.trans (den_xs _ [3]).symm
      · exact h10.trans (den_val _ _).symm
    · simp only [List.mem_cons, List.not_mem_nil, or_false] at hp
      rcases hp with rfl | rfl | rfl | rfl | rfl <;> first | exact ok_val _ _ | exact ok_xs
  refine piece C.mix C.hX C.hs C.hXO C.hG e hI sr (fun v hv m' a' w' g1 g2 g3 => ?_) (fun ex d hd => by cases hd)
  cases hv
  exact hr a' w' m' g1 g2 g3
theorem rawD {w : World} (A : Option Addr) (c : Nat) : RawMo w ⟨A, 0, c, fun _ => Sh0⟩ := ⟨fun _ _ => ⟨rfl, rfl⟩, fun j hj => absurd hj (Nat.not_lt_zero _), fun j i hi => absurd hi (Nat.not_lt_zero _)⟩
set_option maxHeartbeats 1000000 in
theorem calls (ht : Tabs w) (h0 : RawMo w m0) (h1 : RawMo w m1) (s0 : Small m0) (s1 : Small m1) (f0 : WfMo m0) (f1 : WfMo m1) (k0 : KeysM m0) (k1 : KeysM m1) :
    Calls Tryd.prog 11 #[.slice m0.A m0.n m0.c, .slice m1.A m1.n m1.c] w (fun e w' => e = .returned (.bool true) ∧ Below w.heap.size w w') := by
  have inv : ∀ w', Below w.heap.size w w' → Inv (moments m0 m1 Mo0 Mo0) noBox w' := fun w' hb => ⟨tabs_stable _ _ ht hb, xok_raw (raw_moments (h0.below hb) (h1.below hb) (raw0 w') (raw0 w'))⟩
  have hM := fit_moments s0 s1 small0 small0
  have hS := small_moments s0 s1 small0 small0
  have hK := keys_moments k0 k1 keysM0 keysM0
  refine calls_of_wp Tryd.func11 (c := Tryd.f11.body.getD .skip) (by kernel_rfl) ?_
  refine wpL_flat _ ?_
  show wpL Tryd.prog bk _ _ _
  rw [bk_eq, wpL_app]
  have hret : ∀ (a' : Act) (w' : World) (m : Nat → Nat), a'.defers = [] → (results Tryd.f11 a'.tmps).run Tryd.prog w' = .ok (@SV.den row0 m (.val (.bool true))) w' → Below w.heap.size w w' → bodyPost Tryd.prog Tryd.f11 (fun e w' => e = .returned (.bool true) ∧ Below w.heap.size w w') .ret a' w' := by
    intro a' w' m g1 g2 g3
    rw [@den_val row0] at g2
    exact ⟨g1, _, g2, rfl, g3⟩
  refine head (inv w (Below.refl _ _)) hM hret fun fw0 fw1 a1 w1 G1 b1 => ?_
  obtain ⟨n0, p0⟩ := few_spec s0 fw0
  obtain ⟨n1, p1⟩ := few_spec s1 fw1
  have hlen : (S.diffG m0 m1 m1.n).length ≤ 60000 := diff_len p0 n1 p1
  have hlen1 : (S.diffG m1 m1 m1.n).length ≤ 60000 := diff_len p1 n1 p1
  show (Code.region 5 o5 false).wp Tryd.prog (Exit.then (wpL Tryd.prog (bk.drop 6) _) _) a1 w1
  refine pairR (N := 68) (f := 50) (m1 := 22) (m2 := 23) (tp := 24) (d1 := 5) (d2 := 6) (ats := #[51, 51]) (ts := [(0, .slice m0.A m0.n m0.c), (1, .slice m1.A m1.n m1.c)]) (v1 := .slice m0.A m0.n m0.c) (v2 := .slice m1.A m1.n m1.c) [0, 1] (by kernel_rfl) (by kernel_rfl) (by kernel_rfl) (by kernel_rfl) (by kernel_rfl) (by decide) (by decide)
    (by kernel_rfl) (fun x y => by kernel_rfl) (by kernel_rfl) (by kernel_rfl) G1.size G1.defers (fun p hp => ?_)
    (Df.callsG (M := moments m0 m1 Mo0 Mo0) hM hS hK (x := 0) (y := 1) (inv w1 b1) (by show (S.diffG m0 m1 m1.n).length ≤ _; omega)) fun e w2 ⟨d2, hout⟩ => ?_
  · simp only [List.mem_cons, List.not_mem_nil, or_false] at hp
    rcases hp with rfl | rfl
    · exact G1.t0
    · exact G1.t1
  have b2 : Below w.heap.size w w2 := b1.trans (d2.mono b1.size)
  rcases hout with ⟨_, rfl⟩ | ⟨_, _, rfl⟩ | ⟨hn, htw, v, rfl, hmade⟩
  · refine ⟨_, _, rfl, fun a2 z1 z2 hk q5 q6 => ?_⟩
    exact failed (inv w2 b2) hM ⟨z1, z2, (hk 0 (by simp)).trans G1.t0, (hk 1 (by simp)).trans G1.t1⟩ q5 (.inr q6) fun a' w' m g1 g2 g3 => hret a' w' m g1 g2 (b2.trans (g3.mono b2.size))
  · refine ⟨_, _, rfl, fun a2 z1 z2 hk q5 q6 => ?_⟩
    exact failed (inv w2 b2) hM ⟨z1, z2, (hk 0 (by simp)).trans G1.t0, (hk 1 (by simp)).trans G1.t1⟩ q5 (.inl q6) fun a' w' m g1 g2 g3 => hret a' w' m g1 g2 (b2.trans (g3.mono b2.size))
  refine ⟨_, _, rfl, fun a2 z1 z2 hk q5 q6 => ?_⟩
  have hn : m0.n ≤ m1.n := hn
  have htw : (S.twice m0 || S.twice m1) = false := htw
  have hmade : Made w1 (S.diffG m0 m1 m1.n) v w2 := hmade
  rw [Bool.or_eq_false_iff] at htw
  obtain ⟨r, hp1, hp2⟩ := back_plain htw.1 htw.2 f0 f1 hn
  have hself := diff_self htw.2 f1
  generalize hds : S.diffG m0 m1 m1.n = ds at hlen hmade hp1
  have G2 : G m0 m1 a2 := ⟨z1, z2, (hk 0 (by simp)).trans G1.t0, (hk 1 (by simp)).trans G1.t1⟩
  show wpL Tryd.prog (bk.drop 6) _ a2 w2
  rw [bk6_eq, List.append_assoc, wpL_app]
  refine mid (inv w2 b2) hM G2 q5 q6 fun a3 w3 G3 r5 d3 => ?_
  have b3 : Below w.heap.size w w3 := b2.trans (d3.mono b2.size)
  have own3 : w3.ownsRow w1.heap.size 99 29 v ds.length (ds.flatMap Dl.list) := hmade.2.kept (grown_of d3 none) (by cases v.ownBlock <;> simp)
  obtain ⟨hv, hX, hds'⟩ := deltas_row (d0 := S.dMake 0 Sh0) own3
  have hcall : Calls Tryd.prog 51 #[.slice m0.A m0.n m0.c, v] w3 (Pa.Out m0 ((List.range ds.length).map fun j => ds.getD j (S.dMake 0 Sh0)) w3) := by
    have := Pa.calls (tabs_stable _ _ ht b3) (h0.below b3) (by omega) (fun j hj => by have := p0 j hj; omega) hX (by omega)
    rw [← hv] at this
    exact this
  show (Code.region 8 o8 false).wp Tryd.prog (Exit.then (wpL Tryd.prog (.region 9 o9 false :: bk.drop 10) _) _) a3 w3
  refine pairR (N := 68) (f := 51) (m1 := 34) (m2 := 35) (tp := 36) (d1 := 7) (d2 := 8) (ats := #[51, 68]) (ts := [(0, .slice m0.A m0.n m0.c), (5, v)]) (v1 := .slice m0.A m0.n m0.c) (v2 := v) [0, 1] (by kernel_rfl) (by kernel_rfl) (by kernel_rfl) (by kernel_rfl) (by kernel_rfl) (by decide) (by decide)
    (by kernel_rfl) (fun x y => by kernel_rfl) (by kernel_rfl) (by kernel_rfl) G3.size G3.defers (fun p hp => ?_)
    hcall fun e w4 ⟨d4, hout⟩ => ?_
  · simp only [List.mem_cons, List.not_mem_nil, or_false] at hp
    rcases hp with rfl | rfl
    · exact G3.t0
    · exact r5
  have b4 : Below w.heap.size w w4 := b3.trans (d4.mono b3.size)
  rw [hds', hp1] at hout
  rcases hout with ⟨mo, hmo, rfl, hO⟩ | ⟨hno, _⟩
  case inr => cases hno
  obtain ⟨e1, e2⟩ := hp2 mo (Option.some.inj hmo).symm
  refine ⟨_, _, rfl, fun a4 y1 y2 hk4 q7 q8 => ?_⟩
  have G4 : G m0 m1 a4 := ⟨y1, y2, (hk4 0 (by simp)).trans G3.t0, (hk4 1 (by simp)).trans G3.t1⟩
  show (Code.region 9 o9 false).wp Tryd.prog (Exit.then (wpL Tryd.prog (bk.drop 10) _) _) a4 w4
  refine pairR (N := 68) (f := 50) (m1 := 40) (m2 := 41) (tp := 42) (d1 := 9) (d2 := 10) (ats := #[51, 51]) (ts := [(1, .slice m1.A m1.n m1.c)]) (v1 := .slice m1.A m1.n m1.c) (v2 := .slice m1.A m1.n m1.c) [0, 1, 7, 8] (by kernel_rfl) (by kernel_rfl) (by kernel_rfl) (by kernel_rfl) (by kernel_rfl) (by decide) (by decide)
    (by kernel_rfl) (fun x y => by kernel_rfl) (by kernel_rfl) (by kernel_rfl) G4.size G4.defers (fun p hp => ?_)
    (Df.callsG (M := moments m0 m1 Mo0 Mo0) hM hS hK (x := 1) (y := 1) (inv w4 b4) (by show (S.diffG m1 m1 m1.n).length ≤ _; omega)) fun e w5 ⟨d5, hout⟩ => ?_
  · obtain rfl := List.mem_singleton.1 hp
    exact G4.t1
  have b5 : Below w.heap.size w w5 := b4.trans (d5.mono b4.size)
  rcases hout with ⟨hlt, _⟩ | ⟨_, htw2, _⟩ | ⟨_, _, v2, rfl, hmade2⟩
  · exact absurd hlt (Nat.lt_irrefl _)
  · have htw2 : (S.twice m1 || S.twice m1) = true := htw2
    rw [htw.2] at htw2
    cases htw2
  have hmade2 : Made w4 (S.diffG m1 m1 m1.n) v2 w5 := hmade2
  rw [hself] at hmade2
  have hv2 := (own_slice hmade2.2).1
  refine ⟨_, _, rfl, fun a5 x1 x2 hk5 q9 q10 => ?_⟩
  have hO5 := hO.below d5
  show wpL Tryd.prog (bk.drop 10) _ a5 w5
  refine last (mo := mo) (md := ⟨slA v2, 0, slC v2, fun _ => Sh0⟩) ⟨tabs_stable _ _ ht b5, xok_raw (raw_moments (h0.below b5) (h1.below b5) hO5.raw (rawD _ _))⟩ (fit_moments' s0.fit s1.fit hO.fit ⟨by show ((0 : Nat) : Int) ≤ _; omega, fun _ => by show ((0 : Nat) : Int) ≤ _; omega⟩)
    ⟨x1, x2, (hk5 0 (by simp)).trans G4.t0, (hk5 1 (by simp)).trans G4.t1⟩ ((hk5 7 (by simp)).trans q7) ((hk5 8 (by simp)).trans q8) (q9.trans hv2) q10 e1 e2 rfl fun a' w' m g1 g2 g3 => hret a' w' m g1 g2 (b5.trans (g3.mono b5.size))
end
end Bk
end Go.Proofs.YtaojjpdlfnphiaaDoor.PDescKinds
end
section
/- Moments that come in: what they read as_, their keys too. -/
set_option linter.unusedSimpArgs false
set_option linter.unusedVariables false
set_option linter.unusedSectionVars false
namespace Go.Proofs.YtaojjpdlfnphiaaDoor.PDescKinds
open Go.ChangeShapes Go.WideShapes Go.ChangeAt Go.RowKit
theorem wfK0 : wfK Pr0.k = true := by decide +kernel
section
variable {H : Type} {enc : TypeId × Value → H} {w : World} {base : Nat} {spare : Nat → Bool} {held : Bool} {fuel : Nat} {cs : List Value} {x : DataW H × List MemPlace}
set_option maxRecDepth 100000 in
theorem read_K2 (h : DataW.trod enc Tryd.prog w base spare held fuel 64 cs = some x) : ∃ k : K, cs = [.string k.s, .int .i64 k.n] ∧ wfK k = true := by
  obtain ⟨xs, n, _, _, hl, hn, hf⟩ := DataW.trod_struct Tryd.underlying64 h
  rw [cells64] at hl
  match cs, hl, xs, hn with
  | [c0, c1], _, [y0, y1], _ =>
    have h0 := hf 0 ⟨"Str", 9, 0, false, "", "", 0⟩ rfl
    have h1 := hf 1 ⟨"Sym", 3, 1, false, "", "", 16⟩ rfl
    simp only [cells3, cells9, List.drop_succ_cons, List.drop_zero, List.take_succ_cons, List.take_zero] at h0 h1
    obtain ⟨v0, e0, l0⟩ := read_string Tryd.underlying9 h0
    obtain ⟨v1, e1, _, l1⟩ := DataW.trod_int Tryd.underlying3 h1
    cases e0; cases e1
    refine ⟨⟨v0, v1⟩, rfl, ?_⟩
    unfold wfK Tw.wfKey
    rw [l1, decide_eq_true l0]
    rfl
set_option maxRecDepth 100000 in
theorem read_Pr2 (h : DataW.trod enc Tryd.prog w base spare held fuel 66 cs = some x) : ∃ q : Pr, cs = q.list ∧ q.d.wf ∧ wfK q.k = true := by
  obtain ⟨xs, n, _, _, hl, hn, hf⟩ := DataW.trod_struct Tryd.underlying66 h
  rw [cells66] at hl
  match cs, hl, xs, hn with
  | c0 :: c1 :: r, hl, [y0, y1], _ =>
    have h0 := hf 0 ⟨"Key", 64, 0, false, "", "", 0⟩ rfl
    have h1 := hf 1 ⟨"Desc", 27, 2, false, "", "", 24⟩ rfl
    simp only [cells64, cells27, List.drop_succ_cons, List.drop_zero, List.take_succ_cons, List.take_zero] at h0 h1
    have hr : r.length = 18 := by simpa using hl
    rw [List.take_of_length_le (by omega)] at h1
    obtain ⟨k, e0, hk⟩ := read_K2 h0
    obtain ⟨d, e1, w1⟩ := read_D h1
    cases e0; subst e1
    exact ⟨⟨k, d⟩, rfl, w1, hk⟩
set_option maxRecDepth 100000 in
theorem read_Ps2 (h : DataW.trod enc Tryd.prog w base spare held fuel 58 cs = some x) :
    ∃ (A : Option Addr) (n c : Nat) (g : Nat → Pr), cs = [.slice A n c] ∧ n ≤ Rows.uptoBulk x.1 ∧ (A = none → n = 0 ∧ c = 0) ∧ RawPs w A n g ∧ ∀ i, (g i).d.wf ∧ wfK (g i).k = true := by
  rcases DataW.trod_slice Tryd.underlying58 h with ⟨rfl, _⟩ | ⟨a', len, cap, elems, rest, n, rfl, rfl, rfl, hb, hlc, hcm, hel, hall, _, _⟩
  · exact ⟨none, 0, 0, fun _ => Pr0, rfl, Nat.zero_le _, fun _ => ⟨rfl, rfl⟩, fun i hi => absurd hi (Nat.not_lt_zero _), fun _ => ⟨wf0, wfK0⟩⟩
  · have key : ∀ j, ∃ z : Pr, (z.d.wf ∧ wfK z.k = true) ∧ (j < len → a'.block < w.heap.size ∧ ∀ k v, z.list[k]? = some v → w.cell? (a'.add (j * 20 + k)) = some v) := by
      intro j
      by_cases hj : j < len
      · have h1 := hall j hj
        have hj' : j < elems.length := by rw [hel]; exact hj
        obtain ⟨e, he⟩ : ∃ e, elems[j]? = some e := ⟨elems[j]'hj', List.getElem?_eq_getElem hj'⟩
        rw [he, cells66] at h1
        obtain ⟨cs, hcs, htr⟩ := Option.bind_eq_some_iff.1 h1
        obtain ⟨z, rfl, hz, hzk⟩ := read_Pr2 htr
        refine ⟨z, ⟨hz, hzk⟩, fun _ => ⟨add_block a' (j * 20) ▸ World.cells?_block hcs (Nat.zero_lt_succ 19), fun k v hk => ?_⟩⟩
        obtain ⟨_, hl, hce⟩ := World.cells?_some hcs
        have hk20 : k < 20 := by
          rw [← hl]
          exact (List.getElem?_eq_some_iff.1 hk).1
        have := hce k hk20
        rw [hk, Go.Ev.add_add] at this
        exact this
      · exact ⟨Pr0, ⟨wf0, wfK0⟩, fun h => absurd h hj⟩
    obtain ⟨g, hg⟩ := Classical.axiomOfChoice key
    refine ⟨some a', len, cap, g, rfl, ?_, fun h => (by cases h), fun i hi => ?_, fun i => (hg i).1⟩
    · simp only [Rows.uptoBulk]
      have := bulk_len (elems.map (·.1))
      rw [List.length_map, hel] at this
      omega
    · obtain ⟨hbl, hgc⟩ := (hg i).2 hi
      exact ⟨a', rfl, hbl, hgc⟩
/-- A shape as_ the world has it. -/
structure RawSh2 (w : World) (s : Sh) : Prop where
  nils : s.A = none → s.n = 0 ∧ s.c = 0
  row : RawPs w s.A s.n s.g
  wfp : s.p.wf
  wfd : ∀ i, (s.g i).d.wf ∧ wfK (s.g i).k = true
set_option maxRecDepth 100000 in
theorem read_Sh2 (h : DataW.trod enc Tryd.prog w base spare held fuel 60 cs = some x) : ∃ s : Sh, cs = shVals s s.row ∧ s.n ≤ Rows.uptoBulk x.1 ∧ RawSh2 w s := by
  obtain ⟨xs, n, _, hx, hl, hn, hf⟩ := DataW.trod_struct Tryd.underlying60 h
  rw [cells60] at hl
  match cs, hl, xs, hn with
  | [c0, c1, c2, c3, c4, c5, c6, c7], _, [y0, y1, y2, y3], _ =>
    have h0 := hf 0 ⟨"Class", 3, 0, false, "", "", 0⟩ rfl
    have h1 := hf 1 ⟨"Proto", 24, 1, false, "", "", 8⟩ rfl
    have h2 := hf 2 ⟨"Extensible", 4, 6, false, "", "", 56⟩ rfl
    have h3 := hf 3 ⟨"Props", 58, 7, false, "", "", 64⟩ rfl
    simp only [cells3, cells4, cells24, cells58, List.drop_succ_cons, List.drop_zero, List.take_succ_cons, List.take_zero] at h0 h1 h2 h3
    obtain ⟨v0, e0⟩ := read_int Tryd.underlying3 h0
    obtain ⟨v1, e1, w1⟩ := read_V h1
    obtain ⟨v2, e2⟩ := read_bool Tryd.underlying4 h2
    obtain ⟨A, m, c, g, e3, hb, hnil, hrow, hwf⟩ := read_Ps2 (x := y3) h3
    unfold V.list at e1
    cases e0; cases e1; cases e2; cases e3
    refine ⟨⟨v0, v1, v2, A, m, c, g⟩, rfl, ?_, hnil, hrow, w1, hwf⟩
    subst hx
    simp only [Rows.uptoBulk, List.map_cons, List.map_nil, Rows.uptoBulkAll]
    omega
theorem rawSh02 : RawSh2 w Sh0 := ⟨fun _ => ⟨rfl, rfl⟩, fun i hi => absurd hi (Nat.not_lt_zero _), by show 0 < _; omega, fun _ => ⟨wf0, wfK0⟩⟩
set_option maxRecDepth 100000 in
/-- A moment that came in. -/
theorem open_M2 {v : Value} {base' : Nat} {d : DataW H} {p : List MemPlace} (hv : Value.okWide Tryd.prog w .any base' 51 v) (h : DataW.Trod enc Tryd.prog w base spare held 51 v d p) (hs : Rows.uptoBulk d ≤ 1048576) :
    ∃ m : Mo, v = .slice m.A m.n m.c ∧ RawMo w m ∧ Small m ∧ WfMo m ∧ KeysM m := by
  obtain ⟨a, len, cap, rfl⟩ := okWide_slice Tryd.underlying51 hv
  obtain ⟨f, hf⟩ := h
  rcases DataW.trod_slice Tryd.underlying51 hf with ⟨hc, _⟩ | ⟨a', len', cap', elems, rest, n, rfl, hc, hd, hb, hlc, hcm, hel, hall, _, _⟩
  · simp only [Value.cells, List.cons.injEq, Value.slice.injEq, and_true] at hc
    obtain ⟨rfl, rfl, rfl⟩ := hc
    exact ⟨Mo0, rfl, raw0 w, small0, fun j => ⟨(rawSh02 (w := w)).wfp, fun _ => wf0⟩, keysM0⟩
  · simp only [Value.cells, List.cons.injEq, Value.slice.injEq, and_true] at hc
    obtain ⟨rfl, rfl, rfl⟩ := hc
    have hd1 : d = .slice (elems.map (·.1)) (rest.map (·.1)) := congrArg Prod.fst hd
    have hbulk : Rows.uptoBulkAll (elems.map (·.1)) ≤ 1048576 := by
      rw [hd1] at hs
      simp only [Rows.uptoBulk] at hs
      omega
    have key : ∀ j, ∃ z : Sh, (RawSh2 w z ∧ z.n ≤ 1048576) ∧ (j < len → a'.block < w.heap.size ∧ ∀ k v, (shVals z z.row)[k]? = some v → w.cell? (a'.add (j * 8 + k)) = some v) := by
      intro j
      by_cases hj : j < len
      · have h1 := hall j hj
        have hj' : j < elems.length := by rw [hel]; exact hj
        obtain ⟨e, he⟩ : ∃ e, elems[j]? = some e := ⟨elems[j]'hj', List.getElem?_eq_getElem hj'⟩
        rw [he, cells60] at h1
        obtain ⟨cs, hcs, htr⟩ := Option.bind_eq_some_iff.1 h1
        obtain ⟨z, rfl, hzn, hz⟩ := read_Sh2 htr
        have hm : Rows.uptoBulk e.1 ≤ Rows.uptoBulkAll (elems.map (·.1)) := bulk_mem (List.mem_map.2 ⟨e, List.mem_of_getElem? he, rfl⟩)
        refine ⟨z, ⟨hz, by omega⟩, fun _ => ⟨add_block a' (j * 8) ▸ World.cells?_block hcs (Nat.zero_lt_succ 7), fun k v hk => ?_⟩⟩
        obtain ⟨_, hl, hce⟩ := World.cells?_some hcs
        have hk8 : k < 8 := by
          rw [← hl]
          exact (List.getElem?_eq_some_iff.1 hk).1
        have := hce k hk8
        rw [hk, Go.Ev.add_add] at this
        exact this
      · exact ⟨Sh0, ⟨rawSh02, by decide⟩, fun h => absurd h hj⟩
    obtain ⟨g, hg⟩ := Classical.axiomOfChoice key
    refine ⟨⟨some a', len, cap, g⟩, rfl, ⟨fun j => (hg j).1.1.nils, fun j hj => ?_, fun j i hi => (hg j).1.1.row i hi⟩, ⟨?_, fun j => (hg j).1.2⟩, fun j => ⟨(hg j).1.1.wfp, fun i => ((hg j).1.1.wfd i).1⟩, fun j i => ((hg j).1.1.wfd i).2⟩
    · obtain ⟨hbl, hgc⟩ := (hg j).2 hj
      exact ⟨a', rfl, hbl, hgc⟩
    · have := bulk_len (elems.map (·.1))
      rw [List.length_map, hel] at this
      show len ≤ _
      omega
end
end Go.Proofs.YtaojjpdlfnphiaaDoor.PDescKinds
end
end
