/- cameolaw06.TableKeeps: keys and descriptors that come in; the tied card. -/
import Derived.Test.YtbpdpnoekkkapaaDoorCards
import Derived.Test.YtbpdpnoekkkapaaDoorTie
import Derived.WalkKit
import Derived.ProofKit
import Derived.OpenShut
import Derived.Deep.DeepHandedRow
import Derived.Lib.LaidTab
import Derived.Lib.LaidIn
import Derived.Lib.LaidU8T
import Derived.Test.YtbpdpnoekkkapaaDoorZ7
set_option linter.unusedSectionVars false
set_option linter.unusedSimpArgs false
set_option linter.unusedVariables false
namespace Go.Proofs.YtbpdpnoekkkapaaDoor.PDescKinds
open Go.ChangeShapes Go.WideShapes Go.ChangeAt Go.RowKit Go.Lib Go.Ev
set_option maxRecDepth 100000
section
variable {H : Type} {enc : TypeId × Value → H} {P : Program} {w : World} {base : Nat} {spare : Nat → Bool} {held : Bool} {fuel : Nat} {t : TypeId} {cs : List Value} {x : DataW H × List MemPlace}
theorem read_int {k : IntKind} (ht : P.underlying t = some (.int k)) (h : DataW.trod enc P w base spare held fuel t cs = some x) : ∃ n, cs = [.int k n] := by
  obtain ⟨n, h, _⟩ := DataW.trod_int ht h
  exact ⟨n, h⟩
theorem read_bool (ht : P.underlying t = some .bool) (h : DataW.trod enc P w base spare held fuel t cs = some x) : ∃ b, cs = [.bool b] := by
  cases fuel with
  | zero => simp [DataW.trod] at h
  | succ n =>
    rw [DataW.trod.eq_def] at h
    simp only [ht] at h
    split at h <;> first | (simp_all; done) | exact ⟨_, rfl⟩
theorem read_f64 (ht : P.underlying t = some (.float .f64)) (h : DataW.trod enc P w base spare held fuel t cs = some x) : ∃ b, cs = [.float .f64 b] ∧ b < 18446744073709551616 := by
  cases fuel with
  | zero => simp [DataW.trod] at h
  | succ n =>
    rw [DataW.trod.eq_def] at h
    simp only [ht] at h
    split at h <;> first | (simp at *; done) | skip
    rename_i k1 k2 b' e1
    simp only [Option.some.injEq, TypeDesc.float.injEq] at e1
    subst e1
    split at h
    · rename_i hc
      obtain ⟨rfl, hw⟩ := hc
      exact ⟨b', rfl, of_decide_eq_true hw⟩
    · cases h
theorem read_string (ht : P.underlying t = some .string) (h : DataW.trod enc P w base spare held fuel t cs = some x) : ∃ s, cs = [.string s] ∧ s.size ≤ maxLen := by
  cases fuel with
  | zero => simp [DataW.trod] at h
  | succ n =>
    rw [DataW.trod.eq_def] at h
    simp only [ht] at h
    split at h <;> first | (simp_all; done) | skip
end
section
variable {H : Type} {enc : TypeId × Value → H} {w : World} {base : Nat} {spare : Nat → Bool} {held : Bool} {fuel : Nat} {cs : List Value} {x : DataW H × List MemPlace}
theorem cells3 : Tryd.prog.cellsOf 3 = 1 := by kernel_rfl
theorem cells4 : Tryd.prog.cellsOf 4 = 1 := by kernel_rfl
theorem cells9 : Tryd.prog.cellsOf 9 = 1 := by kernel_rfl
theorem cells35 : Tryd.prog.cellsOf 35 = 1 := by kernel_rfl
theorem cells34 : Tryd.prog.cellsOf 34 = 2 := by kernel_rfl
theorem cells37 : Tryd.prog.cellsOf 37 = 5 := by kernel_rfl
theorem cells38 : Tryd.prog.cellsOf 38 = 1 := by kernel_rfl
theorem cells40 : Tryd.prog.cellsOf 40 = 18 := by kernel_rfl
theorem read_V (h : DataW.trod enc Tryd.prog w base spare held fuel 37 cs = some x) : ∃ v : V, cs = [.int .i64 v.k, .bool v.b, .float .f64 v.n, .string v.s, .int .i64 v.id] := by
  obtain ⟨xs, n, _, _, hl, hn, hf⟩ := DataW.trod_struct Tryd.underlying37 h
  rw [cells37] at hl
  match cs, hl, xs, hn with
  | [c0, c1, c2, c3, c4], _, [y0, y1, y2, y3, y4], _ =>
    have h0 := hf 0 ⟨"Kind", 3, 0, false, "", "", 0⟩ rfl
    have h1 := hf 1 ⟨"Bool", 4, 1, false, "", "", 8⟩ rfl
    have h2 := hf 2 ⟨"Num", 35, 2, false, "", "", 16⟩ rfl
    have h3 := hf 3 ⟨"Str", 9, 3, false, "", "", 24⟩ rfl
    have h4 := hf 4 ⟨"Id", 3, 4, false, "", "", 40⟩ rfl
    simp only [cells3, cells4, cells9, cells35, List.drop_succ_cons, List.drop_zero, List.take_succ_cons, List.take_zero] at h0 h1 h2 h3 h4
    obtain ⟨v0, e0⟩ := read_int Tryd.underlying3 h0
    obtain ⟨v1, e1⟩ := read_bool Tryd.underlying4 h1
    obtain ⟨v2, e2, w2⟩ := read_f64 Tryd.underlying35 h2
    obtain ⟨v3, e3, _⟩ := read_string Tryd.underlying9 h3
    obtain ⟨v4, e4⟩ := read_int Tryd.underlying3 h4
    cases e0; cases e1; cases e2; cases e3; cases e4
    exact ⟨⟨v0, v1, v2, v3, v4⟩, rfl⟩
theorem read_D (h : DataW.trod enc Tryd.prog w base spare held fuel 40 cs = some x) : ∃ d : D, cs = d.list := by
  obtain ⟨xs, n, _, _, hl, hn, hf⟩ := DataW.trod_struct Tryd.underlying40 h
  rw [cells40] at hl
  match cs, hl, xs, hn with
  | [c0, c1, c2, c3, c4, c5, c6, c7, c8, c9, c10, c11, c12, c13, c14, c15, c16, c17], _, [y0, y1, y2, y3, y4, y5], _ =>
    have h0 := hf 0 ⟨"Value", 37, 0, false, "", "", 0⟩ rfl
    have h1 := hf 1 ⟨"Get", 37, 5, false, "", "", 48⟩ rfl
    have h2 := hf 2 ⟨"Set", 37, 10, false, "", "", 96⟩ rfl
    have h3 := hf 3 ⟨"Writable", 38, 15, false, "", "", 144⟩ rfl
    have h4 := hf 4 ⟨"Enumerable", 38, 16, false, "", "", 152⟩ rfl
    have h5 := hf 5 ⟨"Configurable", 38, 17, false, "", "", 160⟩ rfl
    simp only [cells37, cells38, List.drop_succ_cons, List.drop_zero, List.take_succ_cons, List.take_zero] at h0 h1 h2 h3 h4 h5
    obtain ⟨v0, e0⟩ := read_V h0
    obtain ⟨v1, e1⟩ := read_V h1
    obtain ⟨v2, e2⟩ := read_V h2
    obtain ⟨v3, e3⟩ := read_int Tryd.underlying38 h3
    obtain ⟨v4, e4⟩ := read_int Tryd.underlying38 h4
    obtain ⟨v5, e5⟩ := read_int Tryd.underlying38 h5
    cases e0; cases e1; cases e2; cases e3; cases e4; cases e5
    exact ⟨⟨v0, v1, v2, v3, v4, v5⟩, rfl⟩
theorem read_K (h : DataW.trod enc Tryd.prog w base spare held fuel 34 cs = some x) : ∃ k : K, cs = k.list := by
  obtain ⟨xs, n, _, _, hl, hn, hf⟩ := DataW.trod_struct Tryd.underlying34 h
  rw [cells34] at hl
  match cs, hl, xs, hn with
  | [c0, c1], _, [y0, y1], _ =>
    have h0 := hf 0 ⟨"Str", 9, 0, false, "", "", 0⟩ rfl
    have h1 := hf 1 ⟨"Sym", 3, 1, false, "", "", 16⟩ rfl
    simp only [cells3, cells9, List.drop_succ_cons, List.drop_zero, List.take_succ_cons, List.take_zero] at h0 h1
    obtain ⟨v0, e0, _⟩ := read_string Tryd.underlying9 h0
    obtain ⟨v1, e1⟩ := read_int Tryd.underlying3 h1
    cases e0; cases e1
    exact ⟨⟨v0, v1⟩, rfl⟩
theorem open_D {v : Value} {base' : Nat} {d : DataW H} {p : List MemPlace} (hv : Value.okWide Tryd.prog w .any base' 40 v) (h : DataW.Trod enc Tryd.prog w base spare held 40 v d p) : ∃ z : D, v = z.agg := by
  obtain ⟨arr, rfl, _⟩ := okWide_struct Tryd.underlying40 hv
  obtain ⟨f, hf⟩ := h
  obtain ⟨z, hz⟩ := read_D hf
  refine ⟨z, ?_⟩
  rw [show z.agg = .agg z.list.toArray from rfl, ← hz]
  rfl
theorem open_K {v : Value} {base' : Nat} {d : DataW H} {p : List MemPlace} (hv : Value.okWide Tryd.prog w .any base' 34 v) (h : DataW.Trod enc Tryd.prog w base spare held 34 v d p) : ∃ z : K, v = z.agg := by
  obtain ⟨arr, rfl, _⟩ := okWide_struct Tryd.underlying34 hv
  obtain ⟨f, hf⟩ := h
  obtain ⟨z, hz⟩ := read_K hf
  refine ⟨z, ?_⟩
  rw [show z.agg = .agg z.list.toArray from rfl, ← hz]
  rfl
end
theorem own : ownKnob Tryd.prog.godebug = none := by kernel_rfl
theorem laidOut : laidOutB Tryd.prog = true := by kernel_rfl
theorem accept_eq : Rows.laid_unicode_utf8_acceptRanges = Lib.acceptData := by kernel_rfl
theorem first_eq : Rows.laid_unicode_utf8_first = Lib.firstData := by kernel_rfl
theorem u8extra : U8Extra Tryd.prog Tryd.lays260_ren := ⟨by kernel_rfl, by kernel_rfl, by kernel_rfl, by kernel_rfl, by kernel_rfl, by kernel_rfl, by kernel_rfl⟩
theorem tabs_of {W : World} (h : laidMetH Tryd.prog [("unicode/utf8.acceptRanges", Rows.laid_unicode_utf8_acceptRanges), ("unicode/utf8.first", Rows.laid_unicode_utf8_first)] W) : Tabs W := by
  rw [accept_eq, first_eq] at h
  exact utf8Tabs_of_readsT (U8Types.of260 Tryd.lays260) u8extra (Lib.laidMet.reads h (.tail _ (.head _))) (Lib.laidMet.reads h (.head _))
noncomputable def laidWorld (os : Os) : World :=
  let w0 := World.holding Tryd.prog os ⟨#[], #[], []⟩
  let put (h : Array Obj) (g : Nat) (cs : Array Value) : Array Obj := h.modify g fun
    | .cells _ t frozen => .cells cs t frozen
    | o => o
  let h1 := put w0.heap 1 (Lib.firstTab.map fun z => Value.int .u8 z).toArray
  let h2 := put h1 2 ((List.range 16).flatMap fun i => [Value.int .u8 (Lib.accLo i), Value.int .u8 (Lib.accHi i)]).toArray
  { w0 with heap := h2 }
theorem laid_met (os : Os) (args : Array Value) : laidMet Tryd.prog [("unicode/utf8.acceptRanges", Rows.laid_unicode_utf8_acceptRanges), ("unicode/utf8.first", Rows.laid_unicode_utf8_first)] ((laidWorld os).forCall (fun _ _ => 0) ⟨#[], args, []⟩).memory := by
  rw [accept_eq, first_eq]
  exact (LaidIn.of_run (l := [("unicode/utf8.acceptRanges", Lib.acceptData), ("unicode/utf8.first", Lib.firstData)]) [2, 1] 8 (by kernel_rfl) (by kernel_rfl) (by kernel_rfl) (by kernel_rfl)).met
end Go.Proofs.YtbpdpnoekkkapaaDoor.PDescKinds
namespace Go.Proofs.YtbpdpnoekkkapaaDoor.PDescKinds.lawTableKeeps
open Go.ChangeShapes Go.WideShapes Go.ChangeAt Go.RowKit Go.Ev
set_option maxRecDepth 100000 in
theorem contract (H : Type) (enc : TypeId × Value → H) (W : World) (base : Nat) (args : Array Value) (ds gs : List (DataW H)) (before : List MemPlace)
    (hval : ∀ (j : Nat) t v, Tryd.f7.params[j]? = some t → args[j]? = some v → Value.okWide Tryd.prog W .any base t v)
    (hW : DataW.Whole enc Tryd.prog Tryd.f7.params.toList Rows.tableKeepsSpec.vars false W args.toList ds gs before) (hL : laidMetH Tryd.prog Rows.tableKeepsRow.laid W) :
    Calls Tryd.prog 7 args W fun e W' => ∃ v, e = .returned v ∧ Rows.tableKeepsSpec.post enc Tryd.prog Tryd.f7 false true false false W args v W' := by
  have ht := tabs_of hL
  have hW' := hW
  obtain ⟨p, q, hA0, hV, rfl, hfz, hnd⟩ := hW
  have hA : DataW.TrodAll enc Tryd.prog W 0 (fun _ => true) true Tryd.f7.params.toList args.toList ds p := hA0
  rw [Tryd.params7] at hA hval
  obtain ⟨v0, vs0, d0, ds0, p0, q0, hargs, rfl, rfl, h0, r0⟩ := trodAll_cons hA
  obtain ⟨v1, vs1, d1, ds1, p1, q1, rfl, rfl, rfl, h1, r1⟩ := trodAll_cons r0
  obtain ⟨v2, vs2, d2, ds2, p2, q2, rfl, rfl, rfl, h2, r2⟩ := trodAll_cons r1
  obtain ⟨rfl, rfl, rfl⟩ := trodAll_nil r2
  obtain rfl : args = #[v0, v1, v2] := by cases args; simp_all
  obtain ⟨rfl, rfl⟩ := trodVars_none hV
  have k0 := h0
  have lt0 : ∀ x ∈ p0, x.block < W.heap.size := by obtain ⟨m, hm⟩ := k0; exact DataW.trod_lt m _ _ _ hm
  have k1 := h1
  have lt1 : ∀ x ∈ p1, x.block < W.heap.size := by obtain ⟨m, hm⟩ := k1; exact DataW.trod_lt m _ _ _ hm
  have k2 := h2
  have lt2 : ∀ x ∈ p2, x.block < W.heap.size := by obtain ⟨m, hm⟩ := k2; exact DataW.trod_lt m _ _ _ hm
  obtain ⟨kk, rfl⟩ := open_K (hval 0 34 v0 rfl rfl) h0
  obtain ⟨dd, rfl⟩ := open_D (hval 1 40 v1 rfl rfl) h1
  obtain ⟨oo, rfl⟩ := open_K (hval 2 34 v2 rfl rfl) h2
  clear hA0 hval
  have call := Keeps.calls ht kk dd oo
  refine Calls.mono call fun e W' ⟨he, bel⟩ => ?_
  subst he
  exact ⟨_, rfl, _, _, _, [], _, [], hW', trodAll_mk1 (shut_bool Tryd.underlying4 _), (trodAll_cons_mk (Below.trod laidOut (by kernel_rfl) (of_decide_eq_true (by kernel_rfl)) k0 bel lt0) (trodAll_cons_mk (Below.trod laidOut (by kernel_rfl) (of_decide_eq_true (by kernel_rfl)) k1 bel lt1) (trodAll_cons_mk (Below.trod laidOut (by kernel_rfl) (of_decide_eq_true (by kernel_rfl)) k2 bel lt2) trodAll_mk0))), rfl, bel.frame _, fun h => by cases h⟩
def wit : Array Value := #[.agg #[.string ⟨#[]⟩, .int .i64 0], .agg #[.int .i64 0, .bool false, .float .f64 0, .string ⟨#[]⟩, .int .i64 0, .int .i64 0, .bool false, .float .f64 0, .string ⟨#[]⟩, .int .i64 0, .int .i64 0, .bool false, .float .f64 0, .string ⟨#[]⟩, .int .i64 0, .int .i64 0, .int .i64 0, .int .i64 0], .agg #[.string ⟨#[]⟩, .int .i64 0]]
set_option maxRecDepth 100000 in
theorem reads (os : Os) {H : Type} (enc : TypeId × Value → H) : ∃ places, DataW.whole enc Tryd.prog ((laidWorld os).forCall (fun _ _ => 0) ⟨#[], wit, []⟩).memory Tryd.f7.params.toList Rows.tableKeepsSpec.vars false wit.toList 8 = some ([.agg [.lit (.string []), .lit (.int .i64 0)], .agg [.agg [.lit (.int .i64 0), .lit (.bool false), .lit (.float .f64 0), .lit (.string []), .lit (.int .i64 0)], .agg [.lit (.int .i64 0), .lit (.bool false), .lit (.float .f64 0), .lit (.string []), .lit (.int .i64 0)], .agg [.lit (.int .i64 0), .lit (.bool false), .lit (.float .f64 0), .lit (.string []), .lit (.int .i64 0)], .lit (.int .i64 0), .lit (.int .i64 0), .lit (.int .i64 0)], .agg [.lit (.string []), .lit (.int .i64 0)]], [], places) :=
  ⟨[], by kernel_rfl⟩
set_option maxRecDepth 100000 in
theorem lifted (os : Os) (started : os.Started) (H : Type) (enc : TypeId × Value → H) (F : Stop.Interp) :
    ReturnsInHanded {} Tryd.checked os 7 .any ((OpenSpec.ofChange Rows.tableKeepsSpec).preRow enc Tryd.prog Tryd.f7 Rows.tableKeepsRow.domain false Rows.tableKeepsRow.laid) (((OpenSpec.ofChange Rows.tableKeepsSpec).at F).post enc Tryd.prog Tryd.f7 false true false false) := by
  obtain ⟨places, hx⟩ := reads os enc
  refine returnsInHanded_of_row (C := Tryd.checked) (s := OpenSpec.ofChange Rows.tableKeepsSpec) own started (by kernel_rfl) Tryd.func7
    (witness_row_at (enc := enc) (C := Tryd.checked) false (laidWorld os) wit rfl (by kernel_rfl) (by kernel_rfl) (by kernel_rfl)
      (OpenSpec.preRow_of_cond 8 hx (by kernel_rfl) (fun k hk => by cases hk) (by kernel_rfl) (laid_met os _))) ?_
  intro W base args ds gs before hval hW _ _ _ hL _ _
  exact contract H enc W base args ds gs before hval hW hL
theorem said : Rows.TableKeepsSaid :=
  OpenClaim.holds_of_cond 7 Tryd.f7 rfl rfl rfl rfl rfl rfl rfl ⟨rfl, rfl, rfl, rfl, rfl⟩ rfl rfl rfl rfl rfl (by kernel_rfl) Tryd.func7 (by kernel_rfl)
    (of_decide_eq_true (by kernel_rfl)) (by unfold Func.isWrapper; first | (rw [if_pos (by decide +kernel)]; kernel_rfl) | (rw [if_neg (by decide +kernel)]; exact ⟨rfl, rfl⟩))
    (fun os started H enc _ F => by rw [OpenClaim.pre_eq_preRow]; exact lifted os started H enc F)
theorem plain (f : FuncId) (fn : Func) (hf : Tryd.pinned.checked.prog.funcNamed "cameo/cameolaw06.TableKeeps" = some f) (hfn : Tryd.pinned.checked.prog.funcs[f]? = some fn) :
    false = Tryd.pinned.checked.prog.looks [] ∧ ∀ (j : Nat) t, fn.params[j]? = some t → Tryd.pinned.checked.prog.wantsStandIn t = false := by
  obtain rfl : f = 7 := Option.some.inj ((show Tryd.prog.funcNamed "cameo/cameolaw06.TableKeeps" = some 7 by kernel_rfl).symm.trans hf) |>.symm
  obtain rfl : fn = Tryd.f7 := (Option.some.inj (Tryd.func7.symm.trans hfn)).symm
  refine ⟨by kernel_rfl, fun j t ht => ?_⟩
  rw [Tryd.params7] at ht
  have hm := Array.mem_of_getElem? ht
  simp only [List.mem_toArray, List.mem_cons, List.not_mem_nil, or_false] at hm
  rcases hm with rfl | rfl | rfl
  · exact (show Tryd.prog.wantsStandIn 34 = false by kernel_rfl)
  · exact (show Tryd.prog.wantsStandIn 40 = false by kernel_rfl)
  · exact (show Tryd.prog.wantsStandIn 34 = false by kernel_rfl)
theorem card : Rows.TableKeepsCardSaid :=
  Claim7.holds_tied_plain_at .later [] _ _ _ _ said (fun _ h => by cases h) (by kernel_rfl) (fun _ h => by cases h) tableKeeps_row_tie rfl ⟨rfl, rfl⟩ (by kernel_rfl) rfl plain (by kernel_rfl)
end Go.Proofs.YtbpdpnoekkkapaaDoor.PDescKinds.lawTableKeeps
namespace Go.Proofs.YtbpdpnoekkkapaaDoor
theorem tableKeeps_holds : Rows.TableKeepsCardSaid := PDescKinds.lawTableKeeps.card
end Go.Proofs.YtbpdpnoekkkapaaDoor
