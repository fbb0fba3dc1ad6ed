/- What the rows' arguments read as: descriptors as plain data; what the rows' tables give. -/
import Derived.Test.YtaojjpdlfnphiaaDoorP3
import Derived.Test.YtaojjpdlfnphiaaDoorCards
import Derived.Test.YtaojjpdlfnphiaaDoorTie
import Derived.WalkKit
import Derived.ProofKit
import Derived.OpenShut
import Derived.Deep.DeepHandedRow
import Derived.Lib.LaidTab
import Derived.Lib.LaidIn
import Derived.Lib.LaidU8T
set_option linter.unusedSimpArgs false
set_option linter.unusedVariables false
set_option linter.unusedSectionVars false
namespace Go.Proofs.YtaojjpdlfnphiaaDoor.PDescKinds
open Go.ChangeShapes Go.WideShapes Go.ChangeAt Go.RowKit Go.Lib
section
variable {H : Type} {enc : TypeId × Value → H} {P : Program} {w : World} {base : Nat} {spare : Nat → Bool} {held : Bool} {fuel : Nat} {t : TypeId} {cs : List Value} {x : DataW H × List MemPlace}
theorem read_int {k : IntKind} (ht : P.underlying t = some (.int k)) (h : DataW.trod enc P w base spare held fuel t cs = some x) : ∃ n, cs = [.int k n] := by
  obtain ⟨n, h, _⟩ := DataW.trod_int ht h
  exact ⟨n, h⟩
theorem read_bool (ht : P.underlying t = some .bool) (h : DataW.trod enc P w base spare held fuel t cs = some x) : ∃ b, cs = [.bool b] := by
  cases fuel with
  | zero => simp [DataW.trod] at h
  | succ n =>
    rw [DataW.trod.eq_def] at h
    simp only [ht] at h
    split at h <;> first | (simp_all; done) | exact ⟨_, rfl⟩
theorem read_f64 (ht : P.underlying t = some (.float .f64)) (h : DataW.trod enc P w base spare held fuel t cs = some x) : ∃ b, cs = [.float .f64 b] ∧ b < 18446744073709551616 := by
  cases fuel with
  | zero => simp [DataW.trod] at h
  | succ n =>
    rw [DataW.trod.eq_def] at h
    simp only [ht] at h
    split at h <;> first | (simp at *; done) | skip
    rename_i k1 k2 b' e1
    simp only [Option.some.injEq, TypeDesc.float.injEq] at e1
    subst e1
    split at h
    · rename_i hc
      obtain ⟨rfl, hw⟩ := hc
      exact ⟨b', rfl, of_decide_eq_true hw⟩
    · cases h
theorem read_string (ht : P.underlying t = some .string) (h : DataW.trod enc P w base spare held fuel t cs = some x) : ∃ s, cs = [.string s] ∧ s.size ≤ maxLen := by
  cases fuel with
  | zero => simp [DataW.trod] at h
  | succ n =>
    rw [DataW.trod.eq_def] at h
    simp only [ht] at h
    split at h <;> first | (simp_all; done) | skip
end
def V.list (v : V) : List Value := [.int .i64 v.k, .bool v.b, .float .f64 v.n, .string v.s, .int .i64 v.id]
def D.list (d : D) : List Value := d.v.list ++ (d.g.list ++ (d.t.list ++ [.int .i64 d.w, .int .i64 d.e, .int .i64 d.c]))
theorem V.agg_list (v : V) : v.agg = .agg v.list.toArray := rfl
theorem D.agg_list (d : D) : d.agg = .agg d.list.toArray := rfl
section
variable {H : Type} {enc : TypeId × Value → H} {w : World} {base : Nat} {spare : Nat → Bool} {held : Bool} {fuel : Nat} {cs : List Value} {x : DataW H × List MemPlace}
theorem cells3 : Tryd.prog.cellsOf 3 = 1 := by kernel_rfl
theorem cells4 : Tryd.prog.cellsOf 4 = 1 := by kernel_rfl
theorem cells9 : Tryd.prog.cellsOf 9 = 1 := by kernel_rfl
theorem cells22 : Tryd.prog.cellsOf 22 = 1 := by kernel_rfl
theorem cells24 : Tryd.prog.cellsOf 24 = 5 := by kernel_rfl
theorem cells25 : Tryd.prog.cellsOf 25 = 1 := by kernel_rfl
theorem cells27 : Tryd.prog.cellsOf 27 = 18 := by kernel_rfl
set_option maxRecDepth 100000 in
theorem read_V (h : DataW.trod enc Tryd.prog w base spare held fuel 24 cs = some x) : ∃ v : V, cs = v.list ∧ v.wf := by
  obtain ⟨xs, n, _, _, hl, hn, hf⟩ := DataW.trod_struct Tryd.underlying24 h
  rw [cells24] at hl
  match cs, hl, xs, hn with
  | [c0, c1, c2, c3, c4], _, [y0, y1, y2, y3, y4], _ =>
    have h0 := hf 0 ⟨"Kind", 3, 0, false, "", "", 0⟩ rfl
    have h1 := hf 1 ⟨"Bool", 4, 1, false, "", "", 8⟩ rfl
    have h2 := hf 2 ⟨"Num", 22, 2, false, "", "", 16⟩ rfl
    have h3 := hf 3 ⟨"Str", 9, 3, false, "", "", 24⟩ rfl
    have h4 := hf 4 ⟨"Id", 3, 4, false, "", "", 40⟩ rfl
    simp only [cells3, cells4, cells9, cells22, List.drop_succ_cons, List.drop_zero, List.take_succ_cons, List.take_zero] at h0 h1 h2 h3 h4
    obtain ⟨v0, e0⟩ := read_int Tryd.underlying3 h0
    obtain ⟨v1, e1⟩ := read_bool Tryd.underlying4 h1
    obtain ⟨v2, e2, w2⟩ := read_f64 Tryd.underlying22 h2
    obtain ⟨v3, e3, _⟩ := read_string Tryd.underlying9 h3
    obtain ⟨v4, e4⟩ := read_int Tryd.underlying3 h4
    cases e0; cases e1; cases e2; cases e3; cases e4
    exact ⟨⟨v0, v1, v2, v3, v4⟩, rfl, w2⟩
set_option maxRecDepth 100000 in
theorem read_D (h : DataW.trod enc Tryd.prog w base spare held fuel 27 cs = some x) : ∃ d : D, cs = d.list ∧ d.wf := by
  obtain ⟨xs, n, _, _, hl, hn, hf⟩ := DataW.trod_struct Tryd.underlying27 h
  rw [cells27] at hl
  match cs, hl, xs, hn with
  | [c0, c1, c2, c3, c4, c5, c6, c7, c8, c9, c10, c11, c12, c13, c14, c15, c16, c17], _, [y0, y1, y2, y3, y4, y5], _ =>
    have h0 := hf 0 ⟨"Value", 24, 0, false, "", "", 0⟩ rfl
    have h1 := hf 1 ⟨"Get", 24, 5, false, "", "", 48⟩ rfl
    have h2 := hf 2 ⟨"Set", 24, 10, false, "", "", 96⟩ rfl
    have h3 := hf 3 ⟨"Writable", 25, 15, false, "", "", 144⟩ rfl
    have h4 := hf 4 ⟨"Enumerable", 25, 16, false, "", "", 152⟩ rfl
    have h5 := hf 5 ⟨"Configurable", 25, 17, false, "", "", 160⟩ rfl
    simp only [cells24, cells25, List.drop_succ_cons, List.drop_zero, List.take_succ_cons, List.take_zero] at h0 h1 h2 h3 h4 h5
    obtain ⟨v0, e0, w0⟩ := read_V h0
    obtain ⟨v1, e1, w1⟩ := read_V h1
    obtain ⟨v2, e2, w2⟩ := read_V h2
    obtain ⟨v3, e3⟩ := read_int Tryd.underlying25 h3
    obtain ⟨v4, e4⟩ := read_int Tryd.underlying25 h4
    obtain ⟨v5, e5⟩ := read_int Tryd.underlying25 h5
    unfold V.list at e0 e1 e2
    cases e0; cases e1; cases e2; cases e3; cases e4; cases e5
    exact ⟨⟨v0, v1, v2, v3, v4, v5⟩, rfl, w0, w1, w2⟩
set_option maxRecDepth 100000 in
/-- A descriptor that came in. -/
theorem open_D {v : Value} {base' : Nat} {d : DataW H} {p : List MemPlace} (hv : Value.okWide Tryd.prog w .any base' 27 v) (h : DataW.Trod enc Tryd.prog w base spare held 27 v d p) : ∃ z : D, v = z.agg ∧ z.wf := by
  obtain ⟨arr, rfl, _⟩ := okWide_struct Tryd.underlying27 hv
  obtain ⟨f, hf⟩ := h
  obtain ⟨z, hz, hw⟩ := read_D hf
  refine ⟨z, ?_, hw⟩
  rw [D.agg_list, ← hz]
  rfl
end
theorem own : ownKnob Tryd.prog.godebug = none := by kernel_rfl
theorem laidOut : laidOutB Tryd.prog = true := by kernel_rfl
theorem accept_eq : Rows.laid_unicode_utf8_acceptRanges = Lib.acceptData := by kernel_rfl
theorem first_eq : Rows.laid_unicode_utf8_first = Lib.firstData := by kernel_rfl
theorem u8extra : U8Extra Tryd.prog Tryd.lays260_ren := ⟨by kernel_rfl, by kernel_rfl, by kernel_rfl, by kernel_rfl, by kernel_rfl, by kernel_rfl, by kernel_rfl⟩
/-- What the rows' list gives. -/
theorem tabs_of {W : World} (h : laidMetH Tryd.prog [("unicode/utf8.acceptRanges", Rows.laid_unicode_utf8_acceptRanges), ("unicode/utf8.first", Rows.laid_unicode_utf8_first)] W) : Tabs W := by
  rw [accept_eq, first_eq] at h
  exact utf8Tabs_of_readsT (U8Types.of260 Tryd.lays260) u8extra (Lib.laidMet.reads h (.tail _ (.head _))) (Lib.laidMet.reads h (.head _))
/-- A world in which both tables hold what their initialisers lay. -/
noncomputable def laidWorld (os : Os) : World :=
  let w0 := World.holding Tryd.prog os ⟨#[], #[], []⟩
  let put (h : Array Obj) (g : Nat) (cs : Array Value) : Array Obj := h.modify g fun
    | .cells _ t frozen => .cells cs t frozen
    | o => o
  let h1 := put w0.heap 1 (Lib.firstTab.map fun z => Value.int .u8 z).toArray
  let h2 := put h1 2 ((List.range 16).flatMap fun i => [Value.int .u8 (Lib.accLo i), Value.int .u8 (Lib.accHi i)]).toArray
  { w0 with heap := h2 }
theorem laid_met (os : Os) (args : Array Value) : laidMet Tryd.prog [("unicode/utf8.acceptRanges", Rows.laid_unicode_utf8_acceptRanges), ("unicode/utf8.first", Rows.laid_unicode_utf8_first)] ((laidWorld os).forCall (fun _ _ => 0) ⟨#[], args, []⟩).memory := by
  rw [accept_eq, first_eq]
  exact (LaidIn.of_run (l := [("unicode/utf8.acceptRanges", Lib.acceptData), ("unicode/utf8.first", Lib.firstData)]) [2, 1] 8 (by kernel_rfl) (by kernel_rfl) (by kernel_rfl) (by kernel_rfl)).met
end Go.Proofs.YtaojjpdlfnphiaaDoor.PDescKinds
