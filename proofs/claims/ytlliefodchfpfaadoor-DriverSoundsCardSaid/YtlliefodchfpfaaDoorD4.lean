/- cameolaw27.DriverSounds: the law's run; steps that come in. -/
import Derived.Test.YtlliefodchfpfaaDoorD3
import Derived.Test.YtlliefodchfpfaaDoorCards
import Derived.Test.YtlliefodchfpfaaDoorTie
import Derived.WalkKit
import Derived.ProofKit
import Derived.OpenShut
import Derived.Deep.DeepHandedRow
import Derived.Lib.LaidTab
import Derived.Lib.LaidIn
import Derived.Lib.LaidU8T
set_option linter.unusedSimpArgs false
set_option linter.unusedVariables false
set_option linter.unusedSectionVars false
namespace Go.Proofs.YtlliefodchfpfaaDoor.PDescKinds
open Go.ChangeShapes Go.WideShapes Go.ChangeAt Go.RowKit Go.Lib Go.Ev
set_option maxRecDepth 100000
theorem law_eq (x : Stp) (A : Option Addr) (n c : Nat) (g : Nat → Int) (b : Int) : letI := rowL A n c g
    evK Tryd.prog ext (tab2 AL [(5, fun args _ => onStp (fun x b => S.sound x n g b) args), (6, fun args _ => onStp (fun x b => R.sound x n g b) args)]) 80 12 (seqL (bodyOf Tryd.f3)) (⟨argS [.arr (x.cells [0]), .val (.int .i64 b)], fun _ => none, 0⟩) (grab Tryd.prog Tryd.f3 [] [] 0) =
    some (.ret (.val (.bool (S.sound x n g b == R.sound x n g b)))) := by kernel_rfl
theorem add_block (a : Addr) (k : Nat) : (a.add k).block = a.block := by unfold Addr.add; split <;> rfl
/-- A step's cells as_ values. -/
def V.list (v : V) : List Value := [.int .i64 v.k, .bool v.b, .float .f64 v.n, .string v.s, .int .i64 v.id]
def D.list (d : D) : List Value := d.v.list ++ (d.g.list ++ (d.t.list ++ [.int .i64 d.w, .int .i64 d.e, .int .i64 d.c]))
def Stp.list (x : Stp) (l : Value) : List Value :=
  [.int .i64 x.code, .int .i64 x.tg, .int .i64 x.a, .int .i64 x.b, .int .i64 x.c, .int .i64 x.n, .int .i64 x.m, .int .i64 x.p, .string x.key.s, .int .i64 x.key.n] ++ (x.val.list ++ (x.desc.list ++ [l, .string x.s, .slice x.nA x.nn x.nc, .bool x.flag]))
theorem list_den (x : Stp) (A : Option Addr) (n c : Nat) (g : Nat → Int) (m : Nat → Nat) : (x.cells [0]).map (@SV.den (rowL A n c g) m) = x.list (.slice A n c) := by
  unfold Stp.cells
  simp only [List.map_cons, List.map_nil, @den_val (rowL A n c g), @den_xs (rowL A n c g)]
  rfl
theorem Sounds.calls {x : Stp} {A : Option Addr} {n c : Nat} {g : Nat → Int} {b : Int} {W : World} (hT : Tabs W) (hX : @XOk (rowL A n c g) W) (hv : x.val.wf) (hd : x.desc.wf) :
    Calls Tryd.prog 3 #[.agg (x.list (.slice A n c)).toArray, .int .i64 b] W (fun e w' => e = .returned (.bool true) ∧ Below W.heap.size W w') := by
  letI := rowL A n c g
  have hs : ∀ p ∈ ([(5, fun args _ => onStp (fun x b => S.sound x n g b) args), (6, fun args _ => onStp (fun x b => R.sound x n g b) args)] : TabS), EntryS Tryd.prog (InvL A n c g) p := fun p hp => by
    simp only [List.mem_cons, List.not_mem_nil, or_false] at hp
    rcases hp with rfl | rfl
    · exact ent5 A n c g
    · exact ent6 A n c g
  have run := Runs.calls (body := Tryd.f3.body.getD .skip) Tryd.func3 (by kernel_rfl) (by kernel_rfl) (args_ok x b _) (Runs.ret (ctxL A n c g entsAL hs) (law_eq x A n c g b)) W ⟨hT, hX⟩ (fun _ => 0)
  rw [List.map_cons, List.map_cons, List.map_nil, den_arr, den_val, list_den] at run
  refine Calls.mono run fun e w' ⟨⟨m, he⟩, hb⟩ => ⟨?_, hb⟩
  rw [he, den_val, sound_eq hv hd, beq_self_eq_true]
section
variable {H : Type} {enc : TypeId × Value → H} {P : Program} {w : World} {base : Nat} {spare : Nat → Bool} {held : Bool} {fuel : Nat} {t : TypeId} {cs : List Value} {x : DataW H × List MemPlace}
theorem read_int {k : IntKind} (ht : P.underlying t = some (.int k)) (h : DataW.trod enc P w base spare held fuel t cs = some x) : ∃ n, cs = [.int k n] := by
  obtain ⟨n, h, _⟩ := DataW.trod_int ht h
  exact ⟨n, h⟩
theorem read_bool (ht : P.underlying t = some .bool) (h : DataW.trod enc P w base spare held fuel t cs = some x) : ∃ b, cs = [.bool b] := by
  cases fuel with
  | zero => simp [DataW.trod] at h
  | succ n =>
    rw [DataW.trod.eq_def] at h
    simp only [ht] at h
    split at h <;> first | (simp_all; done) | exact ⟨_, rfl⟩
theorem read_f64 (ht : P.underlying t = some (.float .f64)) (h : DataW.trod enc P w base spare held fuel t cs = some x) : ∃ b, cs = [.float .f64 b] ∧ b < 18446744073709551616 := by
  cases fuel with
  | zero => simp [DataW.trod] at h
  | succ n =>
    rw [DataW.trod.eq_def] at h
    simp only [ht] at h
    split at h <;> first | (simp at *; done) | skip
    rename_i k1 k2 b' e1
    simp only [Option.some.injEq, TypeDesc.float.injEq] at e1
    subst e1
    split at h
    · rename_i hc
      obtain ⟨rfl, hw⟩ := hc
      exact ⟨b', rfl, of_decide_eq_true hw⟩
    · cases h
theorem read_string (ht : P.underlying t = some .string) (h : DataW.trod enc P w base spare held fuel t cs = some x) : ∃ s, cs = [.string s] ∧ s.size ≤ maxLen := by
  cases fuel with
  | zero => simp [DataW.trod] at h
  | succ n =>
    rw [DataW.trod.eq_def] at h
    simp only [ht] at h
    split at h <;> first | (simp_all; done) | skip
theorem read_row {e : TypeId} (ht : P.underlying t = some (.slice e)) (h : DataW.trod enc P w base spare held fuel t cs = some x) : ∃ A n c, cs = [.slice A n c] := by
  rcases DataW.trod_slice ht h with ⟨rfl, _⟩ | ⟨a', len, cap, elems, rest, n, rfl, rfl, _⟩
  · exact ⟨_, _, _, rfl⟩
  · exact ⟨_, _, _, rfl⟩
end
section
variable {H : Type} {enc : TypeId × Value → H} {w : World} {base : Nat} {spare : Nat → Bool} {held : Bool} {fuel : Nat} {cs : List Value} {x : DataW H × List MemPlace}
theorem cells3 : Tryd.prog.cellsOf 3 = 1 := by kernel_rfl
theorem cells4 : Tryd.prog.cellsOf 4 = 1 := by kernel_rfl
theorem cells9 : Tryd.prog.cellsOf 9 = 1 := by kernel_rfl
theorem cells24 : Tryd.prog.cellsOf 24 = 1 := by kernel_rfl
theorem cells23 : Tryd.prog.cellsOf 23 = 2 := by kernel_rfl
theorem cells26 : Tryd.prog.cellsOf 26 = 5 := by kernel_rfl
theorem cells27 : Tryd.prog.cellsOf 27 = 1 := by kernel_rfl
theorem cells29 : Tryd.prog.cellsOf 29 = 18 := by kernel_rfl
theorem cells30 : Tryd.prog.cellsOf 30 = 1 := by kernel_rfl
theorem cells31 : Tryd.prog.cellsOf 31 = 1 := by kernel_rfl
theorem cells33 : Tryd.prog.cellsOf 33 = 37 := by kernel_rfl
theorem read_V (h : DataW.trod enc Tryd.prog w base spare held fuel 26 cs = some x) : ∃ v : V, cs = v.list ∧ v.wf := by
  obtain ⟨xs, n, _, _, hl, hn, hf⟩ := DataW.trod_struct Tryd.underlying26 h
  rw [cells26] at hl
  match cs, hl, xs, hn with
  | [c0, c1, c2, c3, c4], _, [y0, y1, y2, y3, y4], _ =>
    have h0 := hf 0 ⟨"Kind", 3, 0, false, "", "", 0⟩ rfl
    have h1 := hf 1 ⟨"Bool", 4, 1, false, "", "", 8⟩ rfl
    have h2 := hf 2 ⟨"Num", 24, 2, false, "", "", 16⟩ rfl
    have h3 := hf 3 ⟨"Str", 9, 3, false, "", "", 24⟩ rfl
    have h4 := hf 4 ⟨"Id", 3, 4, false, "", "", 40⟩ rfl
    simp only [cells3, cells4, cells9, cells24, List.drop_succ_cons, List.drop_zero, List.take_succ_cons, List.take_zero] at h0 h1 h2 h3 h4
    obtain ⟨v0, e0⟩ := read_int Tryd.underlying3 h0
    obtain ⟨v1, e1⟩ := read_bool Tryd.underlying4 h1
    obtain ⟨v2, e2, w2⟩ := read_f64 Tryd.underlying24 h2
    obtain ⟨v3, e3, _⟩ := read_string Tryd.underlying9 h3
    obtain ⟨v4, e4⟩ := read_int Tryd.underlying3 h4
    cases e0; cases e1; cases e2; cases e3; cases e4
    exact ⟨⟨v0, v1, v2, v3, v4⟩, rfl, w2⟩
theorem read_D (h : DataW.trod enc Tryd.prog w base spare held fuel 29 cs = some x) : ∃ d : D, cs = d.list ∧ d.wf := by
  obtain ⟨xs, n, _, _, hl, hn, hf⟩ := DataW.trod_struct Tryd.underlying29 h
  rw [cells29] at hl
  match cs, hl, xs, hn with
  | [c0, c1, c2, c3, c4, c5, c6, c7, c8, c9, c10, c11, c12, c13, c14, c15, c16, c17], _, [y0, y1, y2, y3, y4, y5], _ =>
    have h0 := hf 0 ⟨"Value", 26, 0, false, "", "", 0⟩ rfl
    have h1 := hf 1 ⟨"Get", 26, 5, false, "", "", 48⟩ rfl
    have h2 := hf 2 ⟨"Set", 26, 10, false, "", "", 96⟩ rfl
    have h3 := hf 3 ⟨"Writable", 27, 15, false, "", "", 144⟩ rfl
    have h4 := hf 4 ⟨"Enumerable", 27, 16, false, "", "", 152⟩ rfl
    have h5 := hf 5 ⟨"Configurable", 27, 17, false, "", "", 160⟩ rfl
    simp only [cells26, cells27, List.drop_succ_cons, List.drop_zero, List.take_succ_cons, List.take_zero] at h0 h1 h2 h3 h4 h5
    obtain ⟨v0, e0, w0⟩ := read_V h0
    obtain ⟨v1, e1, w1⟩ := read_V h1
    obtain ⟨v2, e2, w2⟩ := read_V h2
    obtain ⟨v3, e3⟩ := read_int Tryd.underlying27 h3
    obtain ⟨v4, e4⟩ := read_int Tryd.underlying27 h4
    obtain ⟨v5, e5⟩ := read_int Tryd.underlying27 h5
    unfold V.list at e0 e1 e2
    cases e0; cases e1; cases e2; cases e3; cases e4; cases e5
    exact ⟨⟨v0, v1, v2, v3, v4, v5⟩, rfl, w0, w1, w2⟩
theorem read_K (h : DataW.trod enc Tryd.prog w base spare held fuel 23 cs = some x) : ∃ k : K, cs = [.string k.s, .int .i64 k.n] := by
  obtain ⟨xs, n, _, _, hl, hn, hf⟩ := DataW.trod_struct Tryd.underlying23 h
  rw [cells23] at hl
  match cs, hl, xs, hn with
  | [c0, c1], _, [y0, y1], _ =>
    have h0 := hf 0 ⟨"Str", 9, 0, false, "", "", 0⟩ rfl
    have h1 := hf 1 ⟨"Sym", 3, 1, false, "", "", 16⟩ rfl
    simp only [cells3, cells9, List.drop_succ_cons, List.drop_zero, List.take_succ_cons, List.take_zero] at h0 h1
    obtain ⟨v0, e0, _⟩ := read_string Tryd.underlying9 h0
    obtain ⟨v1, e1⟩ := read_int Tryd.underlying3 h1
    cases e0; cases e1
    exact ⟨⟨v0, v1⟩, rfl⟩
/-- Whole numbers that came in. -/
theorem read_L (h : DataW.trod enc Tryd.prog w base spare held fuel 30 cs = some x) : ∃ (A : Option Addr) (n c : Nat) (g : Nat → Int), cs = [.slice A n c] ∧ @XOk (rowL A n c g) w := by
  rcases DataW.trod_slice Tryd.underlying30 h with ⟨rfl, _⟩ | ⟨a', len, cap, elems, rest, n, rfl, rfl, rfl, hb, hlc, hcm, hel, hall, _, _⟩
  · exact ⟨none, 0, 0, fun _ => 0, rfl, fun r j hj => absurd hj (Nat.not_lt_zero _)⟩
  · have key : ∀ j, ∃ z : Int, j < len → a'.block < w.heap.size ∧ w.cell? (a'.add j) = some (.int .i64 z) := by
      intro j
      by_cases hj : j < len
      · have h1 := hall j hj
        have hj' : j < elems.length := by rw [hel]; exact hj
        obtain ⟨e, he⟩ : ∃ e, elems[j]? = some e := ⟨elems[j]'hj', List.getElem?_eq_getElem hj'⟩
        rw [he, cells3, Nat.mul_one] at h1
        obtain ⟨cs, hcs, htr⟩ := Option.bind_eq_some_iff.1 h1
        obtain ⟨z, rfl⟩ := read_int Tryd.underlying3 htr
        refine ⟨z, fun _ => ⟨add_block a' j ▸ World.cells?_block hcs Nat.zero_lt_one, ?_⟩⟩
        obtain ⟨_, hl, hce⟩ := World.cells?_some hcs
        have := hce 0 Nat.zero_lt_one
        rw [Go.Ev.add_add, Nat.add_zero] at this
        exact this
      · exact ⟨0, fun h => absurd h hj⟩
    obtain ⟨g, hg⟩ := Classical.axiomOfChoice key
    refine ⟨some a', len, cap, g, rfl, ?_⟩
    letI := rowL (some a') len cap g
    intro r j hj
    obtain ⟨hbl, hc⟩ := hg j hj
    refine ⟨rfl, fun s hs mem => ?_, a', rfl, hbl, fun k s hk m => ?_⟩
    · obtain rfl := List.mem_singleton.1 hs
      exact ok_val _ _
    · match k, hk with
      | 0, hk =>
        cases hk
        rw [den_val]
        show w.cell? (a'.add (j * 1 + 0)) = _
        rw [Nat.mul_one, Nat.add_zero]
        exact hc
      | k + 1, hk => cases hk
theorem read_S (h : DataW.trod enc Tryd.prog w base spare held fuel 33 cs = some x) : ∃ (s : Stp) (A : Option Addr) (n c : Nat) (g : Nat → Int), cs = s.list (.slice A n c) ∧ s.val.wf ∧ s.desc.wf ∧ @XOk (rowL A n c g) w := by
  obtain ⟨xs, n, _, _, hl, hn, hf⟩ := DataW.trod_struct Tryd.underlying33 h
  rw [cells33] at hl
  match cs, hl, xs, hn with
  | c0 :: c1 :: c2 :: c3 :: c4 :: c5 :: c6 :: c7 :: c8 :: c9 :: c10 :: c11 :: c12 :: c13 :: c14 :: c15 :: c16 :: c17 :: c18 :: c19 :: c20 :: c21 :: c22 :: c23 :: c24 :: c25 :: c26 :: c27 :: c28 :: c29 :: c30 :: c31 :: c32 :: c33 :: c34 :: c35 :: [c36], _, [y0, y1, y2, y3, y4, y5, y6, y7, y8, y9, y10, y11, y12, y13, y14], _ =>
    have h0 := hf 0 ⟨"Code", 3, 0, false, "", "", 0⟩ rfl
    have h1 := hf 1 ⟨"To", 3, 1, false, "", "", 8⟩ rfl
    have h2 := hf 2 ⟨"A", 3, 2, false, "", "", 16⟩ rfl
    have h3 := hf 3 ⟨"B", 3, 3, false, "", "", 24⟩ rfl
    have h4 := hf 4 ⟨"C", 3, 4, false, "", "", 32⟩ rfl
    have h5 := hf 5 ⟨"N", 3, 5, false, "", "", 40⟩ rfl
    have h6 := hf 6 ⟨"M", 3, 6, false, "", "", 48⟩ rfl
    have h7 := hf 7 ⟨"P", 3, 7, false, "", "", 56⟩ rfl
    have h8 := hf 8 ⟨"Key", 23, 8, false, "", "", 64⟩ rfl
    have h9 := hf 9 ⟨"Val", 26, 10, false, "", "", 88⟩ rfl
    have h10 := hf 10 ⟨"Desc", 29, 15, false, "", "", 136⟩ rfl
    have h11 := hf 11 ⟨"L", 30, 33, false, "", "", 304⟩ rfl
    have h12 := hf 12 ⟨"S", 9, 34, false, "", "", 328⟩ rfl
    have h13 := hf 13 ⟨"Names", 31, 35, false, "", "", 344⟩ rfl
    have h14 := hf 14 ⟨"Flag", 4, 36, false, "", "", 368⟩ rfl
    simp only [cells3, cells4, cells9, cells23, cells26, cells29, cells30, cells31, List.drop_succ_cons, List.drop_zero, List.take_succ_cons, List.take_zero] at h0 h1 h2 h3 h4 h5 h6 h7 h8 h9 h10 h11 h12 h13 h14
    obtain ⟨v0, e0⟩ := read_int Tryd.underlying3 h0
    obtain ⟨v1, e1⟩ := read_int Tryd.underlying3 h1
    obtain ⟨v2, e2⟩ := read_int Tryd.underlying3 h2
    obtain ⟨v3, e3⟩ := read_int Tryd.underlying3 h3
    obtain ⟨v4, e4⟩ := read_int Tryd.underlying3 h4
    obtain ⟨v5, e5⟩ := read_int Tryd.underlying3 h5
    obtain ⟨v6, e6⟩ := read_int Tryd.underlying3 h6
    obtain ⟨v7, e7⟩ := read_int Tryd.underlying3 h7
    obtain ⟨v8, e8⟩ := read_K h8
    obtain ⟨v9, e9, w9⟩ := read_V h9
    obtain ⟨v10, e10, w10⟩ := read_D h10
    obtain ⟨A, m, c, g, e11, w11⟩ := read_L h11
    obtain ⟨v12, e12, _⟩ := read_string Tryd.underlying9 h12
    obtain ⟨A', m', c', e13⟩ := read_row Tryd.underlying31 h13
    obtain ⟨v14, e14⟩ := read_bool Tryd.underlying4 h14
    refine ⟨⟨v0, v1, v2, v3, v4, v5, v6, v7, v8, v9, v10, v12, A', m', c', v14⟩, A, m, c, g, ?_, w9, w10, w11⟩
    unfold V.list at e9
    unfold D.list V.list at e10
    simp only [List.cons_append, List.nil_append, List.cons.injEq, and_true] at e0 e1 e2 e3 e4 e5 e6 e7 e8 e9 e10 e11 e12 e13 e14
    obtain ⟨f0, f1⟩ := e8
    obtain ⟨g0, g1, g2, g3, g4⟩ := e9
    obtain ⟨d0, d1, d2, d3, d4, d5, d6, d7, d8, d9, d10, d11, d12, d13, d14, d15, d16, d17⟩ := e10
    subst e0 e1 e2 e3 e4 e5 e6 e7 f0 f1 g0 g1 g2 g3 g4 d0 d1 d2 d3 d4 d5 d6 d7 d8 d9 d10 d11 d12 d13 d14 d15 d16 d17 e11 e12 e13 e14
    rfl
/-- A step that came in. -/
theorem open_S {v : Value} {base' : Nat} {d : DataW H} {p : List MemPlace} (hv : Value.okWide Tryd.prog w .any base' 33 v) (h : DataW.Trod enc Tryd.prog w base spare held 33 v d p) :
    ∃ (s : Stp) (A : Option Addr) (n c : Nat) (g : Nat → Int), v = .agg (s.list (.slice A n c)).toArray ∧ s.val.wf ∧ s.desc.wf ∧ @XOk (rowL A n c g) w := by
  obtain ⟨arr, rfl, _⟩ := okWide_struct Tryd.underlying33 hv
  obtain ⟨f, hf⟩ := h
  obtain ⟨s, A, n, c, g, hz, h1, h2, h3⟩ := read_S hf
  refine ⟨s, A, n, c, g, ?_, h1, h2, h3⟩
  rw [← hz]
  rfl
end
theorem own : ownKnob Tryd.prog.godebug = none := by kernel_rfl
theorem laidOut : laidOutB Tryd.prog = true := by kernel_rfl
theorem accept_eq : Rows.laid_unicode_utf8_acceptRanges = Lib.acceptData := by kernel_rfl
theorem first_eq : Rows.laid_unicode_utf8_first = Lib.firstData := by kernel_rfl
theorem u8extra : U8Extra Tryd.prog Tryd.lays260_ren := ⟨by kernel_rfl, by kernel_rfl, by kernel_rfl, by kernel_rfl, by kernel_rfl, by kernel_rfl, by kernel_rfl⟩
/-- What the rows' list gives. -/
theorem tabs_of {W : World} (h : laidMetH Tryd.prog [("unicode/utf8.acceptRanges", Rows.laid_unicode_utf8_acceptRanges), ("unicode/utf8.first", Rows.laid_unicode_utf8_first)] W) : Tabs W := by
  rw [accept_eq, first_eq] at h
  exact utf8Tabs_of_readsT (U8Types.of260 Tryd.lays260) u8extra (Lib.laidMet.reads h (.tail _ (.head _))) (Lib.laidMet.reads h (.head _))
/-- A world in which both tables hold what their initialisers lay. -/
noncomputable def laidWorld (os : Os) : World :=
  let w0 := World.holding Tryd.prog os ⟨#[], #[], []⟩
  let put (h : Array Obj) (g : Nat) (cs : Array Value) : Array Obj := h.modify g fun
    | .cells _ t frozen => .cells cs t frozen
    | o => o
  let h1 := put w0.heap 1 (Lib.firstTab.map fun z => Value.int .u8 z).toArray
  let h2 := put h1 2 ((List.range 16).flatMap fun i => [Value.int .u8 (Lib.accLo i), Value.int .u8 (Lib.accHi i)]).toArray
  { w0 with heap := h2 }
theorem laid_met (os : Os) (args : Array Value) : laidMet Tryd.prog [("unicode/utf8.acceptRanges", Rows.laid_unicode_utf8_acceptRanges), ("unicode/utf8.first", Rows.laid_unicode_utf8_first)] ((laidWorld os).forCall (fun _ _ => 0) ⟨#[], args, []⟩).memory := by
  rw [accept_eq, first_eq]
  exact (LaidIn.of_run (l := [("unicode/utf8.acceptRanges", Lib.acceptData), ("unicode/utf8.first", Lib.firstData)]) [2, 1] 8 (by kernel_rfl) (by kernel_rfl) (by kernel_rfl) (by kernel_rfl)).met
end Go.Proofs.YtlliefodchfpfaaDoor.PDescKinds
