/- What the law's arguments read as: moments and deltas as plain data. -/
import Derived.Test.YtaojjpdlfnphiaaM4
import Derived.Test.YtaojjpdlfnphiaaRows
import Derived.WalkKit
import Derived.ProofKit
import Derived.OpenShut
import Derived.ShutString
import Derived.Below
import Derived.Carry
import Derived.JoinedCond
import Derived.Deep.Slices
set_option linter.unusedSimpArgs false
set_option linter.unusedVariables false
set_option linter.unusedSectionVars false
namespace Go.Proofs.Ytaojjpdlfnphiaa.PDescKinds
open Go.ChangeShapes Go.WideShapes Go.ChangeAt Go.RowKit
namespace Op
section
variable {H : Type}
theorem bulk_pos (d : DataW H) : 1 ≤ Rows.uptoBulk d := by
  cases d with
  | lit l => cases l <;> simp [Rows.uptoBulk]
  | _ => simp [Rows.uptoBulk]
theorem bulk_mem {d : DataW H} : ∀ {l : List (DataW H)}, d ∈ l → Rows.uptoBulk d ≤ Rows.uptoBulkAll l
  | x :: r, h => by
    simp only [Rows.uptoBulkAll]
    rcases List.mem_cons.1 h with rfl | h
    · omega
    · have := bulk_mem h
      omega
theorem bulk_len : ∀ (l : List (DataW H)), l.length ≤ Rows.uptoBulkAll l
  | [] => Nat.zero_le _
  | x :: r => by
    simp only [Rows.uptoBulkAll, List.length_cons]
    have := bulk_len r
    have := bulk_pos x
    omega
end
section
variable {H : Type} {enc : TypeId × Value → H} {P : Program} {w : World} {base : Nat} {spare : Nat → Bool} {held : Bool} {fuel : Nat} {t : TypeId} {cs : List Value} {x : DataW H × List MemPlace}
theorem read_int {k : IntKind} (ht : P.underlying t = some (.int k)) (h : DataW.trod enc P w base spare held fuel t cs = some x) : ∃ n, cs = [.int k n] := by
  obtain ⟨n, h, _⟩ := DataW.trod_int ht h
  exact ⟨n, h⟩
theorem read_bool (ht : P.underlying t = some .bool) (h : DataW.trod enc P w base spare held fuel t cs = some x) : ∃ b, cs = [.bool b] := by
  cases fuel with
  | zero => simp [DataW.trod] at h
  | succ n =>
    rw [DataW.trod.eq_def] at h
    simp only [ht] at h
    split at h <;> first | (simp_all; done) | exact ⟨_, rfl⟩
theorem read_f64 (ht : P.underlying t = some (.float .f64)) (h : DataW.trod enc P w base spare held fuel t cs = some x) : ∃ b, cs = [.float .f64 b] := by
  cases fuel with
  | zero => simp [DataW.trod] at h
  | succ n =>
    rw [DataW.trod.eq_def] at h
    simp only [ht] at h
    split at h <;> first | (simp at *; done) | skip
    rename_i k1 k2 b' e1
    simp only [Option.some.injEq, TypeDesc.float.injEq] at e1
    subst e1
    split at h
    · rename_i hc
      obtain ⟨rfl, hw⟩ := hc
      exact ⟨b', rfl⟩
    · cases h
theorem read_string (ht : P.underlying t = some .string) (h : DataW.trod enc P w base spare held fuel t cs = some x) : ∃ s, cs = [.string s] := by
  cases fuel with
  | zero => simp [DataW.trod] at h
  | succ n =>
    rw [DataW.trod.eq_def] at h
    simp only [ht] at h
    split at h <;> first | (simp at *; done) | exact ⟨_, rfl⟩
/-- A row of things of z cells. -/
def Row (w : World) (z : Nat) {α : Type} (f : α → List Value) (A : Option Addr) (n : Nat) (g : Nat → α) : Prop := ∀ i, i < n → ∃ a, A = some a ∧ a.block < w.heap.size ∧ ∀ k v, (f (g i))[k]? = some v → w.cell? (a.add (i * z + k)) = some v
theorem read_row {e : TypeId} {z : Nat} {α : Type} (ht : P.underlying t = some (.slice e)) (hz : P.cellsOf e = z) (hz0 : 0 < z) (a0 : α) (f : α → List Value) (W : α → Nat → Prop) (h0 : ∀ n, W a0 n) (hm : ∀ a m n, m ≤ n → W a m → W a n)
    (hread : ∀ fuel cs x, DataW.trod enc P w base spare held fuel e cs = some x → ∃ q, cs = f q ∧ W q (Rows.uptoBulk x.1)) (h : DataW.trod enc P w base spare held fuel t cs = some x) :
    ∃ (A : Option Addr) (n c : Nat) (g : Nat → α), cs = [.slice A n c] ∧ n ≤ Rows.uptoBulk x.1 ∧ (A = none → n = 0 ∧ c = 0) ∧ Row w z f A n g ∧ ∀ i, W (g i) (Rows.uptoBulk x.1) := by
  rcases DataW.trod_slice ht h with ⟨rfl, _⟩ | ⟨a', len, cap, elems, rest, n, rfl, rfl, rfl, hb, hlc, hcm, hel, hall, _, _⟩
  · exact ⟨none, 0, 0, fun _ => a0, rfl, Nat.zero_le _, fun _ => ⟨rfl, rfl⟩, fun i hi => absurd hi (Nat.not_lt_zero _), fun _ => h0 _⟩
  · have hB : Rows.uptoBulkAll (elems.map (·.1)) ≤ Rows.uptoBulk (DataW.slice (elems.map (·.1)) (rest.map (·.1))) := by
      simp only [Rows.uptoBulk]
      omega
    have key : ∀ j, ∃ q : α, W q (Rows.uptoBulk (DataW.slice (elems.map (·.1)) (rest.map (·.1)))) ∧ (j < len → a'.block < w.heap.size ∧ ∀ k v, (f q)[k]? = some v → w.cell? (a'.add (j * z + k)) = some v) := by
      intro j
      by_cases hj : j < len
      · have h1 := hall j hj
        have hj' : j < elems.length := by rw [hel]; exact hj
        obtain ⟨e', he⟩ : ∃ e', elems[j]? = some e' := ⟨elems[j]'hj', List.getElem?_eq_getElem hj'⟩
        rw [he, hz] at h1
        obtain ⟨cs, hcs, htr⟩ := Option.bind_eq_some_iff.1 h1
        obtain ⟨q, rfl, hq⟩ := hread _ _ _ htr
        have hmb : Rows.uptoBulk e'.1 ≤ Rows.uptoBulkAll (elems.map (·.1)) := bulk_mem (List.mem_map.2 ⟨e', List.mem_of_getElem? he, rfl⟩)
        refine ⟨q, hm _ _ _ (Nat.le_trans hmb hB) hq, fun _ => ⟨PDescKinds.add_block a' (j * z) ▸ World.cells?_block hcs hz0, fun k v hk => ?_⟩⟩
        obtain ⟨_, hl, hce⟩ := World.cells?_some hcs
        have hkz : k < z := by
          rw [← hl]
          exact (List.getElem?_eq_some_iff.1 hk).1
        have := hce k hkz
        rw [hk, Go.Addr.add_add] at this
        exact this
      · exact ⟨a0, h0 _, fun h => absurd h hj⟩
    obtain ⟨g, hg⟩ := Classical.axiomOfChoice key
    refine ⟨some a', len, cap, g, rfl, ?_, fun h => (by cases h), fun i hi => ?_, fun i => (hg i).1⟩
    · have := bulk_len (elems.map (·.1))
      rw [List.length_map, hel] at this
      exact Nat.le_trans this hB
    · obtain ⟨hbl, hgc⟩ := (hg i).2 hi
      exact ⟨a', rfl, hbl, hgc⟩
end
theorem cells3 : Try.prog.cellsOf 3 = 1 := by kernel_rfl
theorem cells4 : Try.prog.cellsOf 4 = 1 := by kernel_rfl
theorem cells9 : Try.prog.cellsOf 9 = 1 := by kernel_rfl
theorem cells26 : Try.prog.cellsOf 26 = 1 := by kernel_rfl
theorem cells28 : Try.prog.cellsOf 28 = 5 := by kernel_rfl
theorem cells31 : Try.prog.cellsOf 31 = 1 := by kernel_rfl
theorem cells33 : Try.prog.cellsOf 33 = 18 := by kernel_rfl
theorem cells30 : Try.prog.cellsOf 30 = 2 := by kernel_rfl
theorem cells55 : Try.prog.cellsOf 55 = 20 := by kernel_rfl
theorem cells50 : Try.prog.cellsOf 50 = 1 := by kernel_rfl
theorem cells52 : Try.prog.cellsOf 52 = 8 := by kernel_rfl
theorem cells35 : Try.prog.cellsOf 35 = 29 := by kernel_rfl
section
variable {H : Type} {enc : TypeId × Value → H} {w : World} {base : Nat} {spare : Nat → Bool} {held : Bool} {fuel : Nat} {cs : List Value} {x : DataW H × List MemPlace}
set_option maxRecDepth 100000
theorem read_V (h : DataW.trod enc Try.prog w base spare held fuel 28 cs = some x) : ∃ v : V, cs = v.list := by
  obtain ⟨xs, n, _, _, hl, hn, hf⟩ := DataW.trod_struct Try.underlying28 h
  rw [cells28] at hl
  match cs, hl, xs, hn with
  | [c0, c1, c2, c3, c4], _, [y0, y1, y2, y3, y4], _ =>
    have h0 := hf 0 ⟨"Kind", 3, 0, false, "", "", 0⟩ rfl
    have h1 := hf 1 ⟨"Bool", 4, 1, false, "", "", 8⟩ rfl
    have h2 := hf 2 ⟨"Num", 26, 2, false, "", "", 16⟩ rfl
    have h3 := hf 3 ⟨"Str", 9, 3, false, "", "", 24⟩ rfl
    have h4 := hf 4 ⟨"Id", 3, 4, false, "", "", 40⟩ rfl
    simp only [cells3, cells4, cells9, cells26, List.drop_succ_cons, List.drop_zero, List.take_succ_cons, List.take_zero] at h0 h1 h2 h3 h4
    obtain ⟨v0, e0⟩ := read_int Try.underlying3 h0
    obtain ⟨v1, e1⟩ := read_bool Try.underlying4 h1
    obtain ⟨v2, e2⟩ := read_f64 Try.underlying26 h2
    obtain ⟨v3, e3⟩ := read_string Try.underlying9 h3
    obtain ⟨v4, e4⟩ := read_int Try.underlying3 h4
    cases e0; cases e1; cases e2; cases e3; cases e4
    exact ⟨⟨v0, v1, v2, v3, v4⟩, rfl⟩
theorem read_D (h : DataW.trod enc Try.prog w base spare held fuel 33 cs = some x) : ∃ d : D, cs = d.list := by
  obtain ⟨xs, n, _, _, hl, hn, hf⟩ := DataW.trod_struct Try.underlying33 h
  rw [cells33] at hl
  match cs, hl, xs, hn with
  | [c0, c1, c2, c3, c4, c5, c6, c7, c8, c9, c10, c11, c12, c13, c14, c15, c16, c17], _, [y0, y1, y2, y3, y4, y5], _ =>
    have h0 := hf 0 ⟨"Value", 28, 0, false, "", "", 0⟩ rfl
    have h1 := hf 1 ⟨"Get", 28, 5, false, "", "", 48⟩ rfl
    have h2 := hf 2 ⟨"Set", 28, 10, false, "", "", 96⟩ rfl
    have h3 := hf 3 ⟨"Writable", 31, 15, false, "", "", 144⟩ rfl
    have h4 := hf 4 ⟨"Enumerable", 31, 16, false, "", "", 152⟩ rfl
    have h5 := hf 5 ⟨"Configurable", 31, 17, false, "", "", 160⟩ rfl
    simp only [cells28, cells31, List.drop_succ_cons, List.drop_zero, List.take_succ_cons, List.take_zero] at h0 h1 h2 h3 h4 h5
    obtain ⟨v0, e0⟩ := read_V h0
    obtain ⟨v1, e1⟩ := read_V h1
    obtain ⟨v2, e2⟩ := read_V h2
    obtain ⟨v3, e3⟩ := read_int Try.underlying31 h3
    obtain ⟨v4, e4⟩ := read_int Try.underlying31 h4
    obtain ⟨v5, e5⟩ := read_int Try.underlying31 h5
    unfold V.list at e0 e1 e2
    cases e0; cases e1; cases e2; cases e3; cases e4; cases e5
    exact ⟨⟨v0, v1, v2, v3, v4, v5⟩, rfl⟩
theorem read_K (h : DataW.trod enc Try.prog w base spare held fuel 30 cs = some x) : ∃ k : K, cs = [.string k.s, .int .i64 k.n] := by
  obtain ⟨xs, n, _, _, hl, hn, hf⟩ := DataW.trod_struct Try.underlying30 h
  rw [cells30] at hl
  match cs, hl, xs, hn with
  | [c0, c1], _, [y0, y1], _ =>
    have h0 := hf 0 ⟨"Str", 9, 0, false, "", "", 0⟩ rfl
    have h1 := hf 1 ⟨"Sym", 3, 1, false, "", "", 16⟩ rfl
    simp only [cells3, cells9, List.drop_succ_cons, List.drop_zero, List.take_succ_cons, List.take_zero] at h0 h1
    obtain ⟨v0, e0⟩ := read_string Try.underlying9 h0
    obtain ⟨v1, e1⟩ := read_int Try.underlying3 h1
    cases e0; cases e1
    exact ⟨⟨v0, v1⟩, rfl⟩
theorem read_Pr (h : DataW.trod enc Try.prog w base spare held fuel 55 cs = some x) : ∃ q : Pr, cs = q.list := by
  obtain ⟨xs, n, _, _, hl, hn, hf⟩ := DataW.trod_struct Try.underlying55 h
  rw [cells55] at hl
  match cs, hl, xs, hn with
  | c0 :: c1 :: r, hl, [y0, y1], _ =>
    have h0 := hf 0 ⟨"Key", 30, 0, false, "", "", 0⟩ rfl
    have h1 := hf 1 ⟨"Desc", 33, 2, false, "", "", 24⟩ rfl
    simp only [cells30, cells33, List.drop_succ_cons, List.drop_zero, List.take_succ_cons, List.take_zero] at h0 h1
    have hr : r.length = 18 := by simpa using hl
    rw [List.take_of_length_le (by omega)] at h1
    obtain ⟨k, e0⟩ := read_K h0
    obtain ⟨d, e1⟩ := read_D h1
    cases e0; subst e1
    exact ⟨⟨k, d⟩, rfl⟩
theorem read_Dl (h : DataW.trod enc Try.prog w base spare held fuel 35 cs = some x) : ∃ q : Dl, cs = q.list := by
  obtain ⟨xs, n, _, _, hl, hn, hf⟩ := DataW.trod_struct Try.underlying35 h
  rw [cells35] at hl
  match cs, hl, xs, hn with
  | c0 :: c1 :: c2 :: c3 :: c4 :: c5 :: c6 :: c7 :: c8 :: c9 :: c10 :: r, hl, [y0, y1, y2, y3, y4, y5, y6], _ =>
    have h0 := hf 0 ⟨"O", 3, 0, false, "", "", 0⟩ rfl
    have h1 := hf 1 ⟨"What", 3, 1, false, "", "", 8⟩ rfl
    have h2 := hf 2 ⟨"N", 3, 2, false, "", "", 16⟩ rfl
    have h3 := hf 3 ⟨"Yes", 4, 3, false, "", "", 24⟩ rfl
    have h4 := hf 4 ⟨"V", 28, 4, false, "", "", 32⟩ rfl
    have h5 := hf 5 ⟨"Key", 30, 9, false, "", "", 80⟩ rfl
    have h6 := hf 6 ⟨"Desc", 33, 11, false, "", "", 104⟩ rfl
    simp only [cells3, cells4, cells28, cells30, cells33, List.drop_succ_cons, List.drop_zero, List.take_succ_cons, List.take_zero] at h0 h1 h2 h3 h4 h5 h6
    have hr : r.length = 18 := by simpa using hl
    rw [List.take_of_length_le (by omega)] at h6
    obtain ⟨v0, e0⟩ := read_int Try.underlying3 h0
    obtain ⟨v1, e1⟩ := read_int Try.underlying3 h1
    obtain ⟨v2, e2⟩ := read_int Try.underlying3 h2
    obtain ⟨v3, e3⟩ := read_bool Try.underlying4 h3
    obtain ⟨v4, e4⟩ := read_V h4
    obtain ⟨v5, e5⟩ := read_K h5
    obtain ⟨v6, e6⟩ := read_D h6
    unfold V.list at e4
    cases e0; cases e1; cases e2; cases e3; cases e4; cases e5; subst e6
    exact ⟨⟨v0, v1, v2, v3, v4, v5, v6⟩, rfl⟩
def Pr0 : Pr := ⟨K0, S.D0⟩
theorem read_Ps (h : DataW.trod enc Try.prog w base spare held fuel 50 cs = some x) :
    ∃ (A : Option Addr) (n c : Nat) (g : Nat → Pr), cs = [.slice A n c] ∧ n ≤ Rows.uptoBulk x.1 ∧ (A = none → n = 0 ∧ c = 0) ∧ Row w 20 Pr.list A n g := by
  obtain ⟨A, n, c, g, h1, h2, h3, h4, _⟩ := read_row Try.underlying50 cells55 (by decide) Pr0 Pr.list (fun _ _ => True) (fun _ => trivial) (fun _ _ _ _ _ => trivial) (fun fuel cs x h => by
    obtain ⟨q, hq⟩ := read_Pr h
    exact ⟨q, hq, trivial⟩) h
  exact ⟨A, n, c, g, h1, h2, h3, h4⟩
def Sh0 : Sh := ⟨0, S.V0, false, none, 0, 0, fun _ => Pr0⟩
theorem read_Sh (h : DataW.trod enc Try.prog w base spare held fuel 52 cs = some x) : ∃ s : Sh, cs = shVals s s.row ∧ s.n ≤ Rows.uptoBulk x.1 ∧ (s.A = none → s.n = 0 ∧ s.c = 0) ∧ Row w 20 Pr.list s.A s.n s.g := by
  obtain ⟨xs, n, _, hx, hl, hn, hf⟩ := DataW.trod_struct Try.underlying52 h
  rw [cells52] at hl
  match cs, hl, xs, hn with
  | [c0, c1, c2, c3, c4, c5, c6, c7], _, [y0, y1, y2, y3], _ =>
    have h0 := hf 0 ⟨"Class", 3, 0, false, "", "", 0⟩ rfl
    have h1 := hf 1 ⟨"Proto", 28, 1, false, "", "", 8⟩ rfl
    have h2 := hf 2 ⟨"Extensible", 4, 6, false, "", "", 56⟩ rfl
    have h3 := hf 3 ⟨"Props", 50, 7, false, "", "", 64⟩ rfl
    simp only [cells3, cells4, cells28, cells50, List.drop_succ_cons, List.drop_zero, List.take_succ_cons, List.take_zero] at h0 h1 h2 h3
    obtain ⟨v0, e0⟩ := read_int Try.underlying3 h0
    obtain ⟨v1, e1⟩ := read_V h1
    obtain ⟨v2, e2⟩ := read_bool Try.underlying4 h2
    obtain ⟨A, m, c, g, e3, hb, hnil, hrow⟩ := read_Ps (x := y3) h3
    unfold V.list at e1
    cases e0; cases e1; cases e2; cases e3
    refine ⟨⟨v0, v1, v2, A, m, c, g⟩, rfl, ?_, hnil, hrow⟩
    subst hx
    simp only [Rows.uptoBulk, List.map_cons, List.map_nil, Rows.uptoBulkAll]
    omega
/-- A moment that came in. -/
theorem open_M {v : Value} {base' : Nat} {d : DataW H} {p : List MemPlace} (hv : Value.okWide Try.prog w .any base' 22 v) (h : DataW.Trod enc Try.prog w base spare held 22 v d p) (hs : Rows.uptoBulk d ≤ 1048576) :
    ∃ m : Mo, v = .slice m.A m.n m.c ∧ RawMo w m ∧ Small m := by
  obtain ⟨a, len, cap, rfl⟩ := okWide_slice Try.underlying22 hv
  obtain ⟨f, hf⟩ := h
  obtain ⟨A, n, c, g, h1, h2, h3, h4, h5⟩ := read_row Try.underlying22 cells52 (by decide) Sh0 (fun s => shVals s s.row) (fun s b => s.n ≤ b ∧ (s.A = none → s.n = 0 ∧ s.c = 0) ∧ Row w 20 Pr.list s.A s.n s.g) (fun _ => ⟨Nat.zero_le _, fun _ => ⟨rfl, rfl⟩, fun i hi => absurd hi (Nat.not_lt_zero _)⟩) (fun _ _ _ hm hw => ⟨Nat.le_trans hw.1 hm, hw.2⟩) (fun fuel cs x h => read_Sh h) hf
  have h1 : [Value.slice a len cap] = [Value.slice A n c] := h1
  cases h1
  exact ⟨⟨a, len, cap, g⟩, rfl, ⟨fun j => (h5 j).2.1, h4, fun j i hi => (h5 j).2.2 i hi⟩, Nat.le_trans h2 hs, fun j => Nat.le_trans (h5 j).1 hs⟩
def Dl0 : Dl := ⟨0, 0, 0, false, S.V0, K0, S.D0⟩
/-- Deltas that came in. -/
theorem open_Ds {v : Value} {base' : Nat} {d : DataW H} {p : List MemPlace} (hv : Value.okWide Try.prog w .any base' 23 v) (h : DataW.Trod enc Try.prog w base spare held 23 v d p) :
    ∃ (A : Option Addr) (n c : Nat) (g : Nat → Dl), v = .slice A n c ∧ (A = none → n = 0 ∧ c = 0) ∧ @Go.Ev.XOk (rowL A n c g) w := by
  obtain ⟨a, len, cap, rfl⟩ := okWide_slice Try.underlying23 hv
  obtain ⟨f, hf⟩ := h
  obtain ⟨A, n, c, g, h1, h2, h3, h4, h5⟩ := read_row Try.underlying23 cells35 (by decide) Dl0 Dl.list (fun _ _ => True) (fun _ => trivial) (fun _ _ _ _ _ => trivial) (fun fuel cs x h => by
    obtain ⟨q, hq⟩ := read_Dl h
    exact ⟨q, hq, trivial⟩) hf
  have h1 : [Value.slice a len cap] = [Value.slice A n c] := h1
  cases h1
  refine ⟨a, len, cap, g, rfl, h3, fun r j hj => ?_⟩
  obtain ⟨ad, x1, x2, x3⟩ := h4 j hj
  refine ⟨rfl, fun s hs mem => ?_, ad, x1, x2, fun k s hk m => ?_⟩
  · obtain ⟨v, _, rfl⟩ := List.mem_map.1 hs
    exact @Go.Ev.ok_val (rowL a len cap g) _ _
  · have hk : ((g j).list.map Go.Ev.SV.val)[k]? = some s := hk
    rw [List.getElem?_map] at hk
    obtain ⟨u, hu, rfl⟩ := Option.map_eq_some_iff.1 hk
    rw [@Go.Ev.den_val (rowL a len cap g)]
    exact x3 k u hu
end
end Op
end Go.Proofs.Ytaojjpdlfnphiaa.PDescKinds
namespace Go.Proofs.Ytaojjpdlfnphiaa.invariantPatches
open Go.ChangeShapes Go.WideShapes Go.ChangeAt Go.RowKit PDescKinds
theorem own : ownKnob Try.prog.godebug = none := by kernel_rfl
theorem laidOut : laidOutB Try.prog = true := by kernel_rfl
theorem contract (H : Type) (enc : TypeId × Value → H) (W : World) (base : Nat) (args : Array Value) (ds gs : List (DataW H)) (before : List MemPlace)
    (hval : ∀ (j : Nat) t v, Try.f3.params[j]? = some t → args[j]? = some v → Value.okWide Try.prog W .any base t v)
    (hW : DataW.Whole enc Try.prog Try.f3.params.toList Rows.invariantPatchesSpec.vars false W args.toList ds gs before) (hk : Rows.uptoSmall H (ds ++ gs) = true) :
    Calls Try.prog 3 args W fun e W' => ∃ v, e = .returned v ∧ Rows.invariantPatchesSpec.post enc Try.prog Try.f3 false true false false W args v W' := by
  have hbulk : Rows.uptoBulkAll (ds ++ gs) ≤ 1048576 := of_decide_eq_true hk
  have hW' := hW
  obtain ⟨p, q, hA0, hV, rfl, hfz, hnd⟩ := hW
  have hA : DataW.TrodAll enc Try.prog W 0 (fun _ => true) true Try.f3.params.toList args.toList ds p := hA0
  rw [Try.params3] at hA hval
  obtain ⟨v0, vs0, d0, ds0, p0, q0, hargs, rfl, rfl, h0, r0⟩ := trodAll_cons hA
  obtain ⟨v1, vs1, d1, ds1, p1, q1, rfl, rfl, rfl, h1, r1⟩ := trodAll_cons r0
  obtain ⟨rfl, rfl, rfl⟩ := trodAll_nil r1
  obtain rfl : args = #[v0, v1] := by cases args; simp_all
  obtain ⟨rfl, rfl⟩ := trodVars_none hV
  have k0 := h0
  have k1 := h1
  have lt0 : ∀ x ∈ p0, x.block < W.heap.size := by obtain ⟨m, hm⟩ := k0; exact DataW.trod_lt m _ _ _ hm
  have lt1 : ∀ x ∈ p1, x.block < W.heap.size := by obtain ⟨m, hm⟩ := k1; exact DataW.trod_lt m _ _ _ hm
  simp only [Rows.uptoBulkAll, List.cons_append, List.nil_append] at hbulk
  obtain ⟨x, rfl, hx, hs⟩ := Op.open_M (hval 0 22 v0 rfl rfl) h0 (by omega)
  obtain ⟨A, n, c, g, rfl, hnil, hX⟩ := Op.open_Ds (hval 1 23 v1 rfl rfl) h1
  clear hA0
  refine (Lw.calls (w0 := W) rfl hx hs hX hnil).mono fun e W' ⟨he, bel⟩ => ?_
  subst he
  exact ⟨_, rfl, _, _, _, [], _, [], hW', trodAll_mk1 (shut_bool Try.underlying4 _), (trodAll_cons_mk (Below.trod laidOut (by kernel_rfl) (of_decide_eq_true (by kernel_rfl)) k0 bel lt0) (trodAll_cons_mk (Below.trod laidOut (by kernel_rfl) (of_decide_eq_true (by kernel_rfl)) k1 bel lt1) trodAll_mk0)), rfl, bel.frame _, fun h => absurd h Bool.false_ne_true⟩
set_option maxRecDepth 100000 in
theorem lifted (os : Os) (started : os.Started) (H : Type) (enc : TypeId × Value → H) (F : Stop.Interp) :
    ReturnsInHanded {} Try.checked os 3 .any ((Rows.OpenSpec.upto Rows.invariantPatchesSpec).pre6 enc Try.prog Try.f3 Rows.invariantPatchesUptoRow.domain false) (((Rows.OpenSpec.upto Rows.invariantPatchesSpec).at F).post enc Try.prog Try.f3 false true false false) := by
  refine returnsInHanded_of_cond (C := Try.checked) (s := Rows.OpenSpec.upto Rows.invariantPatchesSpec) (k := Rows.uptoSmall) rfl own started (by kernel_rfl) Try.func3
    (OpenSpec.witness (enc := enc) (C := Try.checked) (s := Rows.OpenSpec.upto Rows.invariantPatchesSpec) (k := Rows.uptoSmall) rfl false ⟨#[], #[.slice none 0 0, .slice none 0 0], []⟩ 8 (by kernel_rfl) (by kernel_rfl) (by kernel_rfl)
      (x := ([.nil, .nil], [], [])) (by kernel_rfl) rfl (by kernel_rfl)) ?_
  intro W base args ds gs before hval hW _ hk _
  exact contract H enc W base args ds gs before hval hW hk
theorem over : Rows.invariantPatchesUptoRow.holds Try.pinned (Rows.OpenSpec.upto Rows.invariantPatchesSpec) :=
  OpenClaim.holds_of_cond 3 Try.f3 rfl rfl rfl rfl rfl rfl rfl ⟨rfl, rfl, rfl, rfl, rfl⟩ rfl rfl rfl rfl rfl (by kernel_rfl) Try.func3 (by kernel_rfl)
    (of_decide_eq_true (by kernel_rfl)) (by unfold Func.isWrapper; first | (rw [if_pos (by decide +kernel)]; kernel_rfl) | (rw [if_neg (by decide +kernel)]; exact ⟨rfl, rfl⟩))
    (fun os started H enc _ F => lifted os started H enc F)
end Go.Proofs.Ytaojjpdlfnphiaa.invariantPatches
namespace Go.Proofs.Ytaojjpdlfnphiaa
/-- 'cameolaw10.InvariantPatches' answers true wherever what it reads is of bulk at most 1048576, and what it was handed reads as it did. -/
theorem invariantPatches_holds : Rows.InvariantPatchesUptoSaid := invariantPatches.over
end Go.Proofs.Ytaojjpdlfnphiaa
