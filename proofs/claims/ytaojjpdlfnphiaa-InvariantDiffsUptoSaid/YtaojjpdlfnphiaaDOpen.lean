/-
  The arguments opened: what a moment ([]Shape) or a list of deltas reads as, as a plain list, with its lengths below the bulk.
-/
import Derived.Test.YtaojjpdlfnphiaaRows
import Derived.Test.YtaojjpdlfnphiaaTInvariantDiffsx0
import Derived.Test.YtaojjpdlfnphiaaTInvariantDiffsx5
import Derived.Deep.Slices
namespace Go.Proofs.Ytaojjpdlfnphiaa.opens
open Go.RowKit Go.Proofs.YtaojjpdlfnphiaaW.PrintWords Go.Proofs.Ytaojjpdlfnphiaa.PInvariantDiffs
set_option linter.unusedVariables false
set_option linter.unusedSimpArgs false
variable {H : Type} {enc : TypeId × Value → H} {P : Program} {w : World} {base : Nat} {spare : Nat → Bool} {held : Bool} {α β : Type}

def Opens (enc : TypeId × Value → H) (P : Program) (w : World) (base : Nat) (spare : Nat → Bool) (held : Bool) (K : Kd α) (T : TypeId) (wf : α → Prop) (m : α → Nat) : Prop :=
  ∀ fuel cs x, DataW.trod enc P w base spare held fuel T cs = some x → ∃ v, K.K w v cs ∧ wf v ∧ m v + 1 ≤ Rows.uptoBulk x.1

theorem opens_int {k : IntKind} {t : TypeId} (ht : P.underlying t = some (.int k)) : Opens enc P w base spare held (Kd.int k) t (fun n => (Lit.int k n).wf = true) (fun _ => 0) := by
  intro fuel cs x h
  cases fuel with
  | zero => simp [DataW.trod] at h
  | succ n =>
    rw [DataW.trod.eq_def] at h
    simp only [ht] at h
    split at h <;> first | (simp_all; done) | skip
    rename_i k1 k2 n' e1
    obtain rfl : k = k1 := by simpa using e1
    split at h
    · rename_i hc
      obtain ⟨rfl, hw⟩ := hc
      obtain rfl := Option.some.inj h
      exact ⟨_, rfl, hw, by simp [Rows.uptoBulk]⟩
    · cases h
theorem opens_bool {t : TypeId} (ht : P.underlying t = some .bool) : Opens enc P w base spare held Kd.bool t (fun _ => True) (fun _ => 0) := by
  intro fuel cs x h
  cases fuel with
  | zero => simp [DataW.trod] at h
  | succ n =>
    rw [DataW.trod.eq_def] at h
    simp only [ht] at h
    split at h <;> first | (simp_all; done) | skip
    obtain rfl := Option.some.inj h
    exact ⟨_, rfl, trivial, by simp [Rows.uptoBulk]⟩
theorem opens_f64 {t : TypeId} (ht : P.underlying t = some (.float .f64)) : Opens enc P w base spare held Kd.f64 t (fun b => b < 2 ^ 64) (fun _ => 0) := by
  intro fuel cs x h
  cases fuel with
  | zero => simp [DataW.trod] at h
  | succ n =>
    rw [DataW.trod.eq_def] at h
    simp only [ht] at h
    split at h <;> first | (simp_all; done) | skip
    rename_i k1 k2 b' e1
    obtain rfl : FloatKind.f64 = k1 := by simpa using e1
    split at h
    · rename_i hc
      obtain ⟨rfl, hw⟩ := hc
      obtain rfl := Option.some.inj h
      exact ⟨b', rfl, of_decide_eq_true hw, by simp [Rows.uptoBulk]⟩
    · cases h
theorem opens_string {t : TypeId} (ht : P.underlying t = some .string) : Opens enc P w base spare held Kd.string t (fun s => s.size ≤ maxLen) (fun s => s.size) := by
  intro fuel cs x h
  cases fuel with
  | zero => simp [DataW.trod] at h
  | succ n =>
    rw [DataW.trod.eq_def] at h
    simp only [ht] at h
    split at h <;> first | (simp_all; done) | skip
    split at h
    · rename_i hc
      obtain rfl := Option.some.inj h
      refine ⟨_, rfl, hc, ?_⟩
      simp only [Rows.uptoBulk, ByteArray.size, Array.length_toList]
      exact Nat.le_refl _
    · cases h

def mL (m : α → Nat) (xs : List α) : Nat := (xs.map fun x => m x + 1).sum
theorem bulk_range {D : Nat → DataW H} {f : Nat → α} {m : α → Nat} : ∀ n, (∀ i, i < n → m (f i) + 1 ≤ Rows.uptoBulk (D i)) → mL m ((List.range n).map f) ≤ Rows.uptoBulkAll ((List.range n).map D)
  | 0, _ => by simp [mL, Rows.uptoBulkAll]
  | n + 1, h => by
    have ih := bulk_range (D := D) (f := f) (m := m) n (fun i hi => h i (by omega))
    have hn := h n (by omega)
    have app : ∀ (l r : List (DataW H)), Rows.uptoBulkAll (l ++ r) = Rows.uptoBulkAll l + Rows.uptoBulkAll r := by
      intro l r
      induction l with
      | nil => simp [Rows.uptoBulkAll]
      | cons x l ih => simp only [List.cons_append, Rows.uptoBulkAll, ih]; omega
    rw [List.range_succ, List.map_append, List.map_append, app]
    simp only [mL, List.map_append, List.sum_append, List.map_cons, List.map_nil, List.sum_cons, List.sum_nil, Rows.uptoBulkAll] at *
    omega
theorem opens_slice {K : Kd α} {t e : TypeId} {wf : α → Prop} {m : α → Nat} (ht : P.underlying t = some (.slice e)) (hs : P.cellsOf e = K.sz) (hK : Opens enc P w base spare held K e wf m) :
    ∀ fuel cs x, DataW.trod enc P w base spare held fuel t cs = some x → ∃ (xs : List α) (A : Option Addr) (c : Nat), cs = [.slice A xs.length c] ∧ xs.length ≤ c ∧ c ≤ maxLen ∧ K.C w A xs.length xs ∧ (∀ y ∈ xs, wf y) ∧ mL m xs + 1 ≤ Rows.uptoBulk x.1 := by
  intro fuel cs x h
  rcases Deep.open_slice ht h with ⟨rfl, rfl⟩ | ⟨a, len, cap, mm, n, D, Pl, rfl, _, hl, hm, hmm, rfl, hx⟩
  · exact ⟨[], none, 0, rfl, by simp, by simp, ⟨rfl, by simp, fun h => by simp at h⟩, by simp, by simp [mL, Rows.uptoBulk]⟩
  · have hle : len ≤ mm := by rw [hmm]; split <;> omega
    have hall : ∀ i, i < len → ∃ v, (∃ c, c.length = K.sz ∧ K.K w v c ∧ ∀ q u, c[q]? = some u → w.cell? (a.add (i * K.sz + q)) = some u) ∧ wf v ∧ m v + 1 ≤ Rows.uptoBulk (D i) := by
      intro i hi
      obtain ⟨cs', h1, h2⟩ := hx i (by omega)
      obtain ⟨v, hv, hw, hb⟩ := hK n cs' _ h2
      obtain ⟨_, hlen, hc⟩ := World.cells?_some h1
      refine ⟨v, ⟨cs', by rw [hlen, hs], hv, fun q u hq => ?_⟩, hw, hb⟩
      have hql : q < cs'.length := (List.getElem?_eq_some_iff.1 hq).1
      have := hc q (by omega)
      rw [hq, hs] at this
      rwa [Go.Addr.add_add] at this
    by_cases h0 : len = 0
    · subst h0
      exact ⟨[], some a, cap, rfl, by simp, hm, ⟨rfl, by simp, fun h => by simp at h⟩, by simp, by simp only [mL, Rows.uptoBulk, List.map_nil, List.sum_nil]; omega⟩
    · obtain ⟨v0, _⟩ := hall 0 (by omega)
      haveI : Inhabited α := ⟨v0⟩
      obtain ⟨f, hf⟩ := Deep.choose_lt hall
      have hlen : ((List.range len).map f).length = len := by simp
      refine ⟨(List.range len).map f, some a, cap, by rw [hlen], by rw [hlen]; exact hl, hm, ⟨rfl, ?_, fun _ => ⟨a, rfl, fun j p hj => ?_⟩⟩, ?_, ?_⟩
      · rw [hlen]; exact Nat.le_trans (Nat.le_trans hl hm) (by decide)
      · have hjl : j < len := by have := (List.getElem?_eq_some_iff.1 hj).1; simpa using this
        obtain rfl : f j = p := by simpa [List.getElem?_map, List.getElem?_range hjl] using hj
        exact (hf j hjl).1
      · intro y hy
        obtain ⟨i, hi, rfl⟩ := List.mem_map.1 hy
        exact (hf i (by simpa using hi)).2.1
      · have := bulk_range len (fun i hi => (hf i hi).2.2)
        simp only [Rows.uptoBulk]
        omega
theorem opens_list {K : Kd α} {t e : TypeId} {wf : α → Prop} {m : α → Nat} (ht : P.underlying t = some (.slice e)) (hs : P.cellsOf e = K.sz) (hK : Opens enc P w base spare held K e wf m) :
    Opens enc P w base spare held (Kd.slice e K) t (fun xs => ∀ y ∈ xs, wf y) (mL m) := by
  intro fuel cs x h
  obtain ⟨xs, A, c, rfl, hl, _, hC, hw, hb⟩ := opens_slice ht hs hK fuel cs x h
  exact ⟨xs, ⟨A, c, rfl, hl, hC⟩, hw, hb⟩

theorem pair_at {a : Kd α} {b : Kd β} {x : α} {y : β} {cs : List Value} {o : Nat} (h0 : a.K w x ((cs.drop o).take a.sz)) (h1 : b.K w y ((cs.drop (o + a.sz)).take b.sz)) : (Kd.pair a b).K w (x, y) ((cs.drop o).take (a.sz + b.sz)) :=
  ⟨_, _, by rw [List.take_add, List.drop_drop], h0, h1⟩
theorem whole {K : Kd α} {x : α} {cs : List Value} {n : Nat} (hl : cs.length = n) (hn : K.sz = n) (h : K.K w x ((cs.drop 0).take K.sz)) : K.K w x cs := by
  rwa [List.drop_zero, hn, ← hl, List.take_length] at h

def wf28 (x : S28) : Prop := x.f2 < 2 ^ 64
def m28 (x : S28) : Nat := x.f3.size
theorem opens28 : Opens enc Try.prog w base spare held k28 28 wf28 m28 := by
  intro fuel cs x h
  obtain ⟨xs, n, rfl, rfl, hl, hn, hf⟩ := DataW.trod_struct Try.underlying28 h
  match xs, hn with
  | [y0, y1, y2, y3, y4], _ =>
    obtain ⟨v0, hv0, hw0, hb0⟩ := opens_int Try.underlying3 _ _ _ (hf 0 _ rfl)
    obtain ⟨v1, hv1, hw1, hb1⟩ := opens_bool Try.underlying4 _ _ _ (hf 1 _ rfl)
    obtain ⟨v2, hv2, hw2, hb2⟩ := opens_f64 Try.underlying26 _ _ _ (hf 2 _ rfl)
    obtain ⟨v3, hv3, hw3, hb3⟩ := opens_string Try.underlying9 _ _ _ (hf 3 _ rfl)
    obtain ⟨v4, hv4, hw4, hb4⟩ := opens_int Try.underlying3 _ _ _ (hf 4 _ rfl)
    refine ⟨⟨v0, v1, v2, v3, v4⟩, whole (K := k28) (n := 5) (hl.trans (by kernel_rfl)) rfl ?_, hw2, ?_⟩
    · exact pair_at hv0 (pair_at hv1 (pair_at hv2 (pair_at hv3 hv4)))
    · simp [Rows.uptoBulk, Rows.uptoBulkAll, m28] at *; omega
def wf30 (x : S30) : Prop := invariant_twice.wfKey x.f0 x.f1 = true
def m30 (x : S30) : Nat := x.f0.size
theorem opens30 : Opens enc Try.prog w base spare held k30 30 wf30 m30 := by
  intro fuel cs x h
  obtain ⟨xs, n, rfl, rfl, hl, hn, hf⟩ := DataW.trod_struct Try.underlying30 h
  match xs, hn with
  | [y0, y1], _ =>
    obtain ⟨v0, hv0, hw0, hb0⟩ := opens_string Try.underlying9 _ _ _ (hf 0 _ rfl)
    obtain ⟨v1, hv1, hw1, hb1⟩ := opens_int Try.underlying3 _ _ _ (hf 1 _ rfl)
    refine ⟨⟨v0, v1⟩, whole (K := k30) (n := 2) (hl.trans (by kernel_rfl)) rfl ?_, ?_, ?_⟩
    · exact pair_at hv0 hv1
    · simp only [wf30, invariant_twice.wfKey, Bool.and_eq_true, decide_eq_true_eq]; exact ⟨hw0, hw1⟩
    · simp [Rows.uptoBulk, Rows.uptoBulkAll, m30] at *; omega
def wf33 (x : S33) : Prop := wf28 x.f0 ∧ wf28 x.f1 ∧ wf28 x.f2
def m33 (x : S33) : Nat := m28 x.f0 + m28 x.f1 + m28 x.f2
theorem opens33 : Opens enc Try.prog w base spare held k33 33 wf33 m33 := by
  intro fuel cs x h
  obtain ⟨xs, n, rfl, rfl, hl, hn, hf⟩ := DataW.trod_struct Try.underlying33 h
  match xs, hn with
  | [y0, y1, y2, y3, y4, y5], _ =>
    obtain ⟨v0, hv0, hw0, hb0⟩ := opens28 _ _ _ (hf 0 _ rfl)
    obtain ⟨v1, hv1, hw1, hb1⟩ := opens28 _ _ _ (hf 1 _ rfl)
    obtain ⟨v2, hv2, hw2, hb2⟩ := opens28 _ _ _ (hf 2 _ rfl)
    obtain ⟨v3, hv3, hw3, hb3⟩ := opens_int Try.underlying31 _ _ _ (hf 3 _ rfl)
    obtain ⟨v4, hv4, hw4, hb4⟩ := opens_int Try.underlying31 _ _ _ (hf 4 _ rfl)
    obtain ⟨v5, hv5, hw5, hb5⟩ := opens_int Try.underlying31 _ _ _ (hf 5 _ rfl)
    refine ⟨⟨v0, v1, v2, v3, v4, v5⟩, whole (K := k33) (n := 18) (hl.trans (by kernel_rfl)) rfl ?_, ⟨hw0, hw1, hw2⟩, ?_⟩
    · exact pair_at hv0 (pair_at hv1 (pair_at hv2 (pair_at hv3 (pair_at hv4 hv5))))
    · simp [Rows.uptoBulk, Rows.uptoBulkAll, m33] at *; omega
def wf55 (x : S55) : Prop := wf30 x.f0 ∧ wf33 x.f1
def m55 (x : S55) : Nat := m30 x.f0 + m33 x.f1
theorem opens55 : Opens enc Try.prog w base spare held k55 55 wf55 m55 := by
  intro fuel cs x h
  obtain ⟨xs, n, rfl, rfl, hl, hn, hf⟩ := DataW.trod_struct Try.underlying55 h
  match xs, hn with
  | [y0, y1], _ =>
    obtain ⟨v0, hv0, hw0, hb0⟩ := opens30 _ _ _ (hf 0 _ rfl)
    obtain ⟨v1, hv1, hw1, hb1⟩ := opens33 _ _ _ (hf 1 _ rfl)
    refine ⟨⟨v0, v1⟩, whole (K := k55) (n := 20) (hl.trans (by kernel_rfl)) rfl ?_, ⟨hw0, hw1⟩, ?_⟩
    · exact pair_at hv0 hv1
    · simp [Rows.uptoBulk, Rows.uptoBulkAll, m55] at *; omega
def wf52 (x : S52) : Prop := wf28 x.f1 ∧ ∀ y ∈ x.f3, wf55 y
def m52 (x : S52) : Nat := m28 x.f1 + mL m55 x.f3
theorem opens52 : Opens enc Try.prog w base spare held k52 52 wf52 m52 := by
  intro fuel cs x h
  obtain ⟨xs, n, rfl, rfl, hl, hn, hf⟩ := DataW.trod_struct Try.underlying52 h
  match xs, hn with
  | [y0, y1, y2, y3], _ =>
    obtain ⟨v0, hv0, hw0, hb0⟩ := opens_int Try.underlying3 _ _ _ (hf 0 _ rfl)
    obtain ⟨v1, hv1, hw1, hb1⟩ := opens28 _ _ _ (hf 1 _ rfl)
    obtain ⟨v2, hv2, hw2, hb2⟩ := opens_bool Try.underlying4 _ _ _ (hf 2 _ rfl)
    obtain ⟨v3, hv3, hw3, hb3⟩ := opens_list (K := k55) Try.underlying50 (by kernel_rfl) opens55 _ _ _ (hf 3 _ rfl)
    refine ⟨⟨v0, v1, v2, v3⟩, whole (K := k52) (n := 8) (hl.trans (by kernel_rfl)) rfl ?_, ⟨hw1, hw3⟩, ?_⟩
    · exact pair_at hv0 (pair_at hv1 (pair_at hv2 hv3))
    · simp [Rows.uptoBulk, Rows.uptoBulkAll, m52] at *; omega
theorem opens22 : ∀ fuel cs x, DataW.trod enc Try.prog w base spare held fuel 22 cs = some x → ∃ (xs : List S52) (A : Option Addr) (c : Nat), cs = [.slice A xs.length c] ∧ xs.length ≤ c ∧ c ≤ maxLen ∧ k52.C w A xs.length xs ∧ (∀ y ∈ xs, wf52 y) ∧ mL m52 xs + 1 ≤ Rows.uptoBulk x.1 :=
  opens_slice Try.underlying22 (by kernel_rfl) opens52
end Go.Proofs.Ytaojjpdlfnphiaa.opens
