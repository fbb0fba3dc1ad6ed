/- Parts of the proof, joined (2). -/
import Derived.Below
import Derived.Deep.Draws
import Derived.Deep.AppendLies
import Derived.Maps.AppendAt
import Derived.OwnWalk
import Derived.Laws.BytesArg
import Derived.Laws.MakeOwn
import Derived.Laws.OwnMore
import Derived.Deep.OwnRows
import Derived.Tactics
import Derived.Lib.ConvBytes
import Derived.Laws.Slices
import Derived.WalkKit
import Derived.KernelRfl
import Derived.RowKit3
import Derived.Deep.LoopGhost
import Derived.Deep.QuietTactic
import Derived.BigQuiet
import Derived.WideLaws
import Derived.Deep.DeepCutAuto
import Derived.Deep.CutBlock
import Derived.Deep.RegionHeld3
import Derived.Laws.Rows
import Derived.Lib.AppendStr
import Derived.ArgAppend
import Derived.Laws.IdiomCopy
import Derived.RowKit
import Derived.OrdersHeld
import Derived.Laws.BitsLemmas
import Derived.Laws.StructEq
import Derived.Laws.Externs
import GoSem.Extern.MathFloatBits
import Derived.Test.YtaojjpdlfnphiaaDoorProg
import Derived.Maps.OwnOps
import Derived.Maps.Views
import Derived.DeepKeys4
import Derived.Carry
import Derived.LoopTactic
import Derived.Outline
import Derived.Test.YtaojjpdlfnphiaaDoorShelf
import Derived.Shelf.Unicode.DecodeLastEight
import Derived.Laws.BitsAllLaws
import Derived.Test.YtaojjpdlfnphiaaDoorZ1
section
/- Parts of the proof, joined (2). -/
section
-- PRINTED BY print.sh 35421559b90ae4d0a3588c463048766b98c2df88dd9212a6774a882060cdf62d: not written by this session
-- PRINTED WORDS (module Derived/Print/Words.lean): go-wishes' parts 1 to 38 and go-gate-2's additions: AI agents of Go's test side, Mon Nov 16 2026; no person has read them. Plain theorems and definitions: no macro, no elab, no axiom.
set_option linter.unusedVariables false
set_option linter.unusedSimpArgs false
namespace Go.Proofs.YtaojjpdlfnphiaaDoorW.PrintWords
open Go.RowKit
/-- A fact that the walk's simp doesn't look into. -/
structure Aside0 (p : Prop) : Prop where mk :: (out : p)
/-- The world is the old one, some orders having been drawn. -/
structure Drawn0 (w w' : World) : Prop where mk :: (out : ∃ n, w' = w.drewN n)
theorem Drawn0.refl (w : World) : Drawn0 w w := ⟨⟨0, rfl⟩⟩
theorem Drawn0.step {w w' : World} (h : Drawn0 w w') (n : Nat) : Drawn0 w (w'.drewN n) := by
  obtain ⟨m, rfl⟩ := h
  exact ⟨⟨m + n, World.drewN_drewN ..⟩⟩
/-! ### 1. Values and lists -/
def rd (xs : List Int) (i : Int) : Int := xs.getD i.toNat 0
def bt (s : ByteArray) (i : Int) : Int := if h : i.toNat < s.size then ((s[i.toNat]'h).toNat : Int) else 0
theorem bt_at (s : ByteArray) (i : Int) : ∀ h : i.toNat < s.size, ((s[i.toNat]'h).toNat : Int) = bt s i := fun h => by simp [bt, h]
/-! ### 2. The world -/
theorem below_alloc {w W : World} (h : Below w.heap.size w W) (o : Obj) : Below w.heap.size w (W.alloc o) := h.alloc h.size o
theorem pw_below_drewN {B : Nat} {w W : World} (h : Below B w W) (n : Nat) : Below B w (W.drewN n) := ⟨h.os, h.tape, h.output, h.size, h.block⟩
theorem below_then {B : Nat} {w w1 w2 : World} (h : Below B w w1) (hB : B ≤ w1.heap.size) (k : Below w1.heap.size w1 w2) : Below B w w2 :=
  h.trans ⟨k.os, k.tape, k.output, k.size, fun i hi => k.block i (Nat.lt_of_lt_of_le hi hB)⟩
theorem pw_cell_below {w w1 : World} (h : Below w.heap.size w w1) {a : Addr} {v : Value} (hc : w.cell? a = some v) : w1.cell? a = some v := (h.cell (World.block_lt_of_cell? w a hc)).trans hc
/-! ### 3. A slice of whole numbers that is read; nil, empty and other slices alike -/
/-! ### 4. A row of the call's own -/
theorem own_base {w : World} {base : Nat} {e : TypeId} {size n : Nat} {v : Value} {xs : List Value} (h : w.ownsRow base e size v n xs) (k : Nat) (hk : v.ownBlock = some k) : base ≤ k := by
  rcases h.2 with ⟨rfl, _⟩ | ⟨g, cap, cur, rfl, hb, _⟩
  · simp [Value.ownBlock] at hk
  · have : g = k := by simpa [Value.ownBlock] using hk
    omega
theorem own_lt {w : World} {base : Nat} {e : TypeId} {size n : Nat} {v : Value} {xs : List Value} (h : w.ownsRow base e size v n xs) (k : Nat) (hk : v.ownBlock = some k) : k < w.heap.size := by
  rcases h.2 with ⟨rfl, _⟩ | ⟨g, cap, cur, rfl, hb, hh, _⟩
  · simp [Value.ownBlock] at hk
  · have : g = k := by simpa [Value.ownBlock] using hk
    subst this
    exact (Array.getElem?_eq_some_iff.1 hh).1
/-! ### 5. append(v, x): behind 'at_builtin'; the goal's world is 'W.alloc' of the variadic's box -/
section
variable {P : Program} {ops : Array Oper} {rest : List Oper} {o : Oper} {a : Act} {Q : Exit → Act → World → Prop}
end
/-! ### 6. make([]T, n), n an Int; a literal -/
section
variable {P : Program}
end
/-! ### 7. v[i] read and v[i] = x, v a row of the call's own: 'obtain ⟨g, cap, rfl, hgb, hgl⟩ := HO.out.form (by omega)' first -/
/-! ### 8. append(v, ys...): ys a slice that is read, nil let in; behind 'at_builtin' -/
section
variable {P : Program} {ops : Array Oper} {rest : List Oper} {o : Oper} {a : Act} {Q : Exit → Act → World → Prop}
end
/-! ### 9. []byte(s): a slice that is read (its row bears a conversion's mark: no row of one's own); cuts of a slice that is read -/
/-! ### 10. Rounds: more rounds give the same answer; what ends gives a number of rounds -/
/-! ### 11. Rows of elements of several cells (structs): read, made. R: what an element's cells say ('RepItem w': printed for each type) -/
def Reps {α : Type} (R : α → List Value → Prop) (size : Nat) (ps : List α) (cs : List Value) : Prop :=
  cs.length = ps.length * size ∧ ∀ j p, ps[j]? = some p → R p ((cs.drop (j * size)).take size)
theorem Reps.imp_ {α : Type} {R R' : α → List Value → Prop} {size : Nat} {ps : List α} {cs : List Value} (h : Reps R size ps cs) (hR : ∀ p c, R p c → R' p c) : Reps R' size ps cs := ⟨h.1, fun j p hj => hR _ _ (h.2 j p hj)⟩
def ReadsRow {α : Type} (R : α → List Value → Prop) (size : Nat) (w : World) (A : Option Addr) (n : Nat) (ps : List α) : Prop :=
  ps.length = n ∧ n ≤ 9223372036854775807 ∧ (0 < n → ∃ ad, A = some ad ∧ ∀ j p, ps[j]? = some p → ∃ c, c.length = size ∧ R p c ∧ ∀ i u, c[i]? = some u → w.cell? (ad.add (j * size + i)) = some u)
theorem ReadsRow.imp_ {α : Type} {R R' : α → List Value → Prop} {size : Nat} {w w1 : World} {A : Option Addr} {n : Nat} {ps : List α} (h : ReadsRow R size w A n ps) (hb : Below w.heap.size w w1) (hR : ∀ p c, R p c → R' p c) : ReadsRow R' size w1 A n ps :=
  ⟨h.1, h.2.1, fun hn => by
    obtain ⟨ad, e, hc⟩ := h.2.2 hn
    refine ⟨ad, e, fun j p hj => ?_⟩
    obtain ⟨c, hs, hr, hcell⟩ := hc j p hj
    exact ⟨c, hs, hR _ _ hr, fun i u hu => pw_cell_below hb (hcell i u hu)⟩⟩
theorem own_reads_row {α : Type} {R : α → List Value → Prop} {w : World} {base n size : Nat} {e : TypeId} {v : Value} {ps : List α} {cs : List Value} (h : w.ownsRow base e size v n cs) (hR : Reps R size ps cs) (hn : ps.length = n) :
    ∃ A c, v = .slice A n c ∧ ReadsRow R size w A n ps := by
  rcases Nat.eq_zero_or_pos n with h0 | h0
  · rcases h.2 with ⟨rfl, rfl⟩ | ⟨g, cap, cur, rfl, _⟩
    · exact ⟨none, 0, rfl, hn, by omega, fun hp => absurd hp (by omega)⟩
    · exact ⟨_, cap, rfl, hn, by omega, fun hp => absurd hp (by omega)⟩
  · obtain ⟨g, cap, rfl, _, _⟩ := h.form h0
    have hm : n ≤ 9223372036854775807 := by
      rcases h.2 with ⟨_, h1⟩ | ⟨g', cap', cur, he, _, _, h1, h2, _⟩
      · omega
      · simp only [maxLen] at h2
        omega
    refine ⟨_, cap, rfl, hn, hm, fun _ => ⟨_, rfl, fun j p hj => ⟨(cs.drop (j * size)).take size, ?_, hR.2 j p hj, fun i u hu => ?_⟩⟩⟩
    · have hjl := (List.getElem?_eq_some_iff.1 hj).1
      have h1 : j * size + size ≤ cs.length := by rw [hR.1, ← Nat.succ_mul]; exact Nat.mul_le_mul_right _ hjl
      rw [List.length_take, List.length_drop]
      omega
    · refine h.cells (g := g) rfl _ u ?_
      rw [List.getElem?_take] at hu
      split at hu
      · rw [List.getElem?_drop] at hu
        exact hu
      · cases hu
section
variable {P : Program} {ops : Array Oper} {rest : List Oper} {o : Oper} {a : Act} {Q : Exit → Act → World → Prop}
end
/-! ### 12. A block of one's own that is a state: its cells, what a store leaves -/
theorem blk_set {w : World} {g : Nat} {t : TypeId} {cs : Array Value} (h : w.heap[g]? = some (.cells cs t (0, 0))) (i : Nat) (u : Value) : (w.setCell ⟨g, i, none⟩ u).heap[g]? = some (.cells (cs.setIfInBounds i u) t (0, 0)) := by
  simp [World.setCell, Array.getElem?_modify, h]
theorem blk_cell {w : World} {g : Nat} {t : TypeId} {cs : Array Value} (h : w.heap[g]? = some (.cells cs t (0, 0))) (i : Nat) : w.cell? ⟨g, i, none⟩ = cs[i]? := cell_of_row w g i cs t (0, 0) h
/-! ### 13. Two states at once: what a call on the state at block g (its row before: 'row') has turned -/
/-! ### 10b. From some number of rounds on -/
/-! ### 14. append as_ one step of a region that draws its order: for 'go_region_law' (and a region walked by hand) -/
section
variable {P : Program} {ops : Array Oper} {o : Oper} {a : Act} {Q : Exit → Act → World → Prop} {K : Act → World → Prop}
end
/-! ### 15. A row's base may be lowered -/
theorem own_weaken {w : World} {base base' : Nat} {e : TypeId} {size n : Nat} {v : Value} {xs : List Value} (h : w.ownsRow base e size v n xs) (hb : base' ≤ base) : w.ownsRow base' e size v n xs := by
  obtain ⟨h1, h2⟩ := h
  refine ⟨h1, ?_⟩
  rcases h2 with h2 | ⟨g, cap, cur, rfl, hg, r⟩
  · exact .inl h2
  · exact .inr ⟨g, cap, cur, rfl, Nat.le_trans hb hg, r⟩
/-! ### 16. Parts 3 to 9 for ANY element of one cell: 'enc' (Value.int k, Value.string, Value.bool), a default 'd' -/
section
variable {α : Type} {enc : α → Value} {d : α}
end
section
variable {α : Type} {P : Program} {ops : Array Oper} {rest : List Oper} {o : Oper} {a : Act} {Q : Exit → Act → World → Prop}
end
/-! ### 17. Rows of one element type held at once: no two share a block -/
/-! ### 18. A block behind a new one; behind a draw -/
/-! ### 19. Results that lie in memory beside others -/
section
variable {P : Program}
end
/-! ### 20. Rows of elements of any kind: R is what an element's cells say -/
theorem own_le {w : World} {base n m c size : Nat} {e : TypeId} {A : Option Addr} {xs : List Value} (h : w.ownsRow base e size (.slice A m c) n xs) : m ≤ c := by
  rcases h.2 with ⟨he, _⟩ | ⟨g, cap, cur, he, _, _, hnc, _⟩
  · injection he with _ h2 h3
    omega
  · injection he with _ h2 h3
    omega
def OwnRow {α : Type} (R : α → List Value → Prop) (e : TypeId) (size : Nat) (w : World) (base : Nat) (v : Value) (ps : List α) : Prop :=
  ∃ inner, w.ownsRow base e size v ps.length inner ∧ Reps R size ps inner
section
variable {α : Type} {R R' : α → List Value → Prop} {e : TypeId} {size : Nat} {w w1 : World} {base : Nat} {v : Value} {ps : List α}
theorem OwnRow.imp_ (h : OwnRow R e size w base v ps) (hR : ∀ p c, R p c → R' p c) : OwnRow R' e size w base v ps := by
  obtain ⟨inner, ho, hr⟩ := h
  exact ⟨inner, ho, hr.imp_ hR⟩
theorem OwnRow.reads (h : OwnRow R e size w base v ps) : ∃ A c, v = .slice A ps.length c ∧ ps.length ≤ c ∧ ReadsRow R size w A ps.length ps := by
  obtain ⟨inner, ho, hr⟩ := h
  obtain ⟨A, c, rfl, hrow⟩ := own_reads_row ho hr rfl
  exact ⟨A, c, rfl, own_le ho, hrow⟩
end
section
variable {P : Program} {ops : Array Oper} {rest : List Oper} {o : Oper} {a : Act} {Q : Exit → Act → World → Prop} {α : Type} {R : α → List Value → Prop}
end
section
variable {P : Program} {ops : Array Oper} {o : Oper} {a : Act} {Q : Exit → Act → World → Prop} {K : Act → World → Prop} {α : Type} {R : α → List Value → Prop}
end
/-! ### 21. Cuts of a slice that came in, lengths spelled as_ the lists' -/
section
variable {α : Type} {P : Program}
end
/-! ### 22. append([]byte, s...), s a string; behind 'at_builtin'. (No word on where the new row lies: two rows of bytes at once don't go by it.) -/
section
variable {P : Program} {ops : Array Oper} {rest : List Oper} {o : Oper} {a : Act} {Q : Exit → Act → World → Prop}
end
/-! ### 23. KINDS: what a value's cells say, read (K) and made (M), kind by kind; every mover proved once -/
/-- ok: which blocks the rows inside may be ('not the row that is being written'). -/
structure Kd (α : Type) where
  sz : Nat
  E : List Nat
  K : World → α → List Value → Prop
  M : World → Nat → (Nat → Prop) → α → List Value → Prop
  K_len : ∀ {w x cs}, K w x cs → cs.length = sz
  K_one : ∀ {w x cs}, K w x cs → ∀ u ∈ cs, u.oneCell' = true
  K_below : ∀ {w w1 : World} {x cs}, Below w.heap.size w w1 → K w x cs → K w1 x cs
  K_of_M : ∀ {w base ok x cs}, M w base ok x cs → K w x cs
  M_mono : ∀ {w base ok ok' x cs}, (∀ k, ok k → ok' k) → M w base ok x cs → M w base ok' x cs
  M_bound : ∀ {w : World} {base ok x cs}, M w base ok x cs → M w base (fun k => ok k ∧ base ≤ k ∧ k < w.heap.size ∧ ∃ q, q ∈ E ∧ ∃ cells, w.heap[k]? = some (.cells cells q (0, 0))) x cs
  M_move : ∀ {w w1 : World} {base ok x cs}, (∀ k, ok k → w1.heap[k]? = w.heap[k]?) → M w base ok x cs → M w1 base ok x cs
  M_lower : ∀ {w base base' ok x cs}, base' ≤ base → M w base ok x cs → M w base' ok x cs
theorem own_move {w w1 : World} {base : Nat} {e : TypeId} {size n : Nat} {v : Value} {xs : List Value} (h : w.ownsRow base e size v n xs) (hm : ∀ k, v.ownBlock = some k → w1.heap[k]? = w.heap[k]?) : w1.ownsRow base e size v n xs := by
  obtain ⟨h1, h2⟩ := h
  refine ⟨h1, ?_⟩
  rcases h2 with h2 | ⟨g, cap, cur, rfl, hg, hh, r⟩
  · exact .inl h2
  · exact .inr ⟨g, cap, cur, rfl, hg, (hm g (by simp [Value.ownBlock])).trans hh, r⟩
theorem own_typed {w : World} {base : Nat} {e : TypeId} {size n : Nat} {v : Value} {xs : List Value} (h : w.ownsRow base e size v n xs) (k : Nat) (hk : v.ownBlock = some k) : ∃ cells, w.heap[k]? = some (.cells cells e (0, 0)) := by
  rcases h.2 with ⟨rfl, _⟩ | ⟨g, cap, cur, rfl, hg, hh, r⟩
  · simp [Value.ownBlock] at hk
  · have : g = k := by simpa [Value.ownBlock] using hk
    subst this
    exact ⟨cur, hh⟩
namespace Kd
/-- A row of elements that is read. -/
def C {α : Type} (d : Kd α) (w : World) (A : Option Addr) (n : Nat) (xs : List α) : Prop := ReadsRow (d.K w) d.sz w A n xs
/-- A row of elements (type e) of the call's own; the elements' rows are not this one. -/
def R {α : Type} (d : Kd α) (e : Nat) (w : World) (base : Nat) (ok : Nat → Prop) (v : Value) (xs : List α) : Prop :=
  (∀ k, v.ownBlock = some k → ok k) ∧ OwnRow (d.M w base (fun k => ok k ∧ some k ≠ v.ownBlock)) e d.sz w base v xs
section
variable {α : Type} {d : Kd α} {e : Nat} {w w1 : World} {base : Nat} {ok ok' : Nat → Prop} {v : Value} {xs : List α}
theorem C_below {A : Option Addr} {n : Nat} (h : d.C w A n xs) (hb : Below w.heap.size w w1) : d.C w1 A n xs := ReadsRow.imp_ h hb (fun _ _ hp => d.K_below hb hp)
theorem R_mono (h : d.R e w base ok v xs) (hok : ∀ k, ok k → ok' k) : d.R e w base ok' v xs := ⟨fun k hk => hok k (h.1 k hk), h.2.imp_ (fun _ _ hp => d.M_mono (fun k hk => ⟨hok k hk.1, hk.2⟩) hp)⟩
theorem R_bound (h : d.R e w base ok v xs) : d.R e w base (fun k => ok k ∧ base ≤ k ∧ k < w.heap.size ∧ ∃ q, q ∈ e :: d.E ∧ ∃ cells, w.heap[k]? = some (.cells cells q (0, 0))) v xs := by
  obtain ⟨h0, inner, ho, hr⟩ := h
  refine ⟨fun k hk => ?_, inner, ho, hr.imp_ (fun _ _ hp => d.M_mono (fun k hk => ?_) (d.M_bound hp))⟩
  · obtain ⟨cells, hc⟩ := own_typed ho k hk
    exact ⟨h0 k hk, own_base ho k hk, own_lt ho k hk, e, List.mem_cons_self, cells, hc⟩
  · obtain ⟨⟨h1, h2⟩, h3, h4, q, hq, hc⟩ := hk
    exact ⟨⟨h1, h3, h4, q, List.mem_cons_of_mem _ hq, hc⟩, h2⟩
theorem R_move (h : d.R e w base ok v xs) (hm : ∀ k, ok k → w1.heap[k]? = w.heap[k]?) : d.R e w1 base ok v xs := by
  obtain ⟨h0, inner, ho, hr⟩ := h
  exact ⟨h0, inner, own_move ho (fun k hk => hm k (h0 k hk)), hr.imp_ (fun _ _ hp => d.M_move (fun k hk => hm k hk.1) hp)⟩
theorem R_lower {base' : Nat} (h : d.R e w base ok v xs) (hb : base' ≤ base) : d.R e w base' ok v xs := by
  obtain ⟨h0, inner, ho, hr⟩ := h
  exact ⟨h0, inner, own_weaken ho hb, hr.imp_ (fun _ _ hp => d.M_lower hb hp)⟩
theorem R_reads (h : d.R e w base ok v xs) : ∃ A c, v = .slice A xs.length c ∧ xs.length ≤ c ∧ d.C w A xs.length xs := by
  obtain ⟨A, c, he, hl, hr⟩ := OwnRow.reads h.2
  exact ⟨A, c, he, hl, hr.imp_ (Below.refl _ _) (fun _ _ hp => d.K_of_M hp)⟩
end
/-! #### the kinds -/
def scalar {α : Type} (enc : α → Value) (h1 : ∀ x, (enc x).oneCell' = true) : Kd α where
  sz := 1
  E := []
  K := fun _ x cs => cs = [enc x]
  M := fun _ _ _ x cs => cs = [enc x]
  K_len := fun h => by rw [h]; rfl
  K_one := fun h u hu => by
    rw [h] at hu
    rw [List.mem_singleton.1 hu]
    exact h1 _
  K_below := fun _ h => h
  K_of_M := fun h => h
  M_mono := fun _ h => h
  M_bound := fun h => h
  M_move := fun _ h => h
  M_lower := fun _ h => h
def int (k : IntKind) : Kd Int := scalar (Value.int k) (fun _ => rfl)
def slice {α : Type} (e : Nat) (d : Kd α) : Kd (List α) where
  sz := 1
  E := e :: d.E
  K := fun w xs cs => ∃ A c, cs = [.slice A xs.length c] ∧ xs.length ≤ c ∧ d.C w A xs.length xs
  M := fun w base ok xs cs => ∃ v, cs = [v] ∧ d.R e w base ok v xs
  K_len := by
    rintro w x cs ⟨A, c, rfl, _⟩
    rfl
  K_one := by
    rintro w x cs ⟨A, c, rfl, _⟩ u hu
    rw [List.mem_singleton.1 hu]
    rfl
  K_below := by
    rintro w w1 x cs hb ⟨A, c, rfl, hl, hr⟩
    exact ⟨A, c, rfl, hl, C_below hr hb⟩
  K_of_M := by
    rintro w base ok x cs ⟨v, rfl, h⟩
    obtain ⟨A, c, rfl, hl, hr⟩ := R_reads h
    exact ⟨A, c, rfl, hl, hr⟩
  M_mono := by
    rintro w base ok ok' x cs hok ⟨v, rfl, h⟩
    exact ⟨v, rfl, R_mono h hok⟩
  M_bound := by
    rintro w base ok x cs ⟨v, rfl, h⟩
    exact ⟨v, rfl, R_bound h⟩
  M_move := by
    rintro w w1 base ok x cs hm ⟨v, rfl, h⟩
    exact ⟨v, rfl, R_move h hm⟩
  M_lower := by
    rintro w base base' ok x cs hb ⟨v, rfl, h⟩
    exact ⟨v, rfl, R_lower h hb⟩
/-- Nothing is of this kind: where the nesting's depth is used up. -/
def bot {α : Type} (sz : Nat) (E : List Nat) : Kd α where
  sz := sz
  E := E
  K := fun _ _ _ => False
  M := fun _ _ _ _ _ => False
  K_len := fun h => h.elim
  K_one := fun h => h.elim
  K_below := fun _ h => h
  K_of_M := fun h => h
  M_mono := fun _ h => h
  M_bound := fun h => h
  M_move := fun _ h => h
  M_lower := fun _ h => h
/-- A type nested in itself: nested at most n deep .. -/
def upto {α : Type} (F : Kd α → Kd α) (sz : Nat) (E : List Nat) : Nat → Kd α
  | 0 => bot sz E
  | n + 1 => F (upto F sz E n)
/-! #### an element of a row that is read; an element appended -/
section
variable {P : Program} {ops : Array Oper} {rest : List Oper} {o : Oper} {a : Act} {Q : Exit → Act → World → Prop} {α : Type}
end
section
variable {P : Program} {ops : Array Oper} {o : Oper} {a : Act} {Q : Exit → Act → World → Prop} {Kc : Act → World → Prop} {α : Type}
end
end Kd
/-! ### 24. Kinds nested in themselves -/
namespace Kd
section
variable {α : Type} {F : Kd α → Kd α} {sz : Nat} {E : List Nat} {hs : ∀ n, (upto F sz E n).sz = sz} {hE : ∀ n q, q ∈ (upto F sz E n).E → q ∈ E}
end
end Kd
/-! ### 25. What is held while another row is written: 'ok' says that its rows are none of that row's block -/
namespace Kd
end Kd
/-! ### 26. Words for a printer that takes every slice by its kind -/
namespace Kd
section
variable {α β : Type} {d : Kd α} {d' : Kd β} {e e' : Nat} {w w1 W : World} {base b b' : Nat} {ok ok' okv oku : Nat → Prop} {v u : Value} {xs : List α} {ys : List β}
end
/-! #### scalars -/
section
variable {w W : World} {A : Option Addr} {n : Nat}
variable {α : Type} {enc : α → Value} {h1 : ∀ x, (enc x).oneCell' = true} {e base g cap : Nat} {ok : Nat → Prop} {xs : List α}
end
/-! #### events: a letter for what make and a literal leave -/
section
variable {P : Program} {ops : Array Oper} {rest : List Oper} {o : Oper} {a : Act} {Q : Exit → Act → World → Prop}
variable {α : Type}
end
end Kd
/-! ### 27. Cuts of a row of one's own: 'xs = xs[:n]' stays a row (R_take); 'xs = xs[k:]' is a row that begins inside its block (Kd.Q), append goes on it too -/
section
variable {P : Program}
end
/-- A row of one's own that may begin inside its block. -/
def QRow (w : World) (base : Nat) (e : TypeId) (size : Nat) (v : Value) (n : Nat) (xs : List Value) : Prop :=
  xs.length = n * size ∧
  ((n = 0 ∧ ∃ A, v = .slice A 0 0 ∧ ∀ a, A = some a → base ≤ a.block ∧ ∃ cur, w.heap[a.block]? = some (.cells cur e (0, 0))) ∨
   ∃ g off cap cur, v = .slice (some ⟨g, off * size, none⟩) n cap ∧ base ≤ g ∧ w.heap[g]? = some (.cells cur e (0, 0)) ∧ n ≤ cap ∧ off + cap ≤ maxLen ∧ cur.size = (off + cap) * size ∧ (cur.toList.drop (off * size)).take (n * size) = xs)
section
variable {w w1 : World} {base n size : Nat} {e : TypeId} {v : Value} {xs : List Value}
/-- What a run of cells written leaves. -/
theorem setCells_far {g : Nat} : ∀ (vs : List Value) (o : Nat) {w : World} (k : Nat), k ≠ g → (w.setCells g o vs).heap[k]? = w.heap[k]?
  | [], _, _, _, _ => rfl
  | v :: r, o, w, k, hk => by
    rw [World.setCells, setCells_far r (o + 1) k hk]
    exact Below.heap_setCell w ⟨g, o, none⟩ v k hk
theorem setCells_same (g : Nat) : ∀ (vs : List Value) (o : Nat) (w : World), (w.setCells g o vs).os = w.os ∧ (w.setCells g o vs).tape = w.tape ∧ (w.setCells g o vs).output = w.output ∧ (w.setCells g o vs).heap.size = w.heap.size
  | [], _, _ => ⟨rfl, rfl, rfl, rfl⟩
  | v :: r, o, w => by
    obtain ⟨h1, h2, h3, h4⟩ := setCells_same g r (o + 1) (w.setCell ⟨g, o, none⟩ v)
    rw [World.setCells]
    exact ⟨h1, h2, h3, by rw [h4]; simp [World.setCell]⟩
theorem setCells_row {g : Nat} {e : TypeId} : ∀ (vs : List Value) (o : Nat) (w : World) (cur : Array Value), w.heap[g]? = some (.cells cur e (0, 0)) → o + vs.length ≤ cur.size →
    ∃ cur', (w.setCells g o vs).heap[g]? = some (.cells cur' e (0, 0)) ∧ cur'.size = cur.size ∧ cur'.toList = cur.toList.take o ++ vs ++ cur.toList.drop (o + vs.length)
  | [], o, w, cur, h, _ => ⟨cur, h, rfl, by simp⟩
  | v :: r, o, w, cur, h, hl => by
    have h2 := blk_set h o v
    simp only [List.length_cons] at hl
    obtain ⟨cur', h3, h4, h5⟩ := setCells_row r (o + 1) (w.setCell ⟨g, o, none⟩ v) _ h2 (by simp; omega)
    refine ⟨cur', h3, by rw [h4]; simp, ?_⟩
    rw [h5, Array.toList_setIfInBounds]
    have ho : o < cur.toList.length := by rw [Array.length_toList]; omega
    rw [List.take_set, List.drop_set_of_lt (by omega)]
    simp only [List.length_cons]
    rw [show o + 1 + r.length = o + (r.length + 1) by omega]
    congr 1
    rw [List.take_succ_eq_append_getElem ho, List.set_append_right _ _ (by rw [List.length_take]; omega)]
    have ho' : o < cur.size := by omega
    simp [Nat.min_eq_left (Nat.le_of_lt ho')]
end
section
variable {P : Program}
end
/-! ### 28. The kinds' words for cuts: R_take; Q (a row that may begin inside its block) with all of R's movers -/
namespace Kd
def Q {α : Type} (d : Kd α) (e : Nat) (w : World) (base : Nat) (ok : Nat → Prop) (v : Value) (xs : List α) : Prop :=
  (∀ k, v.ownBlock = some k → ok k) ∧ ∃ inner, QRow w base e d.sz v xs.length inner ∧ Reps (d.M w base (fun k => ok k ∧ some k ≠ v.ownBlock)) d.sz xs inner
section
variable {α : Type} {d : Kd α} {e : Nat} {w w1 W : World} {base : Nat} {ok ok' : Nat → Prop} {v : Value} {xs : List α}
end
section
variable {P : Program} {ops : Array Oper} {rest : List Oper} {o : Oper} {a : Act} {Q' : Exit → Act → World → Prop} {Kc : Act → World → Prop} {α : Type}
end
end Kd
/-! ### 29. Movers that ask of another row no more than they need: for R and for Q -/
namespace Kd
section
variable {α : Type} {d : Kd α} {e e' : Nat} {w w1 W : World} {base : Nat} {ok : Nat → Prop} {u v : Value} {xs : List α}
end
end Kd
/-! ### 30. Elements written: x[i] = T{..}, x[i].f = v, swaps, in a row of elements of any kind -/
namespace Kd
section
variable {α : Type} {d : Kd α} {e base g n cap : Nat} {ok okp : Nat → Prop} {W : World} {xs : List α}
end
end Kd
/-! ### 31. What came in, put into what is made: 'fixed d w0' (read in w0, whatever happens since), 'or_ a b', 'mix' (a slice that came in, or one that is made) -/
namespace Kd
section
variable {α : Type} {F : Kd α → Kd α} {sz : Nat} {E : List Nat} {hs : ∀ n, (upto F sz E n).sz = sz} {hE : ∀ n q, q ∈ (upto F sz E n).E → q ∈ E}
end
end Kd
/-! ### 32. A whole row appended, of elements of any kind; copy onto a row of scalars of one's own -/
namespace Kd
section
variable {P : Program} {ops : Array Oper} {rest : List Oper} {o : Oper} {a : Act} {Q : Exit → Act → World → Prop} {α : Type}
end
end Kd
/-! ### 33. A store into a row of one's own, as_ an event: no go_simp -/
namespace Kd
section
variable {P : Program} {ops : Array Oper} {rest : List Oper} {o : Oper} {a : Act} {Q : Exit → Act → World → Prop} {α : Type}
end
end Kd
/-! ### 34. Cuts that are only read, of any row -/
namespace Kd
section
variable {α : Type} {k : Kd α} {w : World} {A : Option Addr} {xs : List α} {m c : Nat}
end
end Kd
section
variable {P : Program}
end
/-! ### 35. string(b), b read (a cut too) -/
/-! ### 6. What the printer adds -/
theorem below_step {w W w2 : World} (h : Below w.heap.size w W) (k : Below W.heap.size W w2) : Below w.heap.size w w2 := below_then h h.size k
theorem below_drew1 {base : Nat} {w W : World} (h : Below base w W) : Below base w W.drew := h.drew
namespace Kd
section
variable {α β : Type} {d : Kd α} {d' : Kd β} {e e' base base' n : Nat} {ok ok' : Nat → Prop} {w W w1 W1 : World} {v u : Value} {xs : List α} {ys : List β} {A : Option Addr} {c : Nat}
end
section
variable {α : Type} {enc : α → Value} {h1 : ∀ x, (enc x).oneCell' = true} {w W : World} {A : Option Addr} {n g : Nat} {xs : List α}
end
end Kd
namespace Kd
section
variable {α : Type} {d : Kd α} {e base g : Nat} {ok : Nat → Prop} {w w1 : World} {v : Value} {xs : List α} {o : Obj}
end
end Kd
section
variable {P : Program} {ops : Array Oper} {rest : List Oper} {o : Oper} {a : Act} {Q : Exit → Act → World → Prop}
end
namespace Kd
section
variable {α : Type} {enc : α → Value} {h1 : ∀ x, (enc x).oneCell' = true} {e base g n cap : Nat} {ok : Nat → Prop} {W : World} {xs : List α}
end
end Kd
section
variable {P : Program} {ops : Array Oper} {rest : List Oper} {o : Oper} {a : Act} {Q : Exit → Act → World → Prop}
end
namespace Kd
section
variable {α : Type} {enc : α → Value} {h1 : ∀ x, (enc x).oneCell' = true} {e base g n cap : Nat} {ok : Nat → Prop} {W : World} {xs : List α}
end
end Kd
section
variable {P : Program} {ops : Array Oper} {rest : List Oper} {o : Oper} {a : Act} {Q : Exit → Act → World → Prop} {W : World}
end
/-! ### 36. Events as_ one step of a region that draws (for one_, two_, three_) -/
section
variable {P : Program} {ops : Array Oper} {o : Oper} {a : Act} {Q : Exit → Act → World → Prop} {Kc : Act → World → Prop}
namespace Kd
variable {α : Type}
end Kd
end
/-! ### 37. Results of any shape -/
section
variable {P : Program} {tmps : Array Value} {w : World}
end
/-! ### 38. 'out = append(out[:k], out[k+1:]...)': an element taken out of a row of one's own, in place -/
namespace Kd
section
variable {P : Program} {α : Type}
end
section
variable {P : Program} {ops : Array Oper} {rest : List Oper} {o : Oper} {a : Act} {Q : Exit → Act → World → Prop} {Kc : Act → World → Prop} {α : Type}
end
end Kd
end Go.Proofs.YtaojjpdlfnphiaaDoorW.PrintWords
end
section
-- PRINTED BY print.sh 35421559b90ae4d0a3588c463048766b98c2df88dd9212a6774a882060cdf62d: not written by this session
/-
  PRINTED WORDS, second file: A REGION THAT DRAWS ITS ORDER, WALKED BY HAND, where its last store writes what its own loads read ('x.f = append(x.f, f(i))'). Plain theorems; no macro, no elab. A claim may hold it (turn the namespace's name).
  A load may be taken first in every world that meets S; behind the operations of ds nothing is shown; sound because each of ds waits for what is taken (Region.lastB). The kernel checks it.
  By an AI agent of Go's test side, Mon Nov 16 2026. No person has read it.
-/
namespace Go.Proofs.YtaojjpdlfnphiaaDoorW.PrintLast
section
variable {P : Program} {ops : Array Oper} {Q : Exit → Act → World → Prop} {md : Region.Mode} {S : World → Prop} {ds : List Nat}
end
section
variable {P : Program} {ops : Array Oper} {Q : Exit → Act → World → Prop} {md : Region.Mode} {S : World → Prop} {ds : List Nat}
/-! ### Several operations that write or call may come up: each order is walked, what follows is shown once (join_) -/
theorem i64_w (n : Int) : IntKind.i64.wrap n = Go.RowKit.wrap64 n := by unfold Go.RowKit.wrap64; exact IntKind.wrap_i64 n
theorem i32_w (n : Int) : IntKind.i32.wrap n = Go.RowKit.wrap32 n := by unfold Go.RowKit.wrap32; exact IntKind.wrap_i32 n
end
end Go.Proofs.YtaojjpdlfnphiaaDoorW.PrintLast
end
section
-- PRINTED BY print.sh 35421559b90ae4d0a3588c463048766b98c2df88dd9212a6774a882060cdf62d: not written by this session
/-! ### 50. A region's order in a table, made once a region: each step asks the table (numbers alone), not the operations -/
namespace Go.Proofs.YtaojjpdlfnphiaaDoorW.PrintLast
open Go.Proofs.YtaojjpdlfnphiaaDoorW.PrintWords (Aside0)
section
variable {md : Region.Mode} {ops : Array Oper} {T : Bool × List (List Nat × List Nat)} {l l' li lj lk : Array Bool} {ds : List Nat} {i j k : Nat}
end
end Go.Proofs.YtaojjpdlfnphiaaDoorW.PrintLast
end
section
-- PRINTED BY print.sh 35421559b90ae4d0a3588c463048766b98c2df88dd9212a6774a882060cdf62d: not written by this session
/-! ### 40. Elements whose inner rows lie apart: what is stored into one says nothing of the others.
   S: as_ R, with an owner function f (block to element's index). H: as_ S with a hole: of element i its cells alone are told, its blocks are oki. -/
namespace Go.Proofs.YtaojjpdlfnphiaaDoorW.PrintWords
open Go.RowKit
namespace Kd
/-- An element with its index: its blocks are those that f gives to it. -/
def tag {α : Type} (f : Nat → Nat) (d : Kd α) : Kd (α × Nat) where
  sz := d.sz
  E := d.E
  K := fun w x cs => d.K w x.1 cs
  M := fun w base ok x cs => d.M w base (fun k => ok k ∧ f k = x.2) x.1 cs
  K_len := fun h => d.K_len h
  K_one := fun h => d.K_one h
  K_below := fun hb h => d.K_below hb h
  K_of_M := fun h => d.K_of_M h
  M_mono := fun hok h => d.M_mono (fun k hk => ⟨hok k hk.1, hk.2⟩) h
  M_bound := fun h => d.M_mono (fun _ hk => ⟨⟨hk.1.1, hk.2⟩, hk.1.2⟩) (d.M_bound h)
  M_move := fun hm h => d.M_move (fun k hk => hm k hk.1) h
  M_lower := fun hb h => d.M_lower hb h
/-- The cells themselves. -/
def raw (sz : Nat) : Kd (List Value) where
  sz := sz
  E := []
  K := fun _ x cs => cs = x ∧ cs.length = sz ∧ ∀ u ∈ cs, u.oneCell' = true
  M := fun _ _ _ x cs => cs = x ∧ cs.length = sz ∧ ∀ u ∈ cs, u.oneCell' = true
  K_len := fun h => h.2.1
  K_one := fun h => h.2.2
  K_below := fun _ h => h
  K_of_M := fun h => h
  M_mono := fun _ h => h
  M_bound := fun h => h
  M_move := fun _ h => h
  M_lower := fun _ h => h
/-- A row of elements (type e) of the call's own, no two of which lead to one block. -/
def S {α : Type} (d : Kd α) (e : Nat) (w : World) (base : Nat) (ok : Nat → Prop) (v : Value) (xs : List α) : Prop := ∃ f, (tag f d).R e w base ok v xs.zipIdx
section
variable {α β : Type} {d : Kd α} {d' : Kd β} {e e' : Nat} {w w1 W : World} {base b : Nat} {ok ok' okv oku : Nat → Prop} {u v : Value} {xs : List α} {ys : List β}
end
section
variable {α β : Type} {d : Kd α} {d' : Kd β} {e e' g : Nat} {w w1 W : World} {base b : Nat} {ok ok' okv oku : Nat → Prop} {u v : Value} {xs : List α} {ys : List β}
end
/-! #### append, make, literals: the new element's blocks are none of the elder ones' -/
section
open Classical in
variable {P : Program} {ops : Array Oper} {rest : List Oper} {o : Oper} {a : Act} {Q : Exit → Act → World → Prop} {Kc : Act → World → Prop} {α : Type}
end
/-! #### a row with a hole: element i is lent, its blocks are oki; of it the row says its cells alone -/
section
variable {α β : Type} {d : Kd α} {e e' g n cap : Nat} {w w1 W : World} {base : Nat} {ok ok' oki okp : Nat → Prop} {u v : Value} {xs : List α} {i : Int} {c : List Value}
open Classical in
end
section
variable {P : Program} {ops : Array Oper} {rest : List Oper} {o : Oper} {a : Act} {Q : Exit → Act → World → Prop} {α : Type}
end
end Kd
end Go.Proofs.YtaojjpdlfnphiaaDoorW.PrintWords
end
section
-- PRINTED BY print.sh 35421559b90ae4d0a3588c463048766b98c2df88dd9212a6774a882060cdf62d: not written by this session
/-! ### 45. What a call keeps: all but the blocks of S (the rows that it was given to write) and what is new since -/
namespace Go.Proofs.YtaojjpdlfnphiaaDoorW.PrintWords
open Go.RowKit
section
variable {w W W2 : World} {S S2 S' : Nat → Prop}
end
namespace Kd
section
variable {α : Type} {d : Kd α} {e base n c : Nat} {ok oki S S2 : Nat → Prop} {w w0 W W1 W2 : World} {v : Value} {A : Option Addr} {xs : List α} {i : Int} {cs : List Value}
end
end Kd
end Go.Proofs.YtaojjpdlfnphiaaDoorW.PrintWords
end
section
-- PRINTED BY print.sh 35421559b90ae4d0a3588c463048766b98c2df88dd9212a6774a882060cdf62d: not written by this session
/-! ### 46. Values that share: what is only read, with the blocks it lies in (its footprint 'ok'): Foot, F (a row that is read), FK (an element's cells) -/
namespace Go.Proofs.YtaojjpdlfnphiaaDoorW.PrintWords
open Go.RowKit
/-- P holds in W and in every world that has W's blocks of ok. -/
def Foot (P : World → Prop) (W : World) (ok : Nat → Prop) : Prop := ∀ W' : World, (∀ k, ok k → k < W.heap.size → W'.heap[k]? = W.heap[k]?) → P W'
namespace Foot
variable {P Q : World → Prop} {W W1 : World} {ok ok' : Nat → Prop}
end Foot
namespace Kd
/-- A row that is only read: what it leads to lies in ok. -/
def F {α : Type} (d : Kd α) (W : World) (ok : Nat → Prop) (A : Option Addr) (n : Nat) (xs : List α) : Prop := Foot (fun W => d.C W A n xs) W ok
/-- An element's cells: what they lead to lies in ok. -/
def FK {α : Type} (d : Kd α) (W : World) (ok : Nat → Prop) (x : α) (c : List Value) : Prop := Foot (fun W => d.K W x c) W ok
section
variable {α β : Type} {d : Kd α} {e base n n' cc g N : Nat} {ok ok' okp S : Nat → Prop} {w w0 w1 W W1 : World} {A A' : Option Addr} {u v v1 : Value} {xs : List α} {xs' : List β} {d' : Kd β} {x : α} {c : List Value}
end
end Kd
end Go.Proofs.YtaojjpdlfnphiaaDoorW.PrintWords
end
section
-- PRINTED BY print.sh 35421559b90ae4d0a3588c463048766b98c2df88dd9212a6774a882060cdf62d: not written by this session
/-! ### 47. N: a row of the call's own whose elements share (what they lead to is only read) -/
namespace Go.Proofs.YtaojjpdlfnphiaaDoorW.PrintWords
open Go.RowKit
namespace Kd
section
variable {α : Type} {d : Kd α} {e base n cc g : Nat} {ok ok' okp S : Nat → Prop} {w w1 W W1 : World} {A : Option Addr} {u v v1 : Value} {xs : List α} {x : α} {c : List Value}
/-- A row of elements (type e) of the call's own; what the elements lead to is only read, and is not this row. -/
def N {α : Type} (d : Kd α) (e : Nat) (w : World) (base : Nat) (ok : Nat → Prop) (v : Value) (xs : List α) : Prop :=
  (∀ k, v.ownBlock = some k → ok k) ∧ ∃ rows : List (List Value), rows.length = xs.length ∧ (raw d.sz).R e w base (fun k => some k = v.ownBlock) v rows ∧ ∀ (j : Nat) (x : α) (c : List Value), xs[j]? = some x → rows[j]? = some c → FK d w (fun k => ok k ∧ some k ≠ v.ownBlock) x c
end
end Kd
end Go.Proofs.YtaojjpdlfnphiaaDoorW.PrintWords
end
section
-- PRINTED BY print.sh 35421559b90ae4d0a3588c463048766b98c2df88dd9212a6774a882060cdf62d: not written by this session
/-! ### 53. '==' of structs as_ one Bool -/
namespace Go.Proofs.YtaojjpdlfnphiaaDoorW.PrintWords
open Go.RowKit
section
variable {P : Program} {d : Nat} {xs ys : Array Value} {f : Field} {fs : List Field} {a b : Value} {r s : Bool} {w : World}
/-- The last field that counts. -/
theorem eqf_last (hn : (f.name == "_") = false) (ha : (part f.type xs f.offset).run P w = .ok a w) (hb : (part f.type ys f.offset).run P w = .ok b w) (he : (Op.equalIn d f.type a b).run P w = .ok r w) : (Op.eqFields d xs ys [f]).run P w = .ok r w := by
  have hn' : f.name ≠ "_" := by simpa using hn
  simp only [Op.eqFields, if_pos hn', Sem.run_bind, ha, hb, he, Result.andThen_ok]
  cases r <;> simp
theorem eqf_cons (hn : (f.name == "_") = false) (ha : (part f.type xs f.offset).run P w = .ok a w) (hb : (part f.type ys f.offset).run P w = .ok b w) (he : (Op.equalIn d f.type a b).run P w = .ok r w) (hr : (Op.eqFields d xs ys fs).run P w = .ok s w) : (Op.eqFields d xs ys (f :: fs)).run P w = .ok (r && s) w := by
  have hn' : f.name ≠ "_" := by simpa using hn
  rw [Op.eqFields]
  simp only [if_pos hn', Sem.run_bind, ha, hb, he, Result.andThen_ok]
  cases r
  · simp
  · simpa using hr
theorem eqA_of {t : TypeId} {fs : Array Field} (hu : P.underlying t = some (.struct fs)) (hp : P.stoodInHeld t = false) (h : (Op.eqFields d xs ys fs.toList).run P w = .ok r w) : (Op.equalIn (d + 1) t (.agg xs) (.agg ys)).run P w = .ok r w := by
  have hf : P.fieldsOf t = fs := by simp [Program.fieldsOf, hu]
  rw [run_equalIn_struct (P := P) w d t xs ys (by rw [hf]; exact hu) hp, hf]
  exact h
end
end Go.Proofs.YtaojjpdlfnphiaaDoorW.PrintWords
end
section
-- PRINTED BY print.sh 35421559b90ae4d0a3588c463048766b98c2df88dd9212a6774a882060cdf62d: not written by this session
/-! ### 55. Reps told from the front, no append: for rows of one-cell elements and of wider ones -/
namespace Go.Proofs.YtaojjpdlfnphiaaDoorW.PrintWords
end Go.Proofs.YtaojjpdlfnphiaaDoorW.PrintWords
end
section
-- PRINTED BY print.sh 35421559b90ae4d0a3588c463048766b98c2df88dd9212a6774a882060cdf62d: not written by this session
/-! ### 58. A guarded operation whose guard is known to want it: the same goal without the guard -/
namespace Go.Proofs.YtaojjpdlfnphiaaDoorW.PrintWords
open Go.RowKit
section
variable {P : Program} {ops : Array Oper} {rest : List Oper} {o : Oper} {a : Act} {Q : Exit → Act → World → Prop} {W : World}
end
end Go.Proofs.YtaojjpdlfnphiaaDoorW.PrintWords
end
section
-- PRINTED BY print.sh 35421559b90ae4d0a3588c463048766b98c2df88dd9212a6774a882060cdf62d: not written by this session
-- PRINTED WORDS (module Derived/Print/More.lean): go-gate-2's additions: an AI agent of Go's test side, Tue Nov 17 2026; no person has read it. Lean checks it.
namespace Go.Proofs.YtaojjpdlfnphiaaDoorW.PrintMore
open Go.RowKit Go.Proofs.YtaojjpdlfnphiaaDoorW.PrintWords
namespace Kd
open Go.Proofs.YtaojjpdlfnphiaaDoorW.PrintWords.Kd
end Kd
namespace Kd
open Go.Proofs.YtaojjpdlfnphiaaDoorW.PrintWords.Kd
section
variable {α : Type} {d : Kd α} {e base g N : Nat} {ok : Nat → Prop} {W w1 : World} {u v : Value} {xs : List α}
end
end Kd
/-- 'max' and 'min' of two whole numbers. -/
theorem max2_int (k k' : IntKind) (x y : Int) : Builtin.max2 (.int k x) (.int k' y) = pure (.int k (if x < y then y else x)) := by simp only [Builtin.max2, gt_iff_lt]
theorem min2_int (k k' : IntKind) (x y : Int) : Builtin.min2 (.int k x) (.int k' y) = pure (.int k (if y < x then y else x)) := by simp only [Builtin.min2]
theorem max_two (ats : Array TypeId) (ty : TypeId) (a b : Value) : Builtin.max_ ats ty #[a, b] = (Builtin.max2 a b >>= fun s => pure s) := by simp only [Builtin.max_, List.foldlM_cons, List.foldlM_nil]
theorem min_two (ats : Array TypeId) (ty : TypeId) (a b : Value) : Builtin.min_ ats ty #[a, b] = (Builtin.min2 a b >>= fun s => pure s) := by simp only [Builtin.min_, List.foldlM_cons, List.foldlM_nil]
theorem max_three (ats : Array TypeId) (ty : TypeId) (a b c : Value) : Builtin.max_ ats ty #[a, b, c] = (Builtin.max2 a b >>= fun s => Builtin.max2 s c >>= fun s => pure s) := by simp only [Builtin.max_, List.foldlM_cons, List.foldlM_nil]
theorem min_three (ats : Array TypeId) (ty : TypeId) (a b c : Value) : Builtin.min_ ats ty #[a, b, c] = (Builtin.min2 a b >>= fun s => Builtin.min2 s c >>= fun s => pure s) := by simp only [Builtin.min_, List.foldlM_cons, List.foldlM_nil]
theorem max_four (ats : Array TypeId) (ty : TypeId) (a b c d : Value) : Builtin.max_ ats ty #[a, b, c, d] = (Builtin.max2 a b >>= fun s => Builtin.max2 s c >>= fun s => Builtin.max2 s d >>= fun s => pure s) := by simp only [Builtin.max_, List.foldlM_cons, List.foldlM_nil]
theorem min_four (ats : Array TypeId) (ty : TypeId) (a b c d : Value) : Builtin.min_ ats ty #[a, b, c, d] = (Builtin.min2 a b >>= fun s => Builtin.min2 s c >>= fun s => Builtin.min2 s d >>= fun s => pure s) := by simp only [Builtin.min_, List.foldlM_cons, List.foldlM_nil]
end Go.Proofs.YtaojjpdlfnphiaaDoorW.PrintMore
namespace Go.Proofs.YtaojjpdlfnphiaaDoorW.PrintWords
open Go.RowKit
section
variable {P : Program} {ops : Array Oper} {rest : List Oper} {o : Oper} {a : Act} {Q : Exit → Act → World → Prop} {W : World}
end
namespace Kd
section
variable {α : Type} {d : Kd α} {e base : Nat} {ok : Nat → Prop} {W w1 : World} {v : Value} {xs : List α}
end
section
variable {α : Type} {d : Kd α} {e base g n cap : Nat} {ok oki okp : Nat → Prop} {W : World} {xs : List α} {i : Int} {c : List Value}
end
section
variable {α : Type} {d : Kd α} {e base b b' g N : Nat} {ok ok1 : Nat → Prop} {W W2 w1 : World} {u v : Value} {xs ys : List α} {S : Nat → Prop}
end
end Kd
end Go.Proofs.YtaojjpdlfnphiaaDoorW.PrintWords
namespace Go.Proofs.YtaojjpdlfnphiaaDoorW.PrintWords
open Go.RowKit
namespace Kd
/-- A row that is only read, told by its value: its form, its length, what it leads to (in ok). e and base say nothing; they make it as_ the others are. -/
def V {α : Type} (d : Kd α) (_e : Nat) (W : World) (_base : Nat) (ok : Nat → Prop) (v : Value) (xs : List α) : Prop := ∃ A c, v = .slice A xs.length c ∧ xs.length ≤ c ∧ F d W ok A xs.length xs
section
variable {α β : Type} {d : Kd α} {e base base' n m c g N' lo hi : Nat} {ok ok' S : Nat → Prop} {w W w1 : World} {A : Option Addr} {ad : Addr} {u v v1 : Value} {xs : List α}
end
end Kd
end Go.Proofs.YtaojjpdlfnphiaaDoorW.PrintWords
end
section
/- Floats in a walk: their comparisons as_ plain Bools on the bits, a float as_ a one-cell kind. Conditions: none. -/
namespace Go.Proofs.YtaojjpdlfnphiaaDoorW.PrintWords
open Go.RowKit
/-- '==' of two float64 by their bits. -/
def feq (a b : Nat) : Bool := Ieee.double.order a b == some .eq
def fne (a b : Nat) : Bool := !(feq a b)
def flt (a b : Nat) : Bool := Ieee.double.order a b == some .lt
def fgt (a b : Nat) : Bool := Ieee.double.order a b == some .gt
def fle (a b : Nat) : Bool := flt a b || feq a b
def fge (a b : Nat) : Bool := fgt a b || feq a b
section
variable (t : TypeId) (a b : Nat)
@[go_sem] theorem binOp_f64_eql : binOp .eql t (.float .f64 a) (.float .f64 b) = pure (.bool (feq a b)) := by simp [binOp, Op.floatCmp, feq, FloatKind.format]
@[go_sem] theorem binOp_f64_neq : binOp .neq t (.float .f64 a) (.float .f64 b) = pure (.bool (fne a b)) := by simp [binOp, Op.floatCmp, fne, feq, FloatKind.format, bne]
@[go_sem] theorem binOp_f64_lss : binOp .lss t (.float .f64 a) (.float .f64 b) = pure (.bool (flt a b)) := by simp [binOp, Op.floatCmp, flt, FloatKind.format]
@[go_sem] theorem binOp_f64_gtr : binOp .gtr t (.float .f64 a) (.float .f64 b) = pure (.bool (fgt a b)) := by simp [binOp, Op.floatCmp, fgt, FloatKind.format]
@[go_sem] theorem binOp_f64_leq : binOp .leq t (.float .f64 a) (.float .f64 b) = pure (.bool (fle a b)) := by simp [binOp, Op.floatCmp, fle, flt, feq, FloatKind.format]
@[go_sem] theorem binOp_f64_geq : binOp .geq t (.float .f64 a) (.float .f64 b) = pure (.bool (fge a b)) := by simp [binOp, Op.floatCmp, fge, fgt, feq, FloatKind.format]
end
/-- A quotient that is a number (or an infinity): the model's own; where it is none, its bits are drawn: not told here. -/
def fquok (a b : Nat) : Bool := (Ieee.double.div a b).isSome
def fquo (a b : Nat) : Nat := (Ieee.double.div a b).getD 0
section
variable {P : Program} (w : World)
@[go_sem] theorem run_f64_quo (t : TypeId) (a b : Nat) (h : fquok a b = true) : (binOp .quo t (.float .f64 a) (.float .f64 b)).run P w = .ok (.float .f64 (fquo a b)) w := by
  unfold fquok at h
  obtain ⟨r, hr⟩ := Option.isSome_iff_exists.1 h
  simp [binOp, Op.floatArith, FloatKind.format, fquo, hr]
@[go_sem] theorem run_equalIn_f64 (d : Nat) (t : TypeId) (a b : Nat) (h : P.underlying t = some (.float .f64)) : (Op.equalIn (d + 1) t (.float .f64 a) (.float .f64 b)).run P w = .ok (feq a b) w := by
  simp [Op.equalIn, run_underlying h, feq, Op.floatEq, FloatKind.format]
@[go_sem] theorem run_store_f64 (a : Addr) (m : Mode) (b : Nat) : (store a (.float .f64 b) m).run P w = stored P w a (.float .f64 b) m := run_store P w a _ m rfl
end
/-- math.Float64bits has no body: its call is one step. -/
theorem run_f64bits {P : Program} (f : FuncId) {fn : Func} (hf : P.funcs[f]? = some fn) (hname : (fn.name == "runtime.NumGoroutine") = false)
    (hb : fn.body.isNone = true) (hn : Extern.findNext fn = none) (he : Extern.find fn = some Extern.MathFloatBits.float64bits) (b : Nat) (w : World) :
    (callFunc f #[.float .f64 b]).run P w = .ok (.value (.int .u64 (b : Int))) w := by
  rw [run_callFunc_extern hf hname hb hn he]
  rfl
section
variable {P : Program} {ops : Array Oper} {rest : List Oper} {o : Oper} {a : Act} {Q : Exit → Act → World → Prop}
end
namespace Kd
end Kd
section
variable {P : Program} {ops : Array Oper} {rest : List Oper} {o o2 : Oper} {a : Act} {Q : Exit → Act → World → Prop}
end
end Go.Proofs.YtaojjpdlfnphiaaDoorW.PrintWords
end
section
-- Printed by a program of this session over the translation; Lean checks it.
namespace Go.Proofs.YtaojjpdlfnphiaaDoor.PDescKinds
open Go.RowKit Go.Proofs.YtaojjpdlfnphiaaDoorW.PrintWords Go.Proofs.YtaojjpdlfnphiaaDoorW.PrintLast Go.Proofs.YtaojjpdlfnphiaaDoorW.PrintMore
attribute [local go_sem] max2_int min2_int max_two min_two max_three min_three max_four min_four   -- for this text's walks alone
set_option linter.unusedVariables false
set_option linter.unusedSimpArgs false
def errW : Option Int → Value
  | none => .nilIface
  | some c => .iface 0 (.int .i64 c)
theorem errW_none : errW none = .nilIface := rfl
theorem errW_some (c : Int) : errW (some c) = .iface 0 (.int .i64 c) := rfl
-- the values' own types
/-! #### struct type 24 -/
/-! #### struct type 27 -/
/-! #### struct type 138 -/
end Go.Proofs.YtaojjpdlfnphiaaDoor.PDescKinds
end
section
-- Printed by a program of this session over the translation; Lean checks it.
namespace Go.Proofs.YtaojjpdlfnphiaaDoor.PDescKinds
open Go.RowKit Go.Proofs.YtaojjpdlfnphiaaDoorW.PrintWords Go.Proofs.YtaojjpdlfnphiaaDoorW.PrintLast Go.Proofs.YtaojjpdlfnphiaaDoorW.PrintMore
attribute [local go_sem] max2_int min2_int max_two min_two max_three min_three max_four min_four   -- for this text's walks alone
set_option linter.unusedVariables false
set_option linter.unusedSimpArgs false
theorem eqA24 (d : Nat) (w : World) (x0 y0 : Int) (x1 y1 : Bool) (x2 y2 : Nat) (x3 y3 : ByteArray) (x4 y4 : Int) :
    (Op.equalIn (d + 2) 24 (.agg #[.int .i64 x0, .bool x1, .float .f64 x2, .string x3, .int .i64 x4]) (.agg #[.int .i64 y0, .bool y1, .float .f64 y2, .string y3, .int .i64 y4])).run Tryd.prog w = .ok (x0 == y0 && (x1 == y1 && (feq x2 y2 && (x3.toList == y3.toList && (x4 == y4))))) w := by
  refine eqA_of Tryd.underlying24 (by kernel_rfl) ?_
  refine eqf_cons (by rfl) (by go_simp; rfl) (by go_simp; rfl) (by go_simp) ?_
  refine eqf_cons (by rfl) (by go_simp; rfl) (by go_simp; rfl) (by go_simp) ?_
  refine eqf_cons (by rfl) (by go_simp; rfl) (by go_simp; rfl) (by go_simp) ?_
  refine eqf_cons (by rfl) (by go_simp; rfl) (by go_simp; rfl) (by go_simp) ?_
  exact eqf_last (by rfl) (by go_simp; rfl) (by go_simp; rfl) (by go_simp)
end Go.Proofs.YtaojjpdlfnphiaaDoor.PDescKinds
end
section
-- Printed by a program of this session over the translation; Lean checks it.
namespace Go.Proofs.YtaojjpdlfnphiaaDoor.PDescKinds
open Go.RowKit Go.Proofs.YtaojjpdlfnphiaaDoorW.PrintWords Go.Proofs.YtaojjpdlfnphiaaDoorW.PrintLast Go.Proofs.YtaojjpdlfnphiaaDoorW.PrintMore
attribute [local go_sem] max2_int min2_int max_two min_two max_three min_three max_four min_four   -- for this text's walks alone
set_option linter.unusedVariables false
set_option linter.unusedSimpArgs false
attribute [local go_sem high] eqA24
/-! ### desc_absent: function 91 -/
-- NOT PRINTED: function 67 (math_Float64bits)
-- NOT PRINTED: function 136 (utf8_decodeRuneInStringSlow)
/-! ### utf8_DecodeRuneInString: function 135 -/
-- NEEDS @SEAT@Shelf
/-- The library's two tables of UTF-8 stand as_ they were laid. -/
abbrev Tabs (w : World) : Prop := Lib.Utf8Tabs 1 2 w
theorem tabs_b {w w' : World} (h : Tabs w) (hb : Below w.heap.size w w') : Tabs w' := Utf8Tabs_below h hb
def utf8_DecodeRuneInString.f (a0 : ByteArray) : Option (Int × Int) := some ((Lib.decodeGo a0).1, (Lib.decodeGo a0).2)
theorem utf8_DecodeRuneInString.calls (a0 : ByteArray) (r0 : Int) (r1 : Int) (w : World) (ht : Tabs w) (h : utf8_DecodeRuneInString.f a0 = some (r0, r1)) :
    Calls Tryd.prog 135 #[.string a0] w fun e w' => e = .returned (.tuple #[.int .i32 r0, .int .i64 r1]) ∧ Below w.heap.size w w' := by
  obtain ⟨rfl, rfl⟩ := Prod.mk.inj (Option.some.inj h)
  exact Tryd.utf8_DecodeRuneInString a0 w ht
/-! ### units_point: function 132 -/
def units_point.j0 : Nat → ByteArray → Int → Int → Bool → Option (Int × Int)
  | 0, _, _, _, _ => none
  | k + 1, x0, x4, x5, x16 => if x16 = true then (some (x4, x5)) else (if (x0.size : Int) ≥ 3 then (if 0 < (x0.size : Int) then (if (bt x0 0) = 237 then (if 1 < (x0.size : Int) then (if (bt x0 1) ≥ 160 then (if (bt x0 1) ≤ 191 then (if 2 < (x0.size : Int) then (if (Go.bits .and .u8 (bt x0 2) 192) = 128 then (some (Go.bits .or .i32 (Go.bits .or .i32 53248 (wrap32 ((wrap32 (Go.bits .and .u8 (bt x0 1) 63)) * 64))) (wrap32 (Go.bits .and .u8 (bt x0 2) 63)), 3)) else (some (0, 0))) else (none)) else (some (0, 0))) else (some (0, 0))) else (none)) else (some (0, 0))) else (none)) else (some (0, 0)))
def units_point.f (k : Nat) (a0 : ByteArray) : Option (Int × Int) := (utf8_DecodeRuneInString.f a0).bind fun bt104 => (if bt104.1 = 65533 then (units_point.j0 k a0 bt104.1 bt104.2 (bt104.2 == 3)) else (units_point.j0 k a0 bt104.1 bt104.2 true))
set_option maxHeartbeats 8000000 in
set_option maxRecDepth 100000 in
theorem units_point.calls (k : Nat) (a0 : ByteArray) (r1 : Int) (r2 : Int) (w : World) (ht : Tabs w) (h : units_point.f k a0 = some (r1, r2)) :
    Calls Tryd.prog 132 #[.string a0] w fun e w' => e = .returned (.tuple #[.int .i32 r1, .int .i64 r2]) ∧ Below w.heap.size w w' := by
  have HT := Aside0.mk ht
  clear ht
  have HB := Aside0.mk (Below.refl w.heap.size w)
  have H : ((utf8_DecodeRuneInString.f a0).bind fun bt104 => (if bt104.1 = 65533 then (units_point.j0 k a0 bt104.1 bt104.2 (bt104.2 == 3)) else (units_point.j0 k a0 bt104.1 bt104.2 true))) = some (r1, r2) := h
  clear h
  replace H := Option.bind_eq_some_iff.mp H
  obtain ⟨⟨t104, t105⟩, A20, H⟩ := H
  replace H : (if t104 = 65533 then (units_point.j0 k a0 t104 t105 (t105 == 3)) else (units_point.j0 k a0 t104 t105 true)) = some (r1, r2) := H
  have A2 := Aside0.mk A20
  clear A20
  have HC3 := Aside0.mk H
  clear H
  go_enter Tryd.func132, Tryd.ntmps132
  go_upto_region 2 with (first | (go_at_call 135; (with_reducible refine (utf8_DecodeRuneInString.calls a0 t104 t105 _ ?side1 A2.out).mono ?_); (case side1 => exact tabs_b HT.out (by repeat (first | (with_reducible first | exact HB.out | apply below_alloc | apply pw_below_drewN | apply below_drew1) | exact HB.out))); rintro e w4 ⟨rfl, hb⟩; have n0_ := Aside0.mk (below_step (by repeat (first | (with_reducible first | exact HB.out | apply below_alloc | apply pw_below_drewN | apply below_drew1) | exact HB.out)) hb); clear HB; have HB := n0_; clear n0_; (try clear hb); (try clear hb2); (try clear hk); (try clear hi)))
  repeat (go_quiet (first | (go_at_call 135; (with_reducible refine (utf8_DecodeRuneInString.calls a0 t104 t105 _ ?side1 A2.out).mono ?_); (case side1 => exact tabs_b HT.out (by repeat (first | (with_reducible first | exact HB.out | apply below_alloc | apply pw_below_drewN | apply below_drew1) | exact HB.out))); rintro e w4 ⟨rfl, hb⟩; have n0_ := Aside0.mk (below_step (by repeat (first | (with_reducible first | exact HB.out | apply below_alloc | apply pw_below_drewN | apply below_drew1) | exact HB.out)) hb); clear HB; have HB := n0_; clear n0_; (try clear hb); (try clear hb2); (try clear hk); (try clear hi))); go_upto_region 2 with (first | (go_at_call 135; (with_reducible refine (utf8_DecodeRuneInString.calls a0 t104 t105 _ ?side1 A2.out).mono ?_); (case side1 => exact tabs_b HT.out (by repeat (first | (with_reducible first | exact HB.out | apply below_alloc | apply pw_below_drewN | apply below_drew1) | exact HB.out))); rintro e w4 ⟨rfl, hb⟩; have n0_ := Aside0.mk (below_step (by repeat (first | (with_reducible first | exact HB.out | apply below_alloc | apply pw_below_drewN | apply below_drew1) | exact HB.out)) hb); clear HB; have HB := n0_; clear n0_; (try clear hb); (try clear hb2); (try clear hk); (try clear hi))))
  (try simp only [Act.put, List.setIfInBounds_toArray, List.set_cons_zero, List.set_cons_succ])
  go_cut [16] (fun v16 wc => ∃ (kq : Nat) (x16_2 : Bool), v16 = .bool x16_2 ∧ Aside0 (units_point.j0 kq a0 t104 t105 x16_2 = some (r1, r2)) ∧ Aside0 (kq ≤ k) ∧ Aside0 (Below w.heap.size w wc))
  case first =>
    have H := HC3.out
    clear HC3
    by_cases c5 : t104 = 65533
    · rw [if_pos c5] at H
      have c5b0 : (t104 == 65533) = true := beq_iff_eq.mpr c5
      have c5b1 : (t104 != 65533) = false := bne_eq_false_iff_eq.mpr c5
      clear c5
      (first | rw [c5b0] | (simp only [i64_w, i32_w]; rw [c5b0]) | rw [c5b2] | skip)
      have H' := Aside0.mk H
      clear H
      go_wp2
      repeat (go_quiet (fail); try go_wp2)
      go_meet
      case rel => exact ⟨_, ((t105 == 3)), (by first | rfl | (simp; done) | (simp [*]; done)), H', ⟨by first | omega | exact Nat.le_refl _⟩, ⟨by repeat (first | (with_reducible first | exact HB.out | apply below_alloc | apply pw_below_drewN | apply below_drew1) | exact HB.out)⟩⟩
    · rw [if_neg c5] at H
      have c5b0 : (t104 == 65533) = false := beq_eq_false_iff_ne.mpr c5
      have c5b1 : (t104 != 65533) = true := bne_iff_ne.mpr c5
      (first | rw [c5b0] | (simp only [i64_w, i32_w]; rw [c5b0]) | rw [c5b2] | skip)
      have H' := Aside0.mk H
      clear H
      go_wp2
      repeat (go_quiet (fail); try go_wp2)
      go_meet
      case rel => exact ⟨_, (true), (by first | rfl | (simp; done) | (simp [*]; done)), H', ⟨by first | omega | exact Nat.le_refl _⟩, ⟨by repeat (first | (with_reducible first | exact HB.out | apply below_alloc | apply pw_below_drewN | apply below_drew1) | exact HB.out)⟩⟩
  case rest =>
    clear HC3
    try clear c1
    try clear p2
    try clear c5
    try clear c5b0
    try clear c5b1
    try clear c5b2
    obtain ⟨kq, x16_2, rfl, HA, HJ2, HB⟩ := hcut
    cases kq with
    | zero => exact absurd HA.out (by simp [units_point.j0])
    | succ kj2 =>
      have H := HA.out
      clear HA
      simp only [units_point.j0] at H
      by_cases c6 : x16_2 = true
      · subst c6
        have H1 : (some (t104, t105)) = some (r1, r2) := by rw [if_pos rfl] at H; exact H
        clear H
        have H := H1
        clear H1
        simp only [Option.some.injEq, Prod.mk.injEq] at H
        obtain ⟨rfl, rfl⟩ := H
        go_wp2
        repeat (go_quiet (fail); try go_wp2)
        go_ret2
        exact ⟨by first | rfl | (simp [errW_none, errW_some] <;> rfl) | (simp [*, errW_none, errW_some] <;> rfl), by repeat (first | (with_reducible first | exact HB.out | apply below_alloc | apply pw_below_drewN | apply below_drew1) | exact HB.out)⟩
      · replace c6 := Bool.eq_false_iff.mpr c6
        subst c6
        have H1 : (if (a0.size : Int) ≥ 3 then (if 0 < (a0.size : Int) then (if (bt a0 0) = 237 then (if 1 < (a0.size : Int) then (if (bt a0 1) ≥ 160 then (if (bt a0 1) ≤ 191 then (if 2 < (a0.size : Int) then (if (Go.bits .and .u8 (bt a0 2) 192) = 128 then (some (Go.bits .or .i32 (Go.bits .or .i32 53248 (wrap32 ((wrap32 (Go.bits .and .u8 (bt a0 1) 63)) * 64))) (wrap32 (Go.bits .and .u8 (bt a0 2) 63)), 3)) else (some (0, 0))) else (none)) else (some (0, 0))) else (some (0, 0))) else (none)) else (some (0, 0))) else (none)) else (some (0, 0))) = some (r1, r2) := by rw [if_neg (show ¬ (false = true) by decide)] at H; exact H
        clear H
        have H := H1
        clear H1
        by_cases c7 : (a0.size : Int) ≥ 3
        · rw [if_pos c7] at H
          have c7b0 : decide (3 ≤ (a0.size : Int)) = true := decide_eq_true c7
          have c7b1 : decide (3 ≤ a0.size) = true := decide_eq_true (by omega)
          clear c7
          by_cases c8 : 0 < (a0.size : Int)
          · rw [if_pos c8] at H
            have c8b0 : decide (0 < (a0.size : Int)) = true := decide_eq_true c8
            have c8b1 : decide (0 < a0.size) = true := decide_eq_true (by omega)
            clear c8
            by_cases c10 : (bt a0 0) = 237
            · rw [if_pos c10] at H
              have c10b0 : ((bt a0 0) == 237) = true := beq_iff_eq.mpr c10
              have c10b1 : ((bt a0 0) != 237) = false := bne_eq_false_iff_eq.mpr c10
              clear c10
              by_cases c11 : 1 < (a0.size : Int)
              · rw [if_pos c11] at H
                have c11b0 : decide (1 < (a0.size : Int)) = true := decide_eq_true c11
                have c11b1 : decide (1 < a0.size) = true := decide_eq_true (by omega)
                clear c11
                by_cases c13 : (bt a0 1) ≥ 160
                · rw [if_pos c13] at H
                  have c13b0 : decide (160 ≤ (bt a0 1)) = true := decide_eq_true c13
                  clear c13
                  by_cases c15 : (bt a0 1) ≤ 191
                  · rw [if_pos c15] at H
                    have c15b0 : decide ((bt a0 1) ≤ 191) = true := decide_eq_true c15
                    clear c15
                    by_cases c16 : 2 < (a0.size : Int)
                    · rw [if_pos c16] at H
                      have c16b0 : decide (2 < (a0.size : Int)) = true := decide_eq_true c16
                      have c16b1 : decide (2 < a0.size) = true := decide_eq_true (by omega)
                      clear c16
                      by_cases c18 : (Go.bits .and .u8 (bt a0 2) 192) = 128
                      · rw [if_pos c18] at H
                        have c18b0 : ((Go.bits .and .u8 (bt a0 2) 192) == 128) = true := beq_iff_eq.mpr c18
                        have c18b1 : ((Go.bits .and .u8 (bt a0 2) 192) != 128) = false := bne_eq_false_iff_eq.mpr c18
                        clear c18
                        simp only [Option.some.injEq, Prod.mk.injEq] at H
                        obtain ⟨rfl, rfl⟩ := H
                        have p9 : 0 ≤ (0 : Int) := (by omega)
                        have q9 : 0 < a0.size := (by have : (0 : Int) < (a0.size : Int) := of_decide_eq_true (by first | (with_reducible assumption) | assumption); omega)
                        have hx9 : ∀ h : 0 < a0.size, ((a0[0]'h).toNat : Int) = bt a0 0 := bt_at a0 0
                        clear p9
                        have qi9 : (0 < (a0.size : Int)) = True := eq_true (of_decide_eq_true (by first | (with_reducible assumption) | assumption))
                        replace q9 := eq_true q9
                        have p12 : 0 ≤ (1 : Int) := (by omega)
                        have q12 : 1 < a0.size := (by have : (1 : Int) < (a0.size : Int) := of_decide_eq_true (by first | (with_reducible assumption) | assumption); omega)
                        have hx12 : ∀ h : 1 < a0.size, ((a0[1]'h).toNat : Int) = bt a0 1 := bt_at a0 1
                        clear p12
                        have qi12 : (1 < (a0.size : Int)) = True := eq_true (of_decide_eq_true (by first | (with_reducible assumption) | assumption))
                        replace q12 := eq_true q12
                        have p14 : 0 ≤ (1 : Int) := (by omega)
                        have q14 : 1 < a0.size := (by have : (1 : Int) < (a0.size : Int) := of_decide_eq_true (by first | (with_reducible assumption) | assumption); omega)
                        have hx14 : ∀ h : 1 < a0.size, ((a0[1]'h).toNat : Int) = bt a0 1 := bt_at a0 1
                        clear p14
                        have qi14 : (1 < (a0.size : Int)) = True := eq_true (of_decide_eq_true (by first | (with_reducible assumption) | assumption))
                        replace q14 := eq_true q14
                        have p17 : 0 ≤ (2 : Int) := (by omega)
                        have q17 : 2 < a0.size := (by have : (2 : Int) < (a0.size : Int) := of_decide_eq_true (by first | (with_reducible assumption) | assumption); omega)
                        have hx17 : ∀ h : 2 < a0.size, ((a0[2]'h).toNat : Int) = bt a0 2 := bt_at a0 2
                        clear p17
                        have qi17 : (2 < (a0.size : Int)) = True := eq_true (of_decide_eq_true (by first | (with_reducible assumption) | assumption))
                        replace q17 := eq_true q17
                        have p19 : 0 ≤ (1 : Int) := (by omega)
                        have q19 : 1 < a0.size := (by have : (1 : Int) < (a0.size : Int) := of_decide_eq_true (by first | (with_reducible assumption) | assumption); omega)
                        have hx19 : ∀ h : 1 < a0.size, ((a0[1]'h).toNat : Int) = bt a0 1 := bt_at a0 1
                        clear p19
                        have qi19 : (1 < (a0.size : Int)) = True := eq_true (of_decide_eq_true (by first | (with_reducible assumption) | assumption))
                        replace q19 := eq_true q19
                        have p20 : 0 ≤ (2 : Int) := (by omega)
                        have q20 : 2 < a0.size := (by have : (2 : Int) < (a0.size : Int) := of_decide_eq_true (by first | (with_reducible assumption) | assumption); omega)
                        have hx20 : ∀ h : 2 < a0.size, ((a0[2]'h).toNat : Int) = bt a0 2 := bt_at a0 2
                        clear p20
                        have qi20 : (2 < (a0.size : Int)) = True := eq_true (of_decide_eq_true (by first | (with_reducible assumption) | assumption))
                        replace q20 := eq_true q20
                        go_wp2
                        repeat (go_quiet (fail); try go_wp2)
                        go_ret2
                        exact ⟨by first | rfl | (simp [errW_none, errW_some] <;> rfl) | (simp [*, errW_none, errW_some] <;> rfl), by repeat (first | (with_reducible first | exact HB.out | apply below_alloc | apply pw_below_drewN | apply below_drew1) | exact HB.out)⟩
                      · rw [if_neg c18] at H
                        have c18b0 : ((Go.bits .and .u8 (bt a0 2) 192) == 128) = false := beq_eq_false_iff_ne.mpr c18
                        have c18b1 : ((Go.bits .and .u8 (bt a0 2) 192) != 128) = true := bne_iff_ne.mpr c18
                        simp only [Option.some.injEq, Prod.mk.injEq] at H
                        obtain ⟨rfl, rfl⟩ := H
                        have p9 : 0 ≤ (0 : Int) := (by omega)
                        have q9 : 0 < a0.size := (by have : (0 : Int) < (a0.size : Int) := of_decide_eq_true (by first | (with_reducible assumption) | assumption); omega)
                        have hx9 : ∀ h : 0 < a0.size, ((a0[0]'h).toNat : Int) = bt a0 0 := bt_at a0 0
                        clear p9
                        have qi9 : (0 < (a0.size : Int)) = True := eq_true (of_decide_eq_true (by first | (with_reducible assumption) | assumption))
                        replace q9 := eq_true q9
                        have p12 : 0 ≤ (1 : Int) := (by omega)
                        have q12 : 1 < a0.size := (by have : (1 : Int) < (a0.size : Int) := of_decide_eq_true (by first | (with_reducible assumption) | assumption); omega)
                        have hx12 : ∀ h : 1 < a0.size, ((a0[1]'h).toNat : Int) = bt a0 1 := bt_at a0 1
                        clear p12
                        have qi12 : (1 < (a0.size : Int)) = True := eq_true (of_decide_eq_true (by first | (with_reducible assumption) | assumption))
                        replace q12 := eq_true q12
                        have p14 : 0 ≤ (1 : Int) := (by omega)
                        have q14 : 1 < a0.size := (by have : (1 : Int) < (a0.size : Int) := of_decide_eq_true (by first | (with_reducible assumption) | assumption); omega)
                        have hx14 : ∀ h : 1 < a0.size, ((a0[1]'h).toNat : Int) = bt a0 1 := bt_at a0 1
                        clear p14
                        have qi14 : (1 < (a0.size : Int)) = True := eq_true (of_decide_eq_true (by first | (with_reducible assumption) | assumption))
                        replace q14 := eq_true q14
                        have p17 : 0 ≤ (2 : Int) := (by omega)
                        have q17 : 2 < a0.size := (by have : (2 : Int) < (a0.size : Int) := of_decide_eq_true (by first | (with_reducible assumption) | assumption); omega)
                        have hx17 : ∀ h : 2 < a0.size, ((a0[2]'h).toNat : Int) = bt a0 2 := bt_at a0 2
                        clear p17
                        have qi17 : (2 < (a0.size : Int)) = True := eq_true (of_decide_eq_true (by first | (with_reducible assumption) | assumption))
                        replace q17 := eq_true q17
                        go_wp2
                        repeat (go_quiet (fail); try go_wp2)
                        go_ret2
                        exact ⟨by first | rfl | (simp [errW_none, errW_some] <;> rfl) | (simp [*, errW_none, errW_some] <;> rfl), by repeat (first | (with_reducible first | exact HB.out | apply below_alloc | apply pw_below_drewN | apply below_drew1) | exact HB.out)⟩
                    · rw [if_neg c16] at H
                      exact absurd H (by simp)
                  · rw [if_neg c15] at H
                    have c15b0 : decide ((bt a0 1) ≤ 191) = false := decide_eq_false c15
                    clear c15
                    simp only [Option.some.injEq, Prod.mk.injEq] at H
                    obtain ⟨rfl, rfl⟩ := H
                    have p9 : 0 ≤ (0 : Int) := (by omega)
                    have q9 : 0 < a0.size := (by have : (0 : Int) < (a0.size : Int) := of_decide_eq_true (by first | (with_reducible assumption) | assumption); omega)
                    have hx9 : ∀ h : 0 < a0.size, ((a0[0]'h).toNat : Int) = bt a0 0 := bt_at a0 0
                    clear p9
                    have qi9 : (0 < (a0.size : Int)) = True := eq_true (of_decide_eq_true (by first | (with_reducible assumption) | assumption))
                    replace q9 := eq_true q9
                    have p12 : 0 ≤ (1 : Int) := (by omega)
                    have q12 : 1 < a0.size := (by have : (1 : Int) < (a0.size : Int) := of_decide_eq_true (by first | (with_reducible assumption) | assumption); omega)
                    have hx12 : ∀ h : 1 < a0.size, ((a0[1]'h).toNat : Int) = bt a0 1 := bt_at a0 1
                    clear p12
                    have qi12 : (1 < (a0.size : Int)) = True := eq_true (of_decide_eq_true (by first | (with_reducible assumption) | assumption))
                    replace q12 := eq_true q12
                    have p14 : 0 ≤ (1 : Int) := (by omega)
                    have q14 : 1 < a0.size := (by have : (1 : Int) < (a0.size : Int) := of_decide_eq_true (by first | (with_reducible assumption) | assumption); omega)
                    have hx14 : ∀ h : 1 < a0.size, ((a0[1]'h).toNat : Int) = bt a0 1 := bt_at a0 1
                    clear p14
                    have qi14 : (1 < (a0.size : Int)) = True := eq_true (of_decide_eq_true (by first | (with_reducible assumption) | assumption))
                    replace q14 := eq_true q14
                    go_wp2
                    repeat (go_quiet (fail); try go_wp2)
                    go_ret2
                    exact ⟨by first | rfl | (simp [errW_none, errW_some] <;> rfl) | (simp [*, errW_none, errW_some] <;> rfl), by repeat (first | (with_reducible first | exact HB.out | apply below_alloc | apply pw_below_drewN | apply below_drew1) | exact HB.out)⟩
                · rw [if_neg c13] at H
                  have c13b0 : decide (160 ≤ (bt a0 1)) = false := decide_eq_false c13
                  clear c13
                  simp only [Option.some.injEq, Prod.mk.injEq] at H
                  obtain ⟨rfl, rfl⟩ := H
                  have p9 : 0 ≤ (0 : Int) := (by omega)
                  have q9 : 0 < a0.size := (by have : (0 : Int) < (a0.size : Int) := of_decide_eq_true (by first | (with_reducible assumption) | assumption); omega)
                  have hx9 : ∀ h : 0 < a0.size, ((a0[0]'h).toNat : Int) = bt a0 0 := bt_at a0 0
                  clear p9
                  have qi9 : (0 < (a0.size : Int)) = True := eq_true (of_decide_eq_true (by first | (with_reducible assumption) | assumption))
                  replace q9 := eq_true q9
                  have p12 : 0 ≤ (1 : Int) := (by omega)
                  have q12 : 1 < a0.size := (by have : (1 : Int) < (a0.size : Int) := of_decide_eq_true (by first | (with_reducible assumption) | assumption); omega)
                  have hx12 : ∀ h : 1 < a0.size, ((a0[1]'h).toNat : Int) = bt a0 1 := bt_at a0 1
                  clear p12
                  have qi12 : (1 < (a0.size : Int)) = True := eq_true (of_decide_eq_true (by first | (with_reducible assumption) | assumption))
                  replace q12 := eq_true q12
                  go_wp2
                  repeat (go_quiet (fail); try go_wp2)
                  go_ret2
                  exact ⟨by first | rfl | (simp [errW_none, errW_some] <;> rfl) | (simp [*, errW_none, errW_some] <;> rfl), by repeat (first | (with_reducible first | exact HB.out | apply below_alloc | apply pw_below_drewN | apply below_drew1) | exact HB.out)⟩
              · rw [if_neg c11] at H
                exact absurd H (by simp)
            · rw [if_neg c10] at H
              have c10b0 : ((bt a0 0) == 237) = false := beq_eq_false_iff_ne.mpr c10
              have c10b1 : ((bt a0 0) != 237) = true := bne_iff_ne.mpr c10
              simp only [Option.some.injEq, Prod.mk.injEq] at H
              obtain ⟨rfl, rfl⟩ := H
              have p9 : 0 ≤ (0 : Int) := (by omega)
              have q9 : 0 < a0.size := (by have : (0 : Int) < (a0.size : Int) := of_decide_eq_true (by first | (with_reducible assumption) | assumption); omega)
              have hx9 : ∀ h : 0 < a0.size, ((a0[0]'h).toNat : Int) = bt a0 0 := bt_at a0 0
              clear p9
              have qi9 : (0 < (a0.size : Int)) = True := eq_true (of_decide_eq_true (by first | (with_reducible assumption) | assumption))
              replace q9 := eq_true q9
              go_wp2
              repeat (go_quiet (fail); try go_wp2)
              go_ret2
              exact ⟨by first | rfl | (simp [errW_none, errW_some] <;> rfl) | (simp [*, errW_none, errW_some] <;> rfl), by repeat (first | (with_reducible first | exact HB.out | apply below_alloc | apply pw_below_drewN | apply below_drew1) | exact HB.out)⟩
          · rw [if_neg c8] at H
            exact absurd H (by simp)
        · rw [if_neg c7] at H
          have c7b0 : decide (3 ≤ (a0.size : Int)) = false := decide_eq_false c7
          have c7b1 : decide (3 ≤ a0.size) = false := decide_eq_false (by omega)
          clear c7
          simp only [Option.some.injEq, Prod.mk.injEq] at H
          obtain ⟨rfl, rfl⟩ := H
          go_wp2
          repeat (go_quiet (fail); try go_wp2)
          go_ret2
          exact ⟨by first | rfl | (simp [errW_none, errW_some] <;> rfl) | (simp [*, errW_none, errW_some] <;> rfl), by repeat (first | (with_reducible first | exact HB.out | apply below_alloc | apply pw_below_drewN | apply below_drew1) | exact HB.out)⟩
/-! ### units_high: function 133 -/
def units_high.f (a0 : Int) : Option (Bool) := if a0 ≥ 55296 then (some (decide (a0 < 56320))) else (some false)
set_option maxHeartbeats 8000000 in
set_option maxRecDepth 100000 in
theorem units_high.calls (a0 : Int) (r : Bool) (w : World) (h : units_high.f a0 = some r) :
    Calls Tryd.prog 133 #[.int .i32 a0] w fun e w' => e = .returned (.bool r) ∧ Drawn0 w w' := by
  have H : (if a0 ≥ 55296 then (some (decide (a0 < 56320))) else (some false)) = some r := h
  clear h
  by_cases c2 : a0 ≥ 55296
  · rw [if_pos c2] at H
    have c2b0 : decide (55296 ≤ a0) = true := decide_eq_true c2
    clear c2
    obtain rfl := Option.some.inj H
    go_enter Tryd.func133, Tryd.ntmps133
    go_wp2
    go_ret
    exact ⟨by first | rfl | (simp; done) | (simp [*]; done), by repeat (first | exact Drawn0.refl _ | apply Drawn0.step)⟩
  · rw [if_neg c2] at H
    have c2b0 : decide (55296 ≤ a0) = false := decide_eq_false c2
    clear c2
    obtain rfl := Option.some.inj H
    go_enter Tryd.func133, Tryd.ntmps133
    go_wp2
    go_ret
    exact ⟨by first | rfl | (simp; done) | (simp [*]; done), by repeat (first | exact Drawn0.refl _ | apply Drawn0.step)⟩
/-! ### units_low: function 134 -/
def units_low.f (a0 : Int) : Option (Bool) := if a0 ≥ 56320 then (some (decide (a0 < 57344))) else (some false)
set_option maxHeartbeats 8000000 in
set_option maxRecDepth 100000 in
theorem units_low.calls (a0 : Int) (r : Bool) (w : World) (h : units_low.f a0 = some r) :
    Calls Tryd.prog 134 #[.int .i32 a0] w fun e w' => e = .returned (.bool r) ∧ Drawn0 w w' := by
  have H : (if a0 ≥ 56320 then (some (decide (a0 < 57344))) else (some false)) = some r := h
  clear h
  by_cases c2 : a0 ≥ 56320
  · rw [if_pos c2] at H
    have c2b0 : decide (56320 ≤ a0) = true := decide_eq_true c2
    clear c2
    obtain rfl := Option.some.inj H
    go_enter Tryd.func134, Tryd.ntmps134
    go_wp2
    go_ret
    exact ⟨by first | rfl | (simp; done) | (simp [*]; done), by repeat (first | exact Drawn0.refl _ | apply Drawn0.step)⟩
  · rw [if_neg c2] at H
    have c2b0 : decide (56320 ≤ a0) = false := decide_eq_false c2
    clear c2
    obtain rfl := Option.some.inj H
    go_enter Tryd.func134, Tryd.ntmps134
    go_wp2
    go_ret
    exact ⟨by first | rfl | (simp; done) | (simp [*]; done), by repeat (first | exact Drawn0.refl _ | apply Drawn0.step)⟩
-- NOT PRINTED: function 130 (units_walk)
/-! ### units_Valid: function 127 -/
-- NEEDS Derived.Shelf.Unicode.DecodeLastEight Derived.Outline Derived.LoopTactic
def units_Valid.pt (s : ByteArray) : Int × Int := (units_point.f 1 s).getD (0, 0)
theorem units_Valid.point_some (s : ByteArray) : units_point.f 1 s = some (units_Valid.pt s) := by
  suffices h : ∃ v, units_point.f 1 s = some v by
    obtain ⟨v, hv⟩ := h
    unfold units_Valid.pt
    rw [hv]; rfl
  unfold units_point.f utf8_DecodeRuneInString.f
  simp only [Option.bind_some, units_point.j0]
  refine Option.isSome_iff_exists.1 ?_
  repeat' split
  all_goals first | rfl | (exfalso; omega)
def units_Valid.hi (r : Int) : Bool := decide (55296 ≤ r) && decide (r < 56320)
def units_Valid.lo (r : Int) : Bool := decide (56320 ≤ r) && decide (r < 57344)
def units_Valid.slc (s : ByteArray) (at_ : Nat) : ByteArray := s.extract at_ s.size
def units_Valid.val : Nat → ByteArray → Int → Nat → Bool
  | 0, _, _, _ => true
  | m + 1, s, last, at_ => if at_ < s.size then (if (units_Valid.pt (units_Valid.slc s at_)).2 = 0 then false else if units_Valid.hi last = true ∧ units_Valid.lo (units_Valid.pt (units_Valid.slc s at_)).1 = true then false else units_Valid.val m s (units_Valid.pt (units_Valid.slc s at_)).1 (at_ + (units_Valid.pt (units_Valid.slc s at_)).2.toNat)) else true
theorem units_Valid.pt_range (s : ByteArray) : 0 ≤ (units_Valid.pt s).2 ∧ (units_Valid.pt s).2 ≤ 4 := by
  have h4 : ((Lib.decodeGo s).2 : Int) ≤ 4 := by have := Lib.decodeGo_le4 s; omega
  have h := units_Valid.point_some s
  generalize units_Valid.pt s = v at h ⊢
  unfold units_point.f utf8_DecodeRuneInString.f at h
  simp only [Option.bind_some, units_point.j0] at h
  repeat' split at h
  all_goals first | (cases h; done) | (obtain rfl := Option.some.inj h; constructor <;> simp only <;> omega)
theorem units_Valid.high_eq (r : Int) : units_high.f r = some (units_Valid.hi r) := by
  unfold units_high.f units_Valid.hi
  by_cases h : r ≥ 55296 <;> by_cases h2 : r < 56320 <;> simp [h, h2] <;> omega
theorem units_Valid.low_eq (r : Int) : units_low.f r = some (units_Valid.lo r) := by
  unfold units_low.f units_Valid.lo
  by_cases h : r ≥ 56320 <;> by_cases h2 : r < 57344 <;> simp [h, h2] <;> omega
set_option maxHeartbeats 400000 in
set_option maxRecDepth 100000 in
theorem units_Valid.yes (a b : Int) (w : World) : Calls Tryd.prog 131 #[.int .i64 a, .int .i32 b] w fun e w' => e = .returned (.bool true) ∧ Drawn0 w w' := by
  go_enter Tryd.func131, Tryd.ntmps131
  go_wp2
  go_ret
  exact ⟨rfl, by repeat (first | exact Drawn0.refl _ | apply Drawn0.step)⟩
theorem units_Valid.next {n : Nat} {q : Int} (h : 0 ≤ q ∧ q ≤ 4) (hn : n ≤ 281474976710656) : wrap64 ((n : Int) + q) = ((n + q.toNat : Nat) : Int) := by
  unfold wrap64
  omega
set_option maxHeartbeats 800000 in
set_option maxRecDepth 100000 in
theorem units_Valid.walk (s : ByteArray) (w : World) (hs : s.size ≤ 281474976710656) (ht : Tabs w) :
    Calls Tryd.prog 130 #[.string s, .func (.func 131) #[] #[]] w fun e w' => e = .returned (.bool (units_Valid.val (s.size + 1) s 0 0)) ∧ Below w.heap.size w w' := by
  have HT := Aside0.mk ht
  clear ht
  go_enter Tryd.func130, Tryd.ntmps130
  go_wp2_with fail
  go_loopw [5, 6] (fun l_ i_ wr => ∃ (last : Int) (n m : Nat), l_ = .int .i32 last ∧ i_ = .int .i64 n ∧ Aside0 (n ≤ s.size + 4) ∧ Aside0 (s.size + 1 ≤ m + n) ∧ Aside0 (units_Valid.val m s last n = units_Valid.val (s.size + 1) s 0 0) ∧ Aside0 (Below w.heap.size w wr)) (fun _ i _ => s.size + 4 - (intOf i).toNat)
  case atStart => exact ⟨0, 0, s.size + 1, rfl, rfl, ⟨by omega⟩, ⟨by omega⟩, ⟨rfl⟩, ⟨by repeat (first | exact Below.refl _ _ | apply below_alloc | apply pw_below_drewN | apply below_drew1)⟩⟩
  case round =>
    obtain ⟨last, n, m, rfl, rfl, HN, HM, HV, HB⟩ := hrel
    by_cases hlt : n < s.size
    · have hnb : decide ((n : Int) < (s.size : Int)) = true := decide_eq_true (by omega)
      obtain ⟨p, hp⟩ : ∃ p, units_Valid.pt (units_Valid.slc s n) = p := ⟨_, rfl⟩
      have HP := Aside0.mk hp
      obtain ⟨m1, rfl⟩ : ∃ m1, m = m1 + 1 := ⟨m - 1, by have := HM.out; omega⟩
      have HV2 := Aside0.mk (show (if p.2 = 0 then false else if units_Valid.hi last = true ∧ units_Valid.lo p.1 = true then false else units_Valid.val m1 s p.1 (n + p.2.toNat)) = units_Valid.val (s.size + 1) s 0 0 by
        have := HV.out
        rw [units_Valid.val, if_pos hlt, hp] at this
        exact this)
      have hr := units_Valid.pt_range (units_Valid.slc s n)
      rw [hp] at hr
      have HR := Aside0.mk hr
      clear hr hp HV
      go_wp2_with fail
      refine (units_point.calls 1 (units_Valid.slc s n) p.1 p.2 _ (tabs_b HT.out HB.out) (by rw [units_Valid.point_some, HP.out])).mono ?_
      rintro e w2 ⟨rfl, hb2⟩
      have HB2 := Aside0.mk (below_step HB.out hb2)
      clear hb2 HB
      by_cases h0 : p.2 = 0
      · have c0 : (p.2 == 0) = true := by simp [h0]
        have HV3 := Aside0.mk (show false = units_Valid.val (s.size + 1) s 0 0 by have := HV2.out; rwa [if_pos h0] at this)
        clear h0 HV2
        go_wp2_with fail
        go_ret
        exact ⟨by rw [← HV3.out]; rfl, by repeat (first | (with_reducible first | exact HB2.out | apply below_alloc | apply pw_below_drewN | apply below_drew1) | exact HB2.out)⟩
      · have c0 : (p.2 == 0) = false := by simp [h0]
        have HV3 := Aside0.mk (by have := HV2.out; rwa [if_neg h0] at this)
        have HZ := Aside0.mk h0
        clear h0 HV2
        cases hh : units_Valid.hi last
        · have HH := Aside0.mk ((units_Valid.high_eq last).trans (congrArg some hh))
          have HV4 := Aside0.mk (by have := HV3.out; rwa [if_neg (by rw [hh]; simp)] at this)
          clear hh HV3
          go_wp2_with (first
          | (go_at_call 133; (with_reducible refine (units_high.calls last false _ HH.out).mono ?_); rintro e w3 ⟨rfl, ⟨m3, rfl⟩⟩)
          | (go_at_call 131; (with_reducible refine (units_Valid.yes _ _ _).mono ?_); rintro e w4 ⟨rfl, ⟨m4, rfl⟩⟩)
          | fail)
          go_roundw
          case rel => exact ⟨p.1, n + p.2.toNat, m1, rfl, congrArg _ (units_Valid.next HR.out (by omega)), ⟨by have := HR.out; omega⟩, ⟨by have := HM.out; have := HR.out; have := HZ.out; omega⟩, ⟨HV4.out⟩, ⟨by repeat (first | (with_reducible first | exact HB2.out | apply below_alloc | apply pw_below_drewN | apply below_drew1) | exact HB2.out)⟩⟩
          case measure => have := HR.out; have := HZ.out; rw [units_Valid.next HR.out (by omega)]; simp only [intOf]; omega
        · have HH := Aside0.mk ((units_Valid.high_eq last).trans (congrArg some hh))
          cases hl : units_Valid.lo p.1
          · have HL := Aside0.mk ((units_Valid.low_eq p.1).trans (congrArg some hl))
            have HV4 := Aside0.mk (by have := HV3.out; rwa [if_neg (by rw [hl]; simp)] at this)
            clear hh hl HV3
            go_wp2_with (first
          | (go_at_call 133; (with_reducible refine (units_high.calls last true _ HH.out).mono ?_); rintro e w3 ⟨rfl, ⟨m3, rfl⟩⟩)
          | (go_at_call 134; (with_reducible refine (units_low.calls p.1 false _ HL.out).mono ?_); rintro e w3 ⟨rfl, ⟨m5, rfl⟩⟩)
          | (go_at_call 131; (with_reducible refine (units_Valid.yes _ _ _).mono ?_); rintro e w4 ⟨rfl, ⟨m4, rfl⟩⟩)
          | fail)
            go_roundw
            case rel => exact ⟨p.1, n + p.2.toNat, m1, rfl, congrArg _ (units_Valid.next HR.out (by omega)), ⟨by have := HR.out; omega⟩, ⟨by have := HM.out; have := HR.out; have := HZ.out; omega⟩, ⟨HV4.out⟩, ⟨by repeat (first | (with_reducible first | exact HB2.out | apply below_alloc | apply pw_below_drewN | apply below_drew1) | exact HB2.out)⟩⟩
            case measure => have := HR.out; have := HZ.out; rw [units_Valid.next HR.out (by omega)]; simp only [intOf]; omega
          · have HL := Aside0.mk ((units_Valid.low_eq p.1).trans (congrArg some hl))
            have HV4 := Aside0.mk (show false = units_Valid.val (s.size + 1) s 0 0 by have := HV3.out; rwa [if_pos ⟨hh, hl⟩] at this)
            clear hh hl HV3
            go_wp2_with (first
          | (go_at_call 133; (with_reducible refine (units_high.calls last true _ HH.out).mono ?_); rintro e w3 ⟨rfl, ⟨m3, rfl⟩⟩)
          | (go_at_call 134; (with_reducible refine (units_low.calls p.1 true _ HL.out).mono ?_); rintro e w3 ⟨rfl, ⟨m5, rfl⟩⟩)
          | (go_at_call 131; (with_reducible refine (units_Valid.yes _ _ _).mono ?_); rintro e w4 ⟨rfl, ⟨m4, rfl⟩⟩)
          | fail)
            go_ret
            exact ⟨by rw [← HV4.out]; rfl, by repeat (first | (with_reducible first | exact HB2.out | apply below_alloc | apply pw_below_drewN | apply below_drew1) | exact HB2.out)⟩
    · have hnb : decide ((n : Int) < (s.size : Int)) = false := decide_eq_false (by omega)
      have HV2 := Aside0.mk (show true = units_Valid.val (s.size + 1) s 0 0 by
        have := HV.out
        cases m with
        | zero => exact this
        | succ m => rwa [units_Valid.val, if_neg hlt] at this)
      clear HV
      go_wp2_with fail
      go_ret
      exact ⟨by rw [← HV2.out]; rfl, by repeat (first | (with_reducible first | exact HB.out | apply below_alloc | apply pw_below_drewN | apply below_drew1) | exact HB.out)⟩
set_option maxHeartbeats 400000 in
set_option maxRecDepth 100000 in
theorem units_Valid.calls0 (a0 : ByteArray) (w : World) (hs : a0.size ≤ 281474976710656) (ht : Tabs w) :
    Calls Tryd.prog 127 #[.string a0] w fun e w' => e = .returned (.bool (units_Valid.val (a0.size + 1) a0 0 0)) ∧ Below w.heap.size w w' := by
  go_enter Tryd.func127, Tryd.ntmps127
  go_wp2_with (first
    | (go_at_call 130; (with_reducible refine (units_Valid.walk a0 _ hs (tabs_b ht (by repeat (first | exact Below.refl _ _ | apply below_alloc | apply pw_below_drewN | apply below_drew1)))).mono ?_); rintro e w3 ⟨rfl, hb3⟩)
    | fail)
  go_ret
  exact ⟨rfl, by repeat (first | exact below_step (Below.refl w.heap.size w) hb3 | apply below_alloc | apply pw_below_drewN | apply below_drew1)⟩
def units_Valid.f (a0 : ByteArray) : Option Bool := if a0.size ≤ 281474976710656 then some (units_Valid.val (a0.size + 1) a0 0 0) else none
theorem units_Valid.calls (a0 : ByteArray) (r : Bool) (w : World) (ht : Tabs w) (h : units_Valid.f a0 = some r) :
    Calls Tryd.prog 127 #[.string a0] w fun e w' => e = .returned (.bool r) ∧ Below w.heap.size w w' := by
  unfold units_Valid.f at h
  by_cases hs : a0.size ≤ 281474976710656
  · rw [if_pos hs] at h
    obtain rfl := Option.some.inj h
    exact units_Valid.calls0 a0 w hs ht
  · rw [if_neg hs] at h
    cases h
-- NOT PRINTED: function 123 (value_in)
-- NOT PRINTED: function 114 (value_good)
end Go.Proofs.YtaojjpdlfnphiaaDoor.PDescKinds
end
section
/- The contract of value.in: which of the seven types a value is of. -/
namespace Go.Proofs.YtaojjpdlfnphiaaDoor.PDescKinds
open Go.RowKit Go.Proofs.YtaojjpdlfnphiaaDoorW.PrintWords Go.Proofs.YtaojjpdlfnphiaaDoorW.PrintLast Go.Proofs.YtaojjpdlfnphiaaDoorW.PrintMore
set_option linter.unusedVariables false
set_option linter.unusedSimpArgs false
def leafIn.strOk (s : ByteArray) : Bool := decide (s.size ≤ 1048576) && units_Valid.val (s.size + 1) s 0 0
def leafIn.idOk (id : Int) : Bool := decide (1 ≤ id) && decide (id ≤ 65536)
def leafIn.one (k : Int) (b : Bool) (n : Nat) (s : ByteArray) (id : Int) : Value :=
  if k = 1 then .iface 124 (.agg #[]) else if k = 2 then .iface 141 (.agg #[]) else if k = 3 then .iface 142 (.bool b) else if k = 4 then .iface 139 (.float .f64 n)
  else if k = 5 then (if leafIn.strOk s = true then .iface 143 (.string s) else .nilIface)
  else if k = 6 then (if leafIn.idOk id = true then .iface 144 (.int .i64 id) else .nilIface)
  else if k = 7 then (if leafIn.idOk id = true then .iface 145 (.int .i64 id) else .nilIface) else .nilIface
set_option maxHeartbeats 1600000 in
set_option maxRecDepth 100000 in
theorem leafIn.inn (k : Int) (b : Bool) (n : Nat) (s : ByteArray) (id : Int) (w : World) (ht : Tabs w) :
    Calls Tryd.prog 123 #[.agg #[.int .i64 k, .bool b, .float .f64 n, .string s, .int .i64 id]] w fun e w' => e = .returned (leafIn.one k b n s id) ∧ Below w.heap.size w w' := by
  have hu24 := Tryd.underlying24
  have HT := Aside0.mk ht
  clear ht
  unfold leafIn.one
  go_enter Tryd.func123, Tryd.ntmps123
  by_cases h1 : k = 1
  · rw [if_pos h1]
    have c1 : (k == 1) = true := by simp [h1]
    clear h1
    go_wp2_with fail
    go_ret
    exact ⟨rfl, by repeat (first | exact Below.refl _ _ | apply below_alloc | apply pw_below_drewN | apply below_drew1)⟩
  have d1 : (k == 1) = false := by simp [h1]
  rw [if_neg h1]
  clear h1
  by_cases h2 : k = 2
  · rw [if_pos h2]
    have c2 : (k == 2) = true := by simp [h2]
    clear h2
    go_wp2_with fail
    go_ret
    exact ⟨rfl, by repeat (first | exact Below.refl _ _ | apply below_alloc | apply pw_below_drewN | apply below_drew1)⟩
  have d2 : (k == 2) = false := by simp [h2]
  rw [if_neg h2]
  clear h2
  by_cases h3 : k = 3
  · rw [if_pos h3]
    have c3 : (k == 3) = true := by simp [h3]
    clear h3
    go_wp2_with fail
    go_ret
    exact ⟨rfl, by repeat (first | exact Below.refl _ _ | apply below_alloc | apply pw_below_drewN | apply below_drew1)⟩
  have d3 : (k == 3) = false := by simp [h3]
  rw [if_neg h3]
  clear h3
  by_cases h4 : k = 4
  · rw [if_pos h4]
    have c4 : (k == 4) = true := by simp [h4]
    clear h4
    go_wp2_with fail
    go_ret
    exact ⟨rfl, by repeat (first | exact Below.refl _ _ | apply below_alloc | apply pw_below_drewN | apply below_drew1)⟩
  have d4 : (k == 4) = false := by simp [h4]
  rw [if_neg h4]
  clear h4
  by_cases h5 : k = 5
  · rw [if_pos h5]
    have c5 : (k == 5) = true := by simp [h5]
    clear h5
    by_cases hl : s.size ≤ 1048576
    · have cl : decide ((s.size : Int) ≤ 1048576) = true := decide_eq_true (by omega)
      cases hv : units_Valid.val (s.size + 1) s 0 0
      · have HV := Aside0.mk (show units_Valid.f s = some false by unfold units_Valid.f; rw [if_pos (by omega), hv])
        have e_ : leafIn.strOk s = false := by unfold leafIn.strOk; rw [hv]; simp [hl]
        rw [e_]
        clear hv e_ hl
        go_wp2_with (first | (go_at_call 127; (with_reducible refine (units_Valid.calls s false _ (tabs_b HT.out (by repeat (first | exact Below.refl _ _ | apply below_alloc | apply pw_below_drewN | apply below_drew1))) HV.out).mono ?_); rintro e w3 ⟨rfl, hb3⟩; have hc3 : w3.cell? ⟨w.heap.size, 3, none⟩ = some (.string s) := (hb3.cell (by simp)).trans ((blk_cell (heap_alloc_new w _) 3).trans rfl); have HB : Aside0 (Below w.heap.size w w3) := ⟨below_step (by repeat (first | exact Below.refl _ _ | apply below_alloc | apply pw_below_drewN | apply below_drew1)) hb3⟩; clear hb3) | fail)
        go_ret
        exact ⟨rfl, by repeat (first | exact HB.out | apply below_alloc | apply pw_below_drewN | apply below_drew1)⟩
      · have HV := Aside0.mk (show units_Valid.f s = some true by unfold units_Valid.f; rw [if_pos (by omega), hv])
        have e_ : leafIn.strOk s = true := by unfold leafIn.strOk; rw [hv]; simp [hl]
        rw [e_]
        clear hv e_ hl
        go_wp2_with (first | (go_at_call 127; (with_reducible refine (units_Valid.calls s true _ (tabs_b HT.out (by repeat (first | exact Below.refl _ _ | apply below_alloc | apply pw_below_drewN | apply below_drew1))) HV.out).mono ?_); rintro e w3 ⟨rfl, hb3⟩; have hc3 : w3.cell? ⟨w.heap.size, 3, none⟩ = some (.string s) := (hb3.cell (by simp)).trans ((blk_cell (heap_alloc_new w _) 3).trans rfl); have HB : Aside0 (Below w.heap.size w w3) := ⟨below_step (by repeat (first | exact Below.refl _ _ | apply below_alloc | apply pw_below_drewN | apply below_drew1)) hb3⟩; clear hb3) | fail)
        go_ret
        exact ⟨rfl, by repeat (first | exact HB.out | apply below_alloc | apply pw_below_drewN | apply below_drew1)⟩
    · have cl : decide ((s.size : Int) ≤ 1048576) = false := decide_eq_false (by omega)
      have e_ : leafIn.strOk s = false := by unfold leafIn.strOk; simp [hl]
      rw [e_]
      clear e_ hl
      go_wp2_with fail
      go_ret
      exact ⟨rfl, by repeat (first | exact Below.refl _ _ | apply below_alloc | apply pw_below_drewN | apply below_drew1)⟩
  have d5 : (k == 5) = false := by simp [h5]
  rw [if_neg h5]
  clear h5
  by_cases h6 : k = 6
  · rw [if_pos h6]
    have c6 : (k == 6) = true := by simp [h6]
    clear h6
    by_cases ha : 1 ≤ id
    · have ca : decide (1 ≤ id) = true := decide_eq_true ha
      by_cases hz : id ≤ 65536
      · have cz : decide (id ≤ 65536) = true := decide_eq_true hz
        have e_ : leafIn.idOk id = true := by unfold leafIn.idOk; rw [ca, cz]; rfl
        rw [e_]
        clear e_ ha hz
        go_wp2_with fail
        go_ret
        exact ⟨rfl, by repeat (first | exact Below.refl _ _ | apply below_alloc | apply pw_below_drewN | apply below_drew1)⟩
      · have cz : decide (id ≤ 65536) = false := decide_eq_false hz
        have e_ : leafIn.idOk id = false := by unfold leafIn.idOk; rw [ca, cz]; rfl
        rw [e_]
        clear e_ ha hz
        go_wp2_with fail
        go_ret
        exact ⟨rfl, by repeat (first | exact Below.refl _ _ | apply below_alloc | apply pw_below_drewN | apply below_drew1)⟩
    · have ca : decide (1 ≤ id) = false := decide_eq_false ha
      have e_ : leafIn.idOk id = false := by unfold leafIn.idOk; rw [ca]; rfl
      rw [e_]
      clear e_ ha
      go_wp2_with fail
      go_ret
      exact ⟨rfl, by repeat (first | exact Below.refl _ _ | apply below_alloc | apply pw_below_drewN | apply below_drew1)⟩
  have d6 : (k == 6) = false := by simp [h6]
  rw [if_neg h6]
  clear h6
  by_cases h7 : k = 7
  · rw [if_pos h7]
    have c7 : (k == 7) = true := by simp [h7]
    clear h7
    by_cases ha : 1 ≤ id
    · have ca : decide (1 ≤ id) = true := decide_eq_true ha
      by_cases hz : id ≤ 65536
      · have cz : decide (id ≤ 65536) = true := decide_eq_true hz
        have e_ : leafIn.idOk id = true := by unfold leafIn.idOk; rw [ca, cz]; rfl
        rw [e_]
        clear e_ ha hz
        go_wp2_with fail
        go_ret
        exact ⟨rfl, by repeat (first | exact Below.refl _ _ | apply below_alloc | apply pw_below_drewN | apply below_drew1)⟩
      · have cz : decide (id ≤ 65536) = false := decide_eq_false hz
        have e_ : leafIn.idOk id = false := by unfold leafIn.idOk; rw [ca, cz]; rfl
        rw [e_]
        clear e_ ha hz
        go_wp2_with fail
        go_ret
        exact ⟨rfl, by repeat (first | exact Below.refl _ _ | apply below_alloc | apply pw_below_drewN | apply below_drew1)⟩
    · have ca : decide (1 ≤ id) = false := decide_eq_false ha
      have e_ : leafIn.idOk id = false := by unfold leafIn.idOk; rw [ca]; rfl
      rw [e_]
      clear e_ ha
      go_wp2_with fail
      go_ret
      exact ⟨rfl, by repeat (first | exact Below.refl _ _ | apply below_alloc | apply pw_below_drewN | apply below_drew1)⟩
  have d7 : (k == 7) = false := by simp [h7]
  rw [if_neg h7]
  clear h7
  go_wp2_with fail
  go_ret
  exact ⟨rfl, by repeat (first | exact Below.refl _ _ | apply below_alloc | apply pw_below_drewN | apply below_drew1)⟩
end Go.Proofs.YtaojjpdlfnphiaaDoor.PDescKinds
/-! #### part G0 -/
/- Values and descriptors as_ plain data; tables of contracts over them. -/
set_option linter.unusedSimpArgs false
set_option linter.unusedVariables false
set_option linter.unusedSectionVars false
namespace Go.Proofs.YtaojjpdlfnphiaaDoor.PDescKinds
open Go.RowKit Go.Ev Go.Proofs.YtaojjpdlfnphiaaDoorW.PrintWords Go.Proofs.YtaojjpdlfnphiaaDoorW.PrintLast Go.Proofs.YtaojjpdlfnphiaaDoorW.PrintMore
structure V where
  k : Int
  b : Bool
  n : Nat
  s : ByteArray
  id : Int
structure D where
  v : V
  g : V
  t : V
  w : Int
  e : Int
  c : Int
def V.agg (v : V) : Value := .agg #[.int .i64 v.k, .bool v.b, .float .f64 v.n, .string v.s, .int .i64 v.id]
def D.agg (d : D) : Value := .agg #[.int .i64 d.v.k, .bool d.v.b, .float .f64 d.v.n, .string d.v.s, .int .i64 d.v.id,
  .int .i64 d.g.k, .bool d.g.b, .float .f64 d.g.n, .string d.g.s, .int .i64 d.g.id, .int .i64 d.t.k, .bool d.t.b, .float .f64 d.t.n, .string d.t.s, .int .i64 d.t.id, .int .i64 d.w, .int .i64 d.e, .int .i64 d.c]
def getV : Value → Option V
  | .agg a => match a.toList with
    | [.int .i64 k, .bool b, .float .f64 n, .string s, .int .i64 id] => some ⟨k, b, n, s, id⟩
    | _ => none
  | _ => none
def cutV : List Value → Option (V × List Value)
  | .int .i64 k :: .bool b :: .float .f64 n :: .string s :: .int .i64 id :: r => some (⟨k, b, n, s, id⟩, r)
  | _ => none
def getD : Value → Option D
  | .agg a => match cutV a.toList with
    | some (v, r) => match cutV r with
      | some (g, r) => match cutV r with
        | some (t, r) => match r with
          | [.int .i64 w, .int .i64 e, .int .i64 c] => some ⟨v, g, t, w, e, c⟩
          | _ => none
        | none => none
      | none => none
    | none => none
  | _ => none
theorem getV_agg {x : Value} {v : V} (h : getV x = some v) : x = v.agg := by
  unfold getV at h
  split at h
  · rename_i a
    split at h
    · rename_i ha
      simp only [Option.some.injEq] at h
      subst h
      unfold V.agg
      rw [← ha]
    · cases h
  · cases h
theorem cutV_eq {l r : List Value} {v : V} (h : cutV l = some (v, r)) : l = .int .i64 v.k :: .bool v.b :: .float .f64 v.n :: .string v.s :: .int .i64 v.id :: r := by
  unfold cutV at h
  split at h
  · simp only [Option.some.injEq, Prod.mk.injEq] at h
    obtain ⟨rfl, rfl⟩ := h
    rfl
  · cases h
theorem getD_agg {x : Value} {d : D} (h : getD x = some d) : x = d.agg := by
  unfold getD at h
  split at h
  · rename_i a
    split at h
    · rename_i v r0 h0
      split at h
      · rename_i g r1 h1
        split at h
        · rename_i t r2 h2
          split at h
          · simp only [Option.some.injEq] at h
            subst h
            have e := cutV_eq h0
            rw [cutV_eq h1, cutV_eq h2] at e
            unfold D.agg
            simp only
            rw [← e]
          · cases h
        · cases h
      · cases h
    · cases h
  · cases h
/-! ### Shapes of arguments -/
def onV (g : V → DT Value) : List Value → Option (DT Value)
  | [x] => match getV x with
    | some v => some (g v)
    | none => none
  | _ => none
def onVV (g : V → V → DT Value) : List Value → Option (DT Value)
  | [x, y] => match getV x with
    | some v => match getV y with
      | some u => some (g v u)
      | none => none
    | none => none
  | _ => none
def onD (g : D → DT Value) : List Value → Option (DT Value)
  | [x] => match getD x with
    | some v => some (g v)
    | none => none
  | _ => none
def onDD (g : D → D → DT Value) : List Value → Option (DT Value)
  | [x, y] => match getD x with
    | some v => match getD y with
      | some u => some (g v u)
      | none => none
    | none => none
  | _ => none
def onBDD (g : Bool → D → D → DT Value) : List Value → Option (DT Value)
  | [.bool b, x, y] => match getD x with
    | some v => match getD y with
      | some u => some (g b v u)
      | none => none
    | none => none
  | _ => none
def onF (g : Nat → DT Value) : List Value → Option (DT Value)
  | [.float .f64 n] => some (g n)
  | _ => none
def onFF (g : Nat → Nat → DT Value) : List Value → Option (DT Value)
  | [.float .f64 n, .float .f64 m] => some (g n m)
  | _ => none
def onI (g : Int → DT Value) : List Value → Option (DT Value)
  | [.int .i64 n] => some (g n)
  | _ => none
def on0 (g : DT Value) : List Value → Option (DT Value)
  | [] => some g
  | _ => none
theorem onV_eq {g : V → DT Value} {l : List Value} {t : DT Value} (h : onV g l = some t) : ∃ v, l = [v.agg] ∧ t = g v := by
  unfold onV at h
  split at h
  · split at h
    · rename_i v hv
      simp only [Option.some.injEq] at h
      exact ⟨v, by rw [getV_agg hv], h.symm⟩
    · cases h
  · cases h
theorem onVV_eq {g : V → V → DT Value} {l : List Value} {t : DT Value} (h : onVV g l = some t) : ∃ v u, l = [v.agg, u.agg] ∧ t = g v u := by
  unfold onVV at h
  split at h
  · split at h
    · rename_i v hv
      split at h
      · rename_i u hu
        simp only [Option.some.injEq] at h
        exact ⟨v, u, by rw [getV_agg hv, getV_agg hu], h.symm⟩
      · cases h
    · cases h
  · cases h
theorem onD_eq {g : D → DT Value} {l : List Value} {t : DT Value} (h : onD g l = some t) : ∃ v, l = [v.agg] ∧ t = g v := by
  unfold onD at h
  split at h
  · split at h
    · rename_i v hv
      simp only [Option.some.injEq] at h
      exact ⟨v, by rw [getD_agg hv], h.symm⟩
    · cases h
  · cases h
theorem onDD_eq {g : D → D → DT Value} {l : List Value} {t : DT Value} (h : onDD g l = some t) : ∃ v u, l = [v.agg, u.agg] ∧ t = g v u := by
  unfold onDD at h
  split at h
  · split at h
    · rename_i v hv
      split at h
      · rename_i u hu
        simp only [Option.some.injEq] at h
        exact ⟨v, u, by rw [getD_agg hv, getD_agg hu], h.symm⟩
      · cases h
    · cases h
  · cases h
theorem onBDD_eq {g : Bool → D → D → DT Value} {l : List Value} {t : DT Value} (h : onBDD g l = some t) : ∃ b v u, l = [.bool b, v.agg, u.agg] ∧ t = g b v u := by
  unfold onBDD at h
  split at h
  · split at h
    · rename_i v hv
      split at h
      · rename_i u hu
        simp only [Option.some.injEq] at h
        exact ⟨_, v, u, by rw [getD_agg hv, getD_agg hu], h.symm⟩
      · cases h
    · cases h
  · cases h
theorem onFF_eq {g : Nat → Nat → DT Value} {l : List Value} {t : DT Value} (h : onFF g l = some t) : ∃ n m, l = [.float .f64 n, .float .f64 m] ∧ t = g n m := by
  unfold onFF at h
  split at h
  · simp only [Option.some.injEq] at h; exact ⟨_, _, rfl, h.symm⟩
  · cases h
theorem onI_eq {g : Int → DT Value} {l : List Value} {t : DT Value} (h : onI g l = some t) : ∃ n, l = [.int .i64 n] ∧ t = g n := by
  unfold onI at h
  split at h
  · simp only [Option.some.injEq] at h; exact ⟨_, rfl, h.symm⟩
  · cases h
theorem on0_eq {g : DT Value} {l : List Value} {t : DT Value} (h : on0 g l = some t) : l = [] ∧ t = g := by
  unfold on0 at h
  split at h
  · simp only [Option.some.injEq] at h; exact ⟨rfl, h.symm⟩
  · cases h
/-- math.Float64bits is one step. -/
def bitsOf : List Value → Option Value
  | [.float .f64 n] => some (.int .u64 (n : Int))
  | _ => none
def ext : ExtFn := fun f => bif Nat.beq f 67 then some bitsOf else none
theorem ext_sound : ExtSound Tryd.prog ext := by
  intro f g hg args v hv w
  unfold ext at hg
  cases hb : Nat.beq f 67 with
  | false => rw [hb] at hg; cases hg
  | true =>
    rw [hb] at hg
    have := Nat.eq_of_beq_eq_true hb
    subst this
    simp only [cond_true, Option.some.injEq] at hg
    subst hg
    unfold bitsOf at hv
    split at hv
    · simp only [Option.some.injEq] at hv
      subst hv
      exact run_f64bits 67 Tryd.func67 (by kernel_rfl) (by kernel_rfl) (by kernel_rfl) (by kernel_rfl) _ w
    · cases hv
theorem tabs_stable : Stable Tabs := fun _ _ h hb => tabs_b h hb
theorem mixed : Tryd.prog.follows .mixedOrders = true := by kernel_rfl
abbrev E (p : Nat × (List Value → Option (DT Value))) : Prop := Entry Tryd.prog Tabs p
/-- No rows come in. -/
instance noRows : XEnv := ⟨fun _ => ⟨none, 0, 0, 0, fun _ => []⟩⟩
theorem noX : ∀ w, Tabs w → XOk w := fun _ _ _ j hj => absurd hj (Nat.not_lt_zero _)
/-- A function by evaluation over the entries before. -/
theorem byEv {l : Tab} (hl : ∀ p ∈ l, E p) {q : Nat × (List Value → Option (DT Value))} (k : Nat) (h : ∀ args t, q.2 args = some t → evFn Tryd.prog ext (tab l) k q.1 args = t.val) : E q :=
  entry_of mixed ext_sound tabs_stable noX hl k h
theorem bif_eq {α : Type} {c : Bool} {a b r : α} (ht : c = true → a = r) (hf : c = false → b = r) : (bif c then a else b) = r := by
  cases c
  · exact hf rfl
  · exact ht rfl
theorem bif_neq {α : Type} {c : Bool} {a b r : α} (hf : c = false → a = r) (ht : c = true → b = r) : (bif !c then a else b) = r := by
  cases c
  · exact hf rfl
  · exact ht rfl
theorem bif_and {α : Type} {c d : Bool} {a b r : α} (ht : c = true → (bif d then a else b) = r) (hf : c = false → b = r) : (bif c && d then a else b) = r := by
  cases c
  · exact hf rfl
  · exact ht rfl
end Go.Proofs.YtaojjpdlfnphiaaDoor.PDescKinds
end
section
/- What the functions of package desc, and those that they call, answer: plain functions over plain data; and the contracts that say so. -/
set_option linter.unusedSimpArgs false
set_option linter.unusedVariables false
set_option linter.unusedSectionVars false
namespace Go.Proofs.YtaojjpdlfnphiaaDoor.PDescKinds
open Go.RowKit Go.Ev
theorem D.eta (d : D) : D.mk d.v d.g d.t d.w d.e d.c = d := rfl
namespace S
def nan (a : Nat) : Bool := FloatKind.f64.format.order a a != some Ordering.eq
def neg (a : Nat) : Bool := decide (IntKind.i64.wrap (a : Int) < 0)
def feq (a b : Nat) : Bool := FloatKind.f64.format.order a b == some Ordering.eq
def numSame (a b : Nat) : Bool := bif nan a || nan b then nan a && nan b else feq a b && (neg a == neg b)
def emp (s : ByteArray) : Bool := s.toList == (ByteArray.mk #[]).toList
def V0 : V := ⟨0, false, 0, ⟨#[]⟩, 0⟩
def VU : V := ⟨1, false, 0, ⟨#[]⟩, 0⟩
def D0 : D := ⟨V0, V0, V0, 0, 0, 0⟩
/-- Is a value well formed? -/
def good (v : V) : Bool :=
  bif v.k == 1 then (v.b == false && (emp v.s && (v.id == 0 && (v.n : Int) == 0)))
  else bif v.k == 2 then (v.b == false && (emp v.s && (v.id == 0 && (v.n : Int) == 0)))
  else bif v.k == 3 then (emp v.s && (v.id == 0 && (v.n : Int) == 0))
  else bif v.k == 4 then (v.b == false && (emp v.s && v.id == 0))
  else bif v.k == 5 then (leafIn.strOk v.s && (v.b == false && (v.id == 0 && (v.n : Int) == 0)))
  else bif v.k == 6 then (leafIn.idOk v.id && (v.b == false && (emp v.s && (v.n : Int) == 0)))
  else bif v.k == 7 then (leafIn.idOk v.id && (v.b == false && (emp v.s && (v.n : Int) == 0)))
  else false
/-- SameValue, of well-formed values. -/
def same (a b : V) : Bool := bif a.k == 4 && b.k == 4 then numSame a.n b.n else a.k == b.k && (a.b == b.b && (a.s.toList == b.s.toList && a.id == b.id))
def there (v : V) : Bool := v.k != 0
def pos (n : Nat) : Bool := FloatKind.f64.format.order ((Ieee.double.div 4607182418800017408 n).getD 0) 0 == some Ordering.gt
def isV0 (v : V) : Bool := v.k == 0 && (v.b == false && (Op.floatEq FloatKind.f64 v.n 0 && (v.s == ByteArray.mk #[] && (v.id == 0 && true))))
def absent (v : V) : Bool := isV0 v && pos v.n
def callable (v : V) : Bool := absent v || (good v && (v.k == 1 || v.k == 7))
def tri (t : Int) : Bool := decide (t ≥ 0) && decide (t ≤ 2)
def fields (d : D) : Bool := (absent d.v || good d.v) && (callable d.g && (callable d.t && (tri d.w && (tri d.e && tri d.c))))
def hasD (d : D) : Bool := there d.v || d.w != 0
def hasA (d : D) : Bool := there d.g || there d.t
def check (d : D) : Bool := fields d && !(hasD d && hasA d)
def kindN (d : D) : Int := bif check d then (bif hasD d then 1 else bif hasA d then 2 else 0) else bif fields d then 1 else 0
def isA (d : D) : Bool := check d && (!hasD d && hasA d)
def isD (d : D) : Bool := check d && hasD d
def isG (d : D) : Bool := check d && (!hasD d && !hasA d)
def fill (v : V) : V := bif there v then v else VU
def no (t by_ : Int) : Int := bif t == 0 then by_ else t
/-- Of a well-formed descriptor. -/
def complete (d : D) : D :=
  bif hasD d || !hasA d then ⟨fill d.v, d.g, d.t, no d.w 1, no d.e 1, no d.c 1⟩ else ⟨d.v, fill d.g, fill d.t, d.w, no d.e 1, no d.c 1⟩
def compl (d : D) : D := bif check d then complete d else D0
def alike (a b : V) : Bool := bif there a && there b then (good a && good b) && same a b else there a == there b
def equal (a b : D) : Bool := a.w == b.w && (a.e == b.e && (a.c == b.c && (alike a.v b.v && (alike a.g b.g && alike a.t b.t))))
def whole (d : D) : Bool := check d && (hasD d || hasA d) && equal (complete d) d
def isD0 (d : D) : Bool := (d.v.k == 0 && (d.v.b == false && (Op.floatEq FloatKind.f64 d.v.n 0 && (d.v.s == ByteArray.mk #[] && (d.v.id == 0 && true))))) &&
  ((d.g.k == 0 && (d.g.b == false && (Op.floatEq FloatKind.f64 d.g.n 0 && (d.g.s == ByteArray.mk #[] && (d.g.id == 0 && true))))) &&
  ((d.t.k == 0 && (d.t.b == false && (Op.floatEq FloatKind.f64 d.t.n 0 && (d.t.s == ByteArray.mk #[] && (d.t.id == 0 && true))))) && (d.w == 0 && (d.e == 0 && (d.c == 0 && true)))))
def zero (d : D) : Bool := isD0 d && (absent d.v && (absent d.g && absent d.t))
def barred (now d : D) : Bool :=
  bif d.c == 2 || (d.e != 0 && d.e != now.e) then true
  else bif kindN d == 0 then false
  else bif kindN d != kindN now then true
  else bif kindN d == 2 then (there d.g && !alike d.g now.g) || (there d.t && !alike d.t now.t)
  else now.w == 1 && (d.w == 2 || (there d.v && !alike d.v now.v))
def orV (now d : V) : V := bif there d then d else now
def orT (now d : Int) : Int := bif d != 0 then d else now
def over (now d : D) : D := ⟨orV now.v d.v, orV now.g d.g, orV now.t d.t, orT now.w d.w, orT now.e d.e, orT now.c d.c⟩
def okA (now d : D) : Bool := check d && (whole now || zero now)
def turn (now d : D) : D := ⟨d.v, d.g, d.t, d.w, no d.e now.e, no d.c now.c⟩
def apply (x : Bool) (now d : D) : D × Bool :=
  bif zero now then (bif x then (complete d, true) else (now, false))
  else bif now.c == 1 && barred now d then (now, false)
  else bif kindN d != 0 && kindN d != kindN now then (compl (turn now d), true)
  else (over now d, true)
def okK (a b : D) : Bool := (whole a || zero a) && (whole b || zero b)
def keeps (a b : D) : Bool :=
  bif zero a || a.c == 2 then true
  else bif zero b || (b.c != 1 || (b.e != a.e || isA a != isA b)) then false
  else bif isA a then alike a.g b.g && alike a.t b.t
  else a.w == 2 || (b.w == 1 && alike a.v b.v)
def eqV (a b : V) : Bool := ((a.n : Int) == (b.n : Int) || (nan a.n && nan b.n)) && (a.k == b.k && (a.b == b.b && (a.s.toList == b.s.toList && a.id == b.id)))
def eqD (a b : D) : Bool := eqV a.v b.v && (eqV a.g b.g && (eqV a.t b.t && (a.w == b.w && (a.e == b.e && a.c == b.c))))
end S
namespace T
def inn (v : V) : DT Value :=
  .node (v.k == 1) (.leaf (.iface 124 (.agg #[]))) <| .node (v.k == 2) (.leaf (.iface 141 (.agg #[]))) <| .node (v.k == 3) (.leaf (.iface 142 (.bool v.b))) <| .node (v.k == 4) (.leaf (.iface 139 (.float .f64 v.n))) <|
  .node (v.k == 5) (.node (leafIn.strOk v.s) (.leaf (.iface 143 (.string v.s))) (.leaf .nilIface)) <|
  .node (v.k == 6) (.node (leafIn.idOk v.id) (.leaf (.iface 144 (.int .i64 v.id))) (.leaf .nilIface)) <|
  .node (v.k == 7) (.node (leafIn.idOk v.id) (.leaf (.iface 145 (.int .i64 v.id))) (.leaf .nilIface)) (.leaf .nilIface)
def goods (v : V) : DT Value := (inn v).bind fun i => .leaf (.tuple #[i, .bool (S.good v)])
def B (b : Bool) : DT Value := .leaf (.bool b)
def err (b : Bool) : DT Value := .node b (.leaf (.int .i64 0)) (.leaf (.int .i64 5))
def good (v : V) : DT Value := err (S.good v)
def numSame (a b : Nat) : DT Value := B (S.numSame a b)
def absent (v : V) : DT Value := B (S.absent v)
def callable (v : V) : DT Value := B (S.callable v)
def tri (t : Int) : DT Value := B (S.tri t)
def same (a b : V) : DT Value := .node (S.good a && S.good b) (.leaf (.tuple #[.bool (S.same a b), .int .i64 0])) (.leaf (.tuple #[.bool false, .int .i64 5]))
def kind (d : D) : DT Value := .node (S.check d) (.node (S.hasD d) (.leaf (.tuple #[.int .i64 1, .bool true])) (.node (S.hasA d) (.leaf (.tuple #[.int .i64 2, .bool true])) (.leaf (.tuple #[.int .i64 0, .bool true]))))
  (.node (S.fields d) (.leaf (.tuple #[.int .i64 1, .bool false])) (.leaf (.tuple #[.int .i64 0, .bool false])))
def check (d : D) : DT Value := err (S.check d)
def isA (d : D) : DT Value := B (S.isA d)
def isD (d : D) : DT Value := B (S.isD d)
def isG (d : D) : DT Value := B (S.isG d)
def complete (d : D) : DT Value := .node (S.check d) (.leaf (.tuple #[(S.complete d).agg, .int .i64 0])) (.leaf (.tuple #[S.D0.agg, .int .i64 5]))
def alike (a b : V) : DT Value := B (S.alike a b)
def equal (a b : D) : DT Value := B (S.equal a b)
def whole (d : D) : DT Value := B (S.whole d)
def zero (d : D) : DT Value := B (S.zero d)
def barred (a b : D) : DT Value := B (S.barred a b)
def over (a b : D) : DT Value := .leaf (S.over a b).agg
def apply (x : Bool) (now d : D) : DT Value := .node (S.okA now d) (.leaf (.tuple #[(S.apply x now d).1.agg, .bool (S.apply x now d).2, .int .i64 0])) (.leaf (.tuple #[S.D0.agg, .bool false, .int .i64 5]))
def keeps (a b : D) : DT Value := .node (S.okK a b) (.leaf (.tuple #[.bool (S.keeps a b), .int .i64 0])) (.leaf (.tuple #[.bool false, .int .i64 5]))
def sameD (a b : D) : DT Value := .node (S.check a && S.check b) (.leaf (.tuple #[.bool (S.equal a b), .int .i64 0])) (.leaf (.tuple #[.bool false, .int .i64 5]))
def freeze (d : D) : DT Value := .node (S.whole d) (.node (S.isD d) (.leaf (.tuple #[(D.mk S.V0 S.V0 S.V0 1 0 1).agg, .int .i64 0])) (.leaf (.tuple #[(D.mk S.V0 S.V0 S.V0 0 0 1).agg, .int .i64 0]))) (.leaf (.tuple #[S.D0.agg, .int .i64 5]))
def eqV (a b : V) : DT Value := B (S.eqV a b)
def eqD (a b : D) : DT Value := B (S.eqD a b)
end T
end Go.Proofs.YtaojjpdlfnphiaaDoor.PDescKinds
end
section
/-
  Floats by their bits: which are no numbers, and that '==' of two numbers of one sign is '=' of their bits.
-/
set_option linter.unusedSimpArgs false
set_option linter.unusedVariables false
set_option linter.unusedSectionVars false
namespace Go.Proofs.YtaojjpdlfnphiaaDoor.FloatEq
open Go.Proofs.YtaojjpdlfnphiaaDoorW.PrintWords
open Ieee
def rung (a : Nat) : Nat := a % 9223372036854775808
def sgn (a : Nat) : Bool := a / 9223372036854775808 % 2 == 1
def infR : Nat := 9218868437227405312
theorem sw : Format.signWeight double = 9223372036854775808 := by decide +kernel
theorem bin : Format.binade double = 4503599627370496 := by decide +kernel
theorem inf : Format.infRung double = 9218868437227405312 := by decide +kernel
theorem read_eq (a : Nat) : Format.read double a = if rung a < 4503599627370496 then .number (sgn a) (rung a) double.leastPlace
    else if rung a < infR then .number (sgn a) (4503599627370496 + rung a % 4503599627370496) (double.leastPlace + (rung a / 4503599627370496 - 1 : Nat))
    else if rung a = infR then .infinity (sgn a) else .nan (sgn a) (rung a - infR) := by
  simp only [Format.read, sw, bin, inf, rung, sgn, infR]
  rfl
theorem nan_iff (a : Nat) : fne a a = decide (infR < rung a) := by
  unfold fne feq Format.order
  rw [read_eq]
  split
  · rename_i h
    have : ¬ infR < rung a := by unfold infR; omega
    simp [Datum.order, this]
  · split
    · rename_i h
      have : ¬ infR < rung a := by omega
      simp [Datum.order, this]
    · split
      · rename_i h
        have : ¬ infR < rung a := by omega
        simp [Datum.order, this]
      · have : infR < rung a := by omega
        simp [Datum.order, this]
theorem signed_eq {s : Bool} {m n : Nat} {i j : Nat} : (signed s m i = signed s n j) ↔ m * 2 ^ i = n * 2 ^ j := by
  rw [← Nat.shiftLeft_eq, ← Nat.shiftLeft_eq]
  cases s
  · exact Int.ofNat_inj
  · exact Int.neg_inj.trans Int.ofNat_inj
theorem compare_eq_int (x y : Int) : (compare x y == Ordering.eq) = decide (x = y) := by
  by_cases h : x = y
  · subst h; simp
  · simp only [h, decide_false, beq_eq_false_iff_ne, ne_eq]
    intro hc
    exact h (Int.compare_eq_eq.1 hc)
theorem pow_ne {m n d : Nat} (hm : m < 9007199254740992) (hn : 4503599627370496 ≤ n) (hd : 1 ≤ d) : m ≠ n * 2 ^ d := by
  obtain ⟨e, rfl⟩ : ∃ e, d = e + 1 := ⟨d - 1, by omega⟩
  have h1 : 1 ≤ 2 ^ e := Nat.one_le_two_pow
  have h2 : n * 1 ≤ n * 2 ^ e := Nat.mul_le_mul_left n h1
  rw [Nat.pow_succ, ← Nat.mul_assoc]
  omega
theorem num_eq {s : Bool} {m n p q : Nat} {L : Int} (hm : m < 9007199254740992) (hn : n < 9007199254740992) (hp : 0 < p → 4503599627370496 ≤ m) (hq : 0 < q → 4503599627370496 ≤ n) :
    (Datum.order (.number s m (L + (p : Nat))) (.number s n (L + (q : Nat))) == some .eq) = decide (m = n ∧ p = q) := by
  show (some (compare _ _) == some Ordering.eq) = _
  rw [show ∀ o : Ordering, (some o == some Ordering.eq) = (o == Ordering.eq) from fun o => by cases o <;> rfl, compare_eq_int]
  refine decide_eq_decide.2 ?_
  rw [signed_eq]
  by_cases hpq : p ≤ q
  · rw [show min (L + (p : Int)) (L + q) = L + p by omega, show (L + (p : Int) - (L + p)).toNat = 0 by omega, show (L + (q : Int) - (L + p)).toNat = q - p by omega]
    by_cases he : q = p
    · subst he; simp
    · have := pow_ne (d := q - p) hm (hq (by omega)) (by omega)
      simp only [Nat.pow_zero, Nat.mul_one]
      constructor
      · intro h; exact absurd h this
      · rintro ⟨_, h⟩; omega
  · rw [show min (L + (p : Int)) (L + q) = L + q by omega, show (L + (q : Int) - (L + q)).toNat = 0 by omega, show (L + (p : Int) - (L + q)).toNat = p - q by omega]
    have := pow_ne (d := p - q) hn (hp (by omega)) (by omega)
    simp only [Nat.pow_zero, Nat.mul_one]
    constructor
    · intro h; exact absurd h.symm this
    · rintro ⟨_, h⟩; omega
theorem feq_same {a b : Nat} (ha : ¬ infR < rung a) (hb : ¬ infR < rung b) (hs : sgn a = sgn b) : feq a b = decide (rung a = rung b) := by
  unfold feq Format.order
  rw [read_eq, read_eq, ← hs]
  by_cases ia : rung a = infR
  · by_cases ib : rung b = infR
    · rw [if_neg (by rw [ia]; unfold infR; omega), if_neg (by omega), if_pos ia, if_neg (by rw [ib]; unfold infR; omega), if_neg (by omega), if_pos ib]
      simp [Datum.order, ia, ib]
    · rw [if_neg (by rw [ia]; unfold infR; omega), if_neg (by omega), if_pos ia]
      have hne : ¬ rung a = rung b := by omega
      split
      · cases sgn a <;> simp [Datum.order, hne]
      · split
        · cases sgn a <;> simp [Datum.order, hne]
        · omega
  · by_cases ib : rung b = infR
    · have hne : ¬ rung a = rung b := by omega
      rw [if_neg (show ¬ rung b < 4503599627370496 by rw [ib]; unfold infR; omega), if_neg (show ¬ rung b < infR by omega), if_pos ib]
      split
      · cases sgn a <;> simp [Datum.order, hne]
      · split
        · cases sgn a <;> simp [Datum.order, hne]
        · omega
    · have la : rung a < infR := by omega
      have lb : rung b < infR := by omega
      have form : ∀ r, r < infR → (if r < 4503599627370496 then Datum.number (sgn a) r double.leastPlace else if r < infR then .number (sgn a) (4503599627370496 + r % 4503599627370496) (double.leastPlace + (r / 4503599627370496 - 1 : Nat)) else if r = infR then .infinity (sgn a) else .nan (sgn a) (r - infR)) =
          Datum.number (sgn a) (if r < 4503599627370496 then r else 4503599627370496 + r % 4503599627370496) (double.leastPlace + ((if r < 4503599627370496 then 0 else r / 4503599627370496 - 1 : Nat) : Nat)) := by
        intro r hr
        by_cases h : r < 4503599627370496
        · simp [h]
        · simp [h, hr]
      rw [form _ la, form _ lb, num_eq]
      · refine decide_eq_decide.2 ⟨?_, fun h => by rw [h]; simp⟩
        split <;> split <;> omega
      · split <;> omega
      · split <;> omega
      · split <;> omega
      · split <;> omega
theorem feq_zero (n : Nat) : feq n 0 = decide (rung n = 0) := by
  unfold feq Format.order
  rw [read_eq, show Format.read double 0 = .number false 0 double.leastPlace from by rw [read_eq]; rfl]
  split
  · rename_i h
    simp only [Datum.order, Int.min_self, Int.sub_self, Int.toNat_zero]
    by_cases h0 : rung n = 0
    · rw [h0]
      cases sgn n <;> simp [signed]
    · have : (signed (sgn n) (rung n) 0 == signed false 0 0) = false := by
        cases sgn n <;> simp [signed, h0]
      rw [decide_eq_false h0]
      have hne : signed (sgn n) (rung n) 0 ≠ signed false 0 0 := by simpa using this
      cases hc : compare (signed (sgn n) (rung n) 0) (signed false 0 0) with
      | lt => rfl
      | gt => rfl
      | eq => exact absurd (Int.compare_eq_eq.1 hc) hne
  · split
    · rename_i h h2
      have h0 : ¬ rung n = 0 := by omega
      rw [decide_eq_false h0]
      simp only [Datum.order]
      have hp : ∀ a b : Nat, 0 < (4503599627370496 + a) <<< b := fun a b => by
        rw [Nat.shiftLeft_eq]
        exact Nat.mul_pos (by omega) (Nat.two_pow_pos b)
      have hz : ∀ b : Nat, (0 : Nat) <<< b = 0 := fun b => by rw [Nat.shiftLeft_eq, Nat.zero_mul]
      generalize hb : (double.leastPlace + ((rung n / 4503599627370496 - 1 : Nat) : Int) - min (double.leastPlace + ((rung n / 4503599627370496 - 1 : Nat) : Int)) double.leastPlace).toNat = b
      generalize (double.leastPlace - min (double.leastPlace + ((rung n / 4503599627370496 - 1 : Nat) : Int)) double.leastPlace).toNat = b'
      have := hp (rung n % 4503599627370496) b
      have hne : signed (sgn n) (4503599627370496 + rung n % 4503599627370496) b ≠ signed false 0 b' := by
        unfold signed
        rw [hz]
        cases sgn n
        · simp only [Bool.false_eq_true, if_false]
          omega
        · simp only [if_true, Bool.false_eq_true, if_false]
          omega
      cases hc : compare (signed (sgn n) (4503599627370496 + rung n % 4503599627370496) b) (signed false 0 b') with
      | lt => rfl
      | gt => rfl
      | eq => exact absurd (Int.compare_eq_eq.1 hc) hne
    · split
      · rename_i h h2 h3
        have h0 : ¬ rung n = 0 := by rw [h3]; unfold infR; omega
        rw [decide_eq_false h0]
        cases sgn n <;> rfl
      · rename_i h h2 h3
        have h0 : ¬ rung n = 0 := by omega
        rw [decide_eq_false h0]
        rfl
theorem floatEq_zero (n : Nat) : Op.floatEq FloatKind.f64 n 0 = decide (rung n = 0) := feq_zero n
theorem div_one {n : Nat} (h : rung n = 0) : Format.div double 4607182418800017408 n = some (Format.write double (.infinity (sgn n))) := by
  unfold Format.div
  have h1 : Format.read double n = .number (sgn n) 0 double.leastPlace := by rw [read_eq, h]; rfl
  have h2 : Format.read double 4607182418800017408 = .number false 4503599627370496 (double.leastPlace + (1023 - 1 : Nat)) := by rw [read_eq]; rfl
  rw [h1, h2]
  show Option.map _ (some (Datum.infinity (false ^^ sgn n))) = _
  cases sgn n <;> rfl
theorem div_isSome {n : Nat} (h : Op.floatEq FloatKind.f64 n 0 = true) : (Format.div double 4607182418800017408 n).isSome = true := by
  rw [floatEq_zero, decide_eq_true_eq] at h
  rw [div_one h]
  rfl
theorem f00 : Op.floatEq FloatKind.f64 0 0 = true := by decide +kernel
end Go.Proofs.YtaojjpdlfnphiaaDoor.FloatEq
namespace Go.Proofs.YtaojjpdlfnphiaaDoor.PDescKinds
open Go.RowKit Go.Ev
theorem ent_inn : E (123, onV T.inn) := fun args t v h hv w hI => by
  obtain ⟨u, rfl, rfl⟩ := onV_eq h
  have e : (T.inn u).val = some (leafIn.one u.k u.b u.n u.s u.id) := by
    simp only [T.inn, leafIn.one, DT.val_node, DT.val_leaf, cond_eq_ite, beq_iff_eq]
    repeat' (split <;> try rfl)
  rw [e] at hv
  obtain rfl := Option.some.inj hv
  exact leafIn.inn u.k u.b u.n u.s u.id w hI
end Go.Proofs.YtaojjpdlfnphiaaDoor.PDescKinds
end
section
/- Plain laws of descriptors: what is whole, what is filled, what is applied. -/
set_option linter.unusedSimpArgs false
set_option linter.unusedVariables false
set_option linter.unusedSectionVars false
namespace Go.Proofs.YtaojjpdlfnphiaaDoor.PDescKinds.S
theorem numSame_refl (a : Nat) : numSame a a = true := by
  unfold numSame nan feq neg
  cases h : FloatKind.f64.format.order a a == some Ordering.eq
  · simp only [beq_eq_false_iff_ne, ne_eq] at h
    simp [h]
  · simp only [beq_iff_eq] at h
    simp [h]
theorem same_refl (v : V) : same v v = true := by
  unfold same
  cases h : v.k == 4 <;> simp [numSame_refl]
theorem eqV_refl (v : V) : eqV v v = true := by simp [eqV]
theorem eqD_refl (d : D) : eqD d d = true := by simp [eqD, eqV_refl]
theorem absent_not {v : V} (h : absent v = true) : there v = false := by
  unfold absent isV0 at h
  simp only [Bool.and_eq_true, beq_iff_eq] at h
  unfold there
  simp [h.1.1]
/-- Absent, or well formed. -/
def okv (v : V) : Bool := absent v || good v
theorem okv_there {v : V} (h : okv v = true) (ht : there v = true) : good v = true := by
  unfold okv at h
  rw [Bool.or_eq_true] at h
  rcases h with h | h
  · rw [absent_not h] at ht; cases ht
  · exact h
theorem alike_refl {v : V} (h : okv v = true) : alike v v = true := by
  unfold alike
  cases ht : there v
  · rfl
  · simp [okv_there h ht, same_refl]
theorem okv_callable {v : V} (h : callable v = true) : okv v = true := by
  unfold callable at h
  unfold okv
  revert h
  cases absent v <;> cases good v <;> simp
theorem good_VU : good VU = true := by decide +kernel
theorem callable_VU : callable VU = true := by unfold callable; rw [good_VU]; simp [VU]
theorem there_VU : there VU = true := rfl
theorem there_fill (v : V) : there (fill v) = true := by
  unfold fill
  cases h : there v
  · rfl
  · exact h
theorem fill_of {v : V} (h : there v = true) : fill v = v := by simp [fill, h]
theorem okv_fill {v : V} (h : okv v = true) : okv (fill v) = true := by
  unfold fill
  cases there v
  · simp [okv, good_VU]
  · exact h
theorem callable_fill {v : V} (h : callable v = true) : callable (fill v) = true := by
  unfold fill
  cases there v
  · exact callable_VU
  · exact h
theorem alike_fill {v : V} (h : okv v = true) : alike (fill v) v = there v := by
  cases ht : there v
  · simp [alike, fill, ht, there_VU]
  · rw [fill_of ht, alike_refl h]
theorem tri_no {t b : Int} (h : tri t = true) (hb : tri b = true) : tri (no t b) = true := by
  unfold no
  cases t == 0
  · exact h
  · exact hb
theorem tri_orT {t b : Int} (h : tri t = true) (hb : tri b = true) : tri (orT t b) = true := by
  unfold orT
  cases b != 0
  · exact h
  · exact hb
theorem no_eq {t b : Int} (hb : b ≠ 0) : (no t b == t) = (t != 0) := by
  unfold no
  by_cases h : t = 0
  · subst h; simp [hb]
  · have : (t == 0) = false := by simp [h]
    rw [this]; simp [h]
/-- What is well formed. -/
theorem check_eq (d : D) : check d = ((okv d.v && (callable d.g && (callable d.t && (tri d.w && (tri d.e && tri d.c))))) && !(hasD d && hasA d)) := rfl
theorem whole_eq (d : D) : whole d = (check d && ((there d.v && d.w != 0 && !hasA d || there d.g && there d.t && !hasD d) && (d.e != 0 && d.c != 0))) := by
  unfold whole
  cases hc : check d
  · rfl
  · rw [check_eq] at hc
    simp only [Bool.and_eq_true] at hc
    obtain ⟨⟨hv, hg, ht, hw, he, hcc⟩, hx⟩ := hc
    have kg := okv_callable hg
    have kt := okv_callable ht
    simp only [Bool.true_and]
    cases hd : hasD d
    · have hd' := hd
      unfold hasD at hd'
      rw [Bool.or_eq_false_iff] at hd'
      cases ha : hasA d
      · have ha' := ha
        unfold hasA at ha'
        rw [Bool.or_eq_false_iff] at ha'
        simp [ha'.1, ha'.2, hd'.1]
      · have hs := hd
        unfold hasD at hs
        rw [Bool.or_eq_false_iff] at hs
        simp only [equal, complete, hd, ha, Bool.false_or, Bool.not_true, cond_false, no_eq (b := 1) (by decide), alike_fill kg, alike_fill kt, alike_refl hv, beq_self_eq_true, hs.1]
        cases there d.g <;> cases there d.t <;> cases d.e != 0 <;> cases d.c != 0 <;> simp
    · have ha : hasA d = false := by
        rw [hd] at hx
        simpa using hx
      simp only [equal, complete, hd, ha, Bool.true_or, cond_true, no_eq (b := 1) (by decide), alike_fill hv, alike_refl kg, alike_refl kt]
      cases there d.v <;> cases d.w != 0 <;> cases d.e != 0 <;> cases d.c != 0 <;> simp
theorem zero_not {d : D} (h : zero d = true) : hasD d = false ∧ hasA d = false ∧ d.e = 0 ∧ d.c = 0 := by
  unfold zero isD0 at h
  simp only [Bool.and_eq_true, beq_iff_eq] at h
  obtain ⟨⟨⟨h1, _⟩, ⟨h2, _⟩, ⟨h3, _⟩, h4, h5, h6, _⟩, _⟩ := h
  simp [hasD, hasA, there, h1, h2, h3, h4, h5, h6]
theorem whole_zero {d : D} (h : whole d = true) : zero d = false := by
  cases hz : zero d
  · rfl
  · obtain ⟨_, _, he, _⟩ := zero_not hz
    rw [whole_eq] at h
    simp [he] at h
theorem tri_one : tri 1 = true := rfl
theorem complete_D {d : D} (h : (hasD d || !hasA d) = true) : complete d = ⟨fill d.v, d.g, d.t, no d.w 1, no d.e 1, no d.c 1⟩ := by
  unfold complete; rw [h]; rfl
theorem complete_A {d : D} (h : (hasD d || !hasA d) = false) : complete d = ⟨d.v, fill d.g, fill d.t, d.w, no d.e 1, no d.c 1⟩ := by
  unfold complete; rw [h]; rfl
theorem no_ne (t : Int) {b : Int} (hb : b ≠ 0) : (no t b != 0) = true := by
  unfold no
  by_cases h0 : t = 0
  · subst h0; simpa using hb
  · have : (t == 0) = false := by simp [h0]
    rw [this]; simp [h0]
/-- Of a well-formed one. -/
theorem complete_whole {d : D} (h : check d = true) : whole (complete d) = true := by
  rw [whole_eq, check_eq]
  rw [check_eq] at h
  simp only [Bool.and_eq_true] at h
  obtain ⟨⟨hv, hg, ht, hw, he, hc⟩, hx⟩ := h
  have n1 := fun t => no_ne t (b := 1) (by decide)
  cases hk : hasD d || !hasA d
  · rw [complete_A hk]
    simp only [Bool.or_eq_false_iff, Bool.not_eq_false'] at hk
    have hs := hk.1
    unfold hasD at hs
    rw [Bool.or_eq_false_iff] at hs
    simp only [hasD, hasA, hs.1, hs.2, hv, callable_fill hg, callable_fill ht, hw, tri_no he tri_one, tri_no hc tri_one, n1, there_fill, Bool.false_and, Bool.and_false, Bool.or_false, Bool.false_or, Bool.not_false, Bool.not_true, Bool.and_true, Bool.true_or]
  · rw [complete_D hk]
    have ha : hasA d = false := by
      revert hk hx
      cases hasD d <;> cases hasA d <;> simp
    unfold hasA at ha
    rw [Bool.or_eq_false_iff] at ha
    simp only [hasD, hasA, ha.1, ha.2, okv_fill hv, hg, ht, tri_no hw tri_one, tri_no he tri_one, tri_no hc tri_one, n1, there_fill, Bool.false_and, Bool.and_false, Bool.or_false, Bool.false_or, Bool.not_false, Bool.not_true, Bool.and_true, Bool.true_or]
theorem there_orV (a b : V) : there (orV a b) = (there a || there b) := by
  unfold orV
  cases h : there b <;> simp [h]
theorem orT_ne (a b : Int) : (orT a b != 0) = (a != 0 || b != 0) := by
  unfold orT
  cases h : b != 0 <;> simp [h]
theorem hasD_over (a b : D) : hasD (over a b) = (hasD a || hasD b) := by
  simp only [hasD, over, there_orV, orT_ne]
  cases there a.v <;> cases there b.v <;> cases a.w != 0 <;> cases b.w != 0 <;> rfl
theorem hasA_over (a b : D) : hasA (over a b) = (hasA a || hasA b) := by
  simp only [hasA, over, there_orV]
  cases there a.g <;> cases there b.g <;> cases there a.t <;> cases there b.t <;> rfl
theorem okv_orV {a b : V} (ha : okv a = true) (hb : okv b = true) : okv (orV a b) = true := by
  unfold orV
  cases there b
  · exact ha
  · exact hb
theorem callable_orV {a b : V} (ha : callable a = true) (hb : callable b = true) : callable (orV a b) = true := by
  unfold orV
  cases there b
  · exact ha
  · exact hb
theorem kindN_of {d : D} (h : check d = true) : kindN d = bif hasD d then 1 else bif hasA d then 2 else 0 := by
  unfold kindN; rw [h]; rfl
/-- Of two of one kind. -/
theorem over_whole {a b : D} (ha : whole a = true) (hb : check b = true) (hk : kindN b = 0 ∨ kindN b = kindN a) : whole (over a b) = true := by
  have hca : check a = true := by
    rw [whole_eq] at ha
    simp only [Bool.and_eq_true] at ha
    exact ha.1
  rw [kindN_of hca, kindN_of hb] at hk
  rw [whole_eq, check_eq, hasD_over, hasA_over]
  rw [whole_eq, check_eq] at ha
  rw [check_eq] at hb
  simp only [Bool.and_eq_true] at ha hb
  obtain ⟨⟨⟨hv, hg, ht, hw, he, hc⟩, hx⟩, hy, hz1, hz2⟩ := ha
  obtain ⟨⟨kv, kg, kt, kw, ke, kc⟩, kx⟩ := hb
  simp only [over, okv_orV hv kv, callable_orV hg kg, callable_orV ht kt, tri_orT hw kw, tri_orT he ke, tri_orT hc kc, there_orV, orT_ne, hz1, hz2, Bool.true_or, Bool.true_and, Bool.and_true]
  revert hk hx hy kx
  simp only [hasD, hasA]
  cases there a.v <;> cases there a.g <;> cases there a.t <;> cases a.w != 0 <;> cases there b.v <;> cases there b.g <;> cases there b.t <;> cases b.w != 0 <;> simp
end Go.Proofs.YtaojjpdlfnphiaaDoor.PDescKinds.S
/-! #### part P1 -/
/- Plain laws: what Apply answers with true is whole, and holds what was asked for. -/
set_option linter.unusedSimpArgs false
set_option linter.unusedVariables false
set_option linter.unusedSectionVars false
namespace Go.Proofs.YtaojjpdlfnphiaaDoor.PDescKinds.S
/-- Whole, and all that a descriptor asks for. -/
structure Fit (o b : D) : Prop where
  whole : whole o = true
  check : check b = true
  kind : kindN b = 0 ∨ kindN b = kindN o
  v : there b.v = true → o.v = b.v
  g : there b.g = true → o.g = b.g
  t : there b.t = true → o.t = b.t
  w : b.w ≠ 0 → o.w = b.w
  e : b.e ≠ 0 → o.e = b.e
  c : b.c ≠ 0 → o.c = b.c
theorem check_whole {a : D} (h : whole a = true) : check a = true := by
  rw [whole_eq] at h
  simp only [Bool.and_eq_true] at h
  exact h.1
theorem okv_of {d : D} (h : check d = true) : okv d.v = true ∧ okv d.g = true ∧ okv d.t = true := by
  rw [check_eq] at h
  simp only [Bool.and_eq_true] at h
  exact ⟨h.1.1, okv_callable h.1.2.1, okv_callable h.1.2.2.1⟩
theorem orV_same {a b : V} (h : there b = true → a = b) : orV a b = a := by
  unfold orV
  cases hb : there b
  · rfl
  · rw [h hb]; rfl
theorem orT_same {a b : Int} (h : b ≠ 0 → a = b) : orT a b = a := by
  unfold orT
  by_cases hb : b = 0
  · subst hb; rfl
  · have : (b != 0) = true := by simpa using hb
    rw [this, h hb]; rfl
theorem Fit.over {o b : D} (h : Fit o b) : over o b = o := by
  unfold S.over
  rw [orV_same h.v, orV_same h.g, orV_same h.t, orT_same h.w, orT_same h.e, orT_same h.c]
theorem Fit.barred {o b : D} (h : Fit o b) (hc : o.c = 1) : barred o b = false := by
  obtain ⟨kv, kg, kt⟩ := okv_of h.check
  have h1 : (b.c == 2) = false := by
    rw [beq_eq_false_iff_ne]
    intro h2
    have := h.c (by omega)
    omega
  have h2 : (b.e != 0 && b.e != o.e) = false := by
    by_cases he : b.e = 0
    · simp [he]
    · simp [h.e he]
  unfold S.barred
  rw [h1, h2]
  simp only [Bool.or_false, cond_false]
  by_cases hz : kindN b = 0
  · simp [hz]
  · have hk : kindN b = kindN o := by
      rcases h.kind with hk | hk
      · exact absurd hk hz
      · exact hk
    have e1 : (kindN b == 0) = false := by simp [hz]
    have e2 : (kindN b != kindN o) = false := by simp [hk]
    rw [e1, e2]
    simp only [cond_false]
    have a1 : (there b.g && !alike b.g o.g) = false := by
      cases hg : there b.g
      · rfl
      · rw [h.g hg, alike_refl kg]; rfl
    have a2 : (there b.t && !alike b.t o.t) = false := by
      cases hg : there b.t
      · rfl
      · rw [h.t hg, alike_refl kt]; rfl
    have a3 : (there b.v && !alike b.v o.v) = false := by
      cases hg : there b.v
      · rfl
      · rw [h.v hg, alike_refl kv]; rfl
    rw [a1, a2, a3]
    cases hw : o.w == 1
    · simp
    · have : (b.w == 2) = false := by
        rw [beq_eq_false_iff_ne]
        intro h2
        have := h.w (by omega)
        simp only [beq_iff_eq] at hw
        omega
      rw [this]; simp
/-- What fits changes no more. -/
theorem Fit.apply {o b : D} (x : Bool) (h : Fit o b) : apply x o b = (o, true) := by
  unfold S.apply
  rw [whole_zero h.whole]
  simp only [cond_false]
  have h1 : (o.c == 1 && S.barred o b) = false := by
    cases hc : o.c == 1
    · rfl
    · rw [h.barred (by simpa using hc)]; rfl
  have h2 : (kindN b != 0 && kindN b != kindN o) = false := by
    rcases h.kind with hk | hk <;> simp [hk]
  rw [h1, h2]
  simp only [cond_false]
  rw [h.over]
theorem Fit.okA {o b : D} (h : Fit o b) : okA o b = true := by unfold S.okA; rw [h.check, h.whole]; rfl
theorem fill_same {v : V} : there v = true → fill v = v := fill_of
theorem no_same {t b : Int} : t ≠ 0 → no t b = t := fun h => by
  unfold no
  have : (t == 0) = false := by simp [h]
  rw [this]; rfl
/-- What is filled fits. -/
theorem fit_complete {d : D} (h : S.check d = true) : Fit (complete d) d := by
  have hw := complete_whole h
  have hc' := check_whole hw
  have hx := h
  rw [check_eq] at hx
  simp only [Bool.and_eq_true] at hx
  have hx := hx.2
  cases hk : hasD d || !hasA d
  · have e := complete_A hk
    simp only [Bool.or_eq_false_iff, Bool.not_eq_false'] at hk
    refine ⟨hw, h, .inr ?_, ?_, ?_, ?_, ?_, ?_, ?_⟩
    · rw [kindN_of h, kindN_of hc', e]
      have hs := hk.1
      unfold hasD at hs
      rw [Bool.or_eq_false_iff] at hs
      simp [hasD, hasA, hs.1, hs.2, there_fill]
      have := hk.2
      unfold hasA at this
      rw [this]; rfl
    all_goals rw [e]
    · exact fun _ => rfl
    · exact fill_same
    · exact fill_same
    · exact fun _ => rfl
    · exact no_same
    · exact no_same
  · have e := complete_D hk
    refine ⟨hw, h, ?_, ?_, ?_, ?_, ?_, ?_, ?_⟩
    · rw [kindN_of h, kindN_of hc', e]
      cases hd : hasD d
      · rw [hd] at hk
        simp only [Bool.false_or, Bool.not_eq_true'] at hk
        left
        simp [hk]
      · right
        simp [hasD, there_fill]
    all_goals rw [e]
    · exact fill_same
    · exact fun _ => rfl
    · exact fun _ => rfl
    · exact no_same
    · exact no_same
    · exact no_same
theorem check_turn {a b : D} (ha : S.whole a = true) (hb : S.check b = true) : S.check (turn a b) = true := by
  have hca := check_whole ha
  rw [check_eq] at hb hca ⊢
  simp only [Bool.and_eq_true] at hb hca ⊢
  obtain ⟨⟨_, _, _, _, he, hc⟩, _⟩ := hca
  obtain ⟨⟨kv, kg, kt, kw, ke, kc⟩, kx⟩ := hb
  exact ⟨⟨kv, kg, kt, kw, tri_no ke he, tri_no kc hc⟩, kx⟩
theorem fit_turn {a b : D} (ha : S.whole a = true) (hb : S.check b = true) : Fit (complete (turn a b)) b := by
  have ht := check_turn ha hb
  have h := fit_complete ht
  refine ⟨h.whole, hb, ?_, h.v, h.g, h.t, h.w, ?_, ?_⟩
  · have := h.kind
    rw [kindN_of ht] at this
    rw [kindN_of hb]
    exact this
  · intro he
    have := h.e (by show no b.e a.e ≠ 0; rw [no_same he]; exact he)
    rw [this]
    exact no_same he
  · intro he
    have := h.c (by show no b.c a.c ≠ 0; rw [no_same he]; exact he)
    rw [this]
    exact no_same he
theorem kindN_whole {a : D} (ha : S.whole a = true) : kindN a = bif hasD a then 1 else 2 := by
  rw [kindN_of (check_whole ha)]
  rw [whole_eq] at ha
  simp only [Bool.and_eq_true] at ha
  have := ha.2.1
  revert this
  unfold hasD hasA
  cases there a.v <;> cases a.w != 0 <;> cases there a.g <;> cases there a.t <;> simp
theorem fit_over {a b : D} (ha : S.whole a = true) (hb : S.check b = true) (hk : kindN b = 0 ∨ kindN b = kindN a) : Fit (S.over a b) b := by
  have hw := over_whole ha hb hk
  refine ⟨hw, hb, ?_, ?_, ?_, ?_, ?_, ?_, ?_⟩
  · rcases hk with hk | hk
    · exact .inl hk
    · right
      rw [hk, kindN_whole hw, kindN_whole ha, hasD_over]
      rw [kindN_of hb, kindN_whole ha] at hk
      revert hk
      cases hasD a <;> cases hasD b <;> cases hasA b <;> simp
  all_goals simp only [S.over]
  · intro h; simp [orV, h]
  · intro h; simp [orV, h]
  · intro h; simp [orV, h]
  · intro h
    have : (b.w != 0) = true := by simpa using h
    simp [orT, this]
  · intro h
    have : (b.e != 0) = true := by simpa using h
    simp [orT, this]
  · intro h
    have : (b.c != 0) = true := by simpa using h
    simp [orT, this]
theorem okA_of {a b : D} (h : S.okA a b = true) : S.check b = true ∧ (S.whole a = true ∨ S.zero a = true) := by
  unfold S.okA at h
  simpa using h
theorem apply_fit {x : Bool} {a b : D} (h : S.okA a b = true) (h2 : (S.apply x a b).2 = true) : Fit (S.apply x a b).1 b := by
  obtain ⟨hb, ha⟩ := okA_of h
  unfold S.apply at h2 ⊢
  cases hz : zero a
  · rw [hz] at h2
    have ha : S.whole a = true := by
      rcases ha with ha | ha
      · exact ha
      · rw [hz] at ha; cases ha
    simp only [cond_false] at h2 ⊢
    cases h3 : a.c == 1 && S.barred a b
    · simp only [cond_false]
      cases h4 : kindN b != 0 && kindN b != kindN a
      · simp only [cond_false]
        refine fit_over ha hb ?_
        by_cases hk : kindN b = 0
        · exact .inl hk
        · right
          simpa [hk] using h4
      · simp only [cond_true, compl, check_turn ha hb]
        exact fit_turn ha hb
    · rw [h3] at h2
      simp at h2
  · rw [hz] at h2
    simp only [cond_true] at h2 ⊢
    cases x
    · simp at h2
    · exact fit_complete hb
theorem apply_no {x : Bool} {a b : D} (h : S.okA a b = true) (h2 : (S.apply x a b).2 = false) : (S.apply x a b).1 = a := by
  unfold S.apply at h2 ⊢
  cases hz : zero a
  · rw [hz] at h2
    simp only [cond_false] at h2 ⊢
    cases h3 : a.c == 1 && S.barred a b
    · rw [h3] at h2
      simp only [cond_false] at h2
      cases h4 : kindN b != 0 && kindN b != kindN a
      · rw [h4] at h2; cases h2
      · rw [h4] at h2; cases h2
    · rfl
  · rw [hz] at h2
    simp only [cond_true] at h2 ⊢
    cases x
    · rfl
    · cases h2
/-- DescTakes, of what Apply took. -/
theorem takes_yes {x : Bool} {a b : D} (h : S.okA a b = true) (h2 : (S.apply x a b).2 = true) :
    S.okA (S.apply x a b).1 b = true ∧ S.whole (S.apply x a b).1 = true ∧ (S.apply x (S.apply x a b).1 b).2 = true ∧ S.eqD (S.apply x (S.apply x a b).1 b).1 (S.apply x a b).1 = true ∧
    ((b.v.k != 0) = true → S.eqV (S.apply x a b).1.v b.v = true) ∧ ((b.g.k != 0) = true → S.eqV (S.apply x a b).1.g b.g = true) ∧ ((b.t.k != 0) = true → S.eqV (S.apply x a b).1.t b.t = true) ∧
    ((b.w == 0) = false → ((S.apply x a b).1.w == b.w) = true) ∧ ((b.e == 0) = false → ((S.apply x a b).1.e == b.e) = true) ∧ ((b.c == 0) = false → ((S.apply x a b).1.c == b.c) = true) := by
  have f := apply_fit h h2
  refine ⟨f.okA, f.whole, by rw [f.apply x], by rw [f.apply x]; exact eqD_refl _, ?_, ?_, ?_, ?_, ?_, ?_⟩
  · intro hh; rw [f.v hh]; exact eqV_refl _
  · intro hh; rw [f.g hh]; exact eqV_refl _
  · intro hh; rw [f.t hh]; exact eqV_refl _
  · intro hh; rw [f.w (by simpa using hh)]; exact beq_self_eq_true _
  · intro hh; rw [f.e (by simpa using hh)]; exact beq_self_eq_true _
  · intro hh; rw [f.c (by simpa using hh)]; exact beq_self_eq_true _
theorem takes_no {x : Bool} {a b : D} (h : S.okA a b = true) (h2 : (S.apply x a b).2 = false) : S.eqD (S.apply x a b).1 a = true := by
  rw [apply_no h h2]; exact eqD_refl _
end Go.Proofs.YtaojjpdlfnphiaaDoor.PDescKinds.S
end
end
