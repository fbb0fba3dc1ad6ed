/- DescKeeps: the first loop. -/
import Derived.Test.YtaojjpdlfnphiaaDoorK4
set_option linter.unusedSimpArgs false
set_option linter.unusedVariables false
set_option linter.unusedSectionVars false
namespace Go.Proofs.YtaojjpdlfnphiaaDoor.PDescKinds
open Go.RowKit Go.Ev
namespace Keeps
theorem xok_rows {w : World} {A : Option Addr} {n c : Nat} {g : Nat → D} {A1 : Option Addr} {n1 c1 : Nat} {g1 : Nat → D} {A2 : Option Addr} {z : D} (h0 : RawRow w A n g) (h1 : RawRow w A1 n1 g1) (h2 : RawRow w A2 1 fun _ => z) :
    @XOk (rows A n c g A1 n1 c1 g1 A2 z) w := by
  letI := rows A n c g A1 n1 c1 g1 A2 z
  intro r
  show XRow w (match r with
    | [0] => ⟨A, 18, n, c, fun j => (g j).cells⟩
    | [1] => ⟨A1, 18, n1, c1, fun j => (g1 j).cells⟩
    | [2] => ⟨A2, 18, 1, 1, fun _ => z.cells⟩
    | _ => ⟨none, 18, 0, 0, fun _ => []⟩)
  split
  · exact xrow_of h0
  · exact xrow_of h1
  · exact xrow_of h2
  · exact fun j hj => absurd hj (Nat.not_lt_zero _)
theorem raw_box {w : World} {g4 : Nat} {z : D} (h : w.heap[g4]? = some (.cells z.list.toArray 27 (0, 0))) : RawRow w (some ⟨g4, 0, none⟩) 1 fun _ => z := fun j hj => by
  obtain rfl : j = 0 := by omega
  refine ⟨_, rfl, (Array.getElem?_eq_some_iff.1 h).1, fun k v hk => ?_⟩
  rw [add_none, cell_of_row w g4 _ _ 27 (0, 0) h]
  simpa using hk
section
variable (w0 : World) (A : Option Addr) (n c : Nat) (g : Nat → D) (x : Bool) (z : D)
/-- At the head of the first loop. -/
structure Head (L : List D) (i : Int) (a : Act) (w : World) : Prop where
  below : Below w0.heap.size w0 w
  size : a.tmps.size = 87
  defers : a.defers = []
  t0 : a.tmps.getD 0 undef = .bool x
  t2 : a.tmps.getD 2 undef = .slice A n c
  t8 : a.tmps.getD 8 undef = .int .i64 i
  own : w.ownsRow w0.heap.size 27 18 (a.tmps.getD 7 undef) L.length (L.flatMap D.list)
  box : ∃ g4, a.tmps.getD 4 undef = .pointer (some ⟨g4, 0, none⟩) ∧ w0.heap.size ≤ g4 ∧ w.heap[g4]? = some (.cells z.list.toArray 27 (0, 0)) ∧ (a.tmps.getD 7 undef).ownBlock ≠ some g4
/-- The rows of an epoch. -/
abbrev Er (gb cap g4 : Nat) (L : List D) : XEnv := rows A n c g (some ⟨gb, 0, none⟩) L.length cap (fun j => L.getD j S.D0) (some ⟨g4, 0, none⟩) z
def InvE (gb cap g4 : Nat) (L : List D) (w : World) : Prop := Tabs w ∧ @XOk (Er A n c g z gb cap g4 L) w
theorem invE_stable (gb cap g4 : Nat) (L : List D) : Stable (InvE A n c g z gb cap g4 L) := fun w w' h hb => ⟨tabs_stable _ _ h.1 hb, @XOk.below (Er A n c g z gb cap g4 L) _ _ h.2 hb⟩
theorem givenE (gb cap g4 : Nat) (L : List D) : @GivenSound (Er A n c g z gb cap g4 L) Tryd.prog (InvE A n c g z gb cap g4 L) (tab FL) := letI := Er A n c g z gb cap g4 L; tab_sound fun p hp => (entsFL p hp).mono (J := InvE A n c g z gb cap g4 L) fun w h => h.1
variable {w0 A n c g x z}
theorem grown_of {w w' : World} (hb : Below w.heap.size w w') (row : Option Nat) : w.grownBy w' row := ⟨hb.os, hb.tape, hb.output, hb.size, fun k hk _ => hb.block k hk⟩
theorem Head.enter {L : List D} {i : Int} {a : Act} {w : World} (h : Head w0 A n c x z L i a w) (hne : L ≠ []) (hraw : RawRow w0 A n g) (ht : Tabs w0) :
    ∃ gb cap g4, a.tmps.getD 7 undef = .slice (some ⟨gb, 0, none⟩) L.length cap ∧ w0.heap.size ≤ gb ∧ a.tmps.getD 4 undef = .pointer (some ⟨g4, 0, none⟩) ∧ w0.heap.size ≤ g4 ∧ w.heap[g4]? = some (.cells z.list.toArray 27 (0, 0)) ∧ gb ≠ g4 ∧
      InvE A n c g z gb cap g4 L w ∧ @SR (Er A n c g z gb cap g4 L) w 87 (fun _ => 0) ((hd1 x i).st 0) a w := by
  obtain ⟨gb, cap, h7, hb, hr1⟩ := own_row h.own hne
  obtain ⟨g4, h4, hb4, hg4, hne4⟩ := h.box
  refine ⟨gb, cap, g4, h7, hb, h4, hb4, hg4, fun e => hne4 (by rw [h7, e]; rfl), ⟨tabs_stable _ _ ht h.below, xok_rows (hraw.below h.below) hr1 (raw_box hg4)⟩, ?_⟩
  letI := Er A n c g z gb cap g4 L
  refine epoch h.size h.defers _ _ (fun p hp => ?_) (fun p hp => ?_)
  · simp only [List.mem_cons, List.not_mem_nil, or_false] at hp
    rcases hp with rfl | rfl | rfl | rfl | rfl
    · rw [den_val]; exact h.t0
    · rw [den_xs]; exact h.t2
    · rw [den_xp]
      show a.tmps.getD 4 undef = .pointer ((some (⟨g4, 0, none⟩ : Addr)).map fun a => a.add (0 * 18 + 0))
      rw [h4]
      rfl
    · rw [den_xs]; exact h7
    · rw [den_val]; exact h.t8
  · simp only [List.mem_cons, List.not_mem_nil, or_false] at hp
    rcases hp with rfl | rfl | rfl | rfl | rfl
    · exact ok_val _ _
    · exact ok_xs
    · exact ok_xp.2 (show 0 < 1 by decide)
    · exact ok_xs
    · exact ok_val _ _
theorem Head.leave {L : List D} {i i' : Int} {a a' : Act} {w w' : World} {gb cap g4 : Nat} {m : Nat → Nat} (h : Head w0 A n c x z L i a w) (h7 : a.tmps.getD 7 undef = .slice (some ⟨gb, 0, none⟩) L.length cap) (h4 : a.tmps.getD 4 undef = .pointer (some ⟨g4, 0, none⟩)) (hb4 : w0.heap.size ≤ g4) (hg4 : w.heap[g4]? = some (.cells z.list.toArray 27 (0, 0))) (hne : gb ≠ g4)
    (hr : @SR (Er A n c g z gb cap g4 L) w 87 m ((hd1 x i').st 0) a' w') : Head w0 A n c x z L i' a' w' := by
  letI := Er A n c g z gb cap g4 L
  have hb := hr.mr.below
  have e7 : a'.tmps.getD 7 undef = .slice (some ⟨gb, 0, none⟩) L.length cap := (hr.ar.tm 7 rfl).trans (den_xs m [1])
  refine ⟨h.below.trans (hb.mono h.below.size), hr.ar.size, hr.ar.defers, (hr.ar.tm 0 rfl).trans (den_val m _), (hr.ar.tm 2 rfl).trans (den_xs m [0]), (hr.ar.tm 8 rfl).trans (den_val m _), ?_, g4, ?_, hb4, ?_, ?_⟩
  · rw [e7]
    have := h.own
    rw [h7] at this
    exact this.kept (grown_of hb none) (.inr (by simp [Value.ownBlock]))
  · exact ((hr.ar.tm 4 rfl).trans (den_xp m [2] 0 0))
  · exact (hb.block g4 (Array.getElem?_eq_some_iff.1 hg4).1).trans hg4
  · rw [e7]
    simpa [Value.ownBlock] using hne
end
end Keeps
end Go.Proofs.YtaojjpdlfnphiaaDoor.PDescKinds
