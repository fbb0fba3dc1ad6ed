/- DescKeeps: the first loop. -/
import Derived.Test.YtaojjpdlfnphiaaDoorK5
set_option linter.unusedSimpArgs false
set_option linter.unusedVariables false
set_option linter.unusedSectionVars false
namespace Go.Proofs.YtaojjpdlfnphiaaDoor.PDescKinds
open Go.RowKit Go.Ev
namespace Keeps
theorem list_one (y : D) : ∀ u ∈ y.list, u.oneCell' = true := by
  intro u hu
  simp only [D.list, V.list, List.cons_append, List.nil_append, List.mem_cons, List.not_mem_nil, or_false] at hu
  rcases hu with rfl | rfl | rfl | rfl | rfl | rfl | rfl | rfl | rfl | rfl | rfl | rfl | rfl | rfl | rfl | rfl | rfl | rfl <;> rfl
theorem put_self (a : Act) (d : Nat) (v : Value) (h : d < a.tmps.size) : (a.put (some d) v).tmps.getD d undef = v := by
  show (a.tmps.setIfInBounds d v).getD d undef = v
  simp [h]
theorem put_ne (a : Act) (d t : Nat) (v : Value) (h : d ≠ t) : (a.put (some d) v).tmps.getD t undef = a.tmps.getD t undef := by
  show (a.tmps.setIfInBounds d v).getD t undef = _
  simp [Array.getElem?_setIfInBounds_ne h]
section
variable {w0 : World} {A : Option Addr} {n c : Nat} {g : Nat → D} {x : Bool} {z : D}
/-- A step that was taken: the own row grows. -/
theorem grow {L : List D} {i : Int} {a a2 : Act} {w w2 : World} {gb cap g4 : Nat} {m : Nat → Nat} {y : D} (h : Head w0 A n c x z L i a w) (hne : L ≠ []) (hlen : L.length ≤ 61) (h7 : a.tmps.getD 7 undef = .slice (some ⟨gb, 0, none⟩) L.length cap) (hb0 : w0.heap.size ≤ gb)
    (hb4 : w0.heap.size ≤ g4) (hg4 : w.heap[g4]? = some (.cells z.list.toArray 27 (0, 0))) (hne4 : gb ≠ g4) (hI : InvE A n c g z gb cap g4 L w)
    (hr : @SR (Er A n c g z gb cap g4 L) w 87 m ((took x i y).st 20) a2 w2) {Q : Exit → Act → World → Prop} (hQ : ∀ a3 w3, Head w0 A n c x z (L ++ [y]) i a3 w3 → Q .normal a3 w3) :
    (Code.region 11 ops11 false).wp Tryd.prog Q a2 w2 := by
  letI := Er A n c g z gb cap g4 L
  refine wp_region_list ?_
  rw [ops11_eq]
  have hev := o3_ev A n c g (some ⟨gb, 0, none⟩) L.length cap (fun j => L.getD j S.D0) (some ⟨g4, 0, none⟩) z x i y
  obtain ⟨st', hst', hcut⟩ := Option.bind_eq_some_iff.1 hev
  have hs := invE_stable A n c g z gb cap g4 L
  have hXO : ∀ w, InvE A n c g z gb cap g4 L w → XOk w := fun _ h => h.2
  have hG := givenE A n c g z gb cap g4 L
  refine ops_sound_tail ext_sound hI hs hXO (call_sound hs hG (ev_sound mixed ext_sound hs hXO hG 0).1) [oA, oB] _ _ _ m a2 w2 hst' hr ?_
  intro m3 a3 w3 _ hr3
  have hr4 := cut_sound hcut hr3
  have hb := hr4.mr.below
  have e47 : a3.eval (.tmp 47) = .slice (some ⟨gb, 0, none⟩) L.length cap := (hr4.ar.tm 47 rfl).trans (den_xs m3 [1])
  have e49 : a3.eval (.tmp 49) = .slice (some ⟨m3 20, 0, none⟩) 1 1 := (hr4.ar.tm 49 rfl).trans (den_slc m3 20 0 1 1)
  have hblk := hr4.mr.blk 20 ⟨27, y.cells⟩ rfl
  have hcells : (y.cells.map (SV.den m3)).toArray = y.list.toArray := by
    have e : y.cells = y.list.map SV.val := rfl
    rw [e, List.map_map, show (SV.den m3 ∘ SV.val) = _root_.id from funext fun v => den_val m3 v, List.map_id]
  have hrow : w3.heap[m3 20]? = some (.cells y.list.toArray 27 (0, 0)) := by rw [← hcells]; exact hblk.2.1
  have hown : w3.ownsRow w0.heap.size 27 18 (.slice (some ⟨gb, 0, none⟩) L.length cap) L.length (L.flatMap D.list) := by
    have := h.own
    rw [h7] at this
    exact this.kept (grown_of hb none) (.inr (by simp [Value.ownBlock]))
  obtain ⟨i27, z27, hi1, hi2, hi3, hi4, hi5⟩ := info27
  refine wpList_append_own w3 oA_guard (.tmp 47) (.tmp 49) 42 oA_op w0.heap.size 27 i27 z27 18 168 Tryd.underlying42 hi1 hi2 hi3 hi4 hi5 (by decide) _ L.length _ e47 hown ⟨m3 20, 0, none⟩ 1 1 y.list e49 rfl ?_ (list_one y) ?_ ?_ ?_ ?_
  · intro j u hu
    rw [add_none, cell_of_row w3 (m3 20) _ _ 27 (0, 0) hrow]
    simpa using hu
  · have : maxLen = 9223372036854775807 := by decide +kernel
    omega
  · omega
  · exact Nat.le_trans h.below.size hb.size
  intro v' w4 hown' hgr hnil
  have hsz3 : a3.tmps.size = 87 := hr4.ar.size
  refine wpList_plain oB_guard fun K hK => ?_
  have hex : (execOp (a3.put oA.dst v').eval oB).run Tryd.prog w4 = .ok (.value v') w4 := by
    have e50 : (a3.put oA.dst v').eval (.tmp 50) = v' := by rw [oA_dst]; exact put_self a3 50 v' (by omega)
    unfold execOp
    simp only [oB_op, e50, Sem.run_pure]
  unfold Oper.wp
  rw [hex, Oper.upon_value, oA_dst, oB_dst]
  refine hK _ _ (hQ _ _ ?_)
  have hsz4 : (a3.put (some 50) v').tmps.size = 87 := by simp [Act.put, hsz3]
  have e7 : ((a3.put (some 50) v').put (some 7) v').tmps.getD 7 undef = v' := put_self _ 7 v' (by omega)
  have eo : ∀ t, t ≠ 50 → t ≠ 7 → ((a3.put (some 50) v').put (some 7) v').tmps.getD t undef = a3.tmps.getD t undef := fun t h1 h2 => by rw [put_ne _ _ _ _ (Ne.symm h2), put_ne _ _ _ _ (Ne.symm h1)]
  have hg43 : w3.heap[g4]? = some (.cells z.list.toArray 27 (0, 0)) := (hb.block g4 (Array.getElem?_eq_some_iff.1 hg4).1).trans hg4
  have hg44 : w4.heap[g4]? = some (.cells z.list.toArray 27 (0, 0)) := (hgr.block g4 (Array.getElem?_eq_some_iff.1 hg43).1 (by simp [Value.ownBlock]; omega)).trans hg43
  have hbel3 : Below w0.heap.size w0 w3 := h.below.trans (hb.mono h.below.size)
  have hfl : (L ++ [y]).flatMap D.list = L.flatMap D.list ++ y.list := by simp
  refine ⟨hbel3.trans ⟨hgr.os, hgr.tape, hgr.output, hgr.size, fun k hk => hgr.block k (Nat.lt_of_lt_of_le hk hbel3.size) (by simp [Value.ownBlock]; omega)⟩, by simp [Act.put, hsz3], hr4.ar.defers, ?_, ?_, ?_, ?_, g4, ?_, hb4, hg44, ?_⟩
  · rw [eo 0 (by decide) (by decide)]; exact (hr4.ar.tm 0 rfl).trans (den_val m3 _)
  · rw [eo 2 (by decide) (by decide)]; exact (hr4.ar.tm 2 rfl).trans (den_xs m3 [0])
  · rw [eo 8 (by decide) (by decide)]; exact (hr4.ar.tm 8 rfl).trans (den_val m3 _)
  · rw [e7, hfl, List.length_append]
    exact hown'
  · rw [eo 4 (by decide) (by decide)]; exact (hr4.ar.tm 4 rfl).trans (den_xp m3 [2] 0 0)
  · rw [e7]
    intro e
    rcases hown'.2 with ⟨rfl, _⟩ | ⟨g', cap', cur, rfl, _, hg', hl', _, hcs, _⟩
    · simp [Value.ownBlock] at e
    · simp only [Value.ownBlock, Option.some.injEq] at e
      subst e
      rw [hg44] at hg'
      simp only [Option.some.injEq, Obj.cells.injEq, and_true] at hg'
      obtain ⟨rfl, _⟩ := hg'
      have : z.list.toArray.size = 18 := rfl
      have h0 : 0 < L.length := List.length_pos_iff.2 hne
      omega
end
end Keeps
end Go.Proofs.YtaojjpdlfnphiaaDoor.PDescKinds
