/- cameolaw10.spoil: it writes into its own moment alone. -/
import Derived.Test.YtaojjpdlfnphiaaS0
set_option linter.unusedSimpArgs false
set_option linter.unusedVariables false
set_option linter.unusedSectionVars false
namespace Go.Proofs.Ytaojjpdlfnphiaa.PDescKinds
open Go.RowKit Go.Ev
/-- What stands below B, and from hi on, is as it was. -/
structure Mid (B hi : Nat) (w w' : World) : Prop where
  os : w'.os = w.os
  tape : w'.tape = w.tape
  output : w'.output = w.output
  size : w.heap.size ≤ w'.heap.size
  block : ∀ k, k < w.heap.size → (k < B ∨ hi ≤ k) → w'.heap[k]? = w.heap[k]?
section
variable {B hi : Nat} {w0 w w' : World}
theorem Mid.refl (B hi : Nat) (w : World) : Mid B hi w w := ⟨rfl, rfl, rfl, Nat.le_refl _, fun _ _ _ => rfl⟩
theorem Mid.then (h : Mid B hi w0 w) (hb : Below w.heap.size w w') : Mid B hi w0 w' :=
  ⟨hb.os.trans h.os, hb.tape.trans h.tape, hb.output.trans h.output, Nat.le_trans h.size hb.size, fun k hk hc => (hb.block k (Nat.lt_of_lt_of_le hk h.size)).trans (h.block k hk hc)⟩
theorem Mid.grown {row : Option Nat} (h : Mid B hi w0 w) (hg : w.grownBy w' row) (hr : ∀ g, row = some g → (B ≤ g ∧ g < hi) ∨ w0.heap.size ≤ g) : Mid B hi w0 w' :=
  ⟨hg.os.trans h.os, hg.tape.trans h.tape, hg.output.trans h.output, Nat.le_trans h.size hg.size, fun k hk hc => (hg.block k (Nat.lt_of_lt_of_le hk h.size) (fun e => by
    rcases hr k e.symm with h1 | h1 <;> omega)).trans (h.block k hk hc)⟩
theorem Mid.below (h : Mid B hi w0 w) {C : Nat} (hC : C ≤ B) (hs : C ≤ w0.heap.size) : Below C w0 w :=
  ⟨h.os, h.tape, h.output, h.size, fun k hk => h.block k (by omega) (.inl (by omega))⟩
end
namespace Sp
/-- Own rows of which those of the first i shapes are no longer told of. -/
structure Iv (B hi : Nat) (w0 w : World) (mo : Mo) (i : Nat) : Prop where
  row : w.ownsRow B 52 8 (.slice mo.A mo.n mo.c) mo.n ((List.range mo.n).flatMap fun j => shVals (mo.g j) (mo.g j).row)
  props : ∀ j, i ≤ j → w.ownsRow B 55 20 (mo.g j).row (mo.g j).n (Copy.rowOf (mo.g j))
  sep : ∀ j l, j ≠ l → (mo.g j).row.ownBlock = none ∨ (mo.g j).row.ownBlock ≠ (mo.g l).row.ownBlock
  mid : Mid B hi w0 w
  top : hi ≤ w0.heap.size
  lt1 : ∀ b, (Value.slice mo.A mo.n mo.c).ownBlock = some b → B ≤ b ∧ b < hi
  lt2 : ∀ j b, (mo.g j).row.ownBlock = some b → B ≤ b ∧ b < hi
section
variable {B hi i j : Nat} {w0 w w' : World} {mo : Mo} {a : Act} {Q : Exit → Act → World → Prop}
theorem Iv.below (h : Iv B hi w0 w mo i) (hb : Below w.heap.size w w') : Iv B hi w0 w' mo i :=
  ⟨h.row.kept (grown_of hb none) (by cases (Value.slice mo.A mo.n mo.c).ownBlock <;> simp), fun j hj => (h.props j hj).kept (grown_of hb none) (by cases (mo.g j).row.ownBlock <;> simp), h.sep, h.mid.then hb, h.top, h.lt1, h.lt2⟩
theorem Iv.next (h : Iv B hi w0 w mo i) : Iv B hi w0 w mo (i + 1) := ⟨h.row, fun j hj => h.props j (by omega), h.sep, h.mid, h.top, h.lt1, h.lt2⟩
theorem Iv.xok (h : Iv B hi w0 w mo i) : @XOk (rowO mo.A mo.n mo.c mo.g) w := by
  intro r j hj
  have hj : j < mo.n := hj
  have hr := h.row
  rcases row_slice hr with ⟨_, h0, _⟩ | ⟨g, hA, _, hlt⟩
  · omega
  rw [hA] at hr
  refine ⟨rfl, fun s hs mem => ?_, ⟨g, 0, none⟩, hA, hlt, fun k s hk m => ?_⟩
  · obtain ⟨v, _, rfl⟩ := List.mem_map.1 hs
    exact @ok_val (rowO mo.A mo.n mo.c mo.g) _ _
  · have hk : ((shVals (mo.g j) (mo.g j).row).map SV.val)[k]? = some s := hk
    rw [List.getElem?_map] at hk
    obtain ⟨u, hu, rfl⟩ := Option.map_eq_some_iff.1 hk
    rw [@den_val (rowO mo.A mo.n mo.c mo.g)]
    exact own_at (fun t => shVals_length _ _) hr hj k u hu
/-- A property is written over. -/
theorem Iv.put (h : Iv B hi w0 w mo i) (hi' : i < mo.n) (hj : j < (mo.g i).n) (q : Pr) : ∃ w' g2, (mo.g i).A = some ⟨g2, 0, none⟩ ∧ (Instr.storeAt 55 (.pointer (some ⟨g2, j * 20, none⟩)) q.agg).run Try.prog w = .ok () w' ∧ Iv B hi w0 w' { mo with g := fput mo.g i { mo.g i with g := fput (mo.g i).g j q } } i := by
  have hR := h.props i (Nat.le_refl _)
  rcases row_slice hR with ⟨_, h0, _⟩ | ⟨g2, hA2, hB2, hlt2⟩
  · omega
  have hrow : (mo.g i).row = .slice (some ⟨g2, 0, none⟩) (mo.g i).n (mo.g i).c := by unfold Sh.row; rw [hA2]
  have hob : (mo.g i).row.ownBlock = some g2 := by rw [hrow]; rfl
  rw [hrow] at hR
  have hcs : q.agg.cells.toList = q.list := rfl
  have hcz : q.agg.cells.size = 20 := rfl
  obtain ⟨w', hst, hown, hgr⟩ := own_splice (P := Try.prog) (ty := 55) (x := q.agg) (t := j) (o := 0) hR (fun t => Pr.list_length _) hj (by rw [hcz]; kernel_rfl) (by rw [hcz]; exact Nat.le_refl 20) (by rw [hcs]; exact Pr.list_one q)
  have hrows : ∀ t, (fput mo.g i { mo.g i with g := fput (mo.g i).g j q } t).row = (mo.g t).row := fun t => by
    unfold fput
    split
    · rename_i e; rw [e]; rfl
    · rfl
  refine ⟨w', g2, hA2, hst, ?_, fun t ht => ?_, fun t l htl => ?_, h.mid.grown hgr (fun g e => .inl (by
    obtain rfl := Option.some.inj e
    exact h.lt2 i _ hob)), h.top, h.lt1, fun t b hb => h.lt2 t b (by rw [← hrows t]; exact hb)⟩
  · have := h.row.kept hgr (by
      cases hb : (Value.slice mo.A mo.n mo.c).ownBlock with
      | none => exact .inl rfl
      | some b => exact .inr fun e => shapes_ne h.row (h.props i (Nat.le_refl _)) b g2 hb hob (Option.some.inj e))
    show w'.ownsRow B 52 8 (.slice mo.A mo.n mo.c) mo.n ((List.range mo.n).flatMap fun t => shVals (fput mo.g i { mo.g i with g := fput (mo.g i).g j q } t) (fput mo.g i { mo.g i with g := fput (mo.g i).g j q } t).row)
    rw [flat_congr mo.n (g := fun t => shVals (mo.g t) (mo.g t).row) fun t _ => by
      rw [hrows t]
      unfold fput
      split
      · rename_i e; rw [e]; rfl
      · rfl]
    exact this
  · show w'.ownsRow B 55 20 (fput mo.g i { mo.g i with g := fput (mo.g i).g j q } t).row (fput mo.g i { mo.g i with g := fput (mo.g i).g j q } t).n (Copy.rowOf (fput mo.g i { mo.g i with g := fput (mo.g i).g j q } t))
    rw [hrows t]
    by_cases e : t = i
    · subst e
      have e1 : Copy.rowOf (fput mo.g t { mo.g t with g := fput (mo.g t).g j q } t) = (List.range (mo.g t).n).flatMap (fput (fun l => ((mo.g t).g l).list) j (splice ((mo.g t).g j).list 0 q.agg.cells.toList)) := by
        simp only [fput, if_pos]
        unfold Copy.rowOf
        refine flat_congr _ fun l _ => ?_
        simp only [fput]
        split
        · rw [hcs]
          rfl
        · rfl
      have e2 : (fput mo.g t { mo.g t with g := fput (mo.g t).g j q } t).n = (mo.g t).n := by simp [fput]
      rw [e1, e2, hrow]
      exact hown
    · have e1 : fput mo.g i { mo.g i with g := fput (mo.g i).g j q } t = mo.g t := by simp only [fput]; rw [if_neg e]
      rw [e1]
      refine (h.props t ht).kept hgr ?_
      rw [← hob]
      exact h.sep t i e
  · show (fput mo.g i { mo.g i with g := fput (mo.g i).g j q } t).row.ownBlock = none ∨ _ ≠ (fput mo.g i { mo.g i with g := fput (mo.g i).g j q } l).row.ownBlock
    rw [hrows t, hrows l]
    exact h.sep t l htl
/-- A class is written over. -/
theorem Iv.class (h : Iv B hi w0 w mo i) {t : Nat} (ht : t < mo.n) (v : Int) : ∃ w' g, mo.A = some ⟨g, 0, none⟩ ∧ (Instr.storeAt 3 (.pointer (some ⟨g, t * 8, none⟩)) (.int .i64 v)).run Try.prog w = .ok () w' ∧ Iv B hi w0 w' { mo with g := fput mo.g t { mo.g t with cl := v } } i := by
  have hR := h.row
  rcases row_slice hR with ⟨_, h0, _⟩ | ⟨g, hA, hBg, hlt⟩
  · omega
  rw [hA] at hR
  obtain ⟨w', hst, hown, hgr⟩ := own_splice (P := Try.prog) (ty := 3) (x := .int .i64 v) (t := t) (o := 0) hR (fun t => shVals_length _ _) ht (by kernel_rfl) (by show 0 + 1 ≤ 8; omega) (fun u hu => by
    have hu : u ∈ [Value.int .i64 v] := hu
    obtain rfl := List.mem_singleton.1 hu
    rfl)
  have hrows : ∀ l, (fput mo.g t { mo.g t with cl := v } l).row = (mo.g l).row := fun l => by
    unfold fput
    split
    · rename_i e; rw [e]; rfl
    · rfl
  have hob : (Value.slice mo.A mo.n mo.c).ownBlock = some g := by rw [hA]; rfl
  refine ⟨w', g, hA, hst, ?_, fun l hl => ?_, fun j l hjl => ?_, h.mid.grown hgr (fun g' e => .inl (by
    obtain rfl := Option.some.inj e
    exact h.lt1 _ hob)), h.top, h.lt1, fun l b hb => h.lt2 l b (by rw [← hrows l]; exact hb)⟩
  · show w'.ownsRow B 52 8 (.slice mo.A mo.n mo.c) mo.n ((List.range mo.n).flatMap fun l => shVals (fput mo.g t { mo.g t with cl := v } l) (fput mo.g t { mo.g t with cl := v } l).row)
    rw [hA]
    have e : (fun l => shVals (fput mo.g t { mo.g t with cl := v } l) (fput mo.g t { mo.g t with cl := v } l).row) = fput (fun l => shVals (mo.g l) (mo.g l).row) t (splice (shVals (mo.g t) (mo.g t).row) 0 (Value.int .i64 v).cells.toList) := by
      funext l
      unfold fput
      split
      · rfl
      · rfl
    rw [e]
    exact hown
  · show w'.ownsRow B 55 20 (fput mo.g t { mo.g t with cl := v } l).row (fput mo.g t { mo.g t with cl := v } l).n (Copy.rowOf (fput mo.g t { mo.g t with cl := v } l))
    rw [hrows l]
    have e1 : (fput mo.g t { mo.g t with cl := v } l).n = (mo.g l).n := by
      simp only [fput]
      split
      · rename_i e; rw [e]
      · rfl
    have e2 : Copy.rowOf (fput mo.g t { mo.g t with cl := v } l) = Copy.rowOf (mo.g l) := by
      simp only [fput]
      split
      · rename_i e; rw [e]; rfl
      · rfl
    rw [e1, e2]
    refine (h.props l hl).kept hgr ?_
    cases hc : (mo.g l).row.ownBlock with
    | none => exact .inl rfl
    | some c => exact .inr fun e => shapes_ne h.row (h.props l hl) g c hob hc (Option.some.inj e).symm
  · show (fput mo.g t { mo.g t with cl := v } j).row.ownBlock = none ∨ _ ≠ (fput mo.g t { mo.g t with cl := v } l).row.ownBlock
    rw [hrows j, hrows l]
    exact h.sep j l hjl
/-- Something joins the row of shape i. -/
theorem Iv.app {v : Value} {n : Nat} {xs : List Value} (h : Iv B hi w0 w mo (i + 1)) (hv : w.ownsRow B 55 20 v n xs) (hb : ∀ b, v.ownBlock = some b → (mo.g i).row.ownBlock = some b ∨ w0.heap.size ≤ b) (hg : w.grownBy w' v.ownBlock) : Iv B hi w0 w' mo (i + 1) := by
  refine ⟨h.row.kept hg ?_, fun j hj => (h.props j hj).kept hg ?_, h.sep, h.mid.grown hg (fun g e => ?_), h.top, h.lt1, h.lt2⟩
  · cases hb' : (Value.slice mo.A mo.n mo.c).ownBlock with
    | none => exact .inl rfl
    | some b => exact .inr fun e => shapes_ne h.row hv b b hb' e.symm rfl
  · cases hc : (mo.g j).row.ownBlock with
    | none => exact .inl rfl
    | some c =>
      refine .inr fun e => ?_
      rcases hb c e.symm with h1 | h1
      · rcases h.sep j i (by omega) with h2 | h2
        · rw [hc] at h2; cases h2
        · exact h2 (by rw [hc, h1])
      · have := (h.lt2 j c hc).2
        have := h.top
        omega
  · rcases hb g e with h1 | h1
    · exact .inl (h.lt2 i g h1)
    · exact .inr h1
end
end Sp
end Go.Proofs.Ytaojjpdlfnphiaa.PDescKinds
