/- cameoref10.Patch: its round and its contract. -/
import Derived.Test.YtaojjpdlfnphiaaY9
set_option linter.unusedSimpArgs false
set_option linter.unusedVariables false
set_option linter.unusedSectionVars false
namespace Go.Proofs.Ytaojjpdlfnphiaa.PDescKinds
open Go.RowKit Go.Ev
namespace RP
set_option maxRecDepth 100000
section
variable {v1 v6 v7 : Value} {gb g9 : Nat} {f : Int} {a : Act} {w w0 w1 : World} {Q : Exit → Act → World → Prop} {δ : Dl} {B : Nat} {mo : Mo} {k : Nat} {s s' : Sh}
/-- The answer of a delta that does not fit. -/
theorem refuse {l : List Code} (hev : @evK row0 _ Try.prog ext (tab []) 80 150 (seqL l) ((⟨[], []⟩ : Cut).st 0) (grab Try.prog Try.f8 [] [] 0) = some (.ret (.val (.tuple #[.slice none 0 0, .int .i64 7])))) (hs : a.tmps.size = 150) (hd : a.defers = [])
    (h : ∀ a' w' m, a'.defers = [] → (results Try.f8 a'.tmps).run Try.prog w' = .ok ((@SV.den row0 m (.val (.tuple #[.slice none 0 0, .int .i64 7])))) w' → Below w.heap.size w w' → Q .ret a' w') : wpL Try.prog l Q a w := by
  letI := row0
  refine piece Ap.ctx0.mix Ap.ctx0.hX Ap.ctx0.hs Ap.ctx0.hXO Ap.ctx0.hG hev (w0 := w) trivial (epoch hs hd [] (fun _ => 0) (fun p hp => by cases hp) fun p hp => by cases hp) (fun v hv m' a' w' g1 g2 g3 => ?_) (fun ex d hd => by cases hd)
  cases hv
  exact h a' w' m' g1 g2 g3
theorem Box9.step (h9 : Box9 B w0 w g9 mo k s) (hbx : Boxed w gb δ) (hb : Below w.heap.size w w1) : Box9 B w0 w1 g9 mo k s ∧ Boxed w1 gb δ := ⟨h9.drew hb, hbx.kept hb (Array.getElem?_eq_some_iff.1 hbx).1⟩
/-- What a delta makes of the shape in its box. -/
theorem block2 (h : Rs v1 v6 v7 gb g9 (S.find (mo.g k) δ.k) a) (h9 : Box9 B w0 w g9 mo k (mo.g k)) (hbx : Boxed w gb δ) (hB : B ≤ w.heap.size) (hn : (mo.g k).n ≤ 2000000)
    (hQ : ∀ a' w' s', Rs v1 v6 v7 gb g9 (S.find (mo.g k) δ.k) a' → L.shape (mo.g k).ls δ = some s'.ls → Box9 B w0 w' g9 mo k s' → Boxed w' gb δ → Below B w w' → Q .normal a' w')
    (hR : ∀ a' w' m, a'.defers = [] → (results Try.f8 a'.tmps).run Try.prog w' = .ok ((@SV.den row0 m (.val (.tuple #[.slice none 0 0, .int .i64 7])))) w' → Below B w w' → L.shape (mo.g k).ls δ = none → Q .ret a' w') : wpL Try.prog l0 Q a w := by
  have hne : g9 ≠ gb := boxed_ne hbx h9.box (by decide) g9 rfl
  refine level (rest := []) l0_eq h hbx (e13 _ _ _ δ v1 v6 v7 (p9 g9) _) (by decide) (fun hb a1 w1 h' d1 => ?_) (fun hb a1 w1 h' d1 => ?_)
  · rw [then_nil]
    have e2 : δ.what = 2 := by simpa using hb
    obtain ⟨h91, hbx1⟩ := h9.step hbx d1
    have hB1 := Nat.le_trans hB d1.size
    refine cells9 (ty := 3) (s' := { mo.g k with cl := δ.n }) h' h91 hbx1 hne hB1 (eo14 _ δ _) (by kernel_rfl) so14 (by kernel_rfl) (by kernel_rfl) (by kernel_rfl) (by kernel_rfl) (by show 0 + 1 ≤ 8; omega) (fun u hu => by
      simp only [Value.cells, List.mem_cons, List.not_mem_nil, or_false] at hu
      subst hu; rfl) (by rfl) rfl rfl rfl (fun a' w' x1 x2 x3 x4 => hQ a' w' _ x1 (by unfold L.shape; rw [if_pos e2]; rfl) x2 x3 ((d1.mono hB).trans x4))
  have n2 : δ.what ≠ 2 := by simpa using hb
  obtain ⟨h91, hbx1⟩ := h9.step hbx d1
  have hB1 := Nat.le_trans hB d1.size
  have D1 := d1.mono hB
  rw [then_nil]
  refine wpL_flat _ ?_
  show wpL Try.prog l1 Q a1 w1
  refine level (rest := []) l1_eq h' hbx1 (e15 _ _ _ δ v1 v6 v7 (p9 g9) _) (by decide) (fun hb a2 w2 h' d2 => ?_) (fun hb a2 w2 h' d2 => ?_)
  · rw [then_nil]
    have e3 : δ.what = 3 := by simpa using hb
    obtain ⟨h92, hbx2⟩ := h91.step hbx1 d2
    have hB2 := Nat.le_trans hB1 d2.size
    refine cells9 (ty := 28) (s' := { mo.g k with p := δ.v }) h' h92 hbx2 hne hB2 (eo16 _ δ _) (by kernel_rfl) so16 (by kernel_rfl) (by kernel_rfl) (by kernel_rfl) (by kernel_rfl) (by show 1 + 5 ≤ 8; omega) (by
      rw [V.agg_cells]; exact V.list_one _) (by rw [V.agg_cells]; rfl) rfl rfl rfl (fun a' w' x1 x2 x3 x4 => hQ a' w' _ x1 (by unfold L.shape; rw [if_neg n2, if_pos e3]; rfl) x2 x3 ((D1.trans (d2.mono hB1)).trans x4))
  have n3 : δ.what ≠ 3 := by simpa using hb
  obtain ⟨h92, hbx2⟩ := h91.step hbx1 d2
  have hB2 := Nat.le_trans hB1 d2.size
  have D2 := D1.trans (d2.mono hB1)
  rw [then_nil]
  refine wpL_flat _ ?_
  show wpL Try.prog l2 Q a2 w2
  refine level (rest := []) l2_eq h' hbx2 (e17 _ _ _ δ v1 v6 v7 (p9 g9) _) (by decide) (fun hb a3 w3 h' d3 => ?_) (fun hb a3 w3 h' d3 => ?_)
  · rw [then_nil]
    have e4 : δ.what = 4 := by simpa using hb
    obtain ⟨h93, hbx3⟩ := h92.step hbx2 d3
    have hB3 := Nat.le_trans hB2 d3.size
    refine cells9 (ty := 4) (s' := { mo.g k with x := δ.yes }) h' h93 hbx3 hne hB3 (eo18 _ δ _) (by kernel_rfl) so18 (by kernel_rfl) (by kernel_rfl) (by kernel_rfl) (by kernel_rfl) (by show 6 + 1 ≤ 8; omega) (fun u hu => by
      simp only [Value.cells, List.mem_cons, List.not_mem_nil, or_false] at hu
      subst hu; rfl) (by rfl) rfl rfl rfl (fun a' w' x1 x2 x3 x4 => hQ a' w' _ x1 (by unfold L.shape; rw [if_neg n2, if_neg n3, if_pos e4]; rfl) x2 x3 ((D2.trans (d3.mono hB2)).trans x4))
  have n4 : δ.what ≠ 4 := by simpa using hb
  obtain ⟨h93, hbx3⟩ := h92.step hbx2 d3
  have hB3 := Nat.le_trans hB2 d3.size
  have D3 := D2.trans (d3.mono hB2)
  rw [then_nil]
  refine wpL_flat _ ?_
  show wpL Try.prog l3 Q a3 w3
  have s5 : ∀ i, δ.what = 5 → L.at_ (mo.g k).ls.ps δ.k = i → L.shape (mo.g k).ls δ = i.map fun i => { (mo.g k).ls with ps := (mo.g k).ls.ps.eraseIdx i } := by
    rintro i e5 rfl
    unfold L.shape
    rw [if_neg n2, if_neg n3, if_neg n4, if_pos e5]
  -- where the key stands
  rcases find_at (mo.g k) δ.k with ⟨f1, f2⟩ | ⟨j, f1, f2, f3⟩
  · -- nowhere
    have hf : decide (S.find (mo.g k) δ.k ≥ 0) = false := decide_eq_false (by omega)
    have ev4 : ∀ bb : Bool, (bif bb then decide (S.find (mo.g k) δ.k ≥ 0) else false) = false := by intro bb; cases bb <;> simp [hf]
    have E19 := e19 (some ⟨gb, 0, none⟩) (some ⟨gb, 0, none⟩) δ.cells δ v1 v6 v7 (p9 g9) (S.find (mo.g k) δ.k)
    have E19' : @evK (rowsX (some ⟨gb, 0, none⟩) δ.cells (some ⟨gb, 0, none⟩) δ.cells) _ Try.prog ext (tab []) 80 150 (seqL [l3.getD 0 .skip]) ((⟨U v1 v6 v7 (p9 g9) (S.find (mo.g k) δ.k), []⟩ : Cut).st 0) (grab Try.prog Try.f8 [1, 6, 7, 8, 9, 10, 86] [] 0) = some (.cut .normal ⟨[(1, .val v1), (6, .val v6), (7, .val v7), (8, .xp [] 0 0), (9, .val (p9 g9)), (10, .val (.int .i64 (S.find (mo.g k) δ.k))), (86, .val (.bool false))], []⟩) := by
      refine Eq.trans E19 ?_
      rw [hf]
      cases (δ.what == 5) <;> rfl
    refine level (rest := []) l3_eq h' hbx3 E19' (by decide) (fun hb => by cases hb) (fun _ a4 w4 h' d4 => ?_)
    obtain ⟨h94, hbx4⟩ := h93.step hbx3 d4
    have hB4 := Nat.le_trans hB3 d4.size
    have D4 := D3.trans (d4.mono hB3)
    rw [then_nil]
    refine wpL_flat _ ?_
    show wpL Try.prog l4 Q a4 w4
    have E21' : @evK (rowsX (some ⟨gb, 0, none⟩) δ.cells (some ⟨gb, 0, none⟩) δ.cells) _ Try.prog ext (tab []) 80 150 (seqL [l4.getD 0 .skip]) ((⟨U v1 v6 v7 (p9 g9) (S.find (mo.g k) δ.k), []⟩ : Cut).st 0) (grab Try.prog Try.f8 [1, 6, 7, 8, 9, 10, 107] [] 0) = some (.cut .normal ⟨[(1, .val v1), (6, .val v6), (7, .val v7), (8, .xp [] 0 0), (9, .val (p9 g9)), (10, .val (.int .i64 (S.find (mo.g k) δ.k))), (107, .val (.bool false))], []⟩) := by
      refine Eq.trans (e21 (some ⟨gb, 0, none⟩) (some ⟨gb, 0, none⟩) δ.cells δ v1 v6 v7 (p9 g9) (S.find (mo.g k) δ.k)) ?_
      rw [hf]
      cases (δ.what == 6) <;> rfl
    refine level (rest := []) l4_eq h' hbx4 E21' (by decide) (fun hb => by cases hb) (fun _ a5 w5 h' d5 => ?_)
    obtain ⟨h95, hbx5⟩ := h94.step hbx4 d5
    have hB5 := Nat.le_trans hB4 d5.size
    have D5 := D4.trans (d5.mono hB4)
    rw [then_nil]
    refine wpL_flat _ ?_
    show wpL Try.prog l5 Q a5 w5
    refine level (rest := []) l5_eq h' hbx5 (e24 _ _ _ δ v1 v6 v7 (p9 g9) _) (by decide) (fun hb a6 w6 h' d6 => ?_) (fun hb a6 w6 h' d6 => ?_)
    · rw [then_nil]
      have e6 : δ.what = 6 := by simpa using hb
      obtain ⟨h96, hbx6⟩ := h95.step hbx5 d6
      have hB6 := Nat.le_trans hB5 d6.size
      refine reg25 h' h96 hbx6 hB6 hn (fun a' w' s' x1 x2 x3 x4 x5 => hQ a' w' s' x1 ?_ x3 x4 ((D5.trans (d6.mono hB5)).trans x5))
      unfold L.shape
      rw [if_neg n2, if_neg n3, if_neg n4, if_neg (by omega), if_pos e6, f2, x2]
    · have n6 : δ.what ≠ 6 := by simpa using hb
      rw [then_nil]
      refine wpL_flat _ ?_
      refine refuse q6 h'.size h'.defers (fun a' w' m x1 x2 x3 => hR a' w' m x1 x2 ((D5.trans (d6.mono hB5)).trans (x3.mono (Nat.le_trans hB5 d6.size))) ?_)
      by_cases e5 : δ.what = 5
      · rw [s5 _ e5 f2]; rfl
      · unfold L.shape
        rw [if_neg n2, if_neg n3, if_neg n4, if_neg e5, if_neg n6]
  · -- at j
    have hf : decide (S.find (mo.g k) δ.k ≥ 0) = true := decide_eq_true (by omega)
    have E19' : @evK (rowsX (some ⟨gb, 0, none⟩) δ.cells (some ⟨gb, 0, none⟩) δ.cells) _ Try.prog ext (tab []) 80 150 (seqL [l3.getD 0 .skip]) ((⟨U v1 v6 v7 (p9 g9) (S.find (mo.g k) δ.k), []⟩ : Cut).st 0) (grab Try.prog Try.f8 [1, 6, 7, 8, 9, 10, 86] [] 0) = some (.cut .normal ⟨[(1, .val v1), (6, .val v6), (7, .val v7), (8, .xp [] 0 0), (9, .val (p9 g9)), (10, .val (.int .i64 (S.find (mo.g k) δ.k))), (86, .val (.bool (δ.what == 5)))], []⟩) := by
      refine Eq.trans (e19 (some ⟨gb, 0, none⟩) (some ⟨gb, 0, none⟩) δ.cells δ v1 v6 v7 (p9 g9) (S.find (mo.g k) δ.k)) ?_
      rw [hf]
      cases (δ.what == 5) <;> rfl
    refine level (rest := []) l3_eq h' hbx3 E19' (by decide) (fun hb a4 w4 h' d4 => ?_) (fun hb a4 w4 h' d4 => ?_)
    · rw [then_nil]
      have e5 : δ.what = 5 := by simpa using hb
      obtain ⟨h94, hbx4⟩ := h93.step hbx3 d4
      have hB4 := Nat.le_trans hB3 d4.size
      rw [f1] at h' hQ
      refine reg20 h' h94 hbx4 hB4 hn f2 (fun a' w' s' x1 x2 x3 x4 x5 => hQ a' w' s' x1 ?_ x3 x4 ((D3.trans (d4.mono hB3)).trans x5))
      rw [s5 _ e5 f3, x2]
      rfl
    have n5 : δ.what ≠ 5 := by simpa using hb
    obtain ⟨h94, hbx4⟩ := h93.step hbx3 d4
    have hB4 := Nat.le_trans hB3 d4.size
    have D4 := D3.trans (d4.mono hB3)
    rw [then_nil]
    refine wpL_flat _ ?_
    show wpL Try.prog l4 Q a4 w4
    have E21' : @evK (rowsX (some ⟨gb, 0, none⟩) δ.cells (some ⟨gb, 0, none⟩) δ.cells) _ Try.prog ext (tab []) 80 150 (seqL [l4.getD 0 .skip]) ((⟨U v1 v6 v7 (p9 g9) (S.find (mo.g k) δ.k), []⟩ : Cut).st 0) (grab Try.prog Try.f8 [1, 6, 7, 8, 9, 10, 107] [] 0) = some (.cut .normal ⟨[(1, .val v1), (6, .val v6), (7, .val v7), (8, .xp [] 0 0), (9, .val (p9 g9)), (10, .val (.int .i64 (S.find (mo.g k) δ.k))), (107, .val (.bool (δ.what == 6)))], []⟩) := by
      refine Eq.trans (e21 (some ⟨gb, 0, none⟩) (some ⟨gb, 0, none⟩) δ.cells δ v1 v6 v7 (p9 g9) (S.find (mo.g k) δ.k)) ?_
      rw [hf]
      cases (δ.what == 6) <;> rfl
    refine level (rest := []) l4_eq h' hbx4 E21' (by decide) (fun hb a5 w5 h' d5 => ?_) (fun hb a5 w5 h' d5 => ?_)
    · rw [then_nil]
      have e6 : δ.what = 6 := by simpa using hb
      obtain ⟨h95, hbx5⟩ := h94.step hbx4 d5
      have hB5 := Nat.le_trans hB4 d5.size
      have D5 := D4.trans (d5.mono hB4)
      rw [f1] at h' hQ
      refine wpL_flat _ ?_
      show wpL Try.prog t4 Q a5 w5
      rw [t4_eq]
      show (Code.region 22 o22 false).wp Try.prog (Exit.then (wpL Try.prog [.region 23 o23 false] Q) Q) a5 w5
      refine reg22 h' h95 hbx5 hB5 hn (by omega) (fun a6 w6 t y1 y2 y3 y4 y5 y6 y7 y8 y9 y10 => ?_)
      show (Code.region 23 o23 false).wp Try.prog (Exit.then (wpL Try.prog [] Q) Q) a6 w6
      rw [then_nil]
      refine reg23 y1 y7 y8 y9 (Nat.le_trans hB5 y10.size) (by omega) (fun a' w' s' x1 x2 x3 x4 x5 => hQ a' w' s' x1 ?_ x3 x4 ((D5.trans y10).trans x5))
      unfold L.shape
      rw [if_neg n2, if_neg n3, if_neg n4, if_neg n5, if_pos e6, f3, x2]
      unfold Sh.ls
      simp only [y2, y3, y4, y5, y6]
      rw [map_modify (mo.g k).g (mo.g k).n j fun q => { q with d := δ.d }]
    · have n6 : δ.what ≠ 6 := by simpa using hb
      obtain ⟨h95, hbx5⟩ := h94.step hbx4 d5
      have hB5 := Nat.le_trans hB4 d5.size
      have D5 := D4.trans (d5.mono hB4)
      rw [then_nil]
      refine wpL_flat _ ?_
      show wpL Try.prog l5 Q a5 w5
      refine level (rest := []) l5_eq h' hbx5 (e24 _ _ _ δ v1 v6 v7 (p9 g9) _) (by decide) (fun hb a6 w6 h' d6 => absurd (by simpa using hb) n6) (fun hb a6 w6 h' d6 => ?_)
      rw [then_nil]
      refine wpL_flat _ ?_
      refine refuse q6 h'.size h'.defers (fun a' w' m x1 x2 x3 => hR a' w' m x1 x2 ((D5.trans (d6.mono hB5)).trans (x3.mono (Nat.le_trans hB5 d6.size))) ?_)
      unfold L.shape
      rw [if_neg n2, if_neg n3, if_neg n4, if_neg n5, if_neg n6]
end
end RP
end Go.Proofs.Ytaojjpdlfnphiaa.PDescKinds
