/- Heaps: what a world holds of one; New. -/
import Derived.Test.YtpjkohpiikcegaaDoorH1
set_option linter.unusedSimpArgs false
set_option linter.unusedVariables false
set_option linter.unusedSectionVars false
namespace Go.Ev
open Go.RowKit
theorem XRow.below [XEnv] {w w' : World} {x : XR} (h : XRow w x) (hb : Below w.heap.size w w') : XRow w' x := fun j hj => by
  obtain ⟨h1, h2, a, h3, h4, h5⟩ := h j hj
  refine ⟨h1, h2, a, h3, Nat.lt_of_lt_of_le h4 hb.size, fun k s hk m => ?_⟩
  rw [← h5 k s hk m]
  refine hb.cell ?_
  have : (a.add (j * x.sz + k)).block = a.block := by
    unfold Addr.add
    split <;> rfl
  rw [this]
  exact h4
theorem XOk.below [XEnv] {w w' : World} (h : XOk w) (hb : Below w.heap.size w w') : XOk w' := fun r => XRow.below (h r) hb
end Go.Ev
namespace Go.Proofs.YtpjkohpiikcegaaDoor.PDescKinds
open Go.RowKit Go.Ev
set_option maxRecDepth 100000
/-- What is below B, and what is of no type of T, stays. -/
structure FrT (B : Nat) (T : List Nat) (w w' : World) : Prop where
  os : w'.os = w.os
  tape : w'.tape = w.tape
  output : w'.output = w.output
  size : w.heap.size ≤ w'.heap.size
  block : ∀ k, k < w.heap.size → (k < B ∨ ∀ cs ty c, w.heap[k]? = some (.cells cs ty c) → ty ∉ T) → w'.heap[k]? = w.heap[k]?
theorem FrT.refl (B : Nat) (T : List Nat) (w : World) : FrT B T w w := ⟨rfl, rfl, rfl, Nat.le_refl _, fun _ _ _ => rfl⟩
theorem FrT.of {B : Nat} {T : List Nat} {w w' : World} (h : Below w.heap.size w w') : FrT B T w w' := ⟨h.os, h.tape, h.output, h.size, fun k hk _ => h.block k hk⟩
theorem FrT.trans {B : Nat} {T : List Nat} {w w1 w2 : World} (h : FrT B T w w1) (g : FrT B T w1 w2) : FrT B T w w2 :=
  ⟨g.os.trans h.os, g.tape.trans h.tape, g.output.trans h.output, Nat.le_trans h.size g.size, fun k hk hc => by
    have e := h.block k hk hc
    refine (g.block k (Nat.lt_of_lt_of_le hk h.size) ?_).trans e
    rw [e]
    exact hc⟩
theorem FrT.then {B : Nat} {T : List Nat} {w w1 w2 : World} (h : FrT B T w w1) (g : Below w1.heap.size w1 w2) : FrT B T w w2 := h.trans (FrT.of g)
theorem FrT.mono {B B' : Nat} {T T' : List Nat} {w w' : World} (h : FrT B T w w') (hB : B' ≤ B) (hT : ∀ t ∈ T, t ∈ T') : FrT B' T' w w' :=
  ⟨h.os, h.tape, h.output, h.size, fun k hk hc => h.block k hk (hc.imp (fun h => by omega) fun h cs ty c e ht => h cs ty c e (hT _ ht))⟩
theorem FrT.below {B : Nat} {T : List Nat} {w w' : World} (h : FrT B T w w') (hB : B ≤ w.heap.size) : Below B w w' := ⟨h.os, h.tape, h.output, h.size, fun k hk => h.block k (by omega) (.inl hk)⟩
theorem FrT.drew {B : Nat} {T : List Nat} {w : World} : FrT B T w { w with drawn := w.drawn + 1 } := ⟨rfl, rfl, rfl, Nat.le_refl _, fun _ _ _ => rfl⟩
theorem FrT.own {B b e z n : Nat} {v : Value} {xs : List Value} {w w' : World} (h : w.ownsRow b e z v n xs) (hB : B ≤ b) (hg : w.grownBy w' v.ownBlock) : FrT B [e] w w' :=
  ⟨hg.os, hg.tape, hg.output, hg.size, fun k hk hc => hg.block k hk (fun he => by
    rcases h.2 with ⟨rfl, _⟩ | ⟨g, cap, cur, rfl, h1, h2, _⟩
    · cases he
    · cases he
      rcases hc with hc | hc
      · have hc : g < B := hc
        omega
      · exact hc _ _ _ h2 (by simp))⟩
theorem FrT.row {B b e z n : Nat} {T : List Nat} {v : Value} {xs : List Value} {w w' : World} (hf : FrT B T w w') (h : w.ownsRow b e z v n xs) (he : e ∉ T) : w'.ownsRow b e z v n xs :=
  ownsRow_same h fun g hg => by
    rcases h.2 with ⟨rfl, _⟩ | ⟨g', cap, cur, rfl, h1, h2, _⟩
    · cases hg
    · cases hg
      refine hf.block _ (Array.getElem?_eq_some_iff.1 h2).1 (.inr fun cs ty c hc => ?_)
      have h2 : w.heap[g']? = some (.cells cur e (0, 0)) := h2
      rw [h2] at hc
      cases hc
      exact he
def ptrs (h : HD) : List Value := (List.range h.n).flatMap fun j => [.pointer (some ⟨h.ob j, 0, none⟩)]
/-- A heap of our own. -/
structure OwnH (B : Nat) (w : World) (h : HD) : Prop where
  box : w.ownsRow B 51 5 (.slice (some ⟨h.hb, 0, none⟩) 1 1) 1 ((List.range 1).flatMap fun _ => h.vals)
  row : w.ownsRow B 66 1 (.slice h.A h.n h.c) h.n ((List.range h.n).flatMap fun j => [.pointer (some ⟨h.ob j, 0, none⟩)])
  obj : ∀ j, j < h.n → B ≤ h.ob j ∧ w.heap[h.ob j]? = some (.cells (objV (h.p j)).toArray 74 (0, 0))
section
variable {B : Nat} {T : List Nat} {w w' w0 : World} {h : HD} {a : Act} {Q : Exit → Act → World → Prop}
theorem OwnH.fr (hO : OwnH B w h) (hf : FrT B T w w') (hT : (T.all fun t => t != 51 && t != 66 && t != 74) = true) : OwnH B w' h := by
  simp only [List.all_eq_true, Bool.and_eq_true, bne_iff_ne] at hT
  refine ⟨hf.row hO.box fun h => (hT _ h).1.1 rfl, hf.row hO.row fun h => (hT _ h).1.2 rfl, fun j hj => ⟨(hO.obj j hj).1, ?_⟩⟩
  have e := (hO.obj j hj).2
  rw [hf.block _ (Array.getElem?_eq_some_iff.1 e).1 (.inr fun cs ty c hc ht => (hT _ ht).2 (by rw [e] at hc; cases hc; rfl))]
  exact e
theorem OwnH.below (hO : OwnH B w h) (hb : Below w.heap.size w w') : OwnH B w' h := hO.fr (FrT.of (B := B) (T := []) hb) rfl
theorem OwnH.box_lt (hO : OwnH B w h) : B ≤ h.hb ∧ h.hb < w.heap.size := by
  rcases row_slice hO.box with ⟨e, _⟩ | ⟨g, e, h1, h2⟩
  · cases e
  · cases e
    exact ⟨h1, h2⟩
theorem OwnH.xbox (hO : OwnH B w h) (bx : XR) : @XRow (rowsH h bx) w (@XEnv.env (rowsH h bx) []) := by
  letI := rowsH h bx
  intro j hj
  have hj : j < 1 := hj
  obtain rfl : j = 0 := by omega
  refine ⟨rfl, fun s hs mem => ?_, ⟨h.hb, 0, none⟩, rfl, hO.box_lt.2, fun k s hk m => ?_⟩
  · have hs : s ∈ [SV.val (.int .i64 h.cap), .val (.int .i64 h.fuel), .val (.int .i64 h.depth), .val (.int .i64 0), .xs [0]] := hs
    simp only [List.mem_cons, List.not_mem_nil, or_false] at hs
    rcases hs with rfl | rfl | rfl | rfl | rfl <;> first | exact ok_val _ _ | exact ok_xs
  · have hk : [SV.val (.int .i64 h.cap), .val (.int .i64 h.fuel), .val (.int .i64 h.depth), .val (.int .i64 0), .xs [0]][k]? = some s := hk
    refine own_at (f := fun _ => h.vals) (fun _ => rfl) hO.box (t := 0) (by omega) k _ ?_
    match k, hk with
    | 0, hk => cases hk; rw [den_val]; rfl
    | 1, hk => cases hk; rw [den_val]; rfl
    | 2, hk => cases hk; rw [den_val]; rfl
    | 3, hk => cases hk; rw [den_val]; rfl
    | 4, hk => cases hk; rw [den_xs]; rfl
    | k + 5, hk => cases hk
theorem OwnH.xptr (hO : OwnH B w h) (bx : XR) (r : Nat) : @XRow (rowsH h bx) w (@XEnv.env (rowsH h bx) [r]) := by
  letI := rowsH h bx
  intro j hj
  have hj : j < h.n := hj
  rcases row_slice hO.row with ⟨_, e, _⟩ | ⟨g, e, h1, h2⟩
  · omega
  · refine ⟨rfl, fun s hs mem => ?_, ⟨g, 0, none⟩, e, h2, fun k s hk m => ?_⟩
    · have hs : s ∈ [SV.val (.pointer (some ⟨h.ob j, 0, none⟩))] := hs
      obtain rfl := List.mem_singleton.1 hs
      exact ok_val _ _
    · have hk : [SV.val (.pointer (some ⟨h.ob j, 0, none⟩))][k]? = some s := hk
      have hr := hO.row
      rw [e] at hr
      refine own_at (f := fun j => [Value.pointer (some ⟨h.ob j, 0, none⟩)]) (fun _ => rfl) hr hj k _ ?_
      match k, hk with
      | 0, hk => cases hk; rw [den_val]; rfl
      | k + 1, hk => cases hk
theorem OwnH.xok (hO : OwnH B w h) {bx : XR} (hx : @XRow (rowsH h bx) w bx) : @XOk (rowsH h bx) w := by
  letI := rowsH h bx
  intro r
  match r with
  | [] => exact hO.xbox bx
  | [_] => exact hO.xptr bx _
  | _ :: _ :: _ => exact hx
theorem xnone (e : XEnv) (w : World) : @XRow e w noX1 := fun j hj => absurd hj (Nat.not_lt_zero _)
def InvH (h : HD) (bx : XR) (w : World) : Prop := Tabs w ∧ @XOk (rowsH h bx) w
theorem ctxH (bx : XR) : @Ctx (rowsH h bx) Tryd.prog ext (tab (L25 ck)) (InvH h bx) := by
  letI := rowsH h bx
  exact ⟨mixed, ext_sound, fun w w' h hb => ⟨tabs_b h.1 hb, XOk.below h.2 hb⟩, fun w h => h.2, tab_sound fun p hp => (fun args t v h1 h2 w hw => ck_entry p hp args t v h1 h2 w hw.1)⟩
/-- Plain values, as_ they stand. -/
theorem Kp.sr {e : XEnv} {N : Nat} {ts : List (Nat × Value)} (h : Kp N ts a) (w : World) : @SR e w N (fun _ => 0) ((⟨ts.map fun p => (p.1, .val p.2), []⟩ : Cut).st 0) a w := by
  letI := e
  refine epoch h.size h.defers _ _ (fun p hp => ?_) (fun p hp => ?_)
  · obtain ⟨q, hq, rfl⟩ := List.mem_map.1 hp
    rw [den_val]
    exact h.vals q hq
  · obtain ⟨q, hq, rfl⟩ := List.mem_map.1 hp
    exact ok_val _ _
theorem SR.kp {e : XEnv} {N : Nat} {c : Cut} {ts : List (Nat × Value)} {m : Nat → Nat} {a' : Act} {w w' : World} {next : Nat} (hr : @SR e w N m (c.st next) a' w') (hk : ∀ p ∈ ts, (pickT c.ts p.1).known = true ∧ @SV.den e m (pickT c.ts p.1) = p.2) : Kp N ts a' := by
  letI := e
  refine ⟨hr.ar.size, hr.ar.defers, fun p hp => ?_⟩
  obtain ⟨h1, h2⟩ := hk p hp
  exact (hr.ar.tm p.1 h1).trans h2
theorem New.refuses {cap fuel depth : Int} (h1 : cap < 0 ∨ 65536 < cap) (h3 : 0 ≤ fuel) (h4 : 1 ≤ depth) (h5 : depth ≤ 256) : Calls Tryd.prog 5 #[.int .i64 cap, .int .i64 fuel, .int .i64 depth] w (fun e w' => e = .returned (.tuple #[.pointer none, .int .i64 7]) ∧ Below w.heap.size w w') := by
  refine calls_of_wp Tryd.func5 (c := Tryd.f5.body.getD .skip) (by kernel_rfl) ?_
  refine wpL_flat _ ?_
  show wpL Tryd.prog nw _ _ _
  rw [nw_eq, wpL_app]
  have hst := @start_sound row0 Tryd.f5 [.val (.int .i64 cap), .val (.int .i64 fuel), .val (.int .i64 depth)] (fun y hy => by
    simp only [List.mem_cons, List.not_mem_nil, or_false] at hy
    rcases hy with rfl | rfl | rfl <;> exact @ok_val row0 _ _) w (fun _ => 0)
  simp only [List.map_cons, List.map_nil, @den_val row0] at hst
  have ev := t_new cap fuel depth
  have ev2 : _ = some (Res.ret (.val (.tuple #[.pointer none, .int .i64 7]))) := ev.trans (by
    rcases h1 with h1 | h1
    · rw [decide_eq_true h1]; rfl
    · rw [decide_eq_false (by omega : ¬cap < 0), decide_eq_true (by omega : cap > 65536)]; rfl)
  refine pieceZ ev2 hst (fun v hv m a' w' hd hres hb => ?_) (fun ex d hd => by cases hd)
  cases hv
  rw [@den_val row0] at hres
  exact ⟨hd, _, hres, rfl, hb⟩
def v0 : V := ⟨0, false, 0, ByteArray.empty, 0⟩
theorem New.calls {cap fuel depth : Int} (h1 : 0 ≤ cap) (h2 : cap ≤ 65536) (h3 : 0 ≤ fuel) (h4 : 1 ≤ depth) (h5 : depth ≤ 256) : Calls Tryd.prog 5 #[.int .i64 cap, .int .i64 fuel, .int .i64 depth] w (fun e w' => ∃ g, e = .returned (.tuple #[.pointer (some ⟨g, 0, none⟩), .int .i64 0]) ∧ Below w.heap.size w w' ∧
    OwnH w.heap.size w' ⟨g, cap, fuel, depth, none, 0, 0, fun _ => 0, fun _ => v0⟩) := by
  refine calls_of_wp Tryd.func5 (c := Tryd.f5.body.getD .skip) (by kernel_rfl) ?_
  refine wpL_flat _ ?_
  show wpL Tryd.prog nw _ _ _
  rw [nw_eq, wpL_app]
  have hst := @start_sound row0 Tryd.f5 [.val (.int .i64 cap), .val (.int .i64 fuel), .val (.int .i64 depth)] (fun y hy => by
    simp only [List.mem_cons, List.not_mem_nil, or_false] at hy
    rcases hy with rfl | rfl | rfl <;> exact @ok_val row0 _ _) w (fun _ => 0)
  simp only [List.map_cons, List.map_nil, @den_val row0] at hst
  have ev := t_new cap fuel depth
  rw [decide_eq_false (by omega : ¬cap < 0), decide_eq_false (by omega : ¬cap > 65536), decide_eq_false (by omega : ¬fuel < 0), decide_eq_false (by omega : ¬depth < 1), decide_eq_false (by omega : ¬depth > 256)] at ev
  refine pieceZ ev hst (fun v hv => by cases hv) (fun ex d hd m a1 w1 hr => ?_)
  cases hd
  obtain ⟨b1, b2, _⟩ := (@SR.mr row0 _ _ _ _ _ _ hr).blk 0 _ rfl
  have hb := (@SR.mr row0 _ _ _ _ _ _ hr).below
  have K1 : Kp 31 [(6, .pointer (some ⟨m 0, 0, none⟩)), (7, .int .i64 0)] a1 := SR.kp hr fun p hp => by
    simp only [List.mem_cons, List.not_mem_nil, or_false] at hp
    rcases hp with rfl | rfl
    · exact ⟨rfl, @den_ptr row0 _ _ _⟩
    · exact ⟨rfl, @den_val row0 _ _⟩
  show wpL Tryd.prog (nw.drop 4) _ a1 w1
  refine pieceZ (t_newr _ _) (K1.sr w1) (fun v hv m' a' w' hd hres hb' => ?_) (fun ex d hd => by cases hd)
  cases hv
  rw [@den_val row0] at hres
  refine ⟨hd, _, hres, m 0, rfl, hb.trans (hb'.mono hb.size), ?_⟩
  refine OwnH.below ⟨⟨rfl, .inr ⟨m 0, 1, _, rfl, b1, b2, Nat.le_refl _, by decide, rfl, rfl⟩⟩, ⟨rfl, .inl ⟨rfl, rfl⟩⟩, fun j hj => absurd hj (Nat.not_lt_zero _)⟩ hb'
end
end Go.Proofs.YtpjkohpiikcegaaDoor.PDescKinds
