/- cameolaw27.DriverSounds answers true. -/
import Derived.Test.YtlliefodchfpfaaDoorD2
set_option linter.unusedSimpArgs false
set_option linter.unusedVariables false
set_option linter.unusedSectionVars false
namespace Go.Proofs.YtlliefodchfpfaaDoor.PDescKinds
open Go.RowKit Go.Ev
set_option maxRecDepth 100000
/-- Contracts of a step, and of how many bodies there are. -/
def onStp (f : Stp → Int → Bool) : List SV → Option (DT SV)
  | [.arr l, .val (.int .i64 b)] => match getStp l with
    | some (x, [0]) => some (.leaf (.val (.bool (f x b))))
    | _ => none
  | _ => none
theorem onStp_eq {f : Stp → Int → Bool} {l : List SV} {t : DT SV} (h : onStp f l = some t) : ∃ x b, l = [.arr (x.cells [0]), .val (.int .i64 b)] ∧ t = .leaf (.val (.bool (f x b))) := by
  unfold onStp at h
  split at h
  · rename_i l b
    split at h
    · rename_i x hx
      cases h
      exact ⟨x, b, by rw [getStp_eq hx], rfl⟩
    · cases h
  · cases h
theorem cells_ok [XEnv] (x : Stp) (mem : Mem) : ∀ s ∈ x.cells [0], s.ok mem := by
  intro s hs
  unfold Stp.cells at hs
  simp only [List.mem_cons, List.not_mem_nil, or_false] at hs
  rcases hs with h | h | h | h | h | h | h | h | h | h | h | h | h | h | h | h | h | h | h | h | h | h | h | h | h | h | h | h | h | h | h | h | h | h | h | h | h <;> subst h <;> first | exact ok_val _ _ | exact ok_xs
theorem args_ok [XEnv] (x : Stp) (b : Int) (mem : Mem) : ∀ s ∈ [SV.arr (x.cells [0]), .val (.int .i64 b)], s.ok mem := by
  intro s hs
  simp only [List.mem_cons, List.not_mem_nil, or_false] at hs
  rcases hs with rfl | rfl
  · exact ok_arr.2 (cells_ok x mem)
  · exact ok_val _ _
theorem ent5 (A : Option Addr) (n c : Nat) (g : Nat → Int) : letI := rowL A n c g; EntryS Tryd.prog (InvL A n c g) (5, fun args _ => onStp (fun x b => S.sound x n g b) args) := by
  letI := rowL A n c g
  refine EntryS.of (fun args t v h1 h2 => ?_) (invL_stable A n c g)
  obtain ⟨x, b, rfl, rfl⟩ := onStp_eq h1
  cases h2
  exact ⟨ok_val _ _, args_ok x b _, fun w m hI => Runs.calls (body := Tryd.f5.body.getD .skip) Tryd.func5 (by kernel_rfl) (by kernel_rfl) (args_ok x b _) (Runs.ret (ctxL A n c g entsAL (sSL A n c g)) (sd_eq x A n c g b)) w hI m⟩
theorem rd_runs (x : Stp) (A : Option Addr) (n c : Nat) (g : Nat → Int) (b : Int) : letI := rowL A n c g
    Runs Tryd.prog (InvL A n c g) 137 Tryd.f6 (SV.val (.bool (R.sound x n g b))) [] (bodyOf Tryd.f6) (⟨argS [.arr (x.cells [0]), .val (.int .i64 b)], fun _ => none, 0⟩) := by
  letI := rowL A n c g
  have C := ctxL A n c g entsAL (sSL A n c g)
  unfold R.sound
  cases hp : R.pre x n with
  | false =>
    have ev := rd_pre x A n c g b
    rw [hp] at ev
    rw [split_loop (bodyOf Tryd.f6) (by kernel_rfl)]
    exact Runs.app (Runs.ret C ev)
  | true =>
    have ev := rd_pre x A n c g b
    rw [hp] at ev
    have hn : n ≤ 1024 := by
      unfold R.pre at hp
      simp only [Bool.and_eq_true, Bool.not_eq_true', decide_eq_false_iff_not] at hp
      omega
    show Runs Tryd.prog (InvL A n c g) 137 Tryd.f6 ((fun z : Bool => SV.val (.bool z)) ((seek (fun i => bif S.reg (g i) then none else some false) n 0).getD (R.tail x b))) [] (bodyOf Tryd.f6) _
    refine Runs.seekFn C (n := n) (p := fun i => bif S.reg (g i) then none else some false) (f := (fun z : Bool => SV.val (.bool z))) (z := R.tail x b) (hd := fun i => RdH x b i) (c' := RdH x b n) (by kernel_rfl) ev (fun i hi => ?_) ?_ (fun _ => Runs.ret C (rd_post x A n c g b n))
    · refine (rd_round x A n c g b i).trans ?_
      unfold RdN
      rw [decide_eq_true (by omega : (i : Int) < (n : Int)), decide_eq_true (by omega : (0 : Int) ≤ (i : Int)), Int.toNat_natCast, wr hi hn]
      unfold S.reg
      cases h1 : decide (g i ≥ 0) with
      | false => rfl
      | true =>
        cases h2 : decide (g i < 32) with
        | false => rfl
        | true => rfl
    · refine (rd_round x A n c g b n).trans ?_
      rw [decide_eq_false (by omega : ¬(n : Int) < (n : Int))]
      rfl
theorem ent6 (A : Option Addr) (n c : Nat) (g : Nat → Int) : letI := rowL A n c g; EntryS Tryd.prog (InvL A n c g) (6, fun args _ => onStp (fun x b => R.sound x n g b) args) := by
  letI := rowL A n c g
  refine EntryS.of (fun args t v h1 h2 => ?_) (invL_stable A n c g)
  obtain ⟨x, b, rfl, rfl⟩ := onStp_eq h1
  cases h2
  exact ⟨ok_val _ _, args_ok x b _, fun w m hI => Runs.calls (body := Tryd.f6.body.getD .skip) Tryd.func6 (by kernel_rfl) (by kernel_rfl) (args_ok x b _) (rd_runs x A n c g b) w hI m⟩
/-! The two are one -/
theorem seek_map {α β : Type} (f : α → β) (p : Nat → Option α) : ∀ (k i : Nat), seek (fun j => (p j).map f) k i = (seek p k i).map f
  | 0, _ => rfl
  | k + 1, i => by
    unfold seek
    cases h : p i with
    | none => exact seek_map f p k (i + 1)
    | some a => rfl
theorem seek_nn (p : Nat → Bool) : ∀ (k i : Nat) (a : Int), seek (fun j => bif p j then none else some (j : Int)) k i = some a → 0 ≤ a
  | 0, _, _, h => by cases h
  | k + 1, i, a, h => by
    unfold seek at h
    cases hp : p i with
    | true => simp only [hp, cond_true] at h; exact seek_nn p k (i + 1) a h
    | false => simp only [hp, cond_false, Option.some.injEq] at h; omega
theorem regs_eq (g : Nat → Int) (n : Nat) (z : Bool) : R.regs g n z = (!(decide (S.bad g n ≥ 0)) && z) := by
  unfold R.regs S.bad
  have e : (fun i => bif S.reg (g i) then none else some false : Nat → Option Bool) = fun i => (bif S.reg (g i) then (none : Option Int) else some (i : Int)).map fun _ => false := by
    funext i
    cases S.reg (g i) <;> rfl
  rw [e, seek_map]
  cases h : seek (fun i => bif S.reg (g i) then none else some (i : Int)) n 0 with
  | none => simp
  | some a =>
    have := seek_nn (fun i => S.reg (g i)) n 0 a h
    simp [this]
theorem tail_eq {x : Stp} {b : Int} (hv : x.val.wf) (hd : x.desc.wf) (hc : S.check x.desc = true) : R.tail x b = S.tail x b := by
  unfold R.tail S.tail
  rw [R.good_eq hv]
  unfold S.isG S.hasD S.hasA
  rw [hc, show (x.desc.w != 0) = !(x.desc.w == 0) from rfl]
  generalize (x.desc.w == 0) = z
  generalize S.there x.desc.v = p
  generalize S.there x.desc.g = q
  generalize S.there x.desc.t = r
  cases p <;> cases q <;> cases r <;> cases z <;> rfl
theorem sound_eq {x : Stp} {n : Nat} {g : Nat → Int} {b : Int} (hv : x.val.wf) (hd : x.desc.wf) : R.sound x n g b = S.sound x n g b := by
  unfold R.sound R.pre S.sound
  rw [R.check_eq hd, regs_eq]
  cases hc : S.check x.desc with
  | false => simp
  | true =>
    rw [tail_eq hv hd hc]
    cases S.head x <;> cases decide ((n : Int) > 1024) <;> cases S.keyOk x.key <;> cases decide (S.bad g n ≥ 0) <;> rfl
end Go.Proofs.YtlliefodchfpfaaDoor.PDescKinds
