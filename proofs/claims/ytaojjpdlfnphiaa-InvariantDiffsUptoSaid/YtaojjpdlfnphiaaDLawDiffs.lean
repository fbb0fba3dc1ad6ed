/-
  cameolaw10.InvariantDiffs returns true, and what it was handed reads behind the call as it read before.
  Conditions: what it reads is of bulk at most 1048576 (the second form); the row lists math.Float64bits as in place.
-/
import Derived.Test.YtaojjpdlfnphiaaDOpen
import Derived.Test.YtaojjpdlfnphiaaDPureDiffs
import Derived.Test.YtaojjpdlfnphiaaTInvariantDiffsx12
import Derived.WalkKit
import Derived.ProofKit
import Derived.OpenShut
import Derived.ShutString
import Derived.Below
import Derived.Carry
import Derived.JoinedCond
namespace Go.Proofs.Ytaojjpdlfnphiaa.invariantDiffs
open Go.ChangeShapes Go.WideShapes Go.ChangeAt Go.RowKit
open Go.Proofs.YtaojjpdlfnphiaaW.PrintWords Go.Proofs.Ytaojjpdlfnphiaa.PInvariantDiffs Go.Proofs.Ytaojjpdlfnphiaa.opens
set_option linter.unusedVariables false
theorem own : ownKnob Try.prog.godebug = none := by kernel_rfl
theorem laidOut : laidOutB Try.prog = true := by kernel_rfl

theorem contract (H : Type) (enc : TypeId × Value → H) (W : World) (base : Nat) (args : Array Value) (ds gs : List (DataW H)) (before : List MemPlace)
    (hval : ∀ (j : Nat) t v, Try.f4.params[j]? = some t → args[j]? = some v → Value.okWide Try.prog W .any base t v)
    (hW : DataW.Whole enc Try.prog Try.f4.params.toList Rows.invariantDiffsSpec.vars false W args.toList ds gs before) (hk : Rows.uptoSmall H (ds ++ gs) = true) :
    Calls Try.prog 4 args W fun e W' => ∃ v, e = .returned v ∧ Rows.invariantDiffsSpec.post enc Try.prog Try.f4 false true false false W args v W' := by
  have hbulk : Rows.uptoBulkAll (ds ++ gs) ≤ 1048576 := of_decide_eq_true hk
  have hW' := hW
  obtain ⟨p, q, hA0, hV, rfl, hfz, hnd⟩ := hW
  have hA : DataW.TrodAll enc Try.prog W 0 (fun _ => true) true Try.f4.params.toList args.toList ds p := hA0
  rw [Try.params4] at hA hval
  obtain ⟨v0, vs0, d0, ds0, p0, q0, hargs, rfl, rfl, h0, r0⟩ := trodAll_cons hA
  obtain ⟨v1, vs1, d1, ds1, p1, q1, rfl, rfl, rfl, h1, r1⟩ := trodAll_cons r0
  obtain ⟨rfl, rfl, rfl⟩ := trodAll_nil r1
  obtain rfl : args = #[v0, v1] := by cases args; simp_all
  obtain ⟨rfl, rfl⟩ := trodVars_none hV
  obtain ⟨a0, len0, cap0, rfl⟩ := okWide_slice Try.underlying22 (hval 0 22 v0 rfl rfl)
  obtain ⟨a1, len1, cap1, rfl⟩ := okWide_slice Try.underlying22 (hval 1 22 v1 rfl rfl)
  have k0 := h0
  have k1 := h1
  have lt0 : ∀ x ∈ p0, x.block < W.heap.size := by obtain ⟨m, hm⟩ := k0; exact DataW.trod_lt m _ _ _ hm
  have lt1 : ∀ x ∈ p1, x.block < W.heap.size := by obtain ⟨m, hm⟩ := k1; exact DataW.trod_lt m _ _ _ hm
  obtain ⟨f0, e0⟩ := h0
  obtain ⟨f1, e1⟩ := h1
  obtain ⟨l0, A0, c0, hc0, hl0, hm0, hr0, hw0, hb0⟩ := opens22 _ _ _ e0
  obtain ⟨l1, A1, c1, hc1, hl1, hm1, hr1, hw1, hb1⟩ := opens22 _ _ _ e1
  simp [Value.cells] at hc0 hc1
  obtain ⟨rfl, rfl, rfl⟩ := hc0
  obtain ⟨rfl, rfl, rfl⟩ := hc1
  simp only [Rows.uptoBulkAll, List.cons_append, List.nil_append] at hbulk
  obtain ⟨k, hf⟩ := Pure.InvariantDiffs l0 l1 hw0 hw1 (by simp only at hb0; omega) (by simp only at hb1; omega)
  clear hA0
  refine (cameolaw10_InvariantDiffs.calls k a0 cap0 l0 a1 cap1 l1 true W hr0 hl0 hr1 hl1 hf).mono fun e W' ⟨he, bel⟩ => ?_
  subst he
  exact ⟨_, rfl, _, _, _, [], _, [], hW', trodAll_mk1 (shut_bool Try.underlying4 _), (trodAll_cons_mk (Below.trod laidOut (by kernel_rfl) (of_decide_eq_true (by kernel_rfl)) k0 bel lt0) (trodAll_cons_mk (Below.trod laidOut (by kernel_rfl) (of_decide_eq_true (by kernel_rfl)) k1 bel lt1) trodAll_mk0)), rfl, bel.frame _, fun h => by cases h⟩

set_option maxRecDepth 100000 in
theorem lifted (os : Os) (started : os.Started) (H : Type) (enc : TypeId × Value → H) (F : Stop.Interp) :
    ReturnsInHanded {} Try.checked os 4 .any ((Rows.OpenSpec.upto Rows.invariantDiffsSpec).pre6 enc Try.prog Try.f4 Rows.invariantDiffsUptoRow.domain false) (((Rows.OpenSpec.upto Rows.invariantDiffsSpec).at F).post enc Try.prog Try.f4 false true false false) := by
  refine returnsInHanded_of_cond (C := Try.checked) (s := Rows.OpenSpec.upto Rows.invariantDiffsSpec) (k := Rows.uptoSmall) rfl own started (by kernel_rfl) Try.func4
    (OpenSpec.witness (enc := enc) (C := Try.checked) (s := Rows.OpenSpec.upto Rows.invariantDiffsSpec) (k := Rows.uptoSmall) rfl false ⟨#[], #[.slice none 0 0, .slice none 0 0], []⟩ 8 (by kernel_rfl) (by kernel_rfl) (by kernel_rfl)
      (x := ([.nil, .nil], [], [])) (by kernel_rfl) rfl (by kernel_rfl)) ?_
  intro W base args ds gs before hval hW _ hk _
  exact contract H enc W base args ds gs before hval hW hk

theorem over : Rows.invariantDiffsUptoRow.holds Try.pinned (Rows.OpenSpec.upto Rows.invariantDiffsSpec) :=
  OpenClaim.holds_of_cond 4 Try.f4 rfl rfl rfl rfl rfl rfl rfl ⟨rfl, rfl, rfl, rfl, rfl⟩ rfl rfl rfl rfl rfl (by kernel_rfl) Try.func4 (by kernel_rfl)
    (of_decide_eq_true (by kernel_rfl)) (by unfold Func.isWrapper; first | (rw [if_pos (by decide +kernel)]; kernel_rfl) | (rw [if_neg (by decide +kernel)]; exact ⟨rfl, rfl⟩))
    (fun os started H enc _ F => lifted os started H enc F)

end Go.Proofs.Ytaojjpdlfnphiaa.invariantDiffs
namespace Go.Proofs.Ytaojjpdlfnphiaa
/-- 'cameolaw10.InvariantDiffs' answers true wherever what it reads is of bulk at most 1048576, and what it was handed reads as it did. -/
theorem invariantDiffs_holds : Rows.InvariantDiffsUptoSaid := invariantDiffs.over
end Go.Proofs.Ytaojjpdlfnphiaa
