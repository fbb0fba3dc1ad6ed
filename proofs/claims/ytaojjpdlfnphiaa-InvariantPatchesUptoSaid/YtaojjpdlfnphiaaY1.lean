/- cameolaw10.sameDeltas, of two rows that read alike. -/
import Derived.Test.YtaojjpdlfnphiaaY0
set_option linter.unusedSimpArgs false
set_option linter.unusedVariables false
set_option linter.unusedSectionVars false
namespace Go.Proofs.Ytaojjpdlfnphiaa.PDescKinds
open Go.RowKit Go.Ev
namespace Sd
set_option maxRecDepth 100000 in
theorem pre (A1 A2 : Option Addr) (n c1 c2 : Nat) (g : Nat → Dl) : letI := rowD2 A1 A2 n c1 c2 g
    evK Try.prog ext (tab2 BvL5 []) 120 76 (seqL (preOf (bodyOf Try.f11))) (⟨argS [.xs [], .xs [0]], fun _ => none, 0⟩) (grab Try.prog Try.f11 [0, 1, 5] [] 0) =
    (bif (n : Int) != (n : Int) then some (Res.ret (SV.val (Value.bool false))) else some (Res.cut Ex.normal (Cut.mk [(0, SV.xs []), (1, SV.xs [0]), (5, SV.val (Value.int IntKind.i64 0))] []))) := by kernel_rfl
set_option maxRecDepth 100000 in
theorem round (A1 A2 : Option Addr) (n c1 c2 : Nat) (g : Nat → Dl) (i : Nat) : letI := rowD2 A1 A2 n c1 c2 g
    evK Try.prog ext (tab2 BvL5 []) 120 76 (seqL (flat (roundOf (bodyOf Try.f11)))) ((⟨[(0, .xs []), (1, .xs [0]), (5, .val (.int .i64 (i : Int)))], []⟩ : Cut).st 0) (grab Try.prog Try.f11 [0, 1, 5] [] 0) =
    (bif decide ((i : Int) < (n : Int)) then 
     (bif decide (0 ≤ (i : Int)) && decide ((i : Int) < (n : Int)) then 
      (bif decide (0 ≤ (i : Int)) && decide ((i : Int) < (n : Int)) then 
       (bif (g i).o != (g i).o then some (Res.ret (SV.val (Value.bool false))) else 
        (bif (g i).what != (g i).what then some (Res.ret (SV.val (Value.bool false))) else 
         (bif (g i).n != (g i).n then some (Res.ret (SV.val (Value.bool false))) else 
          (bif !(g i).yes == (g i).yes then some (Res.ret (SV.val (Value.bool false))) else 
           (bif !R.eqR (g i).v (g i).v then some (Res.ret (SV.val (Value.bool false))) else 
            (bif !((g i).k.s == (g i).k.s && ((g i).k.n == (g i).k.n && true)) then some (Res.ret (SV.val (Value.bool false))) else 
             (bif !R.eqDR (g i).d (g i).d then some (Res.ret (SV.val (Value.bool false))) else some (Res.cut Ex.normal (Cut.mk [(0, SV.xs []), (1, SV.xs [0]), (5, SV.val (Value.int IntKind.i64 (IntKind.i64.wrap ((i : Int) + 1))))] []))))))))) else none) else none) else some (Res.cut (Ex.exit 0) (Cut.mk [(0, SV.xs []), (1, SV.xs [0]), (5, SV.val (Value.int IntKind.i64 (i : Int)))] []))) := by kernel_rfl
set_option maxRecDepth 100000 in
theorem post (A1 A2 : Option Addr) (n c1 c2 : Nat) (g : Nat → Dl) (i : Nat) : letI := rowD2 A1 A2 n c1 c2 g
    evK Try.prog ext (tab2 BvL5 []) 120 76 (seqL (postOf (bodyOf Try.f11))) ((⟨[(0, .xs []), (1, .xs [0]), (5, .val (.int .i64 (i : Int)))], []⟩ : Cut).st 0) (grab Try.prog Try.f11 [0, 1, 5] [] 0) =
    some (Res.ret (SV.val (Value.bool true))) := by kernel_rfl
theorem ctx (A1 A2 : Option Addr) (n c1 c2 : Nat) (g : Nat → Dl) : @Ctx (rowD2 A1 A2 n c1 c2 g) Try.prog ext (tab2 BvL5 []) (fun w => @XOk (rowD2 A1 A2 n c1 c2 g) w) := by
  letI := rowD2 A1 A2 n c1 c2 g
  exact ⟨mixed, ext_sound, fun w w' h hb => XOk.below h hb, fun w h => h, tab2_sound (fun p hp => Entry.mono (Bvents5 p hp) fun w _ => rfl) (fun p hp => by cases hp)⟩
theorem run (A1 A2 : Option Addr) (n c1 c2 : Nat) (g : Nat → Dl) (hn : n ≤ 1000000) : letI := rowD2 A1 A2 n c1 c2 g
    Runs Try.prog (fun w => @XOk (rowD2 A1 A2 n c1 c2 g) w) 76 Try.f11 (.val (.bool true)) [] (bodyOf Try.f11) ⟨argS [.xs [], .xs [0]], fun _ => none, 0⟩ := by
  letI := rowD2 A1 A2 n c1 c2 g
  have C := ctx A1 A2 n c1 c2 g
  have hv : seek (fun _ => (none : Option Bool)) n 0 = none := (S.seek_none n 0).2 fun _ _ _ => rfl
  show Runs _ _ _ _ ((fun x : Bool => SV.val (.bool x)) true) _ _ _
  have e : true = (seek (fun _ => (none : Option Bool)) n 0).getD true := by rw [hv]; rfl
  rw [e]
  refine Runs.seekFn (k := 120) (ts := [0, 1, 5]) (bs := []) (next := 0) C (n := n) (p := fun _ => none) (f := fun x : Bool => SV.val (.bool x)) (z := true) (hd := fun i => (⟨[(0, .xs []), (1, .xs [0]), (5, .val (.int .i64 (i : Int)))], []⟩ : Cut)) (c' := (⟨[(0, .xs []), (1, .xs [0]), (5, .val (.int .i64 (n : Int)))], []⟩ : Cut)) (by kernel_rfl) ?_ (fun i hi => ?_) ?_ (fun _ => ?_)
  · refine (pre A1 A2 n c1 c2 g).trans ?_
    rw [show ((n : Int) != (n : Int)) = false by simp]
    rfl
  · refine (round A1 A2 n c1 c2 g i).trans ?_
    rw [show decide ((i : Int) < (n : Int)) = true from decide_eq_true (by omega), show decide (0 ≤ (i : Int)) = true from decide_eq_true (by omega), bne_self_eq_false, bne_self_eq_false, bne_self_eq_false, beq_self_eq_true, eqR_refl, eqDR_refl, bytes_refl, beq_self_eq_true, wr hi (by omega)]
    rfl
  · refine (round A1 A2 n c1 c2 g n).trans ?_
    rw [show decide ((n : Int) < (n : Int)) = false from decide_eq_false (by omega)]
    rfl
  · exact Runs.ret C (post A1 A2 n c1 c2 g n)
theorem calls (A1 A2 : Option Addr) (n c1 c2 : Nat) (g : Nat → Dl) (hn : n ≤ 1000000) {w : World} (hX : @XOk (rowD2 A1 A2 n c1 c2 g) w) : Calls Try.prog 11 #[.slice A1 n c1, .slice A2 n c2] w (fun e w' => e = .returned (.bool true) ∧ Below w.heap.size w w') := by
  letI := rowD2 A1 A2 n c1 c2 g
  have := Runs.calls (body := Try.f11.body.getD .skip) Try.func11 (by kernel_rfl) (by kernel_rfl) (fun x hx => by
    simp only [List.mem_cons, List.not_mem_nil, or_false] at hx
    rcases hx with rfl | rfl <;> exact ok_xs) (run A1 A2 n c1 c2 g hn) w hX (fun _ => 0)
  have ea : ([SV.xs [], SV.xs [0]].map (SV.den (fun _ => 0))).toArray = #[.slice A1 n c1, .slice A2 n c2] := by
    simp only [List.map, den_xs]
    rfl
  rw [ea] at this
  refine Calls.mono this fun e w' ⟨⟨m, he⟩, hb⟩ => ?_
  rw [den_val] at he
  exact ⟨he, hb⟩
end Sd
end Go.Proofs.Ytaojjpdlfnphiaa.PDescKinds
