/- slices.IndexFunc over a step's list. -/
import Derived.Test.YtlliefodchfpfaaDoorD0
set_option linter.unusedSimpArgs false
set_option linter.unusedVariables false
set_option linter.unusedSectionVars false
namespace Go.Proofs.YtlliefodchfpfaaDoor.PDescKinds
open Go.RowKit Go.Ev
set_option maxRecDepth 100000
def fnv (n : Nat) : SV := .val (.func (.func n) #[] #[])
/-- A function with nothing captured. -/
def isFn : SV → Nat → Bool
  | .val (.func (.func f) x y) => fun n => Nat.beq f n && (x.isEmpty && y.isEmpty)
  | _ => fun _ => false
theorem isFn_eq {s : SV} {n : Nat} (h : isFn s n = true) : s = fnv n := by
  unfold isFn at h
  split at h
  · simp only [Bool.and_eq_true] at h
    obtain ⟨h1, h2, h3⟩ := h
    have := Nat.eq_of_beq_eq_true h1
    subst this
    simp only [Array.isEmpty_iff] at h2 h3
    subst h2 h3
    rfl
  · cases h
theorem xok_below {A : Option Addr} {n c : Nat} {g : Nat → Int} {w w' : World} (h : @XOk (rowL A n c g) w) (hb : Below w.heap.size w w') : @XOk (rowL A n c g) w' := @XOk.below (rowL A n c g) _ _ h hb
def InvL (A : Option Addr) (n c : Nat) (g : Nat → Int) (w : World) : Prop := Tabs w ∧ @XOk (rowL A n c g) w
theorem invL_stable (A : Option Addr) (n c : Nat) (g : Nat → Int) : Stable (InvL A n c g) := fun w w' h hb => ⟨tabs_stable _ _ h.1 hb, xok_below h.2 hb⟩
theorem ctxL (A : Option Addr) (n c : Nat) (g : Nat → Int) {l : Tab} (hl : ∀ p ∈ l, E p) {s : TabS} (hs : letI := rowL A n c g; ∀ p ∈ s, EntryS Tryd.prog (InvL A n c g) p) : @Ctx (rowL A n c g) Tryd.prog ext (tab2 l s) (InvL A n c g) := by
  letI := rowL A n c g
  exact ⟨mixed, ext_sound, invL_stable A n c g, fun w h => h.2, tab2_sound (fun p hp => (fun args t v h1 h2 w hw => hl p hp args t v h1 h2 w hw.1)) hs⟩
theorem sNil {A : Option Addr} {n c : Nat} {g : Nat → Int} : letI := rowL A n c g; ∀ p ∈ ([] : TabS), EntryS Tryd.prog (InvL A n c g) p := fun p hp => by cases hp
abbrev IxH (n : Nat) (i : Nat) : Cut := ⟨[(0, .xs [0]), (1, fnv 14), (7, .val (.int .i64 (n : Int))), (8, .val (.int .i64 (i : Int)))], []⟩
theorem ix_pre (A : Option Addr) (n c : Nat) (g : Nat → Int) : letI := rowL A n c g
    evK Tryd.prog ext (tab2 [] []) 80 19 (seqL (preOf (bodyOf Tryd.f31))) (⟨argS [.xs [0], fnv 14], fun _ => none, 0⟩) (grab Tryd.prog Tryd.f31 [0, 1, 7, 8] [] 0) = some (.cut .normal (IxH n 0)) := by kernel_rfl
theorem ix_round (A : Option Addr) (n c : Nat) (g : Nat → Int) (i : Nat) : letI := rowL A n c g
    evK Tryd.prog ext (tab2 [] []) 80 19 (seqL (flat (roundOf (bodyOf Tryd.f31)))) ((IxH n i).st 0) (grab Tryd.prog Tryd.f31 [0, 1, 7, 8] [] 0) =
    (bif decide ((i : Int) < (n : Int)) then (bif decide (0 ≤ (i : Int)) && decide ((i : Int) < (n : Int)) then
      (bif decide (g (i : Int).toNat ≥ 0) then (bif !decide (g (i : Int).toNat < 32) then some (.ret (.val (.int .i64 (i : Int)))) else some (.cut .normal ⟨[(0, .xs [0]), (1, fnv 14), (7, .val (.int .i64 (n : Int))), (8, .val (.int .i64 (IntKind.i64.wrap ((i : Int) + 1))))], []⟩)) else some (.ret (.val (.int .i64 (i : Int))))) else none)
     else some (.cut (.exit 0) (IxH n i))) := by kernel_rfl
theorem ix_post (A : Option Addr) (n c : Nat) (g : Nat → Int) (i : Nat) : letI := rowL A n c g
    evK Tryd.prog ext (tab2 [] []) 80 19 (seqL (postOf (bodyOf Tryd.f31))) ((IxH n i).st 0) (grab Tryd.prog Tryd.f31 [0, 1, 7, 8] [] 0) = some (.ret (.val (.int .i64 (-1)))) := by kernel_rfl
theorem wr {i n : Nat} (h : i < n) (hn : n ≤ 1024) : IntKind.i64.wrap ((i : Int) + 1) = ((i + 1 : Nat) : Int) := by rw [IntKind.wrap_i64]; omega
theorem ix_runs (A : Option Addr) (n c : Nat) (g : Nat → Int) (hn : n ≤ 1024) : letI := rowL A n c g
    Runs Tryd.prog (InvL A n c g) 19 Tryd.f31 ((fun x : Int => SV.val (.int .i64 x)) (S.bad g n)) [] (bodyOf Tryd.f31) (⟨argS [.xs [0], fnv 14], fun _ => none, 0⟩) := by
  letI := rowL A n c g
  have C := ctxL A n c g (l := []) entries_nil sNil
  refine Runs.seekFn C (n := n) (p := fun i => bif S.reg (g i) then none else some (i : Int)) (f := (fun x : Int => SV.val (.int .i64 x))) (z := (-1)) (hd := fun i => IxH n i) (c' := IxH n n) (by kernel_rfl) (ix_pre A n c g) (fun i hi => ?_) ?_ (fun _ => ?_)
  · refine (ix_round A n c g i).trans ?_
    rw [decide_eq_true (by omega : (i : Int) < (n : Int)), decide_eq_true (by omega : (0 : Int) ≤ (i : Int)), Int.toNat_natCast, wr hi hn]
    unfold S.reg
    cases h1 : decide (g i ≥ 0) with
    | false => rfl
    | true =>
      cases h2 : decide (g i < 32) with
      | false => rfl
      | true => rfl
  · refine (ix_round A n c g n).trans ?_
    rw [decide_eq_false (by omega : ¬(n : Int) < (n : Int))]
    rfl
  · exact Runs.ret C (ix_post A n c g n)
/-- IndexFunc, of the row and the function of registers. -/
def ixC (n : Nat) (g : Nat → Int) : List SV → Option (DT SV)
  | [.xs [0], .val v] => bif isFn (.val v) 14 then some (.node (decide (n ≤ 1024)) (.leaf (.val (.int .i64 (S.bad g n)))) .bad) else none
  | _ => none
theorem ix_ent (A : Option Addr) (n c : Nat) (g : Nat → Int) : letI := rowL A n c g; EntryS Tryd.prog (InvL A n c g) (31, fun args _ => ixC n g args) := by
  letI := rowL A n c g
  refine EntryS.of (fun args t v h1 h2 => ?_) (invL_stable A n c g)
  unfold ixC at h1
  split at h1
  · rename_i f
    cases hf : isFn (.val f) 14 with
    | false => rw [hf] at h1; cases h1
    | true =>
      rw [hf] at h1
      cases h1
      have hfn : SV.val f = fnv 14 := isFn_eq hf
      cases hn : decide (n ≤ 1024) with
      | false => rw [hn] at h2; cases h2
      | true =>
        rw [hn] at h2
        cases h2
        refine ⟨ok_val _ _, ?_, fun w m hI => ?_⟩
        · intro x hx
          simp only [List.mem_cons, List.not_mem_nil, or_false] at hx
          rcases hx with rfl | rfl <;> first | exact ok_val _ _ | exact ok_xs
        · rw [hfn]
          refine Runs.calls (body := Tryd.f31.body.getD .skip) Tryd.func31 (by kernel_rfl) (by kernel_rfl) ?_ (ix_runs A n c g (of_decide_eq_true hn)) w hI m
          intro x hx
          simp only [List.mem_cons, List.not_mem_nil, or_false] at hx
          rcases hx with rfl | rfl <;> first | exact ok_val _ _ | exact ok_xs
  · cases h1
end Go.Proofs.YtlliefodchfpfaaDoor.PDescKinds
