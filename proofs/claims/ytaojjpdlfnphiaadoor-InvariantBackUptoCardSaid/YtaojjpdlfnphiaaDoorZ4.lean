/- Parts of the proof, joined (4). -/
import Derived.Test.YtaojjpdlfnphiaaDoorCards
import Derived.Test.YtaojjpdlfnphiaaDoorTie
import Derived.WalkKit
import Derived.ProofKit
import Derived.OpenShut
import Derived.Deep.DeepHandedRow
import Derived.Lib.LaidTab
import Derived.Lib.LaidIn
import Derived.Lib.LaidU8T
import Derived.Laws.AppendOwnNone
import Derived.Maps.OwnOps
import Derived.Maps.Views
import Derived.DeepKeys4
import Derived.Carry
import Derived.OrdersHeld
import Derived.Test.YtaojjpdlfnphiaaDoorZ3
section
/- Parts of the proof, joined (5). -/
section
/- Moments: what the functions over values answer; words for loops. -/
set_option linter.unusedSimpArgs false
set_option linter.unusedVariables false
set_option linter.unusedSectionVars false
namespace Go.Proofs.YtaojjpdlfnphiaaDoor.PDescKinds
open Go.RowKit Go.Ev
namespace S
/-- invariant.same. -/
def eqC (a b : V) : Bool := a.k == b.k && (a.b == b.b && (a.s.toList == b.s.toList && (a.id == b.id && numSame a.n b.n)))
/-- invariant.alike. -/
def alikeC (a b : D) : Bool := eqC a.v b.v && (eqC a.g b.g && (eqC a.t b.t && (a.w == b.w && (a.e == b.e && a.c == b.c))))
end S
namespace R
/-- Above infinity's bits, the sign left out. -/
def big (a : Nat) : Bool := decide (IntKind.u64.wrap (↑(BitVec.ofInt IntKind.u64.bits (a : Int) &&& ~~~BitVec.ofInt IntKind.u64.bits 9223372036854775808).toNat : Int) > 9218868437227405312)
/-- cameoref02.Same. -/
def num2 (a b : Nat) : Bool := (big a && big b) || ((a : Int) == (b : Int))
/-- cameoref10.Eq. -/
def eqR (a b : V) : Bool := a.k == b.k && (a.b == b.b && (a.s.toList == b.s.toList && (a.id == b.id && num2 a.n b.n)))
/-- cameoref10.EqDesc. -/
def eqDR (a b : D) : Bool := eqR a.v b.v && (eqR a.g b.g && (eqR a.t b.t && (a.w == b.w && (a.e == b.e && a.c == b.c))))
end R
namespace T
def eqC (a b : V) : DT Value := B (S.eqC a b)
def alikeC (a b : D) : DT Value := B (S.alikeC a b)
def num2 (a b : Nat) : DT Value := B (R.num2 a b)
def eqR (a b : V) : DT Value := B (R.eqR a b)
def eqDR (a b : D) : DT Value := B (R.eqDR a b)
end T
end Go.Proofs.YtaojjpdlfnphiaaDoor.PDescKinds
end
section
/- Moments: what the functions over shapes answer, and the contracts that say so. -/
set_option linter.unusedSimpArgs false
set_option linter.unusedVariables false
set_option linter.unusedSectionVars false
namespace Go.Proofs.YtaojjpdlfnphiaaDoor.PDescKinds
open Go.RowKit Go.Ev
namespace S
def keq (a b : K) : Bool := a.s == b.s && (a.n == b.n && true)
/-- The first place of a list of n at which p holds; -1. -/
def idx (p : Nat → Bool) (n : Nat) : Int := (seek (fun i => bif p i then some (i : Int) else none) n 0).getD (-1)
def find (s : Sh) (k : K) : Int := idx (fun i => keq (s.g i).k k) s.n
/-- Is some property of a not one of b? -/
def freshAt (b a : Sh) : Int := idx (fun i => decide (find b (a.g i).k < 0)) a.n
def confAt (s : Sh) : Int := idx (fun i => (s.g i).d.c != 1) s.n
def thawAt (s : Sh) : Int := idx (fun i => (s.g i).d.g.k == 0 && ((s.g i).d.t.k == 0 && (s.g i).d.w != 1)) s.n
end S
namespace S
theorem seek_some {α : Type} {p : Nat → Option α} {v : α} : ∀ (k i : Nat), seek p k i = some v → ∃ j, i ≤ j ∧ j < i + k ∧ p j = some v
  | 0, _, h => by cases h
  | k + 1, i, h => by
    simp only [seek] at h
    cases hp : p i with
    | some u =>
      rw [hp] at h
      cases h
      exact ⟨i, Nat.le_refl _, by omega, hp⟩
    | none =>
      rw [hp] at h
      obtain ⟨j, h1, h2, h3⟩ := seek_some k (i + 1) h
      exact ⟨j, by omega, by omega, h3⟩
theorem seek_none {α : Type} {p : Nat → Option α} : ∀ (k i : Nat), seek p k i = none ↔ ∀ j, i ≤ j → j < i + k → p j = none
  | 0, i => by simp only [seek, true_iff]; intro j h1 h2; omega
  | k + 1, i => by
    simp only [seek]
    cases hp : p i with
    | some u =>
      simp only [reduceCtorEq, false_iff]
      intro h
      have := h i (Nat.le_refl _) (by omega)
      rw [hp] at this
      cases this
    | none =>
      simp only
      rw [seek_none k (i + 1)]
      constructor
      · intro h j h1 h2
        by_cases e : j = i
        · rw [e, hp]
        · exact h j (by omega) (by omega)
      · intro h j h1 h2
        exact h j (by omega) (by omega)
theorem idx_some {p : Nat → Bool} {n : Nat} (h : 0 ≤ idx p n) : ∃ j : Nat, idx p n = j ∧ j < n ∧ p j = true := by
  unfold idx at h ⊢
  cases hs : seek (fun i => bif p i then some (i : Int) else none) n 0 with
  | none => rw [hs] at h; exact absurd h (by decide)
  | some v =>
    obtain ⟨j, _, h2, h3⟩ := seek_some n 0 hs
    cases hp : p j with
    | false => rw [hp] at h3; cases h3
    | true =>
      rw [hp] at h3
      cases h3
      exact ⟨j, rfl, by omega, hp⟩
theorem idx_none {p : Nat → Bool} {n : Nat} (h : idx p n < 0) : ∀ j, j < n → p j = false := by
  unfold idx at h
  cases hs : seek (fun i => bif p i then some (i : Int) else none) n 0 with
  | some v =>
    obtain ⟨j, _, h2, h3⟩ := seek_some n 0 hs
    cases hp : p j with
    | false => rw [hp] at h3; cases h3
    | true =>
      rw [hp] at h3
      cases h3
      rw [hs] at h
      simp only [Option.getD_some] at h
      omega
  | none =>
    intro j hj
    have := (seek_none n 0).1 hs j (Nat.zero_le _) (by omega)
    cases hp : p j with
    | false => rfl
    | true => rw [hp] at this; cases this
/-- Behind 'there is none' the place is one. -/
theorem find_cond {α : Type} (s : Sh) (k : K) (x y z : α) : (bif decide (find s k < 0) then x else bif decide (0 ≤ find s k) && decide (find s k < (s.n : Int)) then y else z) = bif decide (find s k < 0) then x else y := by
  by_cases h : find s k < 0
  · rw [decide_eq_true h]; rfl
  · obtain ⟨j, h1, h2, _⟩ := idx_some (p := fun i => keq (s.g i).k k) (n := s.n) (by unfold find at h; omega)
    have h1 : find s k = j := h1
    rw [decide_eq_false h, h1, decide_eq_true (show (0 : Int) ≤ (j : Int) by omega), decide_eq_true (show (j : Int) < (s.n : Int) by omega)]
    rfl
end S
/-- A function with nothing captured. -/
def isFn : SV → Nat → Bool
  | .val (.func (.func f) x y) => fun n => Nat.beq f n && (x.isEmpty && y.isEmpty)
  | _ => fun _ => false
def fnv (n : Nat) : SV := .val (.func (.func n) #[] #[])
theorem isFn_eq {s : SV} {n : Nat} (h : isFn s n = true) : s = fnv n := by
  unfold isFn at h
  split at h
  · simp only [Bool.and_eq_true] at h
    obtain ⟨h1, h2, h3⟩ := h
    have := Nat.eq_of_beq_eq_true h1
    subst this
    simp only [Array.isEmpty_iff] at h2 h3
    subst h2 h3
    rfl
  · cases h
/-! The contract of slices.IndexFunc, by the function it is handed -/
def keyAt (mem : Mem) : List SV → Option K
  | [.ptr q off] => match mem q with
    | some k => match k.cells with
      | [.val (.string s), .val (.int .i64 n)] => bif Nat.beq off 0 then some ⟨s, n⟩ else none
      | _ => none
    | none => none
  | _ => none
def shapeAt (mem : Mem) : List SV → Option SA
  | [.ptr q off] => match mem q with
    | some k => bif Nat.beq off 0 then getSA (.arr k.cells) else none
    | none => none
  | _ => none
def idxC (M : Nat → Mo) : List SV → Mem → Option (DT SV)
  | [.xs [a, b], .fn f l], mem => bif Nat.beq f 119 then
      match keyAt mem l with
      | some k => some (.leaf (.val (.int .i64 (S.find ((M a).g b) k))))
      | none => none
    else bif Nat.beq f 105 then
      match shapeAt mem l with
      | some q => some (.leaf (.val (.int .i64 (S.freshAt (q.sh M) ((M a).g b)))))
      | none => none
    else none
  | [.xs [a, b], .val v], mem => bif isFn (.val v) 83 then some (.leaf (.val (.int .i64 (S.confAt ((M a).g b)))))
    else bif isFn (.val v) 84 then some (.leaf (.val (.int .i64 (S.thawAt ((M a).g b)))))
    else none
  | _, _ => none
/-- The same, of the keys' function alone. -/
def idxA (M : Nat → Mo) : List SV → Mem → Option (DT SV)
  | [.xs [a, b], .fn f l], mem => bif Nat.beq f 119 then
      match keyAt mem l with
      | some k => some (.leaf (.val (.int .i64 (S.find ((M a).g b) k))))
      | none => none
    else none
  | _, _ => none
theorem keyAt_eq {mem : Mem} {l : List SV} {k : K} (h : keyAt mem l = some k) : ∃ q blk, l = [.ptr q 0] ∧ mem q = some blk ∧ blk.cells = [.val (.string k.s), .val (.int .i64 k.n)] := by
  unfold keyAt at h
  split at h
  · rename_i q off
    split at h
    · rename_i blk hq
      split at h
      · rename_i s n hc
        cases ho : Nat.beq off 0 with
        | false => rw [ho] at h; cases h
        | true =>
          rw [ho] at h
          simp only [cond_true, Option.some.injEq] at h
          subst h
          have := Nat.eq_of_beq_eq_true ho
          subst this
          exact ⟨q, blk, rfl, hq, hc⟩
      · cases h
    · cases h
  · cases h
theorem shapeAt_eq {mem : Mem} {l : List SV} {k : SA} (h : shapeAt mem l = some k) : ∃ q blk, l = [.ptr q 0] ∧ mem q = some blk ∧ blk.cells = shCells k.cl k.p k.x [k.a, k.b] := by
  unfold shapeAt at h
  split at h
  · rename_i q off
    split at h
    · rename_i blk hq
      cases ho : Nat.beq off 0 with
      | false => rw [ho] at h; cases h
      | true =>
        rw [ho] at h
        simp only [cond_true] at h
        have := Nat.eq_of_beq_eq_true ho
        subst this
        have := getSA_sv h
        unfold SA.sv at this
        exact ⟨q, blk, rfl, hq, SV.arr.inj this⟩
    · cases h
  · cases h
theorem idxA_eq {M : Nat → Mo} {args : List SV} {mem : Mem} {t : DT SV} (h : idxA M args mem = some t) :
    ∃ a b l k, args = [.xs [a, b], .fn 119 l] ∧ keyAt mem l = some k ∧ t = .leaf (.val (.int .i64 (S.find ((M a).g b) k))) := by
  unfold idxA at h
  split at h
  · rename_i a b f l
    cases hf : Nat.beq f 119 with
    | false => rw [hf] at h; cases h
    | true =>
      rw [hf] at h
      simp only [cond_true] at h
      have := Nat.eq_of_beq_eq_true hf
      subst this
      split at h
      · rename_i k hk
        cases h
        exact ⟨a, b, l, k, rfl, hk, rfl⟩
      · cases h
  · cases h
theorem idxC_eq {M : Nat → Mo} {args : List SV} {mem : Mem} {t : DT SV} (h : idxC M args mem = some t) :
    (∃ a b l k, args = [.xs [a, b], .fn 119 l] ∧ keyAt mem l = some k ∧ t = .leaf (.val (.int .i64 (S.find ((M a).g b) k)))) ∨
    (∃ a b l q, args = [.xs [a, b], .fn 105 l] ∧ shapeAt mem l = some q ∧ t = .leaf (.val (.int .i64 (S.freshAt (q.sh M) ((M a).g b))))) ∨
    (∃ a b, args = [.xs [a, b], fnv 83] ∧ t = .leaf (.val (.int .i64 (S.confAt ((M a).g b))))) ∨
    (∃ a b, args = [.xs [a, b], fnv 84] ∧ t = .leaf (.val (.int .i64 (S.thawAt ((M a).g b))))) := by
  unfold idxC at h
  split at h
  · rename_i a b f l
    cases hf : Nat.beq f 119 with
    | true =>
      rw [hf] at h
      simp only [cond_true] at h
      have := Nat.eq_of_beq_eq_true hf
      subst this
      split at h
      · rename_i k hk
        cases h
        exact .inl ⟨a, b, l, k, rfl, hk, rfl⟩
      · cases h
    | false =>
      rw [hf] at h
      simp only [cond_false] at h
      cases hf : Nat.beq f 105 with
      | false => rw [hf] at h; cases h
      | true =>
        rw [hf] at h
        simp only [cond_true] at h
        have := Nat.eq_of_beq_eq_true hf
        subst this
        split at h
        · rename_i k hk
          cases h
          exact .inr (.inl ⟨a, b, l, k, rfl, hk, rfl⟩)
        · cases h
  · rename_i a b v
    cases hf : isFn (.val v) 83 with
    | true =>
      rw [hf] at h
      cases h
      have := isFn_eq hf
      rw [this]
      exact .inr (.inr (.inl ⟨a, b, rfl, rfl⟩))
    | false =>
      rw [hf] at h
      simp only [cond_false] at h
      cases hf : isFn (.val v) 84 with
      | true =>
        rw [hf] at h
        cases h
        have := isFn_eq hf
        rw [this]
        exact .inr (.inr (.inr ⟨a, b, rfl, rfl⟩))
      | false => rw [hf] at h; cases h
  · cases h
/-! Boxes -/
def Simple (s : SV) : Prop := (∃ v, s = .val v) ∨ ∃ a b, s = .xs [a, b]
theorem Simple.ok [XEnv] {s : SV} (h : Simple s) (mem : Mem) : s.ok mem := by
  rcases h with ⟨v, rfl⟩ | ⟨a, b, rfl⟩
  · exact ok_val _ _
  · exact ok_xs
theorem Simple.den {M : Nat → Mo} {bx bx' : Nat → XR} {s : SV} (h : Simple s) (m m' : Nat → Nat) : @SV.den (rowsB M bx') m' s = @SV.den (rowsB M bx) m s := by
  rcases h with ⟨v, rfl⟩ | ⟨a, b, rfl⟩
  · rw [@den_val (rowsB M bx'), @den_val (rowsB M bx)]
  · rw [@den_xs (rowsB M bx'), @den_xs (rowsB M bx)]
    rfl
theorem simple_sh (cl : Int) (p : V) (x : Bool) (a b : Nat) : ∀ s ∈ shCells cl p x [a, b], Simple s := by
  intro s hs
  simp only [shCells, List.mem_cons, List.not_mem_nil, or_false] at hs
  rcases hs with rfl | rfl | rfl | rfl | rfl | rfl | rfl | rfl <;> first | exact .inl ⟨_, rfl⟩ | exact .inr ⟨_, _, rfl⟩
theorem simple_key (k : K) : ∀ s ∈ [SV.val (.string k.s), SV.val (.int .i64 k.n)], Simple s := by
  intro s hs
  simp only [List.mem_cons, List.not_mem_nil, or_false] at hs
  rcases hs with rfl | rfl <;> exact .inl ⟨_, rfl⟩
theorem simple_pr (q : Pr) : ∀ s ∈ q.cells, Simple s := by
  intro s hs
  simp only [Pr.cells, List.mem_cons, List.not_mem_nil, or_false] at hs
  rcases hs with rfl | rfl | rfl | rfl | rfl | rfl | rfl | rfl | rfl | rfl | rfl | rfl | rfl | rfl | rfl | rfl | rfl | rfl | rfl | rfl <;> exact .inl ⟨_, rfl⟩
theorem xrow_env {M : Nat → Mo} {bx bx' : Nat → XR} {w : World} {x : XR} (hs : ∀ j, ∀ s ∈ x.g j, Simple s) (h : @XRow (rowsB M bx) w x) : @XRow (rowsB M bx') w x := by
  intro j hj
  obtain ⟨h1, h2, a, h3, h4, h5⟩ := h j hj
  refine ⟨h1, fun s hm mem => @Simple.ok (rowsB M bx') _ (hs j s hm) mem, a, h3, h4, fun k s hk m => ?_⟩
  rw [h5 k s hk m, (hs j s (List.mem_of_getElem? hk)).den]
theorem xok_box {M : Nat → Mo} {bx bx' : Nat → XR} {w : World} (h : @XOk (rowsB M bx) w) (hb : ∀ x, @XRow (rowsB M bx') w (bx' x)) : @XOk (rowsB M bx') w := by
  intro r
  match r with
  | [k] => exact xrow_env (fun j => simple_sh _ _ _ _ _) (h [k])
  | [k, j] => exact xrow_env (fun i => simple_pr _) (h [k, j])
  | [] => exact hb 0
  | x :: _ :: _ :: _ => exact hb x
theorem box_row {M : Nat → Mo} {bx bx' : Nat → XR} {w0 w : World} {m : Nat → Nat} {mem : Mem} {q : Nat} {blk : Blk} (hm : @MR (rowsB M bx) w0 m mem w) (hq : mem q = some blk) (hs : ∀ s ∈ blk.cells, Simple s) :
    @XRow (rowsB M bx') w ⟨some ⟨m q, 0, none⟩, blk.cells.length, 1, 1, fun _ => blk.cells⟩ := by
  obtain ⟨h1, h2, h3⟩ := @MR.blk (rowsB M bx) _ _ _ _ hm q blk hq
  intro j hj
  have hj : j < 1 := hj
  obtain rfl : j = 0 := by omega
  refine ⟨rfl, fun s hm mem => @Simple.ok (rowsB M bx') _ (hs s hm) mem, _, rfl, (Array.getElem?_eq_some_iff.1 h2).1, fun k s hk m' => ?_⟩
  have hk : blk.cells[k]? = some s := hk
  rw [add_none, cell_of_row w (m q) _ _ blk.ty (0, 0) h2, (hs s (List.mem_of_getElem? hk)).den (bx := bx) m m']
  simp [hk]
namespace S
/-- invariant.lost. -/
def lost (b a : Sh) : Bool := (seek (fun i => bif (b.g i).d.c != 1 || find b (b.g i).k != (i : Int) then none else
  bif decide (find a (b.g i).k < 0) then some true else
  bif okK (b.g i).d (a.g (find a (b.g i).k).toNat).d then (bif keeps (b.g i).d (a.g (find a (b.g i).k).toNat).d then none else some true) else some true) b.n 0).getD false
def sameP (a b : Sh) : Bool := bif (a.n : Int) != (b.n : Int) then false else (seek (fun i => bif keq (a.g i).k (b.g i).k && alikeC (a.g i).d (b.g i).d then none else some false) a.n 0).getD true
def sameSh (a b : Sh) : Bool := a.cl == b.cl && (eqC a.p b.p && (a.x == b.x && sameP a b))
def sameC (a b : Mo) : Bool := bif (a.n : Int) != (b.n : Int) then false else (seek (fun i => bif sameSh (a.g i) (b.g i) then none else some false) a.n 0).getD true
end S
def onFS (n : Nat) (f : Nat → Nat → Nat → Nat → DT SV) : List SV → Option (DT SV)
  | [.xs [a, b], .xs [c, d], s] => bif isFn s n then some (f a b c d) else none
  | _ => none
theorem onFS_eq {n : Nat} {f : Nat → Nat → Nat → Nat → DT SV} {l : List SV} {t : DT SV} (h : onFS n f l = some t) : ∃ a b c d, l = [.xs [a, b], .xs [c, d], fnv n] ∧ t = f a b c d := by
  unfold onFS at h
  split at h
  · rename_i a b c d s
    cases hf : isFn s n with
    | true =>
      rw [hf] at h
      simp only [cond_true, Option.some.injEq] at h
      exact ⟨a, b, c, d, by rw [isFn_eq hf], h.symm⟩
    | false => rw [hf] at h; cases h
  · cases h
def onFM (n : Nat) (f : Nat → Nat → DT SV) : List SV → Option (DT SV)
  | [.xs [a], .xs [b], s] => bif isFn s n then some (f a b) else none
  | _ => none
theorem onFM_eq {n : Nat} {f : Nat → Nat → DT SV} {l : List SV} {t : DT SV} (h : onFM n f l = some t) : ∃ a b, l = [.xs [a], .xs [b], fnv n] ∧ t = f a b := by
  unfold onFM at h
  split at h
  · rename_i a b s
    cases hf : isFn s n with
    | true =>
      rw [hf] at h
      simp only [cond_true, Option.some.injEq] at h
      exact ⟨a, b, by rw [isFn_eq hf], h.symm⟩
    | false => rw [hf] at h; cases h
  · cases h
abbrev LB (b : Bool) : DT SV := .leaf (.val (.bool b))
abbrev LI (i : Int) : DT SV := .leaf (.val (.int .i64 i))
abbrev LII (p : Int × Int) : DT SV := .leaf (.val (.tuple #[.int .i64 p.1, .int .i64 p.2]))
noncomputable def bodyOf (fn : Func) : List Code := flat (fn.body.getD .skip)
/-- A contract that asks nothing of memory. -/
abbrev noMem (g : List SV → Option (DT SV)) : List SV → Mem → Option (DT SV) := fun args _ => g args
/-! Words for rounds -/
theorem dlt {i n : Nat} (h : i < n) : decide ((i : Int) < (n : Int)) = true := decide_eq_true (by omega)
theorem dge (i : Nat) : decide (0 ≤ (i : Int)) = true := decide_eq_true (by omega)
theorem dnl (n : Nat) : decide ((n : Int) < (n : Int)) = false := decide_eq_false (by omega)
theorem wr {i n : Nat} (h : i < n) (hn : (n : Int) ≤ 9223372036854775807) : IntKind.i64.wrap ((i : Int) + 1) = ((i + 1 : Nat) : Int) := by rw [IntKind.wrap_i64]; omega
theorem cnd_and {α : Type} (a b : Bool) (x y : α) : (bif a && b then x else y) = bif a then (bif b then x else y) else y := by cases a <;> rfl
theorem cnd_or {α : Type} (a b : Bool) (x y : α) : (bif a || b then x else y) = bif a then x else (bif b then x else y) := by cases a <;> rfl
theorem cnd_not {α : Type} (a : Bool) (x y : α) : (bif !a then x else y) = bif a then y else x := by cases a <;> rfl
theorem some_cond {α : Type} (c : Bool) (x y : α) : some (bif c then x else y) = bif c then some x else some y := by cases c <;> rfl
theorem map_cond {α β : Type} (f : α → β) (c : Bool) (x y : Option α) : Option.map f (bif c then x else y) = bif c then Option.map f x else Option.map f y := by cases c <;> rfl
theorem toR_cond (d : Cut) (c : Bool) (x y : Option SV) : toR d (bif c then x else y) = bif c then toR d x else toR d y := by cases c <;> rfl
theorem toR_some (d : Cut) (x : SV) : toR d (some x) = .ret x := rfl
theorem toR_none (d : Cut) : toR d none = .cut .normal d := rfl
/-! What stands -/
def Inv (M : Nat → Mo) (bx : Nat → XR) (w : World) : Prop := Tabs w ∧ @XOk (rowsB M bx) w
theorem inv_stable (M : Nat → Mo) (bx : Nat → XR) : Stable (Inv M bx) := fun w w' h hb => ⟨tabs_stable _ _ h.1 hb, @XOk.below (rowsB M bx) _ _ h.2 hb⟩
abbrev Ent (M : Nat → Mo) (bx : Nat → XR) (p : Nat × (List SV → Mem → Option (DT SV))) : Prop := @EntryS (rowsB M bx) Tryd.prog (Inv M bx) p
theorem ctxB (M : Nat → Mo) (bx : Nat → XR) {LA : Tab} (hA : ∀ p ∈ LA, E p) {LS : TabS} (h : ∀ p ∈ LS, Ent M bx p) : @Ctx (rowsB M bx) Tryd.prog ext (tab2 LA LS) (Inv M bx) :=
  letI := rowsB M bx
  ⟨mixed, ext_sound, inv_stable M bx, fun _ h => h.2, tab2_sound (fun p hp => (hA p hp).mono (J := Inv M bx) fun w h => h.1) h⟩
theorem retPre [XEnv] {P : Program} {X : ExtFn} {G : GFn} {I : World → Prop} {N : Nat} {fn : Func} {v : SV} {fs : List Fr} {l : List Code} {st : St} {k : Nat} {ts bs : List Nat} {next : Nat} (C : Ctx P X G I) (hl : hasLoop l = true)
    (h : evK P X G k N (seqL (preOf l)) st (grab P fn ts bs next) = some (.ret v)) : Runs P I N fn v fs l st := by
  rw [split_loop l hl]
  exact Runs.app (Runs.ret C h)
theorem entsS_nil {M : Nat → Mo} {bx : Nat → XR} : ∀ p ∈ ([] : TabS), Ent M bx p := fun p hp => (by cases hp)
theorem entsS_cons {M : Nat → Mo} {bx : Nat → XR} {q} {l : TabS} (h : Ent M bx q) (hl : ∀ p ∈ l, Ent M bx p) : ∀ p ∈ q :: l, Ent M bx p := fun p hp => by
  rcases List.mem_cons.1 hp with rfl | hp
  · exact h
  · exact hl p hp
theorem ok_sa [XEnv] (q : SA) (mem : Mem) : q.sv.ok mem := by
  show (SV.arr (shCells _ _ _ _)).ok mem
  rw [ok_arr]
  intro x hx
  simp only [shCells, List.mem_cons, List.not_mem_nil, or_false] at hx
  rcases hx with rfl | rfl | rfl | rfl | rfl | rfl | rfl | rfl <;> first | exact ok_val _ _ | exact ok_xs
end Go.Proofs.YtaojjpdlfnphiaaDoor.PDescKinds
end
section
/- Moments: functions with one loop, piece by piece. Written by a program of this session. -/
set_option linter.unusedSimpArgs false
set_option linter.unusedVariables false
set_option linter.unusedSectionVars false
namespace Go.Proofs.YtaojjpdlfnphiaaDoor.PDescKinds
open Go.RowKit Go.Ev
set_option maxRecDepth 100000 in
theorem idx119_pre (M : Nat → Mo) (bx : Nat → XR) (a b : Nat) (k : K) : letI := rowsB M (fun _ => ⟨(bx 0).A, 2, 1, 1, fun _ => [.val (.string k.s), .val (.int .i64 k.n)]⟩)
    evK Tryd.prog ext (tab2 AL []) 80 19 (seqL (preOf (bodyOf Tryd.f110))) (⟨argS [.xs [a, b], .fn 119 [.xp [0, 0, 0] 0 0]], fun _ => none, 0⟩) (grab Tryd.prog Tryd.f110 [0, 1, 7, 8] [] 0) =
    some (Res.cut Ex.normal (Cut.mk [(0, SV.xs [a, b]), (1, SV.fn 119 [SV.xp [0, 0, 0] 0 0]), (7, SV.val (Value.int IntKind.i64 (↑((M a).g b).n : Int))), (8, SV.val (Value.int IntKind.i64 0))] [])) := by kernel_rfl
set_option maxRecDepth 100000 in
theorem idx119_round (M : Nat → Mo) (bx : Nat → XR) (a b : Nat) (k : K) (i : Nat) : letI := rowsB M (fun _ => ⟨(bx 0).A, 2, 1, 1, fun _ => [.val (.string k.s), .val (.int .i64 k.n)]⟩)
    evK Tryd.prog ext (tab2 AL []) 80 19 (seqL (flat (roundOf (bodyOf Tryd.f110)))) ((⟨[(0, .xs [a, b]), (1, .fn 119 [.xp [0, 0, 0] 0 0]), (7, .val (.int .i64 ((M a).g b).n)), (8, .val (.int .i64 (i : Int)))], []⟩ : Cut).st 0) (grab Tryd.prog Tryd.f110 [0, 1, 7, 8] [] 0) =
    (bif decide ((↑i : Int) < (↑((M a).g b).n : Int)) then 
     (bif decide (0 ≤ (↑i : Int)) && decide ((↑i : Int) < (↑((M a).g b).n : Int)) then 
      (bif (((M a).g b).g i).k.s == k.s && ((((M a).g b).g i).k.n == k.n && true) then some (Res.ret (SV.val (Value.int IntKind.i64 (↑i : Int)))) else some (Res.cut Ex.normal (Cut.mk [(0, SV.xs [a, b]), (1, SV.fn 119 [SV.xp [0, 0, 0] 0 0]), (7, SV.val (Value.int IntKind.i64 (↑((M a).g b).n : Int))), (8, SV.val (Value.int IntKind.i64 (IntKind.i64.wrap ((↑i : Int) + 1))))] []))) else none) else some (Res.cut (Ex.exit 0) (Cut.mk [(0, SV.xs [a, b]), (1, SV.fn 119 [SV.xp [0, 0, 0] 0 0]), (7, SV.val (Value.int IntKind.i64 (↑((M a).g b).n : Int))), (8, SV.val (Value.int IntKind.i64 (↑i : Int)))] []))) := by kernel_rfl
set_option maxRecDepth 100000 in
theorem idx119_post (M : Nat → Mo) (bx : Nat → XR) (a b : Nat) (k : K) (i : Nat) : letI := rowsB M (fun _ => ⟨(bx 0).A, 2, 1, 1, fun _ => [.val (.string k.s), .val (.int .i64 k.n)]⟩)
    evK Tryd.prog ext (tab2 AL []) 80 19 (seqL (postOf (bodyOf Tryd.f110))) ((⟨[(0, .xs [a, b]), (1, .fn 119 [.xp [0, 0, 0] 0 0]), (7, .val (.int .i64 ((M a).g b).n)), (8, .val (.int .i64 (i : Int)))], []⟩ : Cut).st 0) (grab Tryd.prog Tryd.f110 [0, 1, 7, 8] [] 0) =
    some (Res.ret (SV.val (Value.int IntKind.i64 (-1)))) := by kernel_rfl
set_option maxRecDepth 100000 in
theorem run_idx119 (M : Nat → Mo) (bx : Nat → XR) (hM : Fit M) (a b : Nat) (k : K) : letI := rowsB M (fun _ => ⟨(bx 0).A, 2, 1, 1, fun _ => [.val (.string k.s), .val (.int .i64 k.n)]⟩)
    Runs Tryd.prog (Inv M (fun _ => ⟨(bx 0).A, 2, 1, 1, fun _ => [.val (.string k.s), .val (.int .i64 k.n)]⟩)) 19 Tryd.f110 ((fun x : Int => SV.val (.int .i64 x)) ((seek (fun i => bif S.keq (((M a).g b).g i).k k then some (i : Int) else none) (((M a).g b).n) 0).getD (-1))) [] (bodyOf Tryd.f110) (⟨argS [.xs [a, b], .fn 119 [.xp [0, 0, 0] 0 0]], fun _ => none, 0⟩) := by
  letI := rowsB M (fun _ => ⟨(bx 0).A, 2, 1, 1, fun _ => [.val (.string k.s), .val (.int .i64 k.n)]⟩)
  have C := ctxB M (fun _ => ⟨(bx 0).A, 2, 1, 1, fun _ => [.val (.string k.s), .val (.int .i64 k.n)]⟩) entsAL entsS_nil
  refine Runs.seekFn C (n := ((M a).g b).n) (p := fun i => bif S.keq (((M a).g b).g i).k k then some (i : Int) else none) (f := (fun x : Int => SV.val (.int .i64 x))) (z := (-1)) (hd := fun i => (⟨[(0, .xs [a, b]), (1, .fn 119 [.xp [0, 0, 0] 0 0]), (7, .val (.int .i64 ((M a).g b).n)), (8, .val (.int .i64 (i : Int)))], []⟩ : Cut)) (c' := (fun i : Nat => (⟨[(0, .xs [a, b]), (1, .fn 119 [.xp [0, 0, 0] 0 0]), (7, .val (.int .i64 ((M a).g b).n)), (8, .val (.int .i64 (i : Int)))], []⟩ : Cut)) (((M a).g b).n)) (by kernel_rfl) (idx119_pre M bx a b k) (fun i hi => ?_) ?_ (fun _ => Runs.ret C (idx119_post M bx a b k (((M a).g b).n)))
  · refine (idx119_round M bx a b k i).trans ?_
    simp only [dlt hi, dge, wr hi ((hM a).2 b), cond_true, cond_false, Bool.and_self, Bool.true_and, map_cond, toR_cond, some_cond, Option.map_some, Option.map_none, toR_some, toR_none, cnd_and, cnd_or, cnd_not, S.keq, S.eqC, S.alikeC]
    first | done | rfl
  · refine (idx119_round M bx a b k (((M a).g b).n)).trans ?_
    simp only [dnl, cond_false]
    rfl
theorem ent_idxA (M : Nat → Mo) (bx : Nat → XR) (hM : Fit M) : Ent M bx (110, idxA M) := by
  letI := rowsB M bx
  intro args mem t v h1 h2 hok
  obtain ⟨a, b, l, k, rfl, hk, rfl⟩ := idxA_eq h1
  obtain ⟨q, blk, rfl, hq, hc⟩ := keyAt_eq hk
  cases h2
  refine ⟨ok_val _ _, fun w0 m w hI hm => ?_⟩
  · have hw : Inv M bx w := inv_stable M bx _ _ hI hm.below
    have hw' : Inv M (fun _ => ⟨some ⟨m q, 0, none⟩, 2, 1, 1, fun _ => [.val (.string k.s), .val (.int .i64 k.n)]⟩) w := ⟨hw.1, xok_box hw.2 (fun _ => by
      have := box_row (bx' := (fun _ => ⟨some ⟨m q, 0, none⟩, 2, 1, 1, fun _ => [.val (.string k.s), .val (.int .i64 k.n)]⟩)) hm hq (by rw [hc]; exact simple_key k)
      rw [hc] at this
      exact this)⟩
    have := @Runs.calls (rowsB M (fun _ => ⟨some ⟨m q, 0, none⟩, 2, 1, 1, fun _ => [.val (.string k.s), .val (.int .i64 k.n)]⟩)) Tryd.prog (Inv M (fun _ => ⟨some ⟨m q, 0, none⟩, 2, 1, 1, fun _ => [.val (.string k.s), .val (.int .i64 k.n)]⟩)) 19 Tryd.f110 _ 110 (Tryd.f110.body.getD .skip) [.xs [a, b], .fn 119 [.xp [0, 0, 0] 0 0]] Tryd.func110 (by kernel_rfl) (by kernel_rfl) (by
      letI := rowsB M (fun _ => ⟨some ⟨m q, 0, none⟩, 2, 1, 1, fun _ => [.val (.string k.s), .val (.int .i64 k.n)]⟩)
      intro x hx
      simp only [List.mem_cons, List.not_mem_nil, or_false] at hx
      rcases hx with rfl | rfl
      · exact ok_xs
      · exact ok_fn.2 (fun c hc => by
          simp only [List.mem_cons, List.not_mem_nil, or_false] at hc
          subst hc
          exact ok_xp.2 (show 0 < 1 by decide))) (run_idx119 M (fun _ => ⟨some ⟨m q, 0, none⟩, 2, 1, 1, fun _ => [.val (.string k.s), .val (.int .i64 k.n)]⟩) hM a b k) w hw' m
    have hargs : (List.map (@SV.den (rowsB M (fun _ => ⟨some ⟨m q, 0, none⟩, 2, 1, 1, fun _ => [.val (.string k.s), .val (.int .i64 k.n)]⟩)) m) [SV.xs [a, b], SV.fn 119 [SV.xp [0, 0, 0] 0 0]]) = (List.map (@SV.den (rowsB M bx) m) [SV.xs [a, b], SV.fn 119 [SV.ptr q 0]]) := by
      simp only [List.map_cons, List.map_nil, @den_xs (rowsB M (fun _ => ⟨some ⟨m q, 0, none⟩, 2, 1, 1, fun _ => [.val (.string k.s), .val (.int .i64 k.n)]⟩)), @den_xs (rowsB M bx), @den_fn (rowsB M (fun _ => ⟨some ⟨m q, 0, none⟩, 2, 1, 1, fun _ => [.val (.string k.s), .val (.int .i64 k.n)]⟩)), @den_fn (rowsB M bx), @den_xp (rowsB M (fun _ => ⟨some ⟨m q, 0, none⟩, 2, 1, 1, fun _ => [.val (.string k.s), .val (.int .i64 k.n)]⟩)), @den_ptr (rowsB M bx)]
      rfl
    rw [hargs] at this
    refine Calls.mono this fun e w' ⟨⟨m', he⟩, hb⟩ => ⟨?_, hb⟩
    rw [he, @den_val (rowsB M (fun _ => ⟨some ⟨m q, 0, none⟩, 2, 1, 1, fun _ => [.val (.string k.s), .val (.int .i64 k.n)]⟩)), @den_val (rowsB M bx)]
    rfl
set_option maxRecDepth 100000 in
theorem idx105_pre (M : Nat → Mo) (bx : Nat → XR) (a b : Nat) (q : SA) : letI := rowsB M (fun _ => ⟨(bx 0).A, 8, 1, 1, fun _ => shCells q.cl q.p q.x [q.a, q.b]⟩)
    evK Tryd.prog ext (tab2 AL [(110, idxA M)]) 80 19 (seqL (preOf (bodyOf Tryd.f110))) (⟨argS [.xs [a, b], .fn 105 [.xp [0, 0, 0] 0 0]], fun _ => none, 0⟩) (grab Tryd.prog Tryd.f110 [0, 1, 7, 8] [] 0) =
    some (Res.cut Ex.normal (Cut.mk [(0, SV.xs [a, b]), (1, SV.fn 105 [SV.xp [0, 0, 0] 0 0]), (7, SV.val (Value.int IntKind.i64 (↑((M a).g b).n : Int))), (8, SV.val (Value.int IntKind.i64 0))] [])) := by kernel_rfl
set_option maxRecDepth 100000 in
theorem idx105_round (M : Nat → Mo) (bx : Nat → XR) (a b : Nat) (q : SA) (i : Nat) : letI := rowsB M (fun _ => ⟨(bx 0).A, 8, 1, 1, fun _ => shCells q.cl q.p q.x [q.a, q.b]⟩)
    evK Tryd.prog ext (tab2 AL [(110, idxA M)]) 80 19 (seqL (flat (roundOf (bodyOf Tryd.f110)))) ((⟨[(0, .xs [a, b]), (1, .fn 105 [.xp [0, 0, 0] 0 0]), (7, .val (.int .i64 ((M a).g b).n)), (8, .val (.int .i64 (i : Int)))], []⟩ : Cut).st 0) (grab Tryd.prog Tryd.f110 [0, 1, 7, 8] [] 0) =
    (bif decide ((↑i : Int) < (↑((M a).g b).n : Int)) then 
     (bif decide (0 ≤ (↑i : Int)) && decide ((↑i : Int) < (↑((M a).g b).n : Int)) then 
      (bif decide (S.find ((M q.a).g q.b) (K.mk (((M a).g b).g i).k.s (((M a).g b).g i).k.n) < 0) then some (Res.ret (SV.val (Value.int IntKind.i64 (↑i : Int)))) else some (Res.cut Ex.normal (Cut.mk [(0, SV.xs [a, b]), (1, SV.fn 105 [SV.xp [0, 0, 0] 0 0]), (7, SV.val (Value.int IntKind.i64 (↑((M a).g b).n : Int))), (8, SV.val (Value.int IntKind.i64 (IntKind.i64.wrap ((↑i : Int) + 1))))] []))) else none) else some (Res.cut (Ex.exit 0) (Cut.mk [(0, SV.xs [a, b]), (1, SV.fn 105 [SV.xp [0, 0, 0] 0 0]), (7, SV.val (Value.int IntKind.i64 (↑((M a).g b).n : Int))), (8, SV.val (Value.int IntKind.i64 (↑i : Int)))] []))) := by kernel_rfl
set_option maxRecDepth 100000 in
theorem idx105_post (M : Nat → Mo) (bx : Nat → XR) (a b : Nat) (q : SA) (i : Nat) : letI := rowsB M (fun _ => ⟨(bx 0).A, 8, 1, 1, fun _ => shCells q.cl q.p q.x [q.a, q.b]⟩)
    evK Tryd.prog ext (tab2 AL [(110, idxA M)]) 80 19 (seqL (postOf (bodyOf Tryd.f110))) ((⟨[(0, .xs [a, b]), (1, .fn 105 [.xp [0, 0, 0] 0 0]), (7, .val (.int .i64 ((M a).g b).n)), (8, .val (.int .i64 (i : Int)))], []⟩ : Cut).st 0) (grab Tryd.prog Tryd.f110 [0, 1, 7, 8] [] 0) =
    some (Res.ret (SV.val (Value.int IntKind.i64 (-1)))) := by kernel_rfl
set_option maxRecDepth 100000 in
theorem run_idx105 (M : Nat → Mo) (bx : Nat → XR) (hM : Fit M) (a b : Nat) (q : SA) : letI := rowsB M (fun _ => ⟨(bx 0).A, 8, 1, 1, fun _ => shCells q.cl q.p q.x [q.a, q.b]⟩)
    Runs Tryd.prog (Inv M (fun _ => ⟨(bx 0).A, 8, 1, 1, fun _ => shCells q.cl q.p q.x [q.a, q.b]⟩)) 19 Tryd.f110 ((fun x : Int => SV.val (.int .i64 x)) ((seek (fun i => bif decide (S.find (q.sh M) (((M a).g b).g i).k < 0) then some (i : Int) else none) (((M a).g b).n) 0).getD (-1))) [] (bodyOf Tryd.f110) (⟨argS [.xs [a, b], .fn 105 [.xp [0, 0, 0] 0 0]], fun _ => none, 0⟩) := by
  letI := rowsB M (fun _ => ⟨(bx 0).A, 8, 1, 1, fun _ => shCells q.cl q.p q.x [q.a, q.b]⟩)
  have C := ctxB M (fun _ => ⟨(bx 0).A, 8, 1, 1, fun _ => shCells q.cl q.p q.x [q.a, q.b]⟩) entsAL (entsS_cons (ent_idxA M (fun _ => ⟨(bx 0).A, 8, 1, 1, fun _ => shCells q.cl q.p q.x [q.a, q.b]⟩) hM) entsS_nil)
  refine Runs.seekFn C (n := ((M a).g b).n) (p := fun i => bif decide (S.find (q.sh M) (((M a).g b).g i).k < 0) then some (i : Int) else none) (f := (fun x : Int => SV.val (.int .i64 x))) (z := (-1)) (hd := fun i => (⟨[(0, .xs [a, b]), (1, .fn 105 [.xp [0, 0, 0] 0 0]), (7, .val (.int .i64 ((M a).g b).n)), (8, .val (.int .i64 (i : Int)))], []⟩ : Cut)) (c' := (fun i : Nat => (⟨[(0, .xs [a, b]), (1, .fn 105 [.xp [0, 0, 0] 0 0]), (7, .val (.int .i64 ((M a).g b).n)), (8, .val (.int .i64 (i : Int)))], []⟩ : Cut)) (((M a).g b).n)) (by kernel_rfl) (idx105_pre M bx a b q) (fun i hi => ?_) ?_ (fun _ => Runs.ret C (idx105_post M bx a b q (((M a).g b).n)))
  · refine (idx105_round M bx a b q i).trans ?_
    simp only [dlt hi, dge, wr hi ((hM a).2 b), cond_true, cond_false, Bool.and_self, Bool.true_and, map_cond, toR_cond, some_cond, Option.map_some, Option.map_none, toR_some, toR_none, cnd_and, cnd_or, cnd_not, S.keq, S.eqC, S.alikeC]
    first | done | rfl
  · refine (idx105_round M bx a b q (((M a).g b).n)).trans ?_
    simp only [dnl, cond_false]
    rfl
set_option maxRecDepth 100000 in
theorem idx83_pre (M : Nat → Mo) (bx : Nat → XR) (a b : Nat) : letI := rowsB M bx
    evK Tryd.prog ext (tab2 AL []) 80 19 (seqL (preOf (bodyOf Tryd.f110))) (⟨argS [.xs [a, b], fnv 83], fun _ => none, 0⟩) (grab Tryd.prog Tryd.f110 [0, 1, 7, 8] [] 0) =
    some (Res.cut Ex.normal (Cut.mk [(0, SV.xs [a, b]), (1, SV.val (Value.func (Fn.func 83) #[] #[])), (7, SV.val (Value.int IntKind.i64 (↑((M a).g b).n : Int))), (8, SV.val (Value.int IntKind.i64 0))] [])) := by kernel_rfl
set_option maxRecDepth 100000 in
theorem idx83_round (M : Nat → Mo) (bx : Nat → XR) (a b : Nat) (i : Nat) : letI := rowsB M bx
    evK Tryd.prog ext (tab2 AL []) 80 19 (seqL (flat (roundOf (bodyOf Tryd.f110)))) ((⟨[(0, .xs [a, b]), (1, fnv 83), (7, .val (.int .i64 ((M a).g b).n)), (8, .val (.int .i64 (i : Int)))], []⟩ : Cut).st 0) (grab Tryd.prog Tryd.f110 [0, 1, 7, 8] [] 0) =
    (bif decide ((↑i : Int) < (↑((M a).g b).n : Int)) then 
     (bif decide (0 ≤ (↑i : Int)) && decide ((↑i : Int) < (↑((M a).g b).n : Int)) then 
      (bif (((M a).g b).g i).d.c != 1 then some (Res.ret (SV.val (Value.int IntKind.i64 (↑i : Int)))) else some (Res.cut Ex.normal (Cut.mk [(0, SV.xs [a, b]), (1, SV.val (Value.func (Fn.func 83) #[] #[])), (7, SV.val (Value.int IntKind.i64 (↑((M a).g b).n : Int))), (8, SV.val (Value.int IntKind.i64 (IntKind.i64.wrap ((↑i : Int) + 1))))] []))) else none) else some (Res.cut (Ex.exit 0) (Cut.mk [(0, SV.xs [a, b]), (1, SV.val (Value.func (Fn.func 83) #[] #[])), (7, SV.val (Value.int IntKind.i64 (↑((M a).g b).n : Int))), (8, SV.val (Value.int IntKind.i64 (↑i : Int)))] []))) := by kernel_rfl
set_option maxRecDepth 100000 in
theorem idx83_post (M : Nat → Mo) (bx : Nat → XR) (a b : Nat) (i : Nat) : letI := rowsB M bx
    evK Tryd.prog ext (tab2 AL []) 80 19 (seqL (postOf (bodyOf Tryd.f110))) ((⟨[(0, .xs [a, b]), (1, fnv 83), (7, .val (.int .i64 ((M a).g b).n)), (8, .val (.int .i64 (i : Int)))], []⟩ : Cut).st 0) (grab Tryd.prog Tryd.f110 [0, 1, 7, 8] [] 0) =
    some (Res.ret (SV.val (Value.int IntKind.i64 (-1)))) := by kernel_rfl
set_option maxRecDepth 100000 in
theorem run_idx83 (M : Nat → Mo) (bx : Nat → XR) (hM : Fit M) (a b : Nat) : letI := rowsB M bx
    Runs Tryd.prog (Inv M bx) 19 Tryd.f110 ((fun x : Int => SV.val (.int .i64 x)) ((seek (fun i => bif (((M a).g b).g i).d.c != 1 then some (i : Int) else none) (((M a).g b).n) 0).getD (-1))) [] (bodyOf Tryd.f110) (⟨argS [.xs [a, b], fnv 83], fun _ => none, 0⟩) := by
  letI := rowsB M bx
  have C := ctxB M bx entsAL entsS_nil
  refine Runs.seekFn C (n := ((M a).g b).n) (p := fun i => bif (((M a).g b).g i).d.c != 1 then some (i : Int) else none) (f := (fun x : Int => SV.val (.int .i64 x))) (z := (-1)) (hd := fun i => (⟨[(0, .xs [a, b]), (1, fnv 83), (7, .val (.int .i64 ((M a).g b).n)), (8, .val (.int .i64 (i : Int)))], []⟩ : Cut)) (c' := (fun i : Nat => (⟨[(0, .xs [a, b]), (1, fnv 83), (7, .val (.int .i64 ((M a).g b).n)), (8, .val (.int .i64 (i : Int)))], []⟩ : Cut)) (((M a).g b).n)) (by kernel_rfl) (idx83_pre M bx a b) (fun i hi => ?_) ?_ (fun _ => Runs.ret C (idx83_post M bx a b (((M a).g b).n)))
  · refine (idx83_round M bx a b i).trans ?_
    simp only [dlt hi, dge, wr hi ((hM a).2 b), cond_true, cond_false, Bool.and_self, Bool.true_and, map_cond, toR_cond, some_cond, Option.map_some, Option.map_none, toR_some, toR_none, cnd_and, cnd_or, cnd_not, S.keq, S.eqC, S.alikeC]
    first | done | rfl
  · refine (idx83_round M bx a b (((M a).g b).n)).trans ?_
    simp only [dnl, cond_false]
    rfl
set_option maxRecDepth 100000 in
theorem idx84_pre (M : Nat → Mo) (bx : Nat → XR) (a b : Nat) : letI := rowsB M bx
    evK Tryd.prog ext (tab2 AL []) 80 19 (seqL (preOf (bodyOf Tryd.f110))) (⟨argS [.xs [a, b], fnv 84], fun _ => none, 0⟩) (grab Tryd.prog Tryd.f110 [0, 1, 7, 8] [] 0) =
    some (Res.cut Ex.normal (Cut.mk [(0, SV.xs [a, b]), (1, SV.val (Value.func (Fn.func 84) #[] #[])), (7, SV.val (Value.int IntKind.i64 (↑((M a).g b).n : Int))), (8, SV.val (Value.int IntKind.i64 0))] [])) := by kernel_rfl
set_option maxRecDepth 100000 in
theorem idx84_round (M : Nat → Mo) (bx : Nat → XR) (a b : Nat) (i : Nat) : letI := rowsB M bx
    evK Tryd.prog ext (tab2 AL []) 80 19 (seqL (flat (roundOf (bodyOf Tryd.f110)))) ((⟨[(0, .xs [a, b]), (1, fnv 84), (7, .val (.int .i64 ((M a).g b).n)), (8, .val (.int .i64 (i : Int)))], []⟩ : Cut).st 0) (grab Tryd.prog Tryd.f110 [0, 1, 7, 8] [] 0) =
    (bif decide ((↑i : Int) < (↑((M a).g b).n : Int)) then 
     (bif decide (0 ≤ (↑i : Int)) && decide ((↑i : Int) < (↑((M a).g b).n : Int)) then 
      (bif (((M a).g b).g i).d.g.k == 0 then 
       (bif (((M a).g b).g i).d.t.k == 0 then 
        (bif (((M a).g b).g i).d.w != 1 then some (Res.ret (SV.val (Value.int IntKind.i64 (↑i : Int)))) else some (Res.cut Ex.normal (Cut.mk [(0, SV.xs [a, b]), (1, SV.val (Value.func (Fn.func 84) #[] #[])), (7, SV.val (Value.int IntKind.i64 (↑((M a).g b).n : Int))), (8, SV.val (Value.int IntKind.i64 (IntKind.i64.wrap ((↑i : Int) + 1))))] []))) else some (Res.cut Ex.normal (Cut.mk [(0, SV.xs [a, b]), (1, SV.val (Value.func (Fn.func 84) #[] #[])), (7, SV.val (Value.int IntKind.i64 (↑((M a).g b).n : Int))), (8, SV.val (Value.int IntKind.i64 (IntKind.i64.wrap ((↑i : Int) + 1))))] []))) else some (Res.cut Ex.normal (Cut.mk [(0, SV.xs [a, b]), (1, SV.val (Value.func (Fn.func 84) #[] #[])), (7, SV.val (Value.int IntKind.i64 (↑((M a).g b).n : Int))), (8, SV.val (Value.int IntKind.i64 (IntKind.i64.wrap ((↑i : Int) + 1))))] []))) else none) else some (Res.cut (Ex.exit 0) (Cut.mk [(0, SV.xs [a, b]), (1, SV.val (Value.func (Fn.func 84) #[] #[])), (7, SV.val (Value.int IntKind.i64 (↑((M a).g b).n : Int))), (8, SV.val (Value.int IntKind.i64 (↑i : Int)))] []))) := by kernel_rfl
set_option maxRecDepth 100000 in
theorem idx84_post (M : Nat → Mo) (bx : Nat → XR) (a b : Nat) (i : Nat) : letI := rowsB M bx
    evK Tryd.prog ext (tab2 AL []) 80 19 (seqL (postOf (bodyOf Tryd.f110))) ((⟨[(0, .xs [a, b]), (1, fnv 84), (7, .val (.int .i64 ((M a).g b).n)), (8, .val (.int .i64 (i : Int)))], []⟩ : Cut).st 0) (grab Tryd.prog Tryd.f110 [0, 1, 7, 8] [] 0) =
    some (Res.ret (SV.val (Value.int IntKind.i64 (-1)))) := by kernel_rfl
set_option maxRecDepth 100000 in
theorem run_idx84 (M : Nat → Mo) (bx : Nat → XR) (hM : Fit M) (a b : Nat) : letI := rowsB M bx
    Runs Tryd.prog (Inv M bx) 19 Tryd.f110 ((fun x : Int => SV.val (.int .i64 x)) ((seek (fun i => bif (((M a).g b).g i).d.g.k == 0 && ((((M a).g b).g i).d.t.k == 0 && (((M a).g b).g i).d.w != 1) then some (i : Int) else none) (((M a).g b).n) 0).getD (-1))) [] (bodyOf Tryd.f110) (⟨argS [.xs [a, b], fnv 84], fun _ => none, 0⟩) := by
  letI := rowsB M bx
  have C := ctxB M bx entsAL entsS_nil
  refine Runs.seekFn C (n := ((M a).g b).n) (p := fun i => bif (((M a).g b).g i).d.g.k == 0 && ((((M a).g b).g i).d.t.k == 0 && (((M a).g b).g i).d.w != 1) then some (i : Int) else none) (f := (fun x : Int => SV.val (.int .i64 x))) (z := (-1)) (hd := fun i => (⟨[(0, .xs [a, b]), (1, fnv 84), (7, .val (.int .i64 ((M a).g b).n)), (8, .val (.int .i64 (i : Int)))], []⟩ : Cut)) (c' := (fun i : Nat => (⟨[(0, .xs [a, b]), (1, fnv 84), (7, .val (.int .i64 ((M a).g b).n)), (8, .val (.int .i64 (i : Int)))], []⟩ : Cut)) (((M a).g b).n)) (by kernel_rfl) (idx84_pre M bx a b) (fun i hi => ?_) ?_ (fun _ => Runs.ret C (idx84_post M bx a b (((M a).g b).n)))
  · refine (idx84_round M bx a b i).trans ?_
    simp only [dlt hi, dge, wr hi ((hM a).2 b), cond_true, cond_false, Bool.and_self, Bool.true_and, map_cond, toR_cond, some_cond, Option.map_some, Option.map_none, toR_some, toR_none, cnd_and, cnd_or, cnd_not, S.keq, S.eqC, S.alikeC]
    first | done | rfl
  · refine (idx84_round M bx a b (((M a).g b).n)).trans ?_
    simp only [dnl, cond_false]
    rfl
theorem ent_idxC (M : Nat → Mo) (bx : Nat → XR) (hM : Fit M) : Ent M bx (110, idxC M) := by
  letI := rowsB M bx
  intro args mem t v h1 h2 hok
  rcases idxC_eq h1 with ⟨a, b, l, k, rfl, hk, rfl⟩ | ⟨a, b, l, k, rfl, hk, rfl⟩ | ⟨a, b, rfl, rfl⟩ | ⟨a, b, rfl, rfl⟩
  · exact ent_idxA M bx hM [.xs [a, b], .fn 119 l] mem _ v (by
      show (match keyAt mem l with
        | some k => some (DT.leaf (SV.val (.int .i64 (S.find ((M a).g b) k))))
        | none => none) = _
      rw [hk]) h2 hok
  · obtain ⟨q, blk, rfl, hq, hc⟩ := shapeAt_eq hk
    cases h2
    refine ⟨ok_val _ _, fun w0 m w hI hm => ?_⟩
    have hw : Inv M bx w := inv_stable M bx _ _ hI hm.below
    have hw' : Inv M (fun _ => ⟨some ⟨m q, 0, none⟩, 8, 1, 1, fun _ => shCells k.cl k.p k.x [k.a, k.b]⟩) w := ⟨hw.1, xok_box hw.2 (fun _ => by
      have := box_row (bx' := (fun _ => ⟨some ⟨m q, 0, none⟩, 8, 1, 1, fun _ => shCells k.cl k.p k.x [k.a, k.b]⟩)) hm hq (by rw [hc]; exact simple_sh _ _ _ _ _)
      rw [hc] at this
      exact this)⟩
    have := @Runs.calls (rowsB M (fun _ => ⟨some ⟨m q, 0, none⟩, 8, 1, 1, fun _ => shCells k.cl k.p k.x [k.a, k.b]⟩)) Tryd.prog (Inv M (fun _ => ⟨some ⟨m q, 0, none⟩, 8, 1, 1, fun _ => shCells k.cl k.p k.x [k.a, k.b]⟩)) 19 Tryd.f110 _ 110 (Tryd.f110.body.getD .skip) [.xs [a, b], .fn 105 [.xp [0, 0, 0] 0 0]] Tryd.func110 (by kernel_rfl) (by kernel_rfl) (by
      letI := rowsB M (fun _ => ⟨some ⟨m q, 0, none⟩, 8, 1, 1, fun _ => shCells k.cl k.p k.x [k.a, k.b]⟩)
      intro x hx
      simp only [List.mem_cons, List.not_mem_nil, or_false] at hx
      rcases hx with rfl | rfl
      · exact ok_xs
      · exact ok_fn.2 (fun c hc => by
          simp only [List.mem_cons, List.not_mem_nil, or_false] at hc
          subst hc
          exact ok_xp.2 (show 0 < 1 by decide))) (run_idx105 M (fun _ => ⟨some ⟨m q, 0, none⟩, 8, 1, 1, fun _ => shCells k.cl k.p k.x [k.a, k.b]⟩) hM a b k) w hw' m
    have hargs : (List.map (@SV.den (rowsB M (fun _ => ⟨some ⟨m q, 0, none⟩, 8, 1, 1, fun _ => shCells k.cl k.p k.x [k.a, k.b]⟩)) m) [SV.xs [a, b], SV.fn 105 [SV.xp [0, 0, 0] 0 0]]) = (List.map (@SV.den (rowsB M bx) m) [SV.xs [a, b], SV.fn 105 [SV.ptr q 0]]) := by
      simp only [List.map_cons, List.map_nil, @den_xs (rowsB M (fun _ => ⟨some ⟨m q, 0, none⟩, 8, 1, 1, fun _ => shCells k.cl k.p k.x [k.a, k.b]⟩)), @den_xs (rowsB M bx), @den_fn (rowsB M (fun _ => ⟨some ⟨m q, 0, none⟩, 8, 1, 1, fun _ => shCells k.cl k.p k.x [k.a, k.b]⟩)), @den_fn (rowsB M bx), @den_xp (rowsB M (fun _ => ⟨some ⟨m q, 0, none⟩, 8, 1, 1, fun _ => shCells k.cl k.p k.x [k.a, k.b]⟩)), @den_ptr (rowsB M bx)]
      rfl
    rw [hargs] at this
    refine Calls.mono this fun e w' ⟨⟨m', he⟩, hb⟩ => ⟨?_, hb⟩
    rw [he, @den_val (rowsB M (fun _ => ⟨some ⟨m q, 0, none⟩, 8, 1, 1, fun _ => shCells k.cl k.p k.x [k.a, k.b]⟩)), @den_val (rowsB M bx)]
    rfl
  · cases h2
    refine ⟨ok_val _ _, fun w0 m w hI hm => ?_⟩
    have := @Runs.calls (rowsB M bx) Tryd.prog (Inv M bx) 19 Tryd.f110 _ 110 (Tryd.f110.body.getD .skip) [.xs [a, b], fnv 83] Tryd.func110 (by kernel_rfl) (by kernel_rfl) (by
      intro x hx
      simp only [List.mem_cons, List.not_mem_nil, or_false] at hx
      rcases hx with rfl | rfl
      · exact ok_xs
      · exact ok_val _ _) (run_idx83 M bx hM a b) w (inv_stable M bx _ _ hI hm.below) m
    refine Calls.mono this fun e w' ⟨⟨m', he⟩, hb⟩ => ⟨?_, hb⟩
    rw [he, @den_val (rowsB M bx), @den_val (rowsB M bx)]
    rfl
  · cases h2
    refine ⟨ok_val _ _, fun w0 m w hI hm => ?_⟩
    have := @Runs.calls (rowsB M bx) Tryd.prog (Inv M bx) 19 Tryd.f110 _ 110 (Tryd.f110.body.getD .skip) [.xs [a, b], fnv 84] Tryd.func110 (by kernel_rfl) (by kernel_rfl) (by
      intro x hx
      simp only [List.mem_cons, List.not_mem_nil, or_false] at hx
      rcases hx with rfl | rfl
      · exact ok_xs
      · exact ok_val _ _) (run_idx84 M bx hM a b) w (inv_stable M bx _ _ hI hm.below) m
    refine Calls.mono this fun e w' ⟨⟨m', he⟩, hb⟩ => ⟨?_, hb⟩
    rw [he, @den_val (rowsB M bx), @den_val (rowsB M bx)]
    rfl
end Go.Proofs.YtaojjpdlfnphiaaDoor.PDescKinds
end
section
/- Contracts by evaluation: what each function of a list answers. Written by a program of this session. -/
namespace Go.Proofs.YtaojjpdlfnphiaaDoor.PDescKinds
open Go.RowKit Go.Ev
set_option linter.unusedSimpArgs false
set_option linter.unusedVariables false
set_option maxRecDepth 100000
abbrev BvL0 : Tab := AL
theorem Bvents0 : ∀ p ∈ BvL0, E p := entsAL
set_option maxHeartbeats 4000000 in
theorem ev_num2 (a b : Nat) : evFn Tryd.prog ext (tab BvL0) 40 86 [.float .f64 a, .float .f64 b] = (T.num2 a b).val :=
  Eq.trans (b := 
    (bif decide (IntKind.u64.wrap (↑(BitVec.ofInt IntKind.u64.bits (↑a : Int) &&& ~~~BitVec.ofInt IntKind.u64.bits 9223372036854775808).toNat : Int) > 9218868437227405312) then 
     (bif decide (IntKind.u64.wrap (↑(BitVec.ofInt IntKind.u64.bits (↑b : Int) &&& ~~~BitVec.ofInt IntKind.u64.bits 9223372036854775808).toNat : Int) > 9218868437227405312) then some (Value.bool true) else some (Value.bool ((↑a : Int) == (↑b : Int)))) else some (Value.bool ((↑a : Int) == (↑b : Int))))) (by kernel_rfl) (by
    simp only [T.num2, T.B, DT.val_node, DT.val_leaf, DT.bind, DT.val_bad]
    repeat' (with_reducible refine bif_eq (fun h => ?_) (fun h => ?_))
    all_goals first | (simp only [*, R.num2, R.big, cond_true, cond_false, Bool.and_true, Bool.true_and, Bool.and_false, Bool.false_and, Bool.or_true, Bool.true_or, Bool.or_false, Bool.false_or]; done) | (simp_all [R.num2, R.big]; done) | grind [R.num2, R.big])
theorem ent_num2 : E (86, onFF T.num2) := byEv Bvents0 40 fun args t h => by
  obtain ⟨a, b, rfl, rfl⟩ := onFF_eq h
  exact ev_num2 a b
abbrev BvL1 : Tab := (86, onFF T.num2) :: BvL0
theorem Bvents1 : ∀ p ∈ BvL1, E p := entries_cons ent_num2 Bvents0
set_option maxHeartbeats 4000000 in
theorem ev_eqC (a b : V) : evFn Tryd.prog ext (tab BvL1) 40 77 [a.agg, b.agg] = (T.eqC a b).val :=
  Eq.trans (b := 
    (bif a.k == b.k then 
     (bif a.b == b.b then 
      (bif a.s.toList == b.s.toList then 
       (bif a.id == b.id then some (Value.bool (S.numSame a.n b.n)) else some (Value.bool false)) else some (Value.bool false)) else some (Value.bool false)) else some (Value.bool false))) (by kernel_rfl) (by
    simp only [T.eqC, T.B, DT.val_node, DT.val_leaf, DT.bind, DT.val_bad]
    repeat' (with_reducible refine bif_eq (fun h => ?_) (fun h => ?_))
    all_goals first | (simp only [*, S.eqC, cond_true, cond_false, Bool.and_true, Bool.true_and, Bool.and_false, Bool.false_and, Bool.or_true, Bool.true_or, Bool.or_false, Bool.false_or]; done) | (simp_all [S.eqC]; done) | grind [S.eqC])
theorem ent_eqC : E (77, onVV T.eqC) := byEv Bvents1 40 fun args t h => by
  obtain ⟨a, b, rfl, rfl⟩ := onVV_eq h
  exact ev_eqC a b
abbrev BvL2 : Tab := (77, onVV T.eqC) :: BvL1
theorem Bvents2 : ∀ p ∈ BvL2, E p := entries_cons ent_eqC Bvents1
set_option maxHeartbeats 4000000 in
theorem ev_alikeC (a b : D) : evFn Tryd.prog ext (tab BvL2) 40 80 [a.agg, b.agg] = (T.alikeC a b).val :=
  Eq.trans (b := 
    (bif S.eqC a.v b.v then 
     (bif S.eqC a.g b.g then 
      (bif S.eqC a.t b.t then 
       (bif a.w == b.w then 
        (bif a.e == b.e then some (Value.bool (a.c == b.c)) else some (Value.bool false)) else some (Value.bool false)) else some (Value.bool false)) else some (Value.bool false)) else some (Value.bool false))) (by kernel_rfl) (by
    simp only [T.alikeC, T.B, DT.val_node, DT.val_leaf, DT.bind, DT.val_bad]
    repeat' (with_reducible refine bif_eq (fun h => ?_) (fun h => ?_))
    all_goals first | (simp only [*, S.alikeC, cond_true, cond_false, Bool.and_true, Bool.true_and, Bool.and_false, Bool.false_and, Bool.or_true, Bool.true_or, Bool.or_false, Bool.false_or]; done) | (simp_all [S.alikeC]; done) | grind [S.alikeC])
theorem ent_alikeC : E (80, onDD T.alikeC) := byEv Bvents2 40 fun args t h => by
  obtain ⟨a, b, rfl, rfl⟩ := onDD_eq h
  exact ev_alikeC a b
abbrev BvL3 : Tab := (80, onDD T.alikeC) :: BvL2
theorem Bvents3 : ∀ p ∈ BvL3, E p := entries_cons ent_alikeC Bvents2
set_option maxHeartbeats 4000000 in
theorem ev_eqR (a b : V) : evFn Tryd.prog ext (tab BvL3) 40 47 [a.agg, b.agg] = (T.eqR a b).val :=
  Eq.trans (b := 
    (bif a.k == b.k then 
     (bif a.b == b.b then 
      (bif a.s.toList == b.s.toList then 
       (bif a.id == b.id then some (Value.bool (R.num2 a.n b.n)) else some (Value.bool false)) else some (Value.bool false)) else some (Value.bool false)) else some (Value.bool false))) (by kernel_rfl) (by
    simp only [T.eqR, T.B, DT.val_node, DT.val_leaf, DT.bind, DT.val_bad]
    repeat' (with_reducible refine bif_eq (fun h => ?_) (fun h => ?_))
    all_goals first | (simp only [*, R.eqR, cond_true, cond_false, Bool.and_true, Bool.true_and, Bool.and_false, Bool.false_and, Bool.or_true, Bool.true_or, Bool.or_false, Bool.false_or]; done) | (simp_all [R.eqR]; done) | grind [R.eqR])
theorem ent_eqR : E (47, onVV T.eqR) := byEv Bvents3 40 fun args t h => by
  obtain ⟨a, b, rfl, rfl⟩ := onVV_eq h
  exact ev_eqR a b
abbrev BvL4 : Tab := (47, onVV T.eqR) :: BvL3
theorem Bvents4 : ∀ p ∈ BvL4, E p := entries_cons ent_eqR Bvents3
set_option maxHeartbeats 4000000 in
theorem ev_eqDR (a b : D) : evFn Tryd.prog ext (tab BvL4) 40 109 [a.agg, b.agg] = (T.eqDR a b).val :=
  Eq.trans (b := 
    (bif R.eqR a.v b.v then 
     (bif R.eqR a.g b.g then 
      (bif R.eqR a.t b.t then 
       (bif a.w == b.w then 
        (bif a.e == b.e then some (Value.bool (a.c == b.c)) else some (Value.bool false)) else some (Value.bool false)) else some (Value.bool false)) else some (Value.bool false)) else some (Value.bool false))) (by kernel_rfl) (by
    simp only [T.eqDR, T.B, DT.val_node, DT.val_leaf, DT.bind, DT.val_bad]
    repeat' (with_reducible refine bif_eq (fun h => ?_) (fun h => ?_))
    all_goals first | (simp only [*, R.eqDR, cond_true, cond_false, Bool.and_true, Bool.true_and, Bool.and_false, Bool.false_and, Bool.or_true, Bool.true_or, Bool.or_false, Bool.false_or]; done) | (simp_all [R.eqDR]; done) | grind [R.eqDR])
theorem ent_eqDR : E (109, onDD T.eqDR) := byEv Bvents4 40 fun args t h => by
  obtain ⟨a, b, rfl, rfl⟩ := onDD_eq h
  exact ev_eqDR a b
abbrev BvL5 : Tab := (109, onDD T.eqDR) :: BvL4
theorem Bvents5 : ∀ p ∈ BvL5, E p := entries_cons ent_eqDR Bvents4
end Go.Proofs.YtaojjpdlfnphiaaDoor.PDescKinds
end
section
/- Moments: functions with one loop, piece by piece. Written by a program of this session. -/
set_option linter.unusedSimpArgs false
set_option linter.unusedVariables false
set_option linter.unusedSectionVars false
namespace Go.Proofs.YtaojjpdlfnphiaaDoor.PDescKinds
open Go.RowKit Go.Ev
namespace R
def sameSh (a b : Sh) : Bool := bif a.cl != b.cl || (!eqR a.p b.p || (!(a.x == b.x) || (a.n : Int) != (b.n : Int))) then false else
  (seek (fun i => bif !S.keq (a.g i).k (b.g i).k || !eqDR (a.g i).d (b.g i).d then some false else none) a.n 0).getD true
def sameM (a b : Mo) : Bool := bif (a.n : Int) != (b.n : Int) then false else (seek (fun i => bif !sameSh (a.g i) (b.g i) then some false else none) a.n 0).getD true
end R
theorem eq_of_bne {m n : Nat} (h : ((m : Int) != (n : Int)) = false) : m = n := by
  rw [bne_eq_false_iff_eq] at h
  omega
theorem sh_guard {a b c : Bool} {m n : Nat} (h : (a || (b || (c || (m : Int) != (n : Int)))) = false) : m = n := by
  simp only [Bool.or_eq_false_iff] at h
  exact eq_of_bne h.2.2.2
set_option maxRecDepth 100000 in
theorem lost107_pre (M : Nat → Mo) (bx : Nat → XR) (q r : SA) : letI := rowsB M bx
    evK Tryd.prog ext (tab2 BvL5 [(110, idxC M)]) 80 55 (seqL (preOf (bodyOf Tryd.f107))) (⟨argS [q.sv, r.sv], fun _ => none, 0⟩) (grab Tryd.prog Tryd.f107 [2, 3, 11, 12, 13] [0, 1] 2) =
    some (Res.cut Ex.normal (Cut.mk [(2, SV.ptr 0 0), (3, SV.ptr 1 0), (11, SV.xs [q.a, q.b]), (12, SV.val (Value.int IntKind.i64 (↑((M q.a).g q.b).n : Int))), (13, SV.val (Value.int IntKind.i64 0))] [(0, Blk.mk 60 [SV.val (Value.int IntKind.i64 q.cl), SV.val (Value.int IntKind.i64 q.p.k), SV.val (Value.bool q.p.b), SV.val (Value.float FloatKind.f64 q.p.n), SV.val (Value.string q.p.s), SV.val (Value.int IntKind.i64 q.p.id), SV.val (Value.bool q.x), SV.xs [q.a, q.b]]), (1, Blk.mk 60 [SV.val (Value.int IntKind.i64 r.cl), SV.val (Value.int IntKind.i64 r.p.k), SV.val (Value.bool r.p.b), SV.val (Value.float FloatKind.f64 r.p.n), SV.val (Value.string r.p.s), SV.val (Value.int IntKind.i64 r.p.id), SV.val (Value.bool r.x), SV.xs [r.a, r.b]])])) := by kernel_rfl
set_option maxRecDepth 100000 in
theorem lost107_round (M : Nat → Mo) (bx : Nat → XR) (q r : SA) (i : Nat) : letI := rowsB M bx
    evK Tryd.prog ext (tab2 BvL5 [(110, idxC M)]) 80 55 (seqL (flat (roundOf (bodyOf Tryd.f107)))) ((⟨[(2, .ptr 0 0), (3, .ptr 1 0), (11, .xs [q.a, q.b]), (12, .val (.int .i64 ((M q.a).g q.b).n)), (13, (.val (.int .i64 (i : Int))))], [(0, ⟨60, shCells q.cl q.p q.x [q.a, q.b]⟩), (1, ⟨60, shCells r.cl r.p r.x [r.a, r.b]⟩)]⟩ : Cut).st 2) (grab Tryd.prog Tryd.f107 [2, 3, 11, 12, 13] [0, 1] 2) =
    (bif decide ((↑i : Int) < (↑((M q.a).g q.b).n : Int)) then 
     (bif decide (0 ≤ (↑i : Int)) && decide ((↑i : Int) < (↑((M q.a).g q.b).n : Int)) then 
      (bif (((M q.a).g q.b).g i).d.c != 1 then some (Res.cut Ex.normal (Cut.mk [(2, SV.ptr 0 0), (3, SV.ptr 1 0), (11, SV.xs [q.a, q.b]), (12, SV.val (Value.int IntKind.i64 (↑((M q.a).g q.b).n : Int))), (13, SV.val (Value.int IntKind.i64 (IntKind.i64.wrap ((↑i : Int) + 1))))] [(0, Blk.mk 60 [SV.val (Value.int IntKind.i64 q.cl), SV.val (Value.int IntKind.i64 q.p.k), SV.val (Value.bool q.p.b), SV.val (Value.float FloatKind.f64 q.p.n), SV.val (Value.string q.p.s), SV.val (Value.int IntKind.i64 q.p.id), SV.val (Value.bool q.x), SV.xs [q.a, q.b]]), (1, Blk.mk 60 [SV.val (Value.int IntKind.i64 r.cl), SV.val (Value.int IntKind.i64 r.p.k), SV.val (Value.bool r.p.b), SV.val (Value.float FloatKind.f64 r.p.n), SV.val (Value.string r.p.s), SV.val (Value.int IntKind.i64 r.p.id), SV.val (Value.bool r.x), SV.xs [r.a, r.b]])])) else 
       (bif S.find ((M q.a).g q.b) (K.mk (((M q.a).g q.b).g i).k.s (((M q.a).g q.b).g i).k.n) != (↑i : Int) then some (Res.cut Ex.normal (Cut.mk [(2, SV.ptr 0 0), (3, SV.ptr 1 0), (11, SV.xs [q.a, q.b]), (12, SV.val (Value.int IntKind.i64 (↑((M q.a).g q.b).n : Int))), (13, SV.val (Value.int IntKind.i64 (IntKind.i64.wrap ((↑i : Int) + 1))))] [(0, Blk.mk 60 [SV.val (Value.int IntKind.i64 q.cl), SV.val (Value.int IntKind.i64 q.p.k), SV.val (Value.bool q.p.b), SV.val (Value.float FloatKind.f64 q.p.n), SV.val (Value.string q.p.s), SV.val (Value.int IntKind.i64 q.p.id), SV.val (Value.bool q.x), SV.xs [q.a, q.b]]), (1, Blk.mk 60 [SV.val (Value.int IntKind.i64 r.cl), SV.val (Value.int IntKind.i64 r.p.k), SV.val (Value.bool r.p.b), SV.val (Value.float FloatKind.f64 r.p.n), SV.val (Value.string r.p.s), SV.val (Value.int IntKind.i64 r.p.id), SV.val (Value.bool r.x), SV.xs [r.a, r.b]])])) else 
        (bif decide (S.find ((M r.a).g r.b) (K.mk (((M q.a).g q.b).g i).k.s (((M q.a).g q.b).g i).k.n) < 0) then some (Res.ret (SV.val (Value.bool true))) else 
         (bif decide (0 ≤ S.find ((M r.a).g r.b) (K.mk (((M q.a).g q.b).g i).k.s (((M q.a).g q.b).g i).k.n)) && decide (S.find ((M r.a).g r.b) (K.mk (((M q.a).g q.b).g i).k.s (((M q.a).g q.b).g i).k.n) < (↑((M r.a).g r.b).n : Int)) then 
          (bif S.okK (((M q.a).g q.b).g i).d (((M r.a).g r.b).g (S.find ((M r.a).g r.b) (K.mk (((M q.a).g q.b).g i).k.s (((M q.a).g q.b).g i).k.n)).toNat).d then 
           (bif !S.keeps (((M q.a).g q.b).g i).d (((M r.a).g r.b).g (S.find ((M r.a).g r.b) (K.mk (((M q.a).g q.b).g i).k.s (((M q.a).g q.b).g i).k.n)).toNat).d then some (Res.ret (SV.val (Value.bool true))) else some (Res.cut Ex.normal (Cut.mk [(2, SV.ptr 0 0), (3, SV.ptr 1 0), (11, SV.xs [q.a, q.b]), (12, SV.val (Value.int IntKind.i64 (↑((M q.a).g q.b).n : Int))), (13, SV.val (Value.int IntKind.i64 (IntKind.i64.wrap ((↑i : Int) + 1))))] [(0, Blk.mk 60 [SV.val (Value.int IntKind.i64 q.cl), SV.val (Value.int IntKind.i64 q.p.k), SV.val (Value.bool q.p.b), SV.val (Value.float FloatKind.f64 q.p.n), SV.val (Value.string q.p.s), SV.val (Value.int IntKind.i64 q.p.id), SV.val (Value.bool q.x), SV.xs [q.a, q.b]]), (1, Blk.mk 60 [SV.val (Value.int IntKind.i64 r.cl), SV.val (Value.int IntKind.i64 r.p.k), SV.val (Value.bool r.p.b), SV.val (Value.float FloatKind.f64 r.p.n), SV.val (Value.string r.p.s), SV.val (Value.int IntKind.i64 r.p.id), SV.val (Value.bool r.x), SV.xs [r.a, r.b]])]))) else some (Res.ret (SV.val (Value.bool true)))) else none)))) else none) else some (Res.cut (Ex.exit 0) (Cut.mk [(2, SV.ptr 0 0), (3, SV.ptr 1 0), (11, SV.xs [q.a, q.b]), (12, SV.val (Value.int IntKind.i64 (↑((M q.a).g q.b).n : Int))), (13, SV.val (Value.int IntKind.i64 (↑i : Int)))] [(0, Blk.mk 60 [SV.val (Value.int IntKind.i64 q.cl), SV.val (Value.int IntKind.i64 q.p.k), SV.val (Value.bool q.p.b), SV.val (Value.float FloatKind.f64 q.p.n), SV.val (Value.string q.p.s), SV.val (Value.int IntKind.i64 q.p.id), SV.val (Value.bool q.x), SV.xs [q.a, q.b]]), (1, Blk.mk 60 [SV.val (Value.int IntKind.i64 r.cl), SV.val (Value.int IntKind.i64 r.p.k), SV.val (Value.bool r.p.b), SV.val (Value.float FloatKind.f64 r.p.n), SV.val (Value.string r.p.s), SV.val (Value.int IntKind.i64 r.p.id), SV.val (Value.bool r.x), SV.xs [r.a, r.b]])]))) := by kernel_rfl
set_option maxRecDepth 100000 in
theorem lost107_post (M : Nat → Mo) (bx : Nat → XR) (q r : SA) (i : Nat) : letI := rowsB M bx
    evK Tryd.prog ext (tab2 BvL5 [(110, idxC M)]) 80 55 (seqL (postOf (bodyOf Tryd.f107))) ((⟨[(2, .ptr 0 0), (3, .ptr 1 0), (11, .xs [q.a, q.b]), (12, .val (.int .i64 ((M q.a).g q.b).n)), (13, (.val (.int .i64 (i : Int))))], [(0, ⟨60, shCells q.cl q.p q.x [q.a, q.b]⟩), (1, ⟨60, shCells r.cl r.p r.x [r.a, r.b]⟩)]⟩ : Cut).st 2) (grab Tryd.prog Tryd.f107 [2, 3, 11, 12, 13] [0, 1] 2) =
    some (Res.ret (SV.val (Value.bool false))) := by kernel_rfl
set_option maxRecDepth 100000 in
theorem run_lost107 (M : Nat → Mo) (bx : Nat → XR) (hM : Fit M) (q r : SA) : letI := rowsB M bx
    Runs Tryd.prog (Inv M bx) 55 Tryd.f107 ((fun x : Bool => SV.val (.bool x)) ((seek (fun i => bif (((M q.a).g q.b).g i).d.c != 1 || S.find ((M q.a).g q.b) (((M q.a).g q.b).g i).k != (i : Int) then none else bif decide ((S.find ((M r.a).g r.b) (((M q.a).g q.b).g i).k) < 0) then some true else bif S.okK (((M q.a).g q.b).g i).d (((M r.a).g r.b).g (S.find ((M r.a).g r.b) (((M q.a).g q.b).g i).k).toNat).d then (bif S.keeps (((M q.a).g q.b).g i).d (((M r.a).g r.b).g (S.find ((M r.a).g r.b) (((M q.a).g q.b).g i).k).toNat).d then none else some true) else some true) (((M q.a).g q.b).n) 0).getD false)) [] (bodyOf Tryd.f107) (⟨argS [q.sv, r.sv], fun _ => none, 0⟩) := by
  letI := rowsB M bx
  have C := ctxB M bx Bvents5 (entsS_cons (ent_idxC M bx hM) entsS_nil)
  refine Runs.seekFn C (n := ((M q.a).g q.b).n) (p := fun i => bif (((M q.a).g q.b).g i).d.c != 1 || S.find ((M q.a).g q.b) (((M q.a).g q.b).g i).k != (i : Int) then none else bif decide ((S.find ((M r.a).g r.b) (((M q.a).g q.b).g i).k) < 0) then some true else bif S.okK (((M q.a).g q.b).g i).d (((M r.a).g r.b).g (S.find ((M r.a).g r.b) (((M q.a).g q.b).g i).k).toNat).d then (bif S.keeps (((M q.a).g q.b).g i).d (((M r.a).g r.b).g (S.find ((M r.a).g r.b) (((M q.a).g q.b).g i).k).toNat).d then none else some true) else some true) (f := (fun x : Bool => SV.val (.bool x))) (z := false) (hd := fun i => (⟨[(2, .ptr 0 0), (3, .ptr 1 0), (11, .xs [q.a, q.b]), (12, .val (.int .i64 ((M q.a).g q.b).n)), (13, (.val (.int .i64 (i : Int))))], [(0, ⟨60, shCells q.cl q.p q.x [q.a, q.b]⟩), (1, ⟨60, shCells r.cl r.p r.x [r.a, r.b]⟩)]⟩ : Cut)) (c' := (fun i : Nat => (⟨[(2, .ptr 0 0), (3, .ptr 1 0), (11, .xs [q.a, q.b]), (12, .val (.int .i64 ((M q.a).g q.b).n)), (13, (.val (.int .i64 (i : Int))))], [(0, ⟨60, shCells q.cl q.p q.x [q.a, q.b]⟩), (1, ⟨60, shCells r.cl r.p r.x [r.a, r.b]⟩)]⟩ : Cut)) (((M q.a).g q.b).n)) (by kernel_rfl) (lost107_pre M bx q r) (fun i hi => ?_) ?_ (fun _ => Runs.ret C (lost107_post M bx q r (((M q.a).g q.b).n)))
  · refine (lost107_round M bx q r i).trans ?_
    simp only [S.find_cond]
    simp only [dlt hi, dge, wr hi ((hM q.a).2 q.b), cond_true, cond_false, Bool.and_self, Bool.true_and, map_cond, toR_cond, some_cond, Option.map_some, Option.map_none, toR_some, toR_none, cnd_and, cnd_or, cnd_not, S.keq, S.eqC, S.alikeC]
    first | done | rfl
  · refine (lost107_round M bx q r (((M q.a).g q.b).n)).trans ?_
    simp only [dnl, cond_false]
    rfl
theorem ent_lost107 (M : Nat → Mo) (bx : Nat → XR) (hM : Fit M) : Ent M bx (107, noMem (onShSh fun q r => LB (S.lost (q.sh M) (r.sh M)))) := by
  letI := rowsB M bx
  refine EntryS.of (fun args t v h1 h2 => ?_) (inv_stable M bx)
  obtain ⟨q, r, rfl, rfl⟩ := onShSh_eq h1
  cases h2
  refine ⟨ok_val _ _, ?_, fun w m hI => Runs.calls (body := Tryd.f107.body.getD .skip) Tryd.func107 (by kernel_rfl) (by kernel_rfl) ?_ (run_lost107 M bx hM q r) w hI m⟩ <;>
  · intro x hx
    simp only [List.mem_cons, List.not_mem_nil, or_false] at hx
    rcases hx with rfl | rfl <;> exact ok_sa _ _
set_option maxRecDepth 100000 in
theorem eqP78_pre (M : Nat → Mo) (bx : Nat → XR) (a b c d : Nat) : letI := rowsB M bx
    evK Tryd.prog ext (tab2 BvL5 []) 80 32 (seqL (preOf (bodyOf Tryd.f78))) (⟨argS [.xs [a, b], .xs [c, d], fnv 79], fun _ => none, 0⟩) (grab Tryd.prog Tryd.f78 [0, 1, 2, 15, 16, 17] [] 0) =
    (bif (↑((M a).g b).n : Int) != (↑((M c).g d).n : Int) then some (Res.ret (SV.val (Value.bool false))) else some (Res.cut Ex.normal (Cut.mk [(0, SV.xs [a, b]), (1, SV.xs [c, d]), (2, SV.val (Value.func (Fn.func 79) #[] #[])), (15, SV.xs [a, b]), (16, SV.val (Value.int IntKind.i64 (↑((M a).g b).n : Int))), (17, SV.val (Value.int IntKind.i64 0))] []))) := by kernel_rfl
set_option maxRecDepth 100000 in
theorem eqP78_round (M : Nat → Mo) (bx : Nat → XR) (a b c d : Nat) (i : Nat) : letI := rowsB M bx
    evK Tryd.prog ext (tab2 BvL5 []) 80 32 (seqL (flat (roundOf (bodyOf Tryd.f78)))) ((⟨[(0, .xs [a, b]), (1, .xs [c, d]), (2, fnv 79), (15, .xs [a, b]), (16, .val (.int .i64 ((M a).g b).n)), (17, (.val (.int .i64 (i : Int))))], []⟩ : Cut).st 0) (grab Tryd.prog Tryd.f78 [0, 1, 2, 15, 16, 17] [] 0) =
    (bif decide ((↑i : Int) < (↑((M a).g b).n : Int)) then 
     (bif decide (0 ≤ (↑i : Int)) && decide ((↑i : Int) < (↑((M a).g b).n : Int)) then 
      (bif decide (0 ≤ (↑i : Int)) && decide ((↑i : Int) < (↑((M c).g d).n : Int)) then 
       (bif (((M a).g b).g i).k.s == (((M c).g d).g i).k.s && ((((M a).g b).g i).k.n == (((M c).g d).g i).k.n && true) then 
        (bif !S.alikeC (((M a).g b).g i).d (((M c).g d).g i).d then some (Res.ret (SV.val (Value.bool false))) else some (Res.cut Ex.normal (Cut.mk [(0, SV.xs [a, b]), (1, SV.xs [c, d]), (2, SV.val (Value.func (Fn.func 79) #[] #[])), (15, SV.xs [a, b]), (16, SV.val (Value.int IntKind.i64 (↑((M a).g b).n : Int))), (17, SV.val (Value.int IntKind.i64 (IntKind.i64.wrap ((↑i : Int) + 1))))] []))) else some (Res.ret (SV.val (Value.bool false)))) else none) else none) else some (Res.cut (Ex.exit 0) (Cut.mk [(0, SV.xs [a, b]), (1, SV.xs [c, d]), (2, SV.val (Value.func (Fn.func 79) #[] #[])), (15, SV.xs [a, b]), (16, SV.val (Value.int IntKind.i64 (↑((M a).g b).n : Int))), (17, SV.val (Value.int IntKind.i64 (↑i : Int)))] []))) := by kernel_rfl
set_option maxRecDepth 100000 in
theorem eqP78_post (M : Nat → Mo) (bx : Nat → XR) (a b c d : Nat) (i : Nat) : letI := rowsB M bx
    evK Tryd.prog ext (tab2 BvL5 []) 80 32 (seqL (postOf (bodyOf Tryd.f78))) ((⟨[(0, .xs [a, b]), (1, .xs [c, d]), (2, fnv 79), (15, .xs [a, b]), (16, .val (.int .i64 ((M a).g b).n)), (17, (.val (.int .i64 (i : Int))))], []⟩ : Cut).st 0) (grab Tryd.prog Tryd.f78 [0, 1, 2, 15, 16, 17] [] 0) =
    some (Res.ret (SV.val (Value.bool true))) := by kernel_rfl
set_option maxRecDepth 100000 in
theorem run_eqP78 (M : Nat → Mo) (bx : Nat → XR) (hM : Fit M) (a b c d : Nat) : letI := rowsB M bx
    Runs Tryd.prog (Inv M bx) 32 Tryd.f78 ((fun x : Bool => SV.val (.bool x)) (bif (((M a).g b).n : Int) != (((M c).g d).n : Int) then false else (seek (fun i => bif S.keq (((M a).g b).g i).k (((M c).g d).g i).k && S.alikeC (((M a).g b).g i).d (((M c).g d).g i).d then none else some false) (((M a).g b).n) 0).getD true)) [] (bodyOf Tryd.f78) (⟨argS [.xs [a, b], .xs [c, d], fnv 79], fun _ => none, 0⟩) := by
  letI := rowsB M bx
  have C := ctxB M bx Bvents5 entsS_nil
  have hp := (eqP78_pre M bx a b c d).trans (show _ = bif (((M a).g b).n : Int) != (((M c).g d).n : Int) then some (Res.ret ((fun x : Bool => SV.val (.bool x)) false)) else some (Res.cut .normal ((fun i : Nat => (⟨[(0, .xs [a, b]), (1, .xs [c, d]), (2, fnv 79), (15, .xs [a, b]), (16, .val (.int .i64 ((M a).g b).n)), (17, (.val (.int .i64 (i : Int))))], []⟩ : Cut)) 0)) by
    simp only [cnd_and, cnd_or, cnd_not, Bool.or_assoc]
    first | done | rfl)
  cases hg : (((M a).g b).n : Int) != (((M c).g d).n : Int) with
  | true =>
    rw [hg] at hp
    exact retPre C (by kernel_rfl) hp
  | false =>
    rw [hg] at hp
    show Runs _ _ _ _ ((fun x : Bool => SV.val (.bool x)) ((seek (fun i => bif S.keq (((M a).g b).g i).k (((M c).g d).g i).k && S.alikeC (((M a).g b).g i).d (((M c).g d).g i).d then none else some false) (((M a).g b).n) 0).getD true)) _ _ _
    refine Runs.seekFn C (n := ((M a).g b).n) (p := fun i => bif S.keq (((M a).g b).g i).k (((M c).g d).g i).k && S.alikeC (((M a).g b).g i).d (((M c).g d).g i).d then none else some false) (f := (fun x : Bool => SV.val (.bool x))) (z := true) (hd := fun i => (⟨[(0, .xs [a, b]), (1, .xs [c, d]), (2, fnv 79), (15, .xs [a, b]), (16, .val (.int .i64 ((M a).g b).n)), (17, (.val (.int .i64 (i : Int))))], []⟩ : Cut)) (c' := (fun i : Nat => (⟨[(0, .xs [a, b]), (1, .xs [c, d]), (2, fnv 79), (15, .xs [a, b]), (16, .val (.int .i64 ((M a).g b).n)), (17, (.val (.int .i64 (i : Int))))], []⟩ : Cut)) (((M a).g b).n)) (by kernel_rfl) hp (fun i hi => ?_) ?_ (fun _ => Runs.ret C (eqP78_post M bx a b c d (((M a).g b).n)))
    · refine (eqP78_round M bx a b c d i).trans ?_
      have hi2 : i < ((M c).g d).n := by have := eq_of_bne hg; omega
      simp only [dlt hi, dge, wr hi ((hM a).2 b), cond_true, cond_false, Bool.and_self, Bool.true_and, map_cond, toR_cond, some_cond, Option.map_some, Option.map_none, toR_some, toR_none, cnd_and, cnd_or, cnd_not, S.keq, S.eqC, S.alikeC, dlt hi2]
      first | done | rfl
    · refine (eqP78_round M bx a b c d (((M a).g b).n)).trans ?_
      simp only [dnl, cond_false]
      rfl
theorem ent_eqP78 (M : Nat → Mo) (bx : Nat → XR) (hM : Fit M) : Ent M bx (78, noMem (onFS 79 fun a b c d => LB (S.sameP ((M a).g b) ((M c).g d)))) := by
  letI := rowsB M bx
  refine EntryS.of (fun args t v h1 h2 => ?_) (inv_stable M bx)
  obtain ⟨a, b, c, d, rfl, rfl⟩ := onFS_eq h1
  cases h2
  refine ⟨ok_val _ _, ?_, fun w m hI => Runs.calls (body := Tryd.f78.body.getD .skip) Tryd.func78 (by kernel_rfl) (by kernel_rfl) ?_ (run_eqP78 M bx hM a b c d) w hI m⟩ <;>
  · intro x hx
    simp only [List.mem_cons, List.not_mem_nil, or_false] at hx
    rcases hx with rfl | rfl | rfl <;> first | exact ok_val _ _ | exact ok_xs
set_option maxRecDepth 100000 in
theorem eqS75_pre (M : Nat → Mo) (bx : Nat → XR) (a b : Nat) : letI := rowsB M bx
    evK Tryd.prog ext (tab2 BvL5 [(78, noMem (onFS 79 fun a b c d => LB (S.sameP ((M a).g b) ((M c).g d))))]) 80 32 (seqL (preOf (bodyOf Tryd.f75))) (⟨argS [.xs [a], .xs [b], fnv 76], fun _ => none, 0⟩) (grab Tryd.prog Tryd.f75 [0, 1, 2, 15, 16, 17] [] 0) =
    (bif (↑(M a).n : Int) != (↑(M b).n : Int) then some (Res.ret (SV.val (Value.bool false))) else some (Res.cut Ex.normal (Cut.mk [(0, SV.xs [a]), (1, SV.xs [b]), (2, SV.val (Value.func (Fn.func 76) #[] #[])), (15, SV.xs [a]), (16, SV.val (Value.int IntKind.i64 (↑(M a).n : Int))), (17, SV.val (Value.int IntKind.i64 0))] []))) := by kernel_rfl
set_option maxRecDepth 100000 in
theorem eqS75_round (M : Nat → Mo) (bx : Nat → XR) (a b : Nat) (i : Nat) : letI := rowsB M bx
    evK Tryd.prog ext (tab2 BvL5 [(78, noMem (onFS 79 fun a b c d => LB (S.sameP ((M a).g b) ((M c).g d))))]) 80 32 (seqL (flat (roundOf (bodyOf Tryd.f75)))) ((⟨[(0, .xs [a]), (1, .xs [b]), (2, fnv 76), (15, .xs [a]), (16, .val (.int .i64 (M a).n)), (17, (.val (.int .i64 (i : Int))))], []⟩ : Cut).st 0) (grab Tryd.prog Tryd.f75 [0, 1, 2, 15, 16, 17] [] 0) =
    (bif decide ((↑i : Int) < (↑(M a).n : Int)) then 
     (bif decide (0 ≤ (↑i : Int)) && decide ((↑i : Int) < (↑(M a).n : Int)) then 
      (bif decide (0 ≤ (↑i : Int)) && decide ((↑i : Int) < (↑(M b).n : Int)) then 
       (bif ((M a).g i).cl == ((M b).g i).cl then 
        (bif S.eqC ((M a).g i).p ((M b).g i).p then 
         (bif ((M a).g i).x == ((M b).g i).x then 
          (bif !S.sameP ((M a).g i) ((M b).g i) then some (Res.ret (SV.val (Value.bool false))) else some (Res.cut Ex.normal (Cut.mk [(0, SV.xs [a]), (1, SV.xs [b]), (2, SV.val (Value.func (Fn.func 76) #[] #[])), (15, SV.xs [a]), (16, SV.val (Value.int IntKind.i64 (↑(M a).n : Int))), (17, SV.val (Value.int IntKind.i64 (IntKind.i64.wrap ((↑i : Int) + 1))))] []))) else some (Res.ret (SV.val (Value.bool false)))) else some (Res.ret (SV.val (Value.bool false)))) else some (Res.ret (SV.val (Value.bool false)))) else none) else none) else some (Res.cut (Ex.exit 0) (Cut.mk [(0, SV.xs [a]), (1, SV.xs [b]), (2, SV.val (Value.func (Fn.func 76) #[] #[])), (15, SV.xs [a]), (16, SV.val (Value.int IntKind.i64 (↑(M a).n : Int))), (17, SV.val (Value.int IntKind.i64 (↑i : Int)))] []))) := by kernel_rfl
set_option maxRecDepth 100000 in
theorem eqS75_post (M : Nat → Mo) (bx : Nat → XR) (a b : Nat) (i : Nat) : letI := rowsB M bx
    evK Tryd.prog ext (tab2 BvL5 [(78, noMem (onFS 79 fun a b c d => LB (S.sameP ((M a).g b) ((M c).g d))))]) 80 32 (seqL (postOf (bodyOf Tryd.f75))) ((⟨[(0, .xs [a]), (1, .xs [b]), (2, fnv 76), (15, .xs [a]), (16, .val (.int .i64 (M a).n)), (17, (.val (.int .i64 (i : Int))))], []⟩ : Cut).st 0) (grab Tryd.prog Tryd.f75 [0, 1, 2, 15, 16, 17] [] 0) =
    some (Res.ret (SV.val (Value.bool true))) := by kernel_rfl
set_option maxRecDepth 100000 in
theorem run_eqS75 (M : Nat → Mo) (bx : Nat → XR) (hM : Fit M) (a b : Nat) : letI := rowsB M bx
    Runs Tryd.prog (Inv M bx) 32 Tryd.f75 ((fun x : Bool => SV.val (.bool x)) (bif ((M a).n : Int) != ((M b).n : Int) then false else (seek (fun i => bif S.sameSh ((M a).g i) ((M b).g i) then none else some false) ((M a).n) 0).getD true)) [] (bodyOf Tryd.f75) (⟨argS [.xs [a], .xs [b], fnv 76], fun _ => none, 0⟩) := by
  letI := rowsB M bx
  have C := ctxB M bx Bvents5 (entsS_cons (ent_eqP78 M bx hM) entsS_nil)
  have hp := (eqS75_pre M bx a b).trans (show _ = bif ((M a).n : Int) != ((M b).n : Int) then some (Res.ret ((fun x : Bool => SV.val (.bool x)) false)) else some (Res.cut .normal ((fun i : Nat => (⟨[(0, .xs [a]), (1, .xs [b]), (2, fnv 76), (15, .xs [a]), (16, .val (.int .i64 (M a).n)), (17, (.val (.int .i64 (i : Int))))], []⟩ : Cut)) 0)) by
    simp only [cnd_and, cnd_or, cnd_not, Bool.or_assoc]
    first | done | rfl)
  cases hg : ((M a).n : Int) != ((M b).n : Int) with
  | true =>
    rw [hg] at hp
    exact retPre C (by kernel_rfl) hp
  | false =>
    rw [hg] at hp
    show Runs _ _ _ _ ((fun x : Bool => SV.val (.bool x)) ((seek (fun i => bif S.sameSh ((M a).g i) ((M b).g i) then none else some false) ((M a).n) 0).getD true)) _ _ _
    refine Runs.seekFn C (n := (M a).n) (p := fun i => bif S.sameSh ((M a).g i) ((M b).g i) then none else some false) (f := (fun x : Bool => SV.val (.bool x))) (z := true) (hd := fun i => (⟨[(0, .xs [a]), (1, .xs [b]), (2, fnv 76), (15, .xs [a]), (16, .val (.int .i64 (M a).n)), (17, (.val (.int .i64 (i : Int))))], []⟩ : Cut)) (c' := (fun i : Nat => (⟨[(0, .xs [a]), (1, .xs [b]), (2, fnv 76), (15, .xs [a]), (16, .val (.int .i64 (M a).n)), (17, (.val (.int .i64 (i : Int))))], []⟩ : Cut)) ((M a).n)) (by kernel_rfl) hp (fun i hi => ?_) ?_ (fun _ => Runs.ret C (eqS75_post M bx a b ((M a).n)))
    · refine (eqS75_round M bx a b i).trans ?_
      have hi2 : i < (M b).n := by have := eq_of_bne hg; omega
      simp only [dlt hi, dge, wr hi (hM a).1, cond_true, cond_false, Bool.and_self, Bool.true_and, map_cond, toR_cond, some_cond, Option.map_some, Option.map_none, toR_some, toR_none, cnd_and, cnd_or, cnd_not, S.keq, S.eqC, S.alikeC, dlt hi2, S.sameSh]
      first | done | rfl
    · refine (eqS75_round M bx a b ((M a).n)).trans ?_
      simp only [dnl, cond_false]
      rfl
theorem ent_eqS75 (M : Nat → Mo) (bx : Nat → XR) (hM : Fit M) : Ent M bx (75, noMem (onFM 76 fun a b => LB (S.sameC (M a) (M b)))) := by
  letI := rowsB M bx
  refine EntryS.of (fun args t v h1 h2 => ?_) (inv_stable M bx)
  obtain ⟨a, b, rfl, rfl⟩ := onFM_eq h1
  cases h2
  refine ⟨ok_val _ _, ?_, fun w m hI => Runs.calls (body := Tryd.f75.body.getD .skip) Tryd.func75 (by kernel_rfl) (by kernel_rfl) ?_ (run_eqS75 M bx hM a b) w hI m⟩ <;>
  · intro x hx
    simp only [List.mem_cons, List.not_mem_nil, or_false] at hx
    rcases hx with rfl | rfl | rfl <;> first | exact ok_val _ _ | exact ok_xs
set_option maxRecDepth 100000 in
theorem sameSh81_pre (M : Nat → Mo) (bx : Nat → XR) (q r : SA) : letI := rowsB M bx
    evK Tryd.prog ext (tab2 BvL5 []) 80 71 (seqL (preOf (bodyOf Tryd.f81))) (⟨argS [q.sv, r.sv], fun _ => none, 0⟩) (grab Tryd.prog Tryd.f81 [2, 3, 5] [0, 1] 2) =
    (bif q.cl != r.cl then some (Res.ret (SV.val (Value.bool false))) else 
     (bif !R.eqR q.p r.p then some (Res.ret (SV.val (Value.bool false))) else 
      (bif !q.x == r.x then some (Res.ret (SV.val (Value.bool false))) else 
       (bif (↑((M q.a).g q.b).n : Int) != (↑((M r.a).g r.b).n : Int) then some (Res.ret (SV.val (Value.bool false))) else some (Res.cut Ex.normal (Cut.mk [(2, SV.ptr 0 0), (3, SV.ptr 1 0), (5, SV.val (Value.int IntKind.i64 0))] [(0, Blk.mk 60 [SV.val (Value.int IntKind.i64 q.cl), SV.val (Value.int IntKind.i64 q.p.k), SV.val (Value.bool q.p.b), SV.val (Value.float FloatKind.f64 q.p.n), SV.val (Value.string q.p.s), SV.val (Value.int IntKind.i64 q.p.id), SV.val (Value.bool q.x), SV.xs [q.a, q.b]]), (1, Blk.mk 60 [SV.val (Value.int IntKind.i64 r.cl), SV.val (Value.int IntKind.i64 r.p.k), SV.val (Value.bool r.p.b), SV.val (Value.float FloatKind.f64 r.p.n), SV.val (Value.string r.p.s), SV.val (Value.int IntKind.i64 r.p.id), SV.val (Value.bool r.x), SV.xs [r.a, r.b]])])))))) := by kernel_rfl
set_option maxRecDepth 100000 in
theorem sameSh81_round (M : Nat → Mo) (bx : Nat → XR) (q r : SA) (i : Nat) : letI := rowsB M bx
    evK Tryd.prog ext (tab2 BvL5 []) 80 71 (seqL (flat (roundOf (bodyOf Tryd.f81)))) ((⟨[(2, .ptr 0 0), (3, .ptr 1 0), (5, (.val (.int .i64 (i : Int))))], [(0, ⟨60, shCells q.cl q.p q.x [q.a, q.b]⟩), (1, ⟨60, shCells r.cl r.p r.x [r.a, r.b]⟩)]⟩ : Cut).st 2) (grab Tryd.prog Tryd.f81 [2, 3, 5] [0, 1] 2) =
    (bif decide ((↑i : Int) < (↑((M q.a).g q.b).n : Int)) then 
     (bif decide (0 ≤ (↑i : Int)) && decide ((↑i : Int) < (↑((M q.a).g q.b).n : Int)) then 
      (bif decide (0 ≤ (↑i : Int)) && decide ((↑i : Int) < (↑((M r.a).g r.b).n : Int)) then 
       (bif !((((M q.a).g q.b).g i).k.s == (((M r.a).g r.b).g i).k.s && ((((M q.a).g q.b).g i).k.n == (((M r.a).g r.b).g i).k.n && true)) then some (Res.ret (SV.val (Value.bool false))) else 
        (bif decide (0 ≤ (↑i : Int)) && decide ((↑i : Int) < (↑((M q.a).g q.b).n : Int)) then 
         (bif decide (0 ≤ (↑i : Int)) && decide ((↑i : Int) < (↑((M r.a).g r.b).n : Int)) then 
          (bif !R.eqDR (((M q.a).g q.b).g i).d (((M r.a).g r.b).g i).d then some (Res.ret (SV.val (Value.bool false))) else some (Res.cut Ex.normal (Cut.mk [(2, SV.ptr 0 0), (3, SV.ptr 1 0), (5, SV.val (Value.int IntKind.i64 (IntKind.i64.wrap ((↑i : Int) + 1))))] [(0, Blk.mk 60 [SV.val (Value.int IntKind.i64 q.cl), SV.val (Value.int IntKind.i64 q.p.k), SV.val (Value.bool q.p.b), SV.val (Value.float FloatKind.f64 q.p.n), SV.val (Value.string q.p.s), SV.val (Value.int IntKind.i64 q.p.id), SV.val (Value.bool q.x), SV.xs [q.a, q.b]]), (1, Blk.mk 60 [SV.val (Value.int IntKind.i64 r.cl), SV.val (Value.int IntKind.i64 r.p.k), SV.val (Value.bool r.p.b), SV.val (Value.float FloatKind.f64 r.p.n), SV.val (Value.string r.p.s), SV.val (Value.int IntKind.i64 r.p.id), SV.val (Value.bool r.x), SV.xs [r.a, r.b]])]))) else none) else none)) else none) else none) else some (Res.cut (Ex.exit 0) (Cut.mk [(2, SV.ptr 0 0), (3, SV.ptr 1 0), (5, SV.val (Value.int IntKind.i64 (↑i : Int)))] [(0, Blk.mk 60 [SV.val (Value.int IntKind.i64 q.cl), SV.val (Value.int IntKind.i64 q.p.k), SV.val (Value.bool q.p.b), SV.val (Value.float FloatKind.f64 q.p.n), SV.val (Value.string q.p.s), SV.val (Value.int IntKind.i64 q.p.id), SV.val (Value.bool q.x), SV.xs [q.a, q.b]]), (1, Blk.mk 60 [SV.val (Value.int IntKind.i64 r.cl), SV.val (Value.int IntKind.i64 r.p.k), SV.val (Value.bool r.p.b), SV.val (Value.float FloatKind.f64 r.p.n), SV.val (Value.string r.p.s), SV.val (Value.int IntKind.i64 r.p.id), SV.val (Value.bool r.x), SV.xs [r.a, r.b]])]))) := by kernel_rfl
set_option maxRecDepth 100000 in
theorem sameSh81_post (M : Nat → Mo) (bx : Nat → XR) (q r : SA) (i : Nat) : letI := rowsB M bx
    evK Tryd.prog ext (tab2 BvL5 []) 80 71 (seqL (postOf (bodyOf Tryd.f81))) ((⟨[(2, .ptr 0 0), (3, .ptr 1 0), (5, (.val (.int .i64 (i : Int))))], [(0, ⟨60, shCells q.cl q.p q.x [q.a, q.b]⟩), (1, ⟨60, shCells r.cl r.p r.x [r.a, r.b]⟩)]⟩ : Cut).st 2) (grab Tryd.prog Tryd.f81 [2, 3, 5] [0, 1] 2) =
    some (Res.ret (SV.val (Value.bool true))) := by kernel_rfl
set_option maxRecDepth 100000 in
theorem run_sameSh81 (M : Nat → Mo) (bx : Nat → XR) (hM : Fit M) (q r : SA) : letI := rowsB M bx
    Runs Tryd.prog (Inv M bx) 71 Tryd.f81 ((fun x : Bool => SV.val (.bool x)) (bif q.cl != r.cl || (!R.eqR q.p r.p || (!(q.x == r.x) || (((M q.a).g q.b).n : Int) != (((M r.a).g r.b).n : Int))) then false else (seek (fun i => bif !S.keq (((M q.a).g q.b).g i).k (((M r.a).g r.b).g i).k || !R.eqDR (((M q.a).g q.b).g i).d (((M r.a).g r.b).g i).d then some false else none) (((M q.a).g q.b).n) 0).getD true)) [] (bodyOf Tryd.f81) (⟨argS [q.sv, r.sv], fun _ => none, 0⟩) := by
  letI := rowsB M bx
  have C := ctxB M bx Bvents5 entsS_nil
  have hp := (sameSh81_pre M bx q r).trans (show _ = bif q.cl != r.cl || (!R.eqR q.p r.p || (!(q.x == r.x) || (((M q.a).g q.b).n : Int) != (((M r.a).g r.b).n : Int))) then some (Res.ret ((fun x : Bool => SV.val (.bool x)) false)) else some (Res.cut .normal ((fun i : Nat => (⟨[(2, .ptr 0 0), (3, .ptr 1 0), (5, (.val (.int .i64 (i : Int))))], [(0, ⟨60, shCells q.cl q.p q.x [q.a, q.b]⟩), (1, ⟨60, shCells r.cl r.p r.x [r.a, r.b]⟩)]⟩ : Cut)) 0)) by
    simp only [cnd_and, cnd_or, cnd_not, Bool.or_assoc]
    first | done | rfl)
  cases hg : q.cl != r.cl || (!R.eqR q.p r.p || (!(q.x == r.x) || (((M q.a).g q.b).n : Int) != (((M r.a).g r.b).n : Int))) with
  | true =>
    rw [hg] at hp
    exact retPre C (by kernel_rfl) hp
  | false =>
    rw [hg] at hp
    show Runs _ _ _ _ ((fun x : Bool => SV.val (.bool x)) ((seek (fun i => bif !S.keq (((M q.a).g q.b).g i).k (((M r.a).g r.b).g i).k || !R.eqDR (((M q.a).g q.b).g i).d (((M r.a).g r.b).g i).d then some false else none) (((M q.a).g q.b).n) 0).getD true)) _ _ _
    refine Runs.seekFn C (n := ((M q.a).g q.b).n) (p := fun i => bif !S.keq (((M q.a).g q.b).g i).k (((M r.a).g r.b).g i).k || !R.eqDR (((M q.a).g q.b).g i).d (((M r.a).g r.b).g i).d then some false else none) (f := (fun x : Bool => SV.val (.bool x))) (z := true) (hd := fun i => (⟨[(2, .ptr 0 0), (3, .ptr 1 0), (5, (.val (.int .i64 (i : Int))))], [(0, ⟨60, shCells q.cl q.p q.x [q.a, q.b]⟩), (1, ⟨60, shCells r.cl r.p r.x [r.a, r.b]⟩)]⟩ : Cut)) (c' := (fun i : Nat => (⟨[(2, .ptr 0 0), (3, .ptr 1 0), (5, (.val (.int .i64 (i : Int))))], [(0, ⟨60, shCells q.cl q.p q.x [q.a, q.b]⟩), (1, ⟨60, shCells r.cl r.p r.x [r.a, r.b]⟩)]⟩ : Cut)) (((M q.a).g q.b).n)) (by kernel_rfl) hp (fun i hi => ?_) ?_ (fun _ => Runs.ret C (sameSh81_post M bx q r (((M q.a).g q.b).n)))
    · refine (sameSh81_round M bx q r i).trans ?_
      have hi2 : i < ((M r.a).g r.b).n := by have := sh_guard hg; omega
      simp only [dlt hi, dge, wr hi ((hM q.a).2 q.b), cond_true, cond_false, Bool.and_self, Bool.true_and, map_cond, toR_cond, some_cond, Option.map_some, Option.map_none, toR_some, toR_none, cnd_and, cnd_or, cnd_not, S.keq, S.eqC, S.alikeC, dlt hi2]
      first | done | rfl
    · refine (sameSh81_round M bx q r (((M q.a).g q.b).n)).trans ?_
      simp only [dnl, cond_false]
      rfl
theorem ent_sameSh81 (M : Nat → Mo) (bx : Nat → XR) (hM : Fit M) : Ent M bx (81, noMem (onShSh fun q r => LB (R.sameSh (q.sh M) (r.sh M)))) := by
  letI := rowsB M bx
  refine EntryS.of (fun args t v h1 h2 => ?_) (inv_stable M bx)
  obtain ⟨q, r, rfl, rfl⟩ := onShSh_eq h1
  cases h2
  refine ⟨ok_val _ _, ?_, fun w m hI => Runs.calls (body := Tryd.f81.body.getD .skip) Tryd.func81 (by kernel_rfl) (by kernel_rfl) ?_ (run_sameSh81 M bx hM q r) w hI m⟩ <;>
  · intro x hx
    simp only [List.mem_cons, List.not_mem_nil, or_false] at hx
    rcases hx with rfl | rfl <;> exact ok_sa _ _
set_option maxRecDepth 100000 in
theorem same40_pre (M : Nat → Mo) (bx : Nat → XR) (a b : Nat) : letI := rowsB M bx
    evK Tryd.prog ext (tab2 BvL5 [(81, noMem (onShSh fun q r => LB (R.sameSh (q.sh M) (r.sh M))))]) 80 27 (seqL (preOf (bodyOf Tryd.f40))) (⟨argS [.xs [a], .xs [b]], fun _ => none, 0⟩) (grab Tryd.prog Tryd.f40 [0, 1, 5] [] 0) =
    (bif (↑(M a).n : Int) != (↑(M b).n : Int) then some (Res.ret (SV.val (Value.bool false))) else some (Res.cut Ex.normal (Cut.mk [(0, SV.xs [a]), (1, SV.xs [b]), (5, SV.val (Value.int IntKind.i64 0))] []))) := by kernel_rfl
set_option maxRecDepth 100000 in
theorem same40_round (M : Nat → Mo) (bx : Nat → XR) (a b : Nat) (i : Nat) : letI := rowsB M bx
    evK Tryd.prog ext (tab2 BvL5 [(81, noMem (onShSh fun q r => LB (R.sameSh (q.sh M) (r.sh M))))]) 80 27 (seqL (flat (roundOf (bodyOf Tryd.f40)))) ((⟨[(0, .xs [a]), (1, .xs [b]), (5, (.val (.int .i64 (i : Int))))], []⟩ : Cut).st 0) (grab Tryd.prog Tryd.f40 [0, 1, 5] [] 0) =
    (bif decide ((↑i : Int) < (↑(M a).n : Int)) then 
     (bif decide (0 ≤ (↑i : Int)) && decide ((↑i : Int) < (↑(M a).n : Int)) then 
      (bif decide (0 ≤ (↑i : Int)) && decide ((↑i : Int) < (↑(M b).n : Int)) then 
       (bif !R.sameSh (SA.sh M (SA.mk ((M a).g i).cl ((M a).g i).p ((M a).g i).x a i)) (SA.sh M (SA.mk ((M b).g i).cl ((M b).g i).p ((M b).g i).x b i)) then some (Res.ret (SV.val (Value.bool false))) else some (Res.cut Ex.normal (Cut.mk [(0, SV.xs [a]), (1, SV.xs [b]), (5, SV.val (Value.int IntKind.i64 (IntKind.i64.wrap ((↑i : Int) + 1))))] []))) else none) else none) else some (Res.cut (Ex.exit 0) (Cut.mk [(0, SV.xs [a]), (1, SV.xs [b]), (5, SV.val (Value.int IntKind.i64 (↑i : Int)))] []))) := by kernel_rfl
set_option maxRecDepth 100000 in
theorem same40_post (M : Nat → Mo) (bx : Nat → XR) (a b : Nat) (i : Nat) : letI := rowsB M bx
    evK Tryd.prog ext (tab2 BvL5 [(81, noMem (onShSh fun q r => LB (R.sameSh (q.sh M) (r.sh M))))]) 80 27 (seqL (postOf (bodyOf Tryd.f40))) ((⟨[(0, .xs [a]), (1, .xs [b]), (5, (.val (.int .i64 (i : Int))))], []⟩ : Cut).st 0) (grab Tryd.prog Tryd.f40 [0, 1, 5] [] 0) =
    some (Res.ret (SV.val (Value.bool true))) := by kernel_rfl
set_option maxRecDepth 100000 in
theorem run_same40 (M : Nat → Mo) (bx : Nat → XR) (hM : Fit M) (a b : Nat) : letI := rowsB M bx
    Runs Tryd.prog (Inv M bx) 27 Tryd.f40 ((fun x : Bool => SV.val (.bool x)) (bif ((M a).n : Int) != ((M b).n : Int) then false else (seek (fun i => bif !R.sameSh ((M a).g i) ((M b).g i) then some false else none) ((M a).n) 0).getD true)) [] (bodyOf Tryd.f40) (⟨argS [.xs [a], .xs [b]], fun _ => none, 0⟩) := by
  letI := rowsB M bx
  have C := ctxB M bx Bvents5 (entsS_cons (ent_sameSh81 M bx hM) entsS_nil)
  have hp := (same40_pre M bx a b).trans (show _ = bif ((M a).n : Int) != ((M b).n : Int) then some (Res.ret ((fun x : Bool => SV.val (.bool x)) false)) else some (Res.cut .normal ((fun i : Nat => (⟨[(0, .xs [a]), (1, .xs [b]), (5, (.val (.int .i64 (i : Int))))], []⟩ : Cut)) 0)) by
    simp only [cnd_and, cnd_or, cnd_not, Bool.or_assoc]
    first | done | rfl)
  cases hg : ((M a).n : Int) != ((M b).n : Int) with
  | true =>
    rw [hg] at hp
    exact retPre C (by kernel_rfl) hp
  | false =>
    rw [hg] at hp
    show Runs _ _ _ _ ((fun x : Bool => SV.val (.bool x)) ((seek (fun i => bif !R.sameSh ((M a).g i) ((M b).g i) then some false else none) ((M a).n) 0).getD true)) _ _ _
    refine Runs.seekFn C (n := (M a).n) (p := fun i => bif !R.sameSh ((M a).g i) ((M b).g i) then some false else none) (f := (fun x : Bool => SV.val (.bool x))) (z := true) (hd := fun i => (⟨[(0, .xs [a]), (1, .xs [b]), (5, (.val (.int .i64 (i : Int))))], []⟩ : Cut)) (c' := (fun i : Nat => (⟨[(0, .xs [a]), (1, .xs [b]), (5, (.val (.int .i64 (i : Int))))], []⟩ : Cut)) ((M a).n)) (by kernel_rfl) hp (fun i hi => ?_) ?_ (fun _ => Runs.ret C (same40_post M bx a b ((M a).n)))
    · refine (same40_round M bx a b i).trans ?_
      have hi2 : i < (M b).n := by have := eq_of_bne hg; omega
      simp only [dlt hi, dge, wr hi (hM a).1, cond_true, cond_false, Bool.and_self, Bool.true_and, map_cond, toR_cond, some_cond, Option.map_some, Option.map_none, toR_some, toR_none, cnd_and, cnd_or, cnd_not, S.keq, S.eqC, S.alikeC, dlt hi2]
      first | done | rfl
    · refine (same40_round M bx a b ((M a).n)).trans ?_
      simp only [dnl, cond_false]
      rfl
theorem ent_same40 (M : Nat → Mo) (bx : Nat → XR) (hM : Fit M) : Ent M bx (40, noMem (onMM fun a b => LB (R.sameM (M a) (M b)))) := by
  letI := rowsB M bx
  refine EntryS.of (fun args t v h1 h2 => ?_) (inv_stable M bx)
  obtain ⟨a, b, rfl, rfl⟩ := onMM_eq h1
  cases h2
  refine ⟨ok_val _ _, ?_, fun w m hI => Runs.calls (body := Tryd.f40.body.getD .skip) Tryd.func40 (by kernel_rfl) (by kernel_rfl) ?_ (run_same40 M bx hM a b) w hI m⟩ <;>
  · intro x hx
    simp only [List.mem_cons, List.not_mem_nil, or_false] at hx
    rcases hx with rfl | rfl <;> exact ok_xs
end Go.Proofs.YtaojjpdlfnphiaaDoor.PDescKinds
end
section
/- Moments: Broken. Written by a program of this session. -/
set_option linter.unusedSimpArgs false
set_option linter.unusedVariables false
set_option linter.unusedSectionVars false
namespace Go.Proofs.YtaojjpdlfnphiaaDoor.PDescKinds
open Go.RowKit Go.Ev
theorem dgeF {i n : Nat} (h : i < n) : decide ((i : Int) ≥ (n : Int)) = false := decide_eq_false (by omega)
theorem dgeT {i n : Nat} (h : n ≤ i) : decide ((i : Int) ≥ (n : Int)) = true := decide_eq_true (by omega)
namespace S
/-- The rules of invariant.Broken. -/
def ruleO (b a : Sh) : Option Int := bif a.cl != b.cl then some 2 else bif !b.x && a.x then some 3 else bif !b.x && !eqC a.p b.p then some 4 else bif !b.x && decide (freshAt b a ≥ 0) then some 5 else bif lost b a then some 6 else none
def brokenO (b a : Mo) : Int × Int := (seek (fun i => bif decide ((i : Int) ≥ (a.n : Int)) then some ((i : Int) + 1, 1) else (ruleO (b.g i) (a.g i)).map fun r => ((i : Int) + 1, r)) b.n 0).getD (0, 0)
end S
namespace R
end R
def thenOf : Code → Code
  | .cond _ t _ => t
  | c => c
def elseOf : Code → Code
  | .cond _ _ e => e
  | c => c
set_option maxRecDepth 100000 in
theorem broken37_pre (M : Nat → Mo) (bx : Nat → XR) (a b : Nat) : letI := rowsB M bx
    evK Tryd.prog ext (tab2 BvL5 [(110, idxC M), (107, noMem (onShSh fun q r => LB (S.lost (q.sh M) (r.sh M))))]) 120 43 (seqL (preOf (bodyOf Tryd.f37))) (⟨argS [.xs [a], .xs [b]], fun _ => none, 0⟩) (grab Tryd.prog Tryd.f37 [0, 1, 10, 11, 12] [] 0) =
    some (Res.cut Ex.normal (Cut.mk [(0, SV.xs [a]), (1, SV.xs [b]), (10, SV.xs [a]), (11, SV.val (Value.int IntKind.i64 (↑(M a).n : Int))), (12, SV.val (Value.int IntKind.i64 0))] [])) := by kernel_rfl
set_option maxRecDepth 100000 in
theorem broken37_round (M : Nat → Mo) (bx : Nat → XR) (a b : Nat) (i : Nat) : letI := rowsB M bx
    evK Tryd.prog ext (tab2 BvL5 [(110, idxC M), (107, noMem (onShSh fun q r => LB (S.lost (q.sh M) (r.sh M))))]) 120 43 (seqL (flat (roundOf (bodyOf Tryd.f37)))) ((⟨[(0, .xs [a]), (1, .xs [b]), (10, .xs [a]), (11, .val (.int .i64 (M a).n)), (12, (.val (.int .i64 (i : Int))))], []⟩ : Cut).st 0) (grab Tryd.prog Tryd.f37 [0, 1, 10, 11, 12] [] 0) =
    (bif decide ((↑i : Int) < (↑(M a).n : Int)) then 
     (bif decide (0 ≤ (↑i : Int)) && decide ((↑i : Int) < (↑(M a).n : Int)) then 
      (bif decide ((↑i : Int) ≥ (↑(M b).n : Int)) then some (Res.ret (SV.val (Value.tuple #[Value.int IntKind.i64 (IntKind.i64.wrap ((↑i : Int) + 1)), Value.int IntKind.i64 1]))) else 
       (bif decide (0 ≤ (↑i : Int)) && decide ((↑i : Int) < (↑(M b).n : Int)) then 
        (bif ((M b).g i).cl != ((M a).g i).cl then some (Res.ret (SV.val (Value.tuple #[Value.int IntKind.i64 (IntKind.i64.wrap ((↑i : Int) + 1)), Value.int IntKind.i64 2]))) else 
         (bif decide (0 ≤ (↑i : Int)) && decide ((↑i : Int) < (↑(M b).n : Int)) then 
          (bif !((M a).g i).x then 
           (bif ((M b).g i).x then some (Res.ret (SV.val (Value.tuple #[Value.int IntKind.i64 (IntKind.i64.wrap ((↑i : Int) + 1)), Value.int IntKind.i64 3]))) else 
            (bif decide (0 ≤ (↑i : Int)) && decide ((↑i : Int) < (↑(M b).n : Int)) then 
             (bif !((M a).g i).x then 
              (bif !S.eqC ((M b).g i).p ((M a).g i).p then some (Res.ret (SV.val (Value.tuple #[Value.int IntKind.i64 (IntKind.i64.wrap ((↑i : Int) + 1)), Value.int IntKind.i64 4]))) else 
               (bif decide (0 ≤ (↑i : Int)) && decide ((↑i : Int) < (↑(M b).n : Int)) then 
                (bif !((M a).g i).x then 
                 (bif decide (S.freshAt (SA.sh M (SA.mk ((M a).g i).cl ((M a).g i).p ((M a).g i).x a i)) ((M b).g i) ≥ 0) then some (Res.ret (SV.val (Value.tuple #[Value.int IntKind.i64 (IntKind.i64.wrap ((↑i : Int) + 1)), Value.int IntKind.i64 5]))) else 
                  (bif decide (0 ≤ (↑i : Int)) && decide ((↑i : Int) < (↑(M b).n : Int)) then 
                   (bif S.lost (SA.sh M (SA.mk ((M a).g i).cl ((M a).g i).p ((M a).g i).x a i)) (SA.sh M (SA.mk ((M b).g i).cl ((M b).g i).p ((M b).g i).x b i)) then some (Res.ret (SV.val (Value.tuple #[Value.int IntKind.i64 (IntKind.i64.wrap ((↑i : Int) + 1)), Value.int IntKind.i64 6]))) else some (Res.cut Ex.normal (Cut.mk [(0, SV.xs [a]), (1, SV.xs [b]), (10, SV.xs [a]), (11, SV.val (Value.int IntKind.i64 (↑(M a).n : Int))), (12, SV.val (Value.int IntKind.i64 (IntKind.i64.wrap ((↑i : Int) + 1))))] []))) else none)) else 
                 (bif decide (0 ≤ (↑i : Int)) && decide ((↑i : Int) < (↑(M b).n : Int)) then 
                  (bif S.lost (SA.sh M (SA.mk ((M a).g i).cl ((M a).g i).p ((M a).g i).x a i)) (SA.sh M (SA.mk ((M b).g i).cl ((M b).g i).p ((M b).g i).x b i)) then some (Res.ret (SV.val (Value.tuple #[Value.int IntKind.i64 (IntKind.i64.wrap ((↑i : Int) + 1)), Value.int IntKind.i64 6]))) else some (Res.cut Ex.normal (Cut.mk [(0, SV.xs [a]), (1, SV.xs [b]), (10, SV.xs [a]), (11, SV.val (Value.int IntKind.i64 (↑(M a).n : Int))), (12, SV.val (Value.int IntKind.i64 (IntKind.i64.wrap ((↑i : Int) + 1))))] []))) else none)) else none)) else 
              (bif decide (0 ≤ (↑i : Int)) && decide ((↑i : Int) < (↑(M b).n : Int)) then 
               (bif !((M a).g i).x then 
                (bif decide (S.freshAt (SA.sh M (SA.mk ((M a).g i).cl ((M a).g i).p ((M a).g i).x a i)) ((M b).g i) ≥ 0) then some (Res.ret (SV.val (Value.tuple #[Value.int IntKind.i64 (IntKind.i64.wrap ((↑i : Int) + 1)), Value.int IntKind.i64 5]))) else 
                 (bif decide (0 ≤ (↑i : Int)) && decide ((↑i : Int) < (↑(M b).n : Int)) then 
                  (bif S.lost (SA.sh M (SA.mk ((M a).g i).cl ((M a).g i).p ((M a).g i).x a i)) (SA.sh M (SA.mk ((M b).g i).cl ((M b).g i).p ((M b).g i).x b i)) then some (Res.ret (SV.val (Value.tuple #[Value.int IntKind.i64 (IntKind.i64.wrap ((↑i : Int) + 1)), Value.int IntKind.i64 6]))) else some (Res.cut Ex.normal (Cut.mk [(0, SV.xs [a]), (1, SV.xs [b]), (10, SV.xs [a]), (11, SV.val (Value.int IntKind.i64 (↑(M a).n : Int))), (12, SV.val (Value.int IntKind.i64 (IntKind.i64.wrap ((↑i : Int) + 1))))] []))) else none)) else 
                (bif decide (0 ≤ (↑i : Int)) && decide ((↑i : Int) < (↑(M b).n : Int)) then 
                 (bif S.lost (SA.sh M (SA.mk ((M a).g i).cl ((M a).g i).p ((M a).g i).x a i)) (SA.sh M (SA.mk ((M b).g i).cl ((M b).g i).p ((M b).g i).x b i)) then some (Res.ret (SV.val (Value.tuple #[Value.int IntKind.i64 (IntKind.i64.wrap ((↑i : Int) + 1)), Value.int IntKind.i64 6]))) else some (Res.cut Ex.normal (Cut.mk [(0, SV.xs [a]), (1, SV.xs [b]), (10, SV.xs [a]), (11, SV.val (Value.int IntKind.i64 (↑(M a).n : Int))), (12, SV.val (Value.int IntKind.i64 (IntKind.i64.wrap ((↑i : Int) + 1))))] []))) else none)) else none)) else none)) else 
           (bif decide (0 ≤ (↑i : Int)) && decide ((↑i : Int) < (↑(M b).n : Int)) then 
            (bif !((M a).g i).x then 
             (bif !S.eqC ((M b).g i).p ((M a).g i).p then some (Res.ret (SV.val (Value.tuple #[Value.int IntKind.i64 (IntKind.i64.wrap ((↑i : Int) + 1)), Value.int IntKind.i64 4]))) else 
              (bif decide (0 ≤ (↑i : Int)) && decide ((↑i : Int) < (↑(M b).n : Int)) then 
               (bif !((M a).g i).x then 
                (bif decide (S.freshAt (SA.sh M (SA.mk ((M a).g i).cl ((M a).g i).p ((M a).g i).x a i)) ((M b).g i) ≥ 0) then some (Res.ret (SV.val (Value.tuple #[Value.int IntKind.i64 (IntKind.i64.wrap ((↑i : Int) + 1)), Value.int IntKind.i64 5]))) else 
                 (bif decide (0 ≤ (↑i : Int)) && decide ((↑i : Int) < (↑(M b).n : Int)) then 
                  (bif S.lost (SA.sh M (SA.mk ((M a).g i).cl ((M a).g i).p ((M a).g i).x a i)) (SA.sh M (SA.mk ((M b).g i).cl ((M b).g i).p ((M b).g i).x b i)) then some (Res.ret (SV.val (Value.tuple #[Value.int IntKind.i64 (IntKind.i64.wrap ((↑i : Int) + 1)), Value.int IntKind.i64 6]))) else some (Res.cut Ex.normal (Cut.mk [(0, SV.xs [a]), (1, SV.xs [b]), (10, SV.xs [a]), (11, SV.val (Value.int IntKind.i64 (↑(M a).n : Int))), (12, SV.val (Value.int IntKind.i64 (IntKind.i64.wrap ((↑i : Int) + 1))))] []))) else none)) else 
                (bif decide (0 ≤ (↑i : Int)) && decide ((↑i : Int) < (↑(M b).n : Int)) then 
                 (bif S.lost (SA.sh M (SA.mk ((M a).g i).cl ((M a).g i).p ((M a).g i).x a i)) (SA.sh M (SA.mk ((M b).g i).cl ((M b).g i).p ((M b).g i).x b i)) then some (Res.ret (SV.val (Value.tuple #[Value.int IntKind.i64 (IntKind.i64.wrap ((↑i : Int) + 1)), Value.int IntKind.i64 6]))) else some (Res.cut Ex.normal (Cut.mk [(0, SV.xs [a]), (1, SV.xs [b]), (10, SV.xs [a]), (11, SV.val (Value.int IntKind.i64 (↑(M a).n : Int))), (12, SV.val (Value.int IntKind.i64 (IntKind.i64.wrap ((↑i : Int) + 1))))] []))) else none)) else none)) else 
             (bif decide (0 ≤ (↑i : Int)) && decide ((↑i : Int) < (↑(M b).n : Int)) then 
              (bif !((M a).g i).x then 
               (bif decide (S.freshAt (SA.sh M (SA.mk ((M a).g i).cl ((M a).g i).p ((M a).g i).x a i)) ((M b).g i) ≥ 0) then some (Res.ret (SV.val (Value.tuple #[Value.int IntKind.i64 (IntKind.i64.wrap ((↑i : Int) + 1)), Value.int IntKind.i64 5]))) else 
                (bif decide (0 ≤ (↑i : Int)) && decide ((↑i : Int) < (↑(M b).n : Int)) then 
                 (bif S.lost (SA.sh M (SA.mk ((M a).g i).cl ((M a).g i).p ((M a).g i).x a i)) (SA.sh M (SA.mk ((M b).g i).cl ((M b).g i).p ((M b).g i).x b i)) then some (Res.ret (SV.val (Value.tuple #[Value.int IntKind.i64 (IntKind.i64.wrap ((↑i : Int) + 1)), Value.int IntKind.i64 6]))) else some (Res.cut Ex.normal (Cut.mk [(0, SV.xs [a]), (1, SV.xs [b]), (10, SV.xs [a]), (11, SV.val (Value.int IntKind.i64 (↑(M a).n : Int))), (12, SV.val (Value.int IntKind.i64 (IntKind.i64.wrap ((↑i : Int) + 1))))] []))) else none)) else 
               (bif decide (0 ≤ (↑i : Int)) && decide ((↑i : Int) < (↑(M b).n : Int)) then 
                (bif S.lost (SA.sh M (SA.mk ((M a).g i).cl ((M a).g i).p ((M a).g i).x a i)) (SA.sh M (SA.mk ((M b).g i).cl ((M b).g i).p ((M b).g i).x b i)) then some (Res.ret (SV.val (Value.tuple #[Value.int IntKind.i64 (IntKind.i64.wrap ((↑i : Int) + 1)), Value.int IntKind.i64 6]))) else some (Res.cut Ex.normal (Cut.mk [(0, SV.xs [a]), (1, SV.xs [b]), (10, SV.xs [a]), (11, SV.val (Value.int IntKind.i64 (↑(M a).n : Int))), (12, SV.val (Value.int IntKind.i64 (IntKind.i64.wrap ((↑i : Int) + 1))))] []))) else none)) else none)) else none)) else none)) else none)) else none) else some (Res.cut (Ex.exit 0) (Cut.mk [(0, SV.xs [a]), (1, SV.xs [b]), (10, SV.xs [a]), (11, SV.val (Value.int IntKind.i64 (↑(M a).n : Int))), (12, SV.val (Value.int IntKind.i64 (↑i : Int)))] []))) := by kernel_rfl
set_option maxRecDepth 100000 in
theorem broken37_post (M : Nat → Mo) (bx : Nat → XR) (a b : Nat) (i : Nat) : letI := rowsB M bx
    evK Tryd.prog ext (tab2 BvL5 [(110, idxC M), (107, noMem (onShSh fun q r => LB (S.lost (q.sh M) (r.sh M))))]) 120 43 (seqL (postOf (bodyOf Tryd.f37))) ((⟨[(0, .xs [a]), (1, .xs [b]), (10, .xs [a]), (11, .val (.int .i64 (M a).n)), (12, (.val (.int .i64 (i : Int))))], []⟩ : Cut).st 0) (grab Tryd.prog Tryd.f37 [0, 1, 10, 11, 12] [] 0) =
    some (Res.ret (SV.val (Value.tuple #[Value.int IntKind.i64 0, Value.int IntKind.i64 0]))) := by kernel_rfl
set_option maxRecDepth 100000 in
theorem run_broken37 (M : Nat → Mo) (bx : Nat → XR) (hM : Fit M) (a b : Nat) : letI := rowsB M bx
    Runs Tryd.prog (Inv M bx) 43 Tryd.f37 ((fun p : Int × Int => SV.val (.tuple #[.int .i64 p.1, .int .i64 p.2])) ((seek (fun i => bif decide ((i : Int) ≥ ((M b).n : Int)) then some ((i : Int) + 1, 1) else (S.ruleO ((M a).g i) ((M b).g i)).map fun r => ((i : Int) + 1, r)) ((M a).n) 0).getD (0, 0))) [] (bodyOf Tryd.f37) (⟨argS [.xs [a], .xs [b]], fun _ => none, 0⟩) := by
  letI := rowsB M bx
  have C := ctxB M bx Bvents5 (entsS_cons (ent_idxC M bx hM) (entsS_cons (ent_lost107 M bx hM) entsS_nil))
  refine Runs.seekFn C (n := (M a).n) (p := fun i => bif decide ((i : Int) ≥ ((M b).n : Int)) then some ((i : Int) + 1, 1) else (S.ruleO ((M a).g i) ((M b).g i)).map fun r => ((i : Int) + 1, r)) (f := (fun p : Int × Int => SV.val (.tuple #[.int .i64 p.1, .int .i64 p.2]))) (z := (0, 0)) (hd := fun i => (⟨[(0, .xs [a]), (1, .xs [b]), (10, .xs [a]), (11, .val (.int .i64 (M a).n)), (12, (.val (.int .i64 (i : Int))))], []⟩ : Cut)) (c' := (fun i : Nat => (⟨[(0, .xs [a]), (1, .xs [b]), (10, .xs [a]), (11, .val (.int .i64 (M a).n)), (12, (.val (.int .i64 (i : Int))))], []⟩ : Cut)) ((M a).n)) (by kernel_rfl) (broken37_pre M bx a b) (fun i hi => ?_) ?_ (fun _ => Runs.ret C (broken37_post M bx a b ((M a).n)))
  · refine (broken37_round M bx a b i).trans ?_
    rcases Nat.lt_or_ge i ((M b).n) with hi2 | hi2
    · simp only [dgeF hi2, dlt hi2, dlt hi, dge, wr hi (hM a).1, cond_true, cond_false, Bool.and_self, Bool.true_and, map_cond, toR_cond, some_cond, Option.map_some, Option.map_none, toR_some, toR_none, cnd_and, cnd_or, cnd_not, S.keq, S.eqC, S.alikeC, S.ruleO, Option.map_some, Option.map_none]
      first | done | rfl
    · simp only [dgeT hi2, dlt hi, dge, wr hi (hM a).1, cond_true, cond_false, Bool.and_self, Bool.true_and, map_cond, toR_cond, some_cond, Option.map_some, Option.map_none, toR_some, toR_none, cnd_and, cnd_or, cnd_not, S.keq, S.eqC, S.alikeC, S.ruleO, Option.map_some, Option.map_none]
      first | done | rfl
  · refine (broken37_round M bx a b ((M a).n)).trans ?_
    simp only [dnl, cond_false]
    rfl
theorem ent_broken37 (M : Nat → Mo) (bx : Nat → XR) (hM : Fit M) : Ent M bx (37, noMem (onMM fun a b => LII (S.brokenO (M a) (M b)))) := by
  letI := rowsB M bx
  refine EntryS.of (fun args t v h1 h2 => ?_) (inv_stable M bx)
  obtain ⟨a, b, rfl, rfl⟩ := onMM_eq h1
  cases h2
  refine ⟨ok_val _ _, ?_, fun w m hI => Runs.calls (body := Tryd.f37.body.getD .skip) Tryd.func37 (by kernel_rfl) (by kernel_rfl) ?_ (run_broken37 M bx hM a b) w hI m⟩ <;>
  · intro x hx
    simp only [List.mem_cons, List.not_mem_nil, or_false] at hx
    rcases hx with rfl | rfl <;> exact ok_xs
end Go.Proofs.YtaojjpdlfnphiaaDoor.PDescKinds
end
section
/- Moments: few; the law's own pieces. Written by a program of this session. -/
set_option linter.unusedSimpArgs false
set_option linter.unusedVariables false
set_option linter.unusedSectionVars false
namespace Go.Proofs.YtaojjpdlfnphiaaDoor.PDescKinds
open Go.RowKit Go.Ev
namespace S
def fewAcc (s : Mo) : Nat → Nat → Int → Int
  | 0, _, x => x
  | k + 1, i, x => bif decide ((i : Int) < (s.n : Int)) && decide ((i : Int) ≤ 60) then fewAcc s k (i + 1) (IntKind.i64.wrap (x + ((s.g i).n : Int))) else x
def few (s : Mo) : Bool := decide ((s.n : Int) ≤ 60) && decide (fewAcc s 62 0 0 ≤ 400)
end S
set_option maxRecDepth 100000 in
theorem few35_pre (M : Nat → Mo) (bx : Nat → XR) (a : Nat) (x : Int) : letI := rowsB M bx
    evK Tryd.prog ext (tab2 BvL5 []) 80 30 (seqL (preOf (bodyOf Tryd.f35))) (⟨argS [.xs [a]], fun _ => none, 0⟩) (grab Tryd.prog Tryd.f35 [0, 3, 4] [] 0) =
    some (Res.cut Ex.normal (Cut.mk [(0, SV.xs [a]), (3, SV.val (Value.int IntKind.i64 0)), (4, SV.val (Value.int IntKind.i64 0))] [])) := by kernel_rfl
set_option maxRecDepth 100000 in
theorem few35_round (M : Nat → Mo) (bx : Nat → XR) (a : Nat) (x : Int) (i : Nat) : letI := rowsB M bx
    evK Tryd.prog ext (tab2 BvL5 []) 80 30 (seqL (flat (roundOf (bodyOf Tryd.f35)))) ((⟨[(0, .xs [a]), (3, .val (.int .i64 x)), (4, (.val (.int .i64 (i : Int))))], []⟩ : Cut).st 0) (grab Tryd.prog Tryd.f35 [0, 3, 4] [] 0) =
    (bif decide ((↑i : Int) < (↑(M a).n : Int)) then 
     (bif decide ((↑i : Int) ≤ 60) then 
      (bif decide (0 ≤ (↑i : Int)) && decide ((↑i : Int) < (↑(M a).n : Int)) then some (Res.cut Ex.normal (Cut.mk [(0, SV.xs [a]), (3, SV.val (Value.int IntKind.i64 (IntKind.i64.wrap (x + (↑((M a).g i).n : Int))))), (4, SV.val (Value.int IntKind.i64 (IntKind.i64.wrap ((↑i : Int) + 1))))] [])) else none) else some (Res.cut (Ex.exit 0) (Cut.mk [(0, SV.xs [a]), (3, SV.val (Value.int IntKind.i64 x)), (4, SV.val (Value.int IntKind.i64 (↑i : Int)))] []))) else some (Res.cut (Ex.exit 0) (Cut.mk [(0, SV.xs [a]), (3, SV.val (Value.int IntKind.i64 x)), (4, SV.val (Value.int IntKind.i64 (↑i : Int)))] []))) := by kernel_rfl
set_option maxRecDepth 100000 in
theorem few35_post (M : Nat → Mo) (bx : Nat → XR) (a : Nat) (x : Int) (i : Nat) : letI := rowsB M bx
    evK Tryd.prog ext (tab2 BvL5 []) 80 30 (seqL (postOf (bodyOf Tryd.f35))) ((⟨[(0, .xs [a]), (3, .val (.int .i64 x)), (4, (.val (.int .i64 (i : Int))))], []⟩ : Cut).st 0) (grab Tryd.prog Tryd.f35 [0, 3, 4] [] 0) =
    (bif decide ((↑(M a).n : Int) ≤ 60) then some (Res.ret (SV.val (Value.bool (decide (x ≤ 400))))) else some (Res.ret (SV.val (Value.bool false)))) := by kernel_rfl
theorem run_fewL (M : Nat → Mo) (bx : Nat → XR) (hM : Fit M) (a : Nat) : letI := rowsB M bx
    ∀ (k i : Nat) (x : Int), 61 ≤ i + k → Runs Tryd.prog (Inv M bx) 30 Tryd.f35 (.val (.bool (decide (((M a).n : Int) ≤ 60) && decide (S.fewAcc (M a) (k + 1) i x ≤ 400))))
      [.loop (idOf (bodyOf Tryd.f35)) (roundOf (bodyOf Tryd.f35)) k, .rest (postOf (bodyOf Tryd.f35))] (flat (roundOf (bodyOf Tryd.f35))) ((⟨[(0, .xs [a]), (3, .val (.int .i64 x)), (4, .val (.int .i64 (i : Int)))], []⟩ : Cut).st 0) := by
  letI := rowsB M bx
  have C := ctxB M bx Bvents5 entsS_nil
  intro k
  induction k with
  | zero =>
    intro i x h
    have h60 : decide ((i : Int) ≤ 60) = false := decide_eq_false (by omega)
    have e : S.fewAcc (M a) (0 + 1) i x = x := by simp only [S.fewAcc, h60, Bool.and_false, cond_false]
    rw [e]
    have hr := few35_round M bx a x i
    rw [h60] at hr
    have hpost : Runs Tryd.prog (Inv M bx) 30 Tryd.f35 (.val (.bool (decide (((M a).n : Int) ≤ 60) && decide (x ≤ 400)))) [] (postOf (bodyOf Tryd.f35)) ((⟨[(0, .xs [a]), (3, .val (.int .i64 x)), (4, .val (.int .i64 (i : Int)))], []⟩ : Cut).st 0) := Runs.ret C ((few35_post M bx a x i).trans (by
      cases decide (((M a).n : Int) ≤ 60) <;> rfl))
    exact Runs.step (ex := .exit (idOf (bodyOf Tryd.f35))) (c := (⟨[(0, .xs [a]), (3, .val (.int .i64 x)), (4, .val (.int .i64 (i : Int)))], []⟩ : Cut)) C (hr.trans (by cases decide ((i : Int) < ((M a).n : Int)) <;> rfl)) (RunsX.out (RunsX.rest hpost))
  | succ k ih =>
    intro i x h
    have hr := few35_round M bx a x i
    have hpost : ∀ y, S.fewAcc (M a) (k + 1 + 1) i x = y → y = x → Runs Tryd.prog (Inv M bx) 30 Tryd.f35 (.val (.bool (decide (((M a).n : Int) ≤ 60) && decide (y ≤ 400)))) [] (postOf (bodyOf Tryd.f35)) ((⟨[(0, .xs [a]), (3, .val (.int .i64 x)), (4, .val (.int .i64 (i : Int)))], []⟩ : Cut).st 0) := fun y _ hy => by
      rw [hy]
      exact Runs.ret C ((few35_post M bx a x i).trans (by cases decide (((M a).n : Int) ≤ 60) <;> rfl))
    by_cases hi : i < (M a).n
    · by_cases h60 : (i : Int) ≤ 60
      · have e : S.fewAcc (M a) (k + 1 + 1) i x = S.fewAcc (M a) (k + 1) (i + 1) (IntKind.i64.wrap (x + (((M a).g i).n : Int))) := by
          show (bif decide ((i : Int) < ((M a).n : Int)) && decide ((i : Int) ≤ 60) then _ else _) = _
          rw [dlt hi, decide_eq_true h60]; rfl
        rw [e]
        refine Runs.step (ex := .normal) (c := ⟨[(0, .xs [a]), (3, .val (.int .i64 (IntKind.i64.wrap (x + (((M a).g i).n : Int))))), (4, .val (.int .i64 ((i + 1 : Nat) : Int)))], []⟩) C (hr.trans ?_) (RunsX.again (ih (i + 1) (IntKind.i64.wrap (x + (((M a).g i).n : Int))) (by omega)))
        simp only [dlt hi, dge, decide_eq_true h60, wr hi (hM a).1, cond_true, Bool.and_self]
        first | done | rfl
      · have e : S.fewAcc (M a) (k + 1 + 1) i x = x := by
          show (bif decide ((i : Int) < ((M a).n : Int)) && decide ((i : Int) ≤ 60) then _ else _) = _
          rw [decide_eq_false h60, Bool.and_false]; rfl
        have hp := hpost _ e rfl
        rw [e]
        refine Runs.step (ex := .exit (idOf (bodyOf Tryd.f35))) (c := (⟨[(0, .xs [a]), (3, .val (.int .i64 x)), (4, .val (.int .i64 (i : Int)))], []⟩ : Cut)) C (hr.trans ?_) (RunsX.out (RunsX.rest hp))
        simp only [dlt hi, decide_eq_false h60, cond_true, cond_false]
        rfl
    · have hd : decide ((i : Int) < ((M a).n : Int)) = false := decide_eq_false (by omega)
      have e : S.fewAcc (M a) (k + 1 + 1) i x = x := by
        show (bif decide ((i : Int) < ((M a).n : Int)) && decide ((i : Int) ≤ 60) then _ else _) = _
        rw [hd, Bool.false_and]; rfl
      have hp := hpost _ e rfl
      rw [e]
      refine Runs.step (ex := .exit (idOf (bodyOf Tryd.f35))) (c := (⟨[(0, .xs [a]), (3, .val (.int .i64 x)), (4, .val (.int .i64 (i : Int)))], []⟩ : Cut)) C (hr.trans ?_) (RunsX.out (RunsX.rest hp))
      simp only [hd, cond_false]
      rfl
theorem run_few35 (M : Nat → Mo) (bx : Nat → XR) (hM : Fit M) (a : Nat) : letI := rowsB M bx
    Runs Tryd.prog (Inv M bx) 30 Tryd.f35 (.val (.bool (S.few (M a)))) [] (bodyOf Tryd.f35) ⟨argS [.xs [a]], fun _ => none, 0⟩ := by
  letI := rowsB M bx
  have C := ctxB M bx Bvents5 entsS_nil
  exact Runs.looped C (by kernel_rfl) 61 (few35_pre M bx a 0) (run_fewL M bx hM a 61 0 0 (by omega))
theorem ent_few35 (M : Nat → Mo) (bx : Nat → XR) (hM : Fit M) : Ent M bx (35, noMem (onM fun a => LB (S.few (M a)))) := by
  letI := rowsB M bx
  refine EntryS.of (fun args t v h1 h2 => ?_) (inv_stable M bx)
  obtain ⟨a, rfl, rfl⟩ := onM_eq h1
  cases h2
  refine ⟨ok_val _ _, ?_, fun w m hI => Runs.calls (body := Tryd.f35.body.getD .skip) Tryd.func35 (by kernel_rfl) (by kernel_rfl) ?_ (run_few35 M bx hM a) w hI m⟩ <;>
  · intro x hx
    simp only [List.mem_cons, List.not_mem_nil, or_false] at hx
    rcases hx with rfl; exact ok_xs
namespace S
end S
end Go.Proofs.YtaojjpdlfnphiaaDoor.PDescKinds
end
section
/- What the rows' arguments read as_: descriptors as_ plain data; what the rows' tables give. -/
set_option linter.unusedSimpArgs false
set_option linter.unusedVariables false
set_option linter.unusedSectionVars false
namespace Go.Proofs.YtaojjpdlfnphiaaDoor.PDescKinds
open Go.ChangeShapes Go.WideShapes Go.ChangeAt Go.RowKit Go.Lib
section
variable {H : Type} {enc : TypeId × Value → H} {P : Program} {w : World} {base : Nat} {spare : Nat → Bool} {held : Bool} {fuel : Nat} {t : TypeId} {cs : List Value} {x : DataW H × List MemPlace}
theorem read_int {k : IntKind} (ht : P.underlying t = some (.int k)) (h : DataW.trod enc P w base spare held fuel t cs = some x) : ∃ n, cs = [.int k n] := by
  obtain ⟨n, h, _⟩ := DataW.trod_int ht h
  exact ⟨n, h⟩
theorem read_bool (ht : P.underlying t = some .bool) (h : DataW.trod enc P w base spare held fuel t cs = some x) : ∃ b, cs = [.bool b] := by
  cases fuel with
  | zero => simp [DataW.trod] at h
  | succ n =>
    rw [DataW.trod.eq_def] at h
    simp only [ht] at h
    split at h <;> first | (simp_all; done) | exact ⟨_, rfl⟩
theorem read_f64 (ht : P.underlying t = some (.float .f64)) (h : DataW.trod enc P w base spare held fuel t cs = some x) : ∃ b, cs = [.float .f64 b] ∧ b < 18446744073709551616 := by
  cases fuel with
  | zero => simp [DataW.trod] at h
  | succ n =>
    rw [DataW.trod.eq_def] at h
    simp only [ht] at h
    split at h <;> first | (simp at *; done) | skip
    rename_i k1 k2 b' e1
    simp only [Option.some.injEq, TypeDesc.float.injEq] at e1
    subst e1
    split at h
    · rename_i hc
      obtain ⟨rfl, hw⟩ := hc
      exact ⟨b', rfl, of_decide_eq_true hw⟩
    · cases h
theorem read_string (ht : P.underlying t = some .string) (h : DataW.trod enc P w base spare held fuel t cs = some x) : ∃ s, cs = [.string s] ∧ s.size ≤ maxLen := by
  cases fuel with
  | zero => simp [DataW.trod] at h
  | succ n =>
    rw [DataW.trod.eq_def] at h
    simp only [ht] at h
    split at h <;> first | (simp_all; done) | skip
end
def V.list (v : V) : List Value := [.int .i64 v.k, .bool v.b, .float .f64 v.n, .string v.s, .int .i64 v.id]
def D.list (d : D) : List Value := d.v.list ++ (d.g.list ++ (d.t.list ++ [.int .i64 d.w, .int .i64 d.e, .int .i64 d.c]))
section
variable {H : Type} {enc : TypeId × Value → H} {w : World} {base : Nat} {spare : Nat → Bool} {held : Bool} {fuel : Nat} {cs : List Value} {x : DataW H × List MemPlace}
theorem cells3 : Tryd.prog.cellsOf 3 = 1 := by kernel_rfl
theorem cells4 : Tryd.prog.cellsOf 4 = 1 := by kernel_rfl
theorem cells9 : Tryd.prog.cellsOf 9 = 1 := by kernel_rfl
theorem cells22 : Tryd.prog.cellsOf 22 = 1 := by kernel_rfl
theorem cells24 : Tryd.prog.cellsOf 24 = 5 := by kernel_rfl
theorem cells25 : Tryd.prog.cellsOf 25 = 1 := by kernel_rfl
theorem cells27 : Tryd.prog.cellsOf 27 = 18 := by kernel_rfl
set_option maxRecDepth 100000 in
theorem read_V (h : DataW.trod enc Tryd.prog w base spare held fuel 24 cs = some x) : ∃ v : V, cs = v.list ∧ v.wf := by
  obtain ⟨xs, n, _, _, hl, hn, hf⟩ := DataW.trod_struct Tryd.underlying24 h
  rw [cells24] at hl
  match cs, hl, xs, hn with
  | [c0, c1, c2, c3, c4], _, [y0, y1, y2, y3, y4], _ =>
    have h0 := hf 0 ⟨"Kind", 3, 0, false, "", "", 0⟩ rfl
    have h1 := hf 1 ⟨"Bool", 4, 1, false, "", "", 8⟩ rfl
    have h2 := hf 2 ⟨"Num", 22, 2, false, "", "", 16⟩ rfl
    have h3 := hf 3 ⟨"Str", 9, 3, false, "", "", 24⟩ rfl
    have h4 := hf 4 ⟨"Id", 3, 4, false, "", "", 40⟩ rfl
    simp only [cells3, cells4, cells9, cells22, List.drop_succ_cons, List.drop_zero, List.take_succ_cons, List.take_zero] at h0 h1 h2 h3 h4
    obtain ⟨v0, e0⟩ := read_int Tryd.underlying3 h0
    obtain ⟨v1, e1⟩ := read_bool Tryd.underlying4 h1
    obtain ⟨v2, e2, w2⟩ := read_f64 Tryd.underlying22 h2
    obtain ⟨v3, e3, _⟩ := read_string Tryd.underlying9 h3
    obtain ⟨v4, e4⟩ := read_int Tryd.underlying3 h4
    cases e0; cases e1; cases e2; cases e3; cases e4
    exact ⟨⟨v0, v1, v2, v3, v4⟩, rfl, w2⟩
set_option maxRecDepth 100000 in
theorem read_D (h : DataW.trod enc Tryd.prog w base spare held fuel 27 cs = some x) : ∃ d : D, cs = d.list ∧ d.wf := by
  obtain ⟨xs, n, _, _, hl, hn, hf⟩ := DataW.trod_struct Tryd.underlying27 h
  rw [cells27] at hl
  match cs, hl, xs, hn with
  | [c0, c1, c2, c3, c4, c5, c6, c7, c8, c9, c10, c11, c12, c13, c14, c15, c16, c17], _, [y0, y1, y2, y3, y4, y5], _ =>
    have h0 := hf 0 ⟨"Value", 24, 0, false, "", "", 0⟩ rfl
    have h1 := hf 1 ⟨"Get", 24, 5, false, "", "", 48⟩ rfl
    have h2 := hf 2 ⟨"Set", 24, 10, false, "", "", 96⟩ rfl
    have h3 := hf 3 ⟨"Writable", 25, 15, false, "", "", 144⟩ rfl
    have h4 := hf 4 ⟨"Enumerable", 25, 16, false, "", "", 152⟩ rfl
    have h5 := hf 5 ⟨"Configurable", 25, 17, false, "", "", 160⟩ rfl
    simp only [cells24, cells25, List.drop_succ_cons, List.drop_zero, List.take_succ_cons, List.take_zero] at h0 h1 h2 h3 h4 h5
    obtain ⟨v0, e0, w0⟩ := read_V h0
    obtain ⟨v1, e1, w1⟩ := read_V h1
    obtain ⟨v2, e2, w2⟩ := read_V h2
    obtain ⟨v3, e3⟩ := read_int Tryd.underlying25 h3
    obtain ⟨v4, e4⟩ := read_int Tryd.underlying25 h4
    obtain ⟨v5, e5⟩ := read_int Tryd.underlying25 h5
    unfold V.list at e0 e1 e2
    cases e0; cases e1; cases e2; cases e3; cases e4; cases e5
    exact ⟨⟨v0, v1, v2, v3, v4, v5⟩, rfl, w0, w1, w2⟩
end
theorem own : ownKnob Tryd.prog.godebug = none := by kernel_rfl
theorem laidOut : laidOutB Tryd.prog = true := by kernel_rfl
theorem accept_eq : Rows.laid_unicode_utf8_acceptRanges = Lib.acceptData := by kernel_rfl
theorem first_eq : Rows.laid_unicode_utf8_first = Lib.firstData := by kernel_rfl
theorem u8extra : U8Extra Tryd.prog Tryd.lays260_ren := ⟨by kernel_rfl, by kernel_rfl, by kernel_rfl, by kernel_rfl, by kernel_rfl, by kernel_rfl, by kernel_rfl⟩
/-- What the rows' list gives. -/
theorem tabs_of {W : World} (h : laidMetH Tryd.prog [("unicode/utf8.acceptRanges", Rows.laid_unicode_utf8_acceptRanges), ("unicode/utf8.first", Rows.laid_unicode_utf8_first)] W) : Tabs W := by
  rw [accept_eq, first_eq] at h
  exact utf8Tabs_of_readsT (U8Types.of260 Tryd.lays260) u8extra (Lib.laidMet.reads h (.tail _ (.head _))) (Lib.laidMet.reads h (.head _))
/-- A world in which both tables hold what their initialisers lay. -/
noncomputable def laidWorld (os : Os) : World :=
  let w0 := World.holding Tryd.prog os ⟨#[], #[], []⟩
  let put (h : Array Obj) (g : Nat) (cs : Array Value) : Array Obj := h.modify g fun
    | .cells _ t frozen => .cells cs t frozen
    | o => o
  let h1 := put w0.heap 1 (Lib.firstTab.map fun z => Value.int .u8 z).toArray
  let h2 := put h1 2 ((List.range 16).flatMap fun i => [Value.int .u8 (Lib.accLo i), Value.int .u8 (Lib.accHi i)]).toArray
  { w0 with heap := h2 }
theorem laid_met (os : Os) (args : Array Value) : laidMet Tryd.prog [("unicode/utf8.acceptRanges", Rows.laid_unicode_utf8_acceptRanges), ("unicode/utf8.first", Rows.laid_unicode_utf8_first)] ((laidWorld os).forCall (fun _ _ => 0) ⟨#[], args, []⟩).memory := by
  rw [accept_eq, first_eq]
  exact (LaidIn.of_run (l := [("unicode/utf8.acceptRanges", Lib.acceptData), ("unicode/utf8.first", Lib.firstData)]) [2, 1] 8 (by kernel_rfl) (by kernel_rfl) (by kernel_rfl) (by kernel_rfl)).met
end Go.Proofs.YtaojjpdlfnphiaaDoor.PDescKinds
end
section
/- cameoref10.Copy: shapes in memory of their own. -/
set_option linter.unusedSimpArgs false
set_option linter.unusedVariables false
set_option linter.unusedSectionVars false
namespace Go.Ev
open Go.RowKit
section
variable [XEnv]
variable {P : Program} {X : ExtFn} {call : CallFn} {I : World → Prop} {N : Nat} {ops : Array Oper} {w0 : World} {Q : Exit → Act → World → Prop}
/-- Some operations of a region, and what is behind them. -/
theorem ops_sound_tail (hX : ExtSound P X) (hI : I w0) (hs : Stable I) (hXO : ∀ w, I w → XOk w) (hcall : CallSound P I call) (tail : List Oper) : ∀ (l : List Oper) (st st' : St) (m : Nat → Nat) (a : Act) (w : World), evOps P X call ops N l st = some st' → SR w0 N m st a w →
    (∀ m' a' w', Later st m st' m' → SR w0 N m' st' a' w' → wpList P ops Q tail a' w') → wpList P ops Q (l ++ tail) a w
  | [], st, st', m, a, w, h, hr, k => by
    simp only [evOps, Option.some.injEq] at h
    subst h
    exact k m a w (Later.refl _ _) hr
  | o :: r, st, st', m, a, w, h, hr, k => by
    unfold evOps at h
    cases hdg : dstOk N o.dst && knownG ops st.tmps o with
    | false => rw [hdg] at h; cases h
    | true =>
      rw [hdg] at h
      rw [Bool.and_eq_true] at hdg
      obtain ⟨hd, hgk⟩ := hdg
      simp only [cond_true] at h
      simp only [List.cons_append]
      unfold wpList
      rw [want_eq hr.ar.tm o hgk]
      cases hw : wantS ops st.tmps o with
      | true =>
        rw [hw] at h
        simp only [cond_true] at h
        simp only [if_true]
        split at h
        · rename_i v e he
          refine .inl (op_sound hX hI hs hXO hcall he (fun _ => hr.fresh _ (Nat.le_refl _)) (fun _ => hr.fresh) hr.ar.look_ok hr.ar.eval hr.mr ?_)
          intro m' w' hag hmr hv hg hall
          have hf := hall hr.fresh
          exact ops_sound_tail hX hI hs hXO hcall tail r _ st' m' _ w' h ⟨hmr, hr.ar.put hag hg hd hv, hf.1⟩ (fun m2 a2 w2 hl hr2 => k m2 a2 w2 (Later.trans ⟨hag, hg, hf.2⟩ hl) hr2)
        · cases h
      | false =>
        rw [hw] at h
        simp only [cond_false] at h
        simp only [Bool.false_eq_true, if_false]
        exact ops_sound_tail hX hI hs hXO hcall tail r _ st' m _ w h ⟨hr.mr, (den_val m undef) ▸ hr.ar.put (v := .val undef) (Agree.refl _ _) (Grows.refl _) hd (ok_val _ _), hr.fresh⟩ (fun m2 a2 w2 hl hr2 => k m2 a2 w2 ⟨hl.agree, hl.grows, hl.le⟩ hr2)
theorem pickT_mem (t : Nat) : ∀ ts : List (Nat × SV), pickT ts t = SV.unk ∨ (t, pickT ts t) ∈ ts
  | [] => .inl rfl
  | p :: r => by
    simp only [pickT]
    cases h : Nat.beq t p.1 with
    | true =>
      have := Nat.eq_of_beq_eq_true h
      subst this
      exact .inr List.mem_cons_self
    | false =>
      rcases pickT_mem t r with h | h
      · exact .inl h
      · exact .inr (List.mem_cons_of_mem _ h)
/-- All that is, is as_ if it had come in. -/
theorem epoch {a : Act} {w : World} (hs : a.tmps.size = N) (hd : a.defers = []) (ts : List (Nat × SV)) (m : Nat → Nat) (h : ∀ p ∈ ts, a.tmps.getD p.1 undef = p.2.den m) (hok : ∀ p ∈ ts, p.2.ok fun _ => none) :
    SR w N m ((Cut.mk ts []).st 0) a w := by
  refine ⟨MR.start w m, ⟨hs, hd, fun t ht => ?_, fun t => ?_⟩, fun _ _ => rfl⟩
  · have ht : (pickT ts t).known = true := ht
    show a.tmps.getD t undef = (pickT ts t).den m
    rcases pickT_mem t ts with h1 | h1
    · rw [h1] at ht; cases ht
    · exact h _ h1
  · show (pickT ts t).ok _
    rcases pickT_mem t ts with h1 | h1
    · rw [h1]; exact ok_unk
    · exact hok _ h1
end
end Go.Ev
namespace Go.Proofs.YtaojjpdlfnphiaaDoor.PDescKinds
open Go.RowKit Go.Ev
/-! ### Moments as_ the world has them -/
def Pr.list (q : Pr) : List Value := .string q.k.s :: .int .i64 q.k.n :: q.d.list
theorem Pr.cells_list (q : Pr) : q.cells = q.list.map SV.val := rfl
/-- A shape's cells, its properties where u says. -/
def shVals (s : Sh) (u : Value) : List Value := [.int .i64 s.cl, .int .i64 s.p.k, .bool s.p.b, .float .f64 s.p.n, .string s.p.s, .int .i64 s.p.id, .bool s.x, u]
def Sh.row (s : Sh) : Value := .slice s.A s.n s.c
structure RawMo (w : World) (mo : Mo) : Prop where
  nils : ∀ j, (mo.g j).A = none → (mo.g j).n = 0 ∧ (mo.g j).c = 0
  top : ∀ j, j < mo.n → ∃ a, mo.A = some a ∧ a.block < w.heap.size ∧ ∀ t v, (shVals (mo.g j) (mo.g j).row)[t]? = some v → w.cell? (a.add (j * 8 + t)) = some v
  row : ∀ j i, i < (mo.g j).n → ∃ a, (mo.g j).A = some a ∧ a.block < w.heap.size ∧ ∀ t v, ((mo.g j).g i).list[t]? = some v → w.cell? (a.add (i * 20 + t)) = some v
theorem add_block (a : Addr) (k : Nat) : (a.add k).block = a.block := by unfold Addr.add; split <;> rfl
theorem RawMo.below {w w' : World} {mo : Mo} (h : RawMo w mo) (hb : Below w.heap.size w w') : RawMo w' mo := by
  refine ⟨h.nils, fun j hj => ?_, fun j i hi => ?_⟩
  · obtain ⟨a, h1, h2, h3⟩ := h.top j hj
    exact ⟨a, h1, Nat.lt_of_lt_of_le h2 hb.size, fun t v ht => (hb.cell (by rw [add_block]; exact h2)).trans (h3 t v ht)⟩
  · obtain ⟨a, h1, h2, h3⟩ := h.row j i hi
    exact ⟨a, h1, Nat.lt_of_lt_of_le h2 hb.size, fun t v ht => (hb.cell (by rw [add_block]; exact h2)).trans (h3 t v ht)⟩
/-- No box. -/
def noBox : Nat → XR := fun _ => ⟨none, 1, 0, 0, fun _ => []⟩
theorem xok_raw {M : Nat → Mo} {w : World} (h : ∀ k, RawMo w (M k)) : @XOk (rowsB M noBox) w := by
  intro r
  match r with
  | [k] =>
    intro j hj
    obtain ⟨a, h1, h2, h3⟩ := (h k).top j hj
    refine ⟨rfl, fun s hs mem => @Simple.ok (rowsB M noBox) _ (simple_sh _ _ _ _ _ s hs) mem, a, h1, h2, fun t s ht m => ?_⟩
    have ht : (shCells ((M k).g j).cl ((M k).g j).p ((M k).g j).x [k, j])[t]? = some s := ht
    have e : (shCells ((M k).g j).cl ((M k).g j).p ((M k).g j).x [k, j]).map (@SV.den (rowsB M noBox) m) = shVals ((M k).g j) ((M k).g j).row := by
      simp only [shCells, List.map_cons, List.map_nil, @den_val (rowsB M noBox), @den_xs (rowsB M noBox)]
      rfl
    refine h3 t _ ?_
    rw [← e, List.getElem?_map, ht]
    rfl
  | [k, j] =>
    intro i hi
    obtain ⟨a, h1, h2, h3⟩ := (h k).row j i hi
    refine ⟨rfl, fun s hs mem => @Simple.ok (rowsB M noBox) _ (simple_pr _ s hs) mem, a, h1, h2, fun t s ht m => ?_⟩
    have ht : (((M k).g j).g i).cells[t]? = some s := ht
    rw [Pr.cells_list, List.getElem?_map, Option.map_eq_some_iff] at ht
    obtain ⟨v, hv, rfl⟩ := ht
    rw [@den_val (rowsB M noBox)]
    exact h3 t v hv
  | [] => intro j hj; exact absurd hj (Nat.not_lt_zero _)
  | _ :: _ :: _ :: _ => intro j hj; exact absurd hj (Nat.not_lt_zero _)
def inB : Code → Code
  | .block _ c => c
  | c => c
def opsOf : Code → Array Oper
  | .region _ ops _ => ops
  | _ => #[]
namespace Copy
end Copy
namespace Copy
theorem info60 : ∃ (i : TypeInfo) (z : Value), Tryd.prog.info? 60 = some i ∧ i.zero = some z ∧ i.size = 8 ∧ i.bytes = 88 ∧ z.cells.size = 8 := by
  have h : (Tryd.prog.info? 60).bind (fun i => i.zero.map fun z => (i.size, i.bytes, z.cells.size)) = some (8, 88, 8) := by kernel_rfl
  obtain ⟨i, hi, h⟩ := Option.bind_eq_some_iff.1 h
  obtain ⟨z, hz, h⟩ := Option.map_eq_some_iff.1 h
  simp only [Prod.mk.injEq] at h
  exact ⟨i, z, hi, hz, h.1, h.2.1, h.2.2⟩
theorem info66 : ∃ (i : TypeInfo) (z : Value), Tryd.prog.info? 66 = some i ∧ i.zero = some z ∧ i.size = 20 ∧ i.bytes = 192 ∧ z.cells.size = 20 := by
  have h : (Tryd.prog.info? 66).bind (fun i => i.zero.map fun z => (i.size, i.bytes, z.cells.size)) = some (20, 192, 20) := by kernel_rfl
  obtain ⟨i, hi, h⟩ := Option.bind_eq_some_iff.1 h
  obtain ⟨z, hz, h⟩ := Option.map_eq_some_iff.1 h
  simp only [Prod.mk.injEq] at h
  exact ⟨i, z, hi, hz, h.1, h.2.1, h.2.2⟩
end Copy
end Go.Proofs.YtaojjpdlfnphiaaDoor.PDescKinds
end
section
/- cameoref10.Copy: a round; the whole. -/
set_option linter.unusedSimpArgs false
set_option linter.unusedVariables false
set_option linter.unusedSectionVars false
namespace Go.Proofs.YtaojjpdlfnphiaaDoor.PDescKinds
open Go.RowKit Go.Ev
/-! Rows laid one behind the other -/
theorem flat_len {f : Nat → List Value} {z : Nat} (hz : ∀ t, (f t).length = z) (n : Nat) : ((List.range n).flatMap f).length = n * z := by
  induction n with
  | zero => simp
  | succ n ih => rw [List.range_succ, List.flatMap_append, List.length_append, ih, Nat.succ_mul]; simp [hz]
theorem flat_in {f : Nat → List Value} {z : Nat} (hz : ∀ t, (f t).length = z) : ∀ (n t k : Nat) (u : Value), t < n → (f t)[k]? = some u → ((List.range n).flatMap f)[t * z + k]? = some u
  | 0, t, k, u, h, _ => absurd h (Nat.not_lt_zero _)
  | n + 1, t, k, u, h, hk => by
    have hkz : k < z := by rw [← hz t]; exact (List.getElem?_eq_some_iff.1 hk).1
    rw [List.range_succ, List.flatMap_append]
    by_cases e : t = n
    · subst e
      rw [List.getElem?_append_right (by rw [flat_len hz]; omega), flat_len hz]
      simpa using hk
    · have hlt : t < n := by omega
      have h1 : t * z + k < n * z := by
        have : (t + 1) * z ≤ n * z := Nat.mul_le_mul_right z hlt
        rw [Nat.add_mul] at this
        omega
      rw [List.getElem?_append_left (by rw [flat_len hz]; exact h1)]
      exact flat_in hz n t k u hlt hk
theorem flat_out {f : Nat → List Value} {z : Nat} (hz : ∀ t, (f t).length = z) : ∀ (n j : Nat) (u : Value), ((List.range n).flatMap f)[j]? = some u → ∃ t k, t < n ∧ j = t * z + k ∧ (f t)[k]? = some u
  | 0, j, u, h => by simp at h
  | n + 1, j, u, h => by
    rw [List.range_succ, List.flatMap_append] at h
    by_cases hj : j < n * z
    · rw [List.getElem?_append_left (by rw [flat_len hz]; exact hj)] at h
      obtain ⟨t, k, h1, h2, h3⟩ := flat_out hz n j u h
      exact ⟨t, k, by omega, h2, h3⟩
    · rw [List.getElem?_append_right (by rw [flat_len hz]; omega), flat_len hz] at h
      refine ⟨n, j - n * z, by omega, by omega, by simpa using h⟩
theorem flat_congr {f g : Nat → List Value} (n : Nat) (h : ∀ j, j < n → f j = g j) : (List.range n).flatMap f = (List.range n).flatMap g := by
  induction n with
  | zero => rfl
  | succ n ih => rw [List.range_succ, List.flatMap_append, List.flatMap_append, ih fun j hj => h j (by omega)]; simp [h n (by omega)]
theorem Pr.list_length (q : Pr) : q.list.length = 20 := rfl
theorem shVals_length (s : Sh) (u : Value) : (shVals s u).length = 8 := rfl
theorem Pr.list_one (q : Pr) : ∀ u ∈ q.list, u.oneCell' = true := by
  intro u hu
  simp only [Pr.list, D.list, V.list, List.cons_append, List.nil_append, List.mem_cons, List.not_mem_nil, or_false] at hu
  rcases hu with rfl | rfl | rfl | rfl | rfl | rfl | rfl | rfl | rfl | rfl | rfl | rfl | rfl | rfl | rfl | rfl | rfl | rfl | rfl | rfl <;> rfl
theorem shVals_one (s : Sh) (A : Option Addr) (n c : Nat) : ∀ u ∈ shVals s (.slice A n c), u.oneCell' = true := by
  intro u hu
  simp only [shVals, List.mem_cons, List.not_mem_nil, or_false] at hu
  rcases hu with rfl | rfl | rfl | rfl | rfl | rfl | rfl | rfl <;> rfl
theorem own_ne {w : World} {b b' n n' : Nat} {v u : Value} {xs ys : List Value} (h : w.ownsRow b 60 8 v n xs) (h' : w.ownsRow b' 66 20 u n' ys) : u.ownBlock = none ∨ u.ownBlock ≠ v.ownBlock := by
  rcases h'.2 with ⟨rfl, _⟩ | ⟨g', cap', cur', rfl, _, hg', _⟩
  · exact .inl rfl
  · refine .inr fun e => ?_
    rcases h.2 with ⟨rfl, _⟩ | ⟨g, cap, cur, rfl, _, hg, _⟩
    · simp [Value.ownBlock] at e
    · simp only [Value.ownBlock, Option.some.injEq] at e
      subst e
      rw [hg] at hg'
      simp at hg'
theorem grown_of {w w' : World} (hb : Below w.heap.size w w') (row : Option Nat) : w.grownBy w' row := ⟨hb.os, hb.tape, hb.output, hb.size, fun k hk _ => hb.block k hk⟩
namespace Copy
theorem put_self (a : Act) (d : Nat) (v : Value) (h : d < a.tmps.size) : (a.put (some d) v).tmps.getD d undef = v := by
  show (a.tmps.setIfInBounds d v).getD d undef = v
  simp [h]
theorem put_ne (a : Act) (d t : Nat) (v : Value) (h : d ≠ t) : (a.put (some d) v).tmps.getD t undef = a.tmps.getD t undef := by
  show (a.tmps.setIfInBounds d v).getD t undef = _
  simp [Array.getElem?_setIfInBounds_ne h]
section
variable {M : Nat → Mo} {bx : Nat → XR} {a : Nat} {w0 : World}
def rowOf (s : Sh) : List Value := (List.range s.n).flatMap fun t => (s.g t).list
end
end Copy
end Go.Proofs.YtaojjpdlfnphiaaDoor.PDescKinds
end
section
/- InvariantBroken: the law runs; what is left is plain. -/
set_option linter.unusedSimpArgs false
set_option linter.unusedVariables false
set_option linter.unusedSectionVars false
namespace Go.Proofs.YtaojjpdlfnphiaaDoor.PDescKinds
open Go.RowKit Go.Ev
def slA : Value → Option Addr
  | .slice A _ _ => A
  | _ => none
def slC : Value → Nat
  | .slice _ _ c => c
  | _ => 0
theorem own_slice {w : World} {b e z n : Nat} {v : Value} {xs : List Value} (h : w.ownsRow b e z v n xs) : v = .slice (slA v) n (slC v) ∧ (slA v = none → n = 0 ∧ slC v = 0) := by
  rcases h.2 with ⟨rfl, rfl⟩ | ⟨g, cap, cur, rfl, _⟩
  · exact ⟨rfl, fun _ => ⟨rfl, rfl⟩⟩
  · exact ⟨rfl, fun h => by cases h⟩
theorem own_cell {w : World} {b e z n : Nat} {v : Value} {f : Nat → List Value} (hz : ∀ t, (f t).length = z) (h : w.ownsRow b e z v n ((List.range n).flatMap f)) (t : Nat) (ht : t < n) :
    ∃ a, slA v = some a ∧ a.block < w.heap.size ∧ ∀ k u, (f t)[k]? = some u → w.cell? (a.add (t * z + k)) = some u := by
  have hl := h.lt
  have hc := h.cells (g := (v.ownBlock).getD 0)
  rcases h.2 with ⟨_, h0⟩ | ⟨g, cap, cur, rfl, _⟩
  · omega
  · exact ⟨⟨g, 0, none⟩, rfl, (hl g rfl).2, fun k u hk => hc rfl _ _ (flat_in hz n t k u ht hk)⟩
/-! A call of one argument, and its answer in a variable -/
theorem body_mono {P : Program} {fn : Func} {R R' : Ending → World → Prop} (h : ∀ e w, R e w → R' e w) {e : Exit} {a : Act} {w : World} (hb : bodyPost P fn R e a w) : bodyPost P fn R' e a w := by
  cases e with
  | normal => obtain ⟨h1, v, h2, h3⟩ := hb; exact ⟨h1, v, h2, h _ _ h3⟩
  | ret => obtain ⟨h1, v, h2, h3⟩ := hb; exact ⟨h1, v, h2, h _ _ h3⟩
  | panic c => exact ⟨hb.1, h _ _ hb.2⟩
  | outgrown => exact h _ _ hb
  | _ => exact hb
/-! The law -/
def Sh0 : Sh := ⟨0, S.V0, false, none, 0, 0, fun _ => ⟨⟨⟨#[]⟩, 0⟩, S.D0⟩⟩
def Mo0 : Mo := ⟨none, 0, 0, fun _ => Sh0⟩
def moments (m0 m1 m2 m3 : Mo) : Nat → Mo
  | 0 => m0
  | 1 => m1
  | 2 => m2
  | 3 => m3
  | _ => Mo0
theorem raw0 (w : World) : RawMo w Mo0 := ⟨fun _ _ => ⟨rfl, rfl⟩, fun j hj => absurd hj (Nat.not_lt_zero _), fun j i hi => absurd hi (Nat.not_lt_zero _)⟩
theorem raw_moments {w : World} {m0 m1 m2 m3 : Mo} (h0 : RawMo w m0) (h1 : RawMo w m1) (h2 : RawMo w m2) (h3 : RawMo w m3) : ∀ k, RawMo w (moments m0 m1 m2 m3 k)
  | 0 => h0
  | 1 => h1
  | 2 => h2
  | 3 => h3
  | _ + 4 => raw0 w
def Small (m : Mo) : Prop := m.n ≤ 1048576 ∧ ∀ j, (m.g j).n ≤ 1048576
theorem small0 : Small Mo0 := ⟨by decide, fun _ => by show 0 ≤ _; omega⟩
theorem fit_moments {m0 m1 m2 m3 : Mo} (h0 : Small m0) (h1 : Small m1) (h2 : Small m2) (h3 : Small m3) : Fit (moments m0 m1 m2 m3) := by
  have key : ∀ m : Mo, Small m → (m.n : Int) ≤ 9223372036854775807 ∧ ∀ j, ((m.g j).n : Int) ≤ 9223372036854775807 := fun m h => ⟨by have := h.1; omega, fun j => by have := h.2 j; omega⟩
  intro k
  match k with
  | 0 => exact key m0 h0
  | 1 => exact key m1 h1
  | 2 => exact key m2 h2
  | 3 => exact key m3 h3
  | _ + 4 => exact key Mo0 small0
namespace Brk
end Brk
end Go.Proofs.YtaojjpdlfnphiaaDoor.PDescKinds
end
section
/- InvariantBroken, plain: what the program answers of two moments is what the document says. -/
set_option linter.unusedSimpArgs false
set_option linter.unusedVariables false
set_option linter.unusedSectionVars false
namespace Go.Proofs.YtaojjpdlfnphiaaDoor.PDescKinds
open Go.RowKit Go.Ev FloatEq
namespace R
theorem big_eq {a : Nat} (h : a < 18446744073709551616) : big a = decide (infR < rung a) := by
  have e : IntKind.u64.wrap (↑(BitVec.ofInt IntKind.u64.bits (a : Int) &&& ~~~BitVec.ofInt IntKind.u64.bits 9223372036854775808).toNat : Int) = ((a &&& (18446744073709551615 - 9223372036854775808) : Nat) : Int) := by
    have := u64_andNot (a : Int) 9223372036854775808 (by omega) (by omega) (by omega) (by omega)
    exact this
  unfold big
  rw [e, show 18446744073709551615 - 9223372036854775808 = 2 ^ 63 - 1 by decide, Nat.and_two_pow_sub_one_eq_mod]
  refine decide_eq_decide.2 ?_
  unfold infR rung
  omega
theorem bits_eq {a b : Nat} (ha : a < 18446744073709551616) (hb : b < 18446744073709551616) : (a = b) ↔ (sgn a = sgn b ∧ rung a = rung b) := by
  unfold sgn rung
  constructor
  · rintro rfl; exact ⟨rfl, rfl⟩
  · rintro ⟨h1, h2⟩
    have e1 : a / 9223372036854775808 % 2 = b / 9223372036854775808 % 2 := by
      have k1 : a / 9223372036854775808 % 2 = 0 ∨ a / 9223372036854775808 % 2 = 1 := by omega
      have k2 : b / 9223372036854775808 % 2 = 0 ∨ b / 9223372036854775808 % 2 = 1 := by omega
      rcases k1 with k1 | k1 <;> rcases k2 with k2 | k2 <;> rw [k1, k2] at h1 <;> first | (rw [k1, k2]; done) | (exact absurd h1 (by decide))
    omega
theorem nan_big {a : Nat} (h : a < 18446744073709551616) : S.nan a = big a := by
  rw [big_eq h, ← nan_iff]
  rfl
theorem ieq (a b : Nat) : (((a : Nat) : Int) == ((b : Nat) : Int)) = decide (a = b) := by
  by_cases h : a = b
  · subst h; simp
  · have : ¬ (a : Int) = b := by omega
    simp [h, this]
theorem num_eq {a b : Nat} (ha : a < 18446744073709551616) (hb : b < 18446744073709551616) : S.numSame a b = num2 a b := by
  unfold S.numSame num2
  rw [nan_big ha, nan_big hb, ieq, big_eq ha, big_eq hb]
  by_cases h : infR < rung a <;> by_cases h2 : infR < rung b
  · simp [h, h2]
  · have : ¬ a = b := by rintro rfl; exact h2 h
    simp [h, h2, this]
  · have : ¬ a = b := by rintro rfl; exact h h2
    simp [h, h2, this]
  · simp only [decide_eq_false h, decide_eq_false h2, Bool.or_self, cond_false, Bool.and_self, Bool.false_or]
    rw [neg_sgn, neg_sgn]
    by_cases hs : sgn a = sgn b
    · have hf : S.feq a b = decide (rung a = rung b) := feq_same h h2 hs
      rw [hf]
      by_cases hr : rung a = rung b
      · have : a = b := (bits_eq ha hb).2 ⟨hs, hr⟩
        subst this; simp
      · have : ¬ a = b := fun e => hr ((bits_eq ha hb).1 e).2
        simp [hr, this]
    · have : ¬ a = b := fun e => hs ((bits_eq ha hb).1 e).1
      have hs' : (sgn a == sgn b) = false := by simpa using hs
      rw [hs']
      simp [this]
end R
/-! Moments whose numbers are numbers -/
def WfMo (m : Mo) : Prop := ∀ j, (m.g j).p.wf ∧ ∀ i, ((m.g j).g i).d.wf
theorem eqV_eq {a b : V} (ha : a.wf) (hb : b.wf) : S.eqC a b = R.eqR a b := by
  unfold S.eqC R.eqR
  rw [R.num_eq ha hb]
theorem eqD_eq {a b : D} (ha : a.wf) (hb : b.wf) : S.alikeC a b = R.eqDR a b := by
  unfold S.alikeC R.eqDR
  rw [eqV_eq ha.1 hb.1, eqV_eq ha.2.1 hb.2.1, eqV_eq ha.2.2 hb.2.2]
theorem eqR_symm (a b : V) : R.eqR a b = R.eqR b a := by
  unfold R.eqR R.num2
  rw [Bool.beq_comm (a := a.k), Bool.beq_comm (a := a.b), Bool.beq_comm (a := a.s.toList), Bool.beq_comm (a := a.id), Bool.and_comm (R.big a.n), Bool.beq_comm (a := (a.n : Int))]
theorem num2_refl (a : Nat) : R.num2 a a = true := by unfold R.num2; simp
theorem eqR_refl (a : V) : R.eqR a a = true := by unfold R.eqR; simp [num2_refl]
theorem eqDR_refl (a : D) : R.eqDR a a = true := by unfold R.eqDR; simp [eqR_refl]
theorem bytes_refl (a : ByteArray) : (a == a) = true := by
  cases a with | mk d =>
  show ByteArray.beq ⟨d⟩ ⟨d⟩ = true
  unfold ByteArray.beq
  simp
theorem keq_refl (a : K) : S.keq a a = true := by
  unfold S.keq
  rw [bytes_refl]
  simp
end Go.Proofs.YtaojjpdlfnphiaaDoor.PDescKinds
end
section
/- Moments that come in: what they read as_. -/
set_option linter.unusedSimpArgs false
set_option linter.unusedVariables false
set_option linter.unusedSectionVars false
namespace Go.Proofs.YtaojjpdlfnphiaaDoor.PDescKinds
open Go.ChangeShapes Go.WideShapes Go.ChangeAt Go.RowKit
section
variable {H : Type}
theorem bulk_pos (d : DataW H) : 1 ≤ Rows.uptoBulk d := by
  cases d with
  | lit l => cases l <;> simp [Rows.uptoBulk]
  | _ => simp [Rows.uptoBulk]
theorem bulk_mem {d : DataW H} : ∀ {l : List (DataW H)}, d ∈ l → Rows.uptoBulk d ≤ Rows.uptoBulkAll l
  | x :: r, h => by
    simp only [Rows.uptoBulkAll]
    rcases List.mem_cons.1 h with rfl | h
    · omega
    · have := bulk_mem h
      omega
theorem bulk_len : ∀ (l : List (DataW H)), l.length ≤ Rows.uptoBulkAll l
  | [] => Nat.zero_le _
  | x :: r => by
    simp only [Rows.uptoBulkAll, List.length_cons]
    have := bulk_len r
    have := bulk_pos x
    omega
end
theorem cells58 : Tryd.prog.cellsOf 58 = 1 := by kernel_rfl
theorem cells60 : Tryd.prog.cellsOf 60 = 8 := by kernel_rfl
theorem cells64 : Tryd.prog.cellsOf 64 = 2 := by kernel_rfl
theorem cells66 : Tryd.prog.cellsOf 66 = 20 := by kernel_rfl
def Pr0 : Pr := ⟨⟨⟨#[]⟩, 0⟩, S.D0⟩
theorem wf0 : S.D0.wf := ⟨by show 0 < _; omega, by show 0 < _; omega, by show 0 < _; omega⟩
section
variable {H : Type} {enc : TypeId × Value → H} {w : World} {base : Nat} {spare : Nat → Bool} {held : Bool} {fuel : Nat} {cs : List Value} {x : DataW H × List MemPlace}
/-- The properties of a shape, as_ the world has them. -/
def RawPs (w : World) (A : Option Addr) (n : Nat) (g : Nat → Pr) : Prop := ∀ i, i < n → ∃ a, A = some a ∧ a.block < w.heap.size ∧ ∀ t v, (g i).list[t]? = some v → w.cell? (a.add (i * 20 + t)) = some v
end
end Go.Proofs.YtaojjpdlfnphiaaDoor.PDescKinds
end
section
/- Own rows that grow beside what is computed: lists of deltas. -/
set_option linter.unusedSimpArgs false
set_option linter.unusedVariables false
set_option linter.unusedSectionVars false
namespace Go.Ev
section
variable [XEnv]
variable {P : Program} {X : ExtFn} {G : GFn} {I : World → Prop} {N : Nat} {fn : Func} {fs : List Fr} {l : List Code} {k : Nat} {ts bs : List Nat} {next : Nat}
/-- A loop that carries something along. -/
def scan {α σ : Type} (p : Nat → σ → Except α σ) : Nat → Nat → σ → Except α σ
  | 0, _, s => .ok s
  | k + 1, i, s => match p i s with
    | .error v => .error v
    | .ok s' => scan p k (i + 1) s'
def toS {α σ : Type} (f : α → SV) (hd : σ → Cut) : Except α σ → Res
  | .error u => .ret (f u)
  | .ok s => .cut .normal (hd s)
def scanned {α σ : Type} (z : σ → α) : Except α σ → α
  | .error v => v
  | .ok s => z s
theorem Runs.scan {α σ : Type} (C : Ctx P X G I) {id : Nat} {r : Code} {n : Nat} {p : Nat → σ → Except α σ} {f : α → SV} {hd : Nat → σ → Cut} {z : σ → α}
    (hround : ∀ i s, i < n → evK P X G k N (seqL (flat r)) ((hd i s).st next) (grab P fn ts bs next) = some (toS f (hd (i + 1)) (p i s)))
    (hend : ∀ s, evK P X G k N (seqL (flat r)) ((hd n s).st next) (grab P fn ts bs next) = some (.cut (.exit id) (hd n s)))
    (hpost : ∀ s, RunsX P I N fn (f (z s)) fs .normal ((hd n s).st next)) : ∀ (j i : Nat) (s : σ), i + j = n → Runs P I N fn (f (scanned z (Ev.scan p j i s))) (.loop id r j :: fs) (flat r) ((hd i s).st next)
  | 0, i, s, hi => by
    obtain rfl : i = n := by omega
    exact Runs.step C (hend s) (RunsX.out (hpost s))
  | j + 1, i, s, hi => by
    have h := hround i s (by omega)
    simp only [Ev.scan]
    cases hp : p i s with
    | error u =>
      rw [hp] at h
      exact Runs.ret C h
    | ok s' =>
      rw [hp] at h
      exact Runs.step C h (RunsX.again (Runs.scan C hround hend hpost j (i + 1) s' (by omega)))
theorem Runs.scanFn {α σ : Type} (C : Ctx P X G I) (hl : hasLoop l = true) {st : St} {n : Nat} {p : Nat → σ → Except α σ} {f : α → SV} {hd : Nat → σ → Cut} {z : σ → α} (s0 : σ)
    (hpre : evK P X G k N (seqL (preOf l)) st (grab P fn ts bs next) = some (.cut .normal (hd 0 s0)))
    (hround : ∀ i s, i < n → evK P X G k N (seqL (flat (roundOf l))) ((hd i s).st next) (grab P fn ts bs next) = some (toS f (hd (i + 1)) (p i s)))
    (hend : ∀ s, evK P X G k N (seqL (flat (roundOf l))) ((hd n s).st next) (grab P fn ts bs next) = some (.cut (.exit (idOf l)) (hd n s)))
    (hpost : ∀ s, Runs P I N fn (f (z s)) fs (postOf l) ((hd n s).st next)) : Runs P I N fn (f (scanned z (Ev.scan p n 0 s0))) fs l st :=
  Runs.looped C hl n hpre (Runs.scan C hround hend (fun s => RunsX.rest (hpost s)) n 0 s0 (by omega))
end
end Go.Ev
namespace Go.Proofs.YtaojjpdlfnphiaaDoor.PDescKinds
open Go.RowKit Go.Ev
/-- A delta. -/
structure Dl where
  o : Int
  what : Int
  n : Int
  yes : Bool
  v : V
  k : K
  d : D
def K0 : K := ⟨⟨#[]⟩, 0⟩
def Dl.list (x : Dl) : List Value := .int .i64 x.o :: .int .i64 x.what :: .int .i64 x.n :: .bool x.yes :: (x.v.list ++ (.string x.k.s :: .int .i64 x.k.n :: x.d.list))
def Dl.cells (x : Dl) : List SV := x.list.map SV.val
theorem Dl.list_length (x : Dl) : x.list.length = 29 := rfl
theorem Dl.list_one (x : Dl) : ∀ u ∈ x.list, u.oneCell' = true := by
  intro u hu
  simp only [Dl.list, D.list, V.list, List.cons_append, List.nil_append, List.mem_cons, List.not_mem_nil, or_false] at hu
  rcases hu with rfl | rfl | rfl | rfl | rfl | rfl | rfl | rfl | rfl | rfl | rfl | rfl | rfl | rfl | rfl | rfl | rfl | rfl | rfl | rfl | rfl | rfl | rfl | rfl | rfl | rfl | rfl | rfl | rfl <;> rfl
theorem info99 : ∃ (i : TypeInfo) (z : Value), Tryd.prog.info? 99 = some i ∧ i.zero = some z ∧ i.size = 29 ∧ i.bytes = 272 ∧ z.cells.size = 29 := by
  have h : (Tryd.prog.info? 99).bind (fun i => i.zero.map fun z => (i.size, i.bytes, z.cells.size)) = some (29, 272, 29) := by kernel_rfl
  obtain ⟨i, hi, h⟩ := Option.bind_eq_some_iff.1 h
  obtain ⟨z, hz, h⟩ := Option.map_eq_some_iff.1 h
  simp only [Prod.mk.injEq] at h
  exact ⟨i, z, hi, hz, h.1, h.2.1, h.2.2⟩
/-- A function stands where its temporaries hold what is said, and an own row holds a list of deltas. -/
structure Grow (M : Nat → Mo) (bx : Nat → XR) (N : Nat) (w0 : World) (tv : Nat) (ts : List (Nat × SV)) (L : List Dl) (a : Act) (w : World) : Prop where
  below : Below w0.heap.size w0 w
  inv : Inv M bx w0
  size : a.tmps.size = N
  defers : a.defers = []
  tm : ∀ p ∈ ts, a.tmps.getD p.1 undef = @SV.den (rowsB M bx) (fun _ => 0) p.2
  ok : ∀ p ∈ ts, @SV.ok (rowsB M bx) (fun _ => none) p.2
  own : w.ownsRow w0.heap.size 99 29 (a.tmps.getD tv undef) L.length (L.flatMap Dl.list)
section
variable {M : Nat → Mo} {bx : Nat → XR} {N : Nat} {w0 : World} {tv : Nat} {ts : List (Nat × SV)} {L : List Dl} {a : Act} {w : World}
theorem Grow.invw (h : Grow M bx N w0 tv ts L a w) : Inv M bx w := inv_stable _ _ _ _ h.inv h.below
theorem cutT_at {st : St} : ∀ {ts : List (Nat × SV)}, cutT st (ts.map Prod.fst) = ts → ∀ p ∈ ts, st.tmps p.1 = p.2
  | [], _, p, hp => by cases hp
  | q :: r, h, p, hp => by
    simp only [List.map_cons, cutT, List.cons.injEq] at h
    rcases List.mem_cons.1 hp with rfl | hp
    · exact congrArg Prod.snd h.1
    · exact cutT_at h.2 p hp
theorem Grow.sr (h : Grow M bx N w0 tv ts L a w) : @SR (rowsB M bx) w N (fun _ => 0) ((⟨(tv, .val (a.tmps.getD tv undef)) :: ts, []⟩ : Cut).st 0) a w := by
  letI := rowsB M bx
  refine epoch h.size h.defers _ _ (fun p hp => ?_) (fun p hp => ?_)
  · rcases List.mem_cons.1 hp with rfl | hp
    · exact (den_val _ _).symm
    · exact h.tm p hp
  · rcases List.mem_cons.1 hp with rfl | hp
    · exact ok_val _ _
    · exact h.ok p hp
/-- Behind a piece the row is as_ it was. -/
theorem Grow.next (h : Grow M bx N w0 tv ts L a w) {a' : Act} {w' : World} {m : Nat → Nat} {st : St} (hr : @SR (rowsB M bx) w N m st a' w') (hv : st.tmps tv = .val (a.tmps.getD tv undef)) {ts' : List (Nat × SV)}
    (ht : ∀ p ∈ ts', st.tmps p.1 = p.2 ∧ p.2.known = true ∧ @SV.ok (rowsB M bx) (fun _ => none) p.2) : Grow M bx N w0 tv ts' L a' w' := by
  letI := rowsB M bx
  have hb := hr.mr.below
  have e : a'.tmps.getD tv undef = a.tmps.getD tv undef := (hr.ar.tm tv (by rw [hv]; rfl)).trans (by rw [hv]; exact den_val _ _)
  refine ⟨h.below.trans (hb.mono h.below.size), h.inv, hr.ar.size, hr.ar.defers, fun p hp => ?_, fun p hp => (ht p hp).2.2, ?_⟩
  · obtain ⟨h1, h2, h3⟩ := ht p hp
    rw [hr.ar.tm p.1 (by rw [h1]; exact h2), h1]
    exact (SV.den_agree (mem := fun _ => none) (m := m) (m' := fun _ => 0) (fun b hb => by cases hb) h3).symm
  · rw [e]
    exact h.own.kept (grown_of hb none) (by cases hv : (a.tmps.getD tv undef).ownBlock <;> simp)
/-- An append of one delta. -/
theorem Grow.site {X : ExtFn} {call : CallFn} (hX : ExtSound Tryd.prog X) (hc : @CallSound (rowsB M bx) Tryd.prog (Inv M bx) call) (h : Grow M bx N w0 tv ts L a w) {id : Nat} {ops : Array Oper} {pre : List Oper} {oA oB : Oper} {x y d b : Nat}
    (hops : ops.toList = pre ++ [oA, oB]) (g1 : oA.guard = none) (g2 : oB.guard = none) (o1 : oA.op = .call { callee := .builtin .append, args := #[.tmp x, .tmp y], argTypes := #[68, 68] }) (t1 : oA.dst = some d) (o2 : oB.op = .assign (.tmp d)) (t2 : oB.dst = some tv)
    (hdN : d < N) (htN : tv < N) {st : St} {a1 : Act} {w1 : World} {m1 : Nat → Nat} (hr : @SR (rowsB M bx) w N m1 st a1 w1) {δ : Dl} {ts' : List (Nat × SV)}
    (hev : (@evOps (rowsB M bx) Tryd.prog X call ops N pre st).map (fun s => (s.tmps x, s.tmps y, s.mem b, cutT s (ts'.map Prod.fst))) = some (.val (a.tmps.getD tv undef), .slc b 0 1 1, some ⟨99, δ.cells⟩, ts'))
    (hne : ∀ p ∈ ts', p.1 ≠ d ∧ p.1 ≠ tv ∧ p.2.known = true ∧ @SV.ok (rowsB M bx) (fun _ => none) p.2) (hlen : L.length ≤ 5000000)
    {Q : Exit → Act → World → Prop} (hQ : ∀ a' w', Grow M bx N w0 tv ts' (L ++ [δ]) a' w' → Q .normal a' w') : (Code.region id ops false).wp Tryd.prog Q a1 w1 := by
  letI := rowsB M bx
  refine wp_region_list ?_
  rw [hops]
  obtain ⟨st', hst, hpr⟩ := Option.map_eq_some_iff.1 hev
  simp only [Prod.mk.injEq] at hpr
  obtain ⟨px, py, pm, pt⟩ := hpr
  refine ops_sound_tail hX h.invw (inv_stable M bx) (fun _ h => h.2) hc _ _ _ _ m1 a1 w1 hst hr ?_
  intro m6 a6 w6 _ hr6
  have b6 := hr6.mr.below
  generalize hv : a.tmps.getD tv undef = v at px
  have hown0 := h.own
  rw [hv] at hown0
  have ex : a6.eval (.tmp x) = v := (hr6.ar.tm x (by rw [px]; rfl)).trans (by rw [px]; exact den_val _ _)
  have ey : a6.eval (.tmp y) = .slice (some ⟨m6 b, 0, none⟩) 1 1 := (hr6.ar.tm y (by rw [py]; rfl)).trans (by rw [py]; exact den_slc _ _ _ _ _)
  have hb2 := hr6.mr.blk b _ pm
  have hsz6 : a6.tmps.size = N := hr6.ar.size
  have hh2 : w6.heap[m6 b]? = some (.cells δ.list.toArray 99 (0, 0)) := by
    have := hb2.2.1
    simp only [Dl.cells, List.map_map] at this
    rw [show (SV.den m6 ∘ SV.val) = _root_.id from funext fun v => den_val m6 v, List.map_id] at this
    exact this
  have hown : w6.ownsRow w0.heap.size 99 29 v L.length (L.flatMap Dl.list) := hown0.kept (grown_of b6 none) (by cases hv : v.ownBlock <;> simp)
  have hM : maxLen = 9223372036854775807 := by decide +kernel
  obtain ⟨i99, z99, hi1, hi2, hi3, hi4, hi5⟩ := info99
  refine wpList_append_own w6 g1 (.tmp x) (.tmp y) 68 o1 w0.heap.size 99 i99 z99 29 272 Tryd.underlying68 hi1 hi2 hi3 hi4 hi5 (by decide) _ L.length _ ex hown ⟨m6 b, 0, none⟩ 1 1 δ.list ey rfl ?_ (Dl.list_one δ) ?_ ?_ ?_ ?_
  · intro j u hu
    rw [add_none, cell_of_row w6 (m6 b) _ _ 99 (0, 0) hh2]
    simpa using hu
  · omega
  · omega
  · exact Nat.le_trans h.below.size b6.size
  intro v' w7 hown7 hgr hnil
  refine wpList_plain g2 fun K hK => ?_
  have hex : (execOp (a6.put oA.dst v').eval oB).run Tryd.prog w7 = .ok (.value v') w7 := by
    have e24 : (a6.put oA.dst v').eval (.tmp d) = v' := by rw [t1]; exact Copy.put_self a6 d v' (by omega)
    unfold execOp
    simp only [o2, e24, Sem.run_pure]
  unfold Oper.wp
  rw [hex, Oper.upon_value, t1, t2]
  have e3 : ((a6.put (some d) v').put (some tv) v').tmps.getD tv undef = v' := Copy.put_self _ tv v' (by simp [Act.put, hsz6]; omega)
  have eo : ∀ t, t ≠ d → t ≠ tv → ((a6.put (some d) v').put (some tv) v').tmps.getD t undef = a6.tmps.getD t undef := fun t h1 h2 => by rw [Copy.put_ne _ _ _ _ (Ne.symm h2), Copy.put_ne _ _ _ _ (Ne.symm h1)]
  have hbel6 : Below w0.heap.size w0 w6 := h.below.trans (b6.mono h.below.size)
  have hb7 : Below w0.heap.size w0 w7 := hbel6.trans ⟨hgr.os, hgr.tape, hgr.output, hgr.size, fun k hk => hgr.block k (Nat.lt_of_lt_of_le hk hbel6.size) (fun e => by
      have := (hown.lt k e.symm).1
      omega)⟩
  refine hK _ _ (hQ _ _ ⟨hb7, h.inv, by simp [Act.put, hsz6], hr6.ar.defers, fun p hp => ?_, fun p hp => (hne p hp).2.2.2, ?_⟩)
  · obtain ⟨n1, n2, n3, n4⟩ := hne p hp
    rw [eo p.1 n1 n2, hr6.ar.tm p.1 (by rw [cutT_at pt p hp]; exact n3), cutT_at pt p hp]
    exact (SV.den_agree (mem := fun _ => none) (m := m6) (m' := fun _ => 0) (fun b hb => by cases hb) n4).symm
  · rw [e3, List.length_append, List.flatMap_append]
    simpa using hown7
end
end Go.Proofs.YtaojjpdlfnphiaaDoor.PDescKinds
end
section
/- Moments: kept. Written by a program of this session. -/
set_option linter.unusedSimpArgs false
set_option linter.unusedVariables false
set_option linter.unusedSectionVars false
namespace Go.Proofs.YtaojjpdlfnphiaaDoor.PDescKinds
open Go.RowKit Go.Ev
namespace S
def keptStep (b a : Sh) (i : Nat) (s : Int) : Except Int Int := bif decide (find b (a.g i).k ≤ s) then .error i else .ok (find b (a.g i).k)
def kept (b a : Sh) : Int := scanned (fun _ => (a.n : Int)) (scan (keptStep b a) a.n 0 (-1))
end S
theorem toS_cond {α σ : Type} (f : α → SV) (hd : σ → Cut) (c : Bool) (x : α) (y : σ) : toS f hd (bif c then .error x else .ok y) = bif c then .ret (f x) else .cut .normal (hd y) := by cases c <;> rfl
set_option maxRecDepth 100000 in
theorem kept112_pre (M : Nat → Mo) (bx : Nat → XR) (q r : SA) (s : Int) : letI := rowsB M bx
    evK Tryd.prog ext (tab2 BvL5 [(110, idxC M)]) 80 30 (seqL (preOf (bodyOf Tryd.f112))) (⟨argS [q.sv, r.sv], fun _ => none, 0⟩) (grab Tryd.prog Tryd.f112 [2, 3, 5, 10, 11, 12] [0, 1] 2) =
    some (Res.cut Ex.normal (Cut.mk [(2, SV.ptr 0 0), (3, SV.ptr 1 0), (5, SV.val (Value.int IntKind.i64 (-1))), (10, SV.xs [r.a, r.b]), (11, SV.val (Value.int IntKind.i64 (↑((M r.a).g r.b).n : Int))), (12, SV.val (Value.int IntKind.i64 0))] [(0, Blk.mk 60 [SV.val (Value.int IntKind.i64 q.cl), SV.val (Value.int IntKind.i64 q.p.k), SV.val (Value.bool q.p.b), SV.val (Value.float FloatKind.f64 q.p.n), SV.val (Value.string q.p.s), SV.val (Value.int IntKind.i64 q.p.id), SV.val (Value.bool q.x), SV.xs [q.a, q.b]]), (1, Blk.mk 60 [SV.val (Value.int IntKind.i64 r.cl), SV.val (Value.int IntKind.i64 r.p.k), SV.val (Value.bool r.p.b), SV.val (Value.float FloatKind.f64 r.p.n), SV.val (Value.string r.p.s), SV.val (Value.int IntKind.i64 r.p.id), SV.val (Value.bool r.x), SV.xs [r.a, r.b]])])) := by kernel_rfl
set_option maxRecDepth 100000 in
theorem kept112_round (M : Nat → Mo) (bx : Nat → XR) (q r : SA) (s : Int) (i : Nat) : letI := rowsB M bx
    evK Tryd.prog ext (tab2 BvL5 [(110, idxC M)]) 80 30 (seqL (flat (roundOf (bodyOf Tryd.f112)))) ((⟨[(2, .ptr 0 0), (3, .ptr 1 0), (5, .val (.int .i64 s)), (10, .xs [r.a, r.b]), (11, .val (.int .i64 ((M r.a).g r.b).n)), (12, .val (.int .i64 (i : Int)))], [(0, ⟨60, shCells q.cl q.p q.x [q.a, q.b]⟩), (1, ⟨60, shCells r.cl r.p r.x [r.a, r.b]⟩)]⟩ : Cut).st 2) (grab Tryd.prog Tryd.f112 [2, 3, 5, 10, 11, 12] [0, 1] 2) =
    (bif decide ((↑i : Int) < (↑((M r.a).g r.b).n : Int)) then 
     (bif decide (0 ≤ (↑i : Int)) && decide ((↑i : Int) < (↑((M r.a).g r.b).n : Int)) then 
      (bif decide (S.find ((M q.a).g q.b) (K.mk (((M r.a).g r.b).g i).k.s (((M r.a).g r.b).g i).k.n) ≤ s) then some (Res.ret (SV.val (Value.int IntKind.i64 (↑i : Int)))) else some (Res.cut Ex.normal (Cut.mk [(2, SV.ptr 0 0), (3, SV.ptr 1 0), (5, SV.val (Value.int IntKind.i64 (S.find ((M q.a).g q.b) (K.mk (((M r.a).g r.b).g i).k.s (((M r.a).g r.b).g i).k.n)))), (10, SV.xs [r.a, r.b]), (11, SV.val (Value.int IntKind.i64 (↑((M r.a).g r.b).n : Int))), (12, SV.val (Value.int IntKind.i64 (IntKind.i64.wrap ((↑i : Int) + 1))))] [(0, Blk.mk 60 [SV.val (Value.int IntKind.i64 q.cl), SV.val (Value.int IntKind.i64 q.p.k), SV.val (Value.bool q.p.b), SV.val (Value.float FloatKind.f64 q.p.n), SV.val (Value.string q.p.s), SV.val (Value.int IntKind.i64 q.p.id), SV.val (Value.bool q.x), SV.xs [q.a, q.b]]), (1, Blk.mk 60 [SV.val (Value.int IntKind.i64 r.cl), SV.val (Value.int IntKind.i64 r.p.k), SV.val (Value.bool r.p.b), SV.val (Value.float FloatKind.f64 r.p.n), SV.val (Value.string r.p.s), SV.val (Value.int IntKind.i64 r.p.id), SV.val (Value.bool r.x), SV.xs [r.a, r.b]])]))) else none) else some (Res.cut (Ex.exit 0) (Cut.mk [(2, SV.ptr 0 0), (3, SV.ptr 1 0), (5, SV.val (Value.int IntKind.i64 s)), (10, SV.xs [r.a, r.b]), (11, SV.val (Value.int IntKind.i64 (↑((M r.a).g r.b).n : Int))), (12, SV.val (Value.int IntKind.i64 (↑i : Int)))] [(0, Blk.mk 60 [SV.val (Value.int IntKind.i64 q.cl), SV.val (Value.int IntKind.i64 q.p.k), SV.val (Value.bool q.p.b), SV.val (Value.float FloatKind.f64 q.p.n), SV.val (Value.string q.p.s), SV.val (Value.int IntKind.i64 q.p.id), SV.val (Value.bool q.x), SV.xs [q.a, q.b]]), (1, Blk.mk 60 [SV.val (Value.int IntKind.i64 r.cl), SV.val (Value.int IntKind.i64 r.p.k), SV.val (Value.bool r.p.b), SV.val (Value.float FloatKind.f64 r.p.n), SV.val (Value.string r.p.s), SV.val (Value.int IntKind.i64 r.p.id), SV.val (Value.bool r.x), SV.xs [r.a, r.b]])]))) := by kernel_rfl
set_option maxRecDepth 100000 in
theorem kept112_post (M : Nat → Mo) (bx : Nat → XR) (q r : SA) (s : Int) (i : Nat) : letI := rowsB M bx
    evK Tryd.prog ext (tab2 BvL5 [(110, idxC M)]) 80 30 (seqL (postOf (bodyOf Tryd.f112))) ((⟨[(2, .ptr 0 0), (3, .ptr 1 0), (5, .val (.int .i64 s)), (10, .xs [r.a, r.b]), (11, .val (.int .i64 ((M r.a).g r.b).n)), (12, .val (.int .i64 (i : Int)))], [(0, ⟨60, shCells q.cl q.p q.x [q.a, q.b]⟩), (1, ⟨60, shCells r.cl r.p r.x [r.a, r.b]⟩)]⟩ : Cut).st 2) (grab Tryd.prog Tryd.f112 [2, 3, 5, 10, 11, 12] [0, 1] 2) =
    some (Res.ret (SV.val (Value.int IntKind.i64 (↑((M r.a).g r.b).n : Int)))) := by kernel_rfl
set_option maxRecDepth 100000 in
theorem run_kept112 (M : Nat → Mo) (bx : Nat → XR) (hM : Fit M) (q r : SA) : letI := rowsB M bx
    Runs Tryd.prog (Inv M bx) 30 Tryd.f112 (.val (.int .i64 (S.kept (q.sh M) (r.sh M)))) [] (bodyOf Tryd.f112) ⟨argS [q.sv, r.sv], fun _ => none, 0⟩ := by
  letI := rowsB M bx
  have C := ctxB M bx Bvents5 (entsS_cons (ent_idxC M bx hM) entsS_nil)
  refine Runs.scanFn C (by kernel_rfl) (n := ((M r.a).g r.b).n) (p := S.keptStep (q.sh M) (r.sh M)) (f := fun x : Int => SV.val (.int .i64 x)) (z := fun _ => (((M r.a).g r.b).n : Int)) (hd := fun i s => (⟨[(2, .ptr 0 0), (3, .ptr 1 0), (5, .val (.int .i64 s)), (10, .xs [r.a, r.b]), (11, .val (.int .i64 ((M r.a).g r.b).n)), (12, .val (.int .i64 (i : Int)))], [(0, ⟨60, shCells q.cl q.p q.x [q.a, q.b]⟩), (1, ⟨60, shCells r.cl r.p r.x [r.a, r.b]⟩)]⟩ : Cut)) (-1) (kept112_pre M bx q r 0) (fun i s hi => ?_) (fun s => ?_) (fun s => Runs.ret C (kept112_post M bx q r s _))
  · refine (kept112_round M bx q r s i).trans ?_
    simp only [dlt hi, dge, wr hi ((hM r.a).2 r.b), cond_true, cond_false, Bool.and_self, Bool.true_and, S.keptStep, toS_cond, some_cond]
    first | done | rfl
  · refine (kept112_round M bx q r s ((M r.a).g r.b).n).trans ?_
    simp only [dnl, cond_false]
    rfl
theorem ent_kept112 (M : Nat → Mo) (bx : Nat → XR) (hM : Fit M) : Ent M bx (112, noMem (onShSh fun q r => LI (S.kept (q.sh M) (r.sh M)))) := by
  letI := rowsB M bx
  refine EntryS.of (fun args t v h1 h2 => ?_) (inv_stable M bx)
  obtain ⟨q, r, rfl, rfl⟩ := onShSh_eq h1
  cases h2
  refine ⟨ok_val _ _, ?_, fun w m hI => Runs.calls (body := Tryd.f112.body.getD .skip) Tryd.func112 (by kernel_rfl) (by kernel_rfl) ?_ (run_kept112 M bx hM q r) w hI m⟩ <;>
  · intro x hx
    simp only [List.mem_cons, List.not_mem_nil, or_false] at hx
    rcases hx with rfl | rfl <;> exact ok_sa _ _
end Go.Proofs.YtaojjpdlfnphiaaDoor.PDescKinds
end
section
/- invariant.between: what makes a shape another one, as_ a list of deltas in memory of its own. -/
set_option linter.unusedSimpArgs false
set_option linter.unusedVariables false
set_option linter.unusedSectionVars false
namespace Go.Proofs.YtaojjpdlfnphiaaDoor.PDescKinds
open Go.RowKit Go.Ev
/-! Steps beside an own row -/
section
variable [XEnv]
def okB : SV → Bool
  | .val _ => true
  | .xs _ => true
  | .xp r i _ => Nat.blt i (XEnv.env r).n
  | _ => false
theorem okB_ok {s : SV} (h : okB s = true) : s.known = true ∧ s.ok fun _ => none := by
  unfold okB at h
  split at h
  · exact ⟨rfl, ok_val _ _⟩
  · exact ⟨rfl, ok_xs⟩
  · exact ⟨rfl, ok_xp.2 (by simpa [Nat.blt_eq] using h)⟩
  · cases h
def goodB (tv : Nat) : List (Nat × SV) → Bool
  | [] => true
  | p :: r => !(Nat.beq p.1 tv) && (okB p.2 && (r.all (fun q => !(Nat.beq q.1 p.1)) && goodB tv r))
theorem beq_ne {a b : Nat} (h : (!(Nat.beq a b)) = true) : a ≠ b := fun e => by
  subst e
  rw [Nat.beq_refl] at h
  cases h
theorem pickT_cons {t : Nat} {p : Nat × SV} {r : List (Nat × SV)} (h : t ≠ p.1) : pickT (p :: r) t = pickT r t := by
  simp only [pickT]
  cases hb : Nat.beq t p.1 with
  | true => exact absurd (Nat.eq_of_beq_eq_true hb) h
  | false => rfl
theorem pickT_head {p : Nat × SV} {r : List (Nat × SV)} : pickT (p :: r) p.1 = p.2 := by
  simp only [pickT, Nat.beq_refl, cond_true]
theorem goodB_at {tv : Nat} : ∀ {ts : List (Nat × SV)}, goodB tv ts = true → ∀ p ∈ ts, pickT ts p.1 = p.2 ∧ p.2.known = true ∧ (p.2.ok fun _ => none) ∧ p.1 ≠ tv
  | [], _, p, hp => by cases hp
  | q :: r, h, p, hp => by
    simp only [goodB, Bool.and_eq_true, List.all_eq_true] at h
    obtain ⟨h1, h2, h3, h4⟩ := h
    rcases List.mem_cons.1 hp with rfl | hp
    · exact ⟨pickT_head, (okB_ok h2).1, (okB_ok h2).2, beq_ne h1⟩
    · obtain ⟨g1, g2, g3, g4⟩ := goodB_at h4 p hp
      exact ⟨(pickT_cons (beq_ne (h3 p hp))).trans g1, g2, g3, g4⟩
end
section
variable {M : Nat → Mo} {bx : Nat → XR} {N : Nat} {w0 : World} {tv : Nat} {ts ts' : List (Nat × SV)} {L : List Dl} {a : Act} {w : World} {X : ExtFn} {G : GFn} {k : Nat} {l : List Code} {fn : Func} {names : List Nat} {ex : Ex}
/-- A piece that leaves no own block behind. -/
theorem Grow.step (C : @Ctx (rowsB M bx) Tryd.prog X G (Inv M bx)) (h : Grow M bx N w0 tv ts L a w)
    (hev : ∀ v, @evK (rowsB M bx) _ Tryd.prog X G k N (seqL l) ((⟨(tv, .val v) :: ts, []⟩ : Cut).st 0) (grab Tryd.prog fn names [] 0) = some (.cut ex ⟨(tv, .val v) :: ts', []⟩))
    (hg : @goodB (rowsB M bx) tv ts' = true) {Q : Exit → Act → World → Prop} (hQ : ∀ a' w', Grow M bx N w0 tv ts' L a' w' → Q ex.out a' w') : wpL Tryd.prog l Q a w := by
  letI := rowsB M bx
  refine piece C.mix C.hX C.hs C.hXO C.hG (hev _) h.invw h.sr (fun v hv => by cases hv) (fun ex' d hd m' a' w' hr => ?_)
  cases hd
  refine hQ a' w' (h.next hr (pickT_head (p := (tv, SV.val (a.tmps.getD tv undef))) (r := ts')) fun p hp => ?_)
  obtain ⟨g1, g2, g3, g4⟩ := goodB_at hg p hp
  exact ⟨(pickT_cons g4).trans g1, g2, g3⟩
/-- Back from where own blocks stood. -/
theorem Grow.back (h : Grow M bx N w0 tv ts L a w) {a' : Act} {w' : World} {m : Nat → Nat} {bs : List (Nat × Blk)} {nxt : Nat} {ts2 : List (Nat × SV)} (hr : @SR (rowsB M bx) w N m ((⟨(tv, .val (a.tmps.getD tv undef)) :: ts2, bs⟩ : Cut).st nxt) a' w')
    (hg : @goodB (rowsB M bx) tv ts' = true) (hs : ∀ p ∈ ts', pickT ts2 p.1 = p.2) : Grow M bx N w0 tv ts' L a' w' := by
  refine h.next hr (pickT_head (p := (tv, SV.val (a.tmps.getD tv undef))) (r := ts2)) fun p hp => ?_
  obtain ⟨g1, g2, g3, g4⟩ := @goodB_at (rowsB M bx) tv ts' hg p hp
  exact ⟨(pickT_cons g4).trans (hs p hp), g2, g3⟩
end
/-- Where find is asked ahead of kept, it finds. -/
theorem kept_go (b a : Sh) : ∀ (k i : Nat) (s : Int), i + k = a.n → -1 ≤ s → ∀ j : Nat, i ≤ j → j < a.n → (j : Int) < scanned (fun _ => (a.n : Int)) (scan (S.keptStep b a) k i s) → 0 ≤ S.find b (a.g j).k
  | 0, i, s, hi, hs, j, h1, h2, h3 => by omega
  | k + 1, i, s, hi, hs, j, h1, h2, h3 => by
    simp only [scan, S.keptStep] at h3
    by_cases hd : S.find b (a.g i).k ≤ s
    · rw [decide_eq_true hd] at h3
      simp only [cond_true, scanned] at h3
      omega
    · rw [decide_eq_false hd] at h3
      simp only [cond_false] at h3
      by_cases e : j = i
      · subst e; omega
      · exact kept_go b a k (i + 1) _ (by omega) (by omega) j (by omega) h2 h3
theorem kept_find {b a : Sh} {j : Nat} (hj : j < a.n) (h : (j : Int) < S.kept b a) : 0 ≤ S.find b (a.g j).k ∧ S.find b (a.g j).k < (b.n : Int) := by
  have h0 := kept_go b a a.n 0 (-1) (by omega) (by omega) j (Nat.zero_le _) hj h
  obtain ⟨t, h1, h2, _⟩ := S.idx_some (p := fun i => S.keq (b.g i).k (a.g j).k) (n := b.n) h0
  have h1 : S.find b (a.g j).k = t := h1
  omega
namespace S
def dCl (o : Int) (a : Sh) : Dl := ⟨o, 2, a.cl, false, V0, K0, D0⟩
def dPr (o : Int) (a : Sh) : Dl := ⟨o, 3, 0, false, a.p, K0, D0⟩
def dEx (o : Int) (a : Sh) : Dl := ⟨o, 4, 0, a.x, V0, K0, D0⟩
def dGone (o : Int) (p : Pr) : Dl := ⟨o, 5, 0, false, V0, p.k, D0⟩
def dPut (o : Int) (p : Pr) : Dl := ⟨o, 6, 0, false, V0, p.k, p.d⟩
def goneAt (b a : Sh) (i : Nat) : Bool := decide (find a (b.g i).k < 0) || decide (find a (b.g i).k ≥ kept b a)
def putAt (b a : Sh) (i : Nat) : Bool := decide ((i : Int) ≥ kept b a) || !alikeC (b.g (find b (a.g i).k).toNat).d (a.g i).d
def iff (c : Bool) (d : Dl) : List Dl := bif c then [d] else []
def gones (o : Int) (b a : Sh) (n : Nat) : List Dl := (List.range n).flatMap fun i => iff (goneAt b a i) (dGone o (b.g i))
def puts (o : Int) (b a : Sh) (n : Nat) : List Dl := (List.range n).flatMap fun i => iff (putAt b a i) (dPut o (a.g i))
/-- invariant.between. -/
def heads (o : Int) (b a : Sh) : List Dl := iff (a.cl != b.cl) (dCl o a) ++ iff (!eqC a.p b.p) (dPr o a) ++ iff (a.x != b.x) (dEx o a)
def between (o : Int) (b a : Sh) : List Dl := heads o b a ++ gones o b a b.n ++ puts o b a a.n
end S
namespace Btw
noncomputable def bt : List Code := bodyOf Tryd.f88
noncomputable def at_ (k : Nat) : Code := bt.getD k .skip
noncomputable def rd1 : List Code := flat (roundOf [at_ 10])
noncomputable def in1 : List Code := flat (inB (rd1.getD 2 .skip))
noncomputable def rd2 : List Code := flat (roundOf [at_ 12])
noncomputable def in2 : List Code := flat (inB (rd2.getD 2 .skip))
noncomputable def o3 : Array Oper := opsOf (thenOf (at_ 3))
noncomputable def o5 : Array Oper := opsOf (thenOf (at_ 5))
noncomputable def o7 : Array Oper := opsOf (thenOf (at_ 7))
noncomputable def o14 : Array Oper := opsOf (thenOf (in1.getD 3 .skip))
noncomputable def o20 : Array Oper := opsOf (thenOf (in2.getD 2 .skip))
abbrev BL (M : Nat → Mo) : GFn := tab2 BvL5 [(110, idxC M), (112, noMem (onShSh fun q r => LI (S.kept (q.sh M) (r.sh M))))]
end Btw
set_option maxRecDepth 100000 in
theorem bt_st (M : Nat → Mo) (A0 A1 : Option Addr) (q r : SA) (o : Int) (v : Value) : letI := rowsB M (fun _ => ⟨none, 1, 0, 0, fun _ => []⟩)
    evK Tryd.prog ext (Btw.BL M) 90 117 (seqL (Btw.bt.take 2)) (⟨argS [.val (.int .i64 o), q.sv, r.sv], fun _ => none, 0⟩) (grab Tryd.prog Tryd.f88 [0, 4, 5, 7] [0, 1] 2) =
    some (.cut .normal ⟨[(0, .val (.int .i64 o)), (4, .ptr 0 0), (5, .ptr 1 0), (7, .val (.slice none 0 0))], [(0, ⟨60, shCells q.cl q.p q.x [q.a, q.b]⟩), (1, ⟨60, shCells r.cl r.p r.x [r.a, r.b]⟩)]⟩) := by kernel_rfl
set_option maxRecDepth 100000 in
theorem bt_a (M : Nat → Mo) (A0 A1 : Option Addr) (q r : SA) (o : Int) (v : Value) : letI := rowsB M (fun x => bif Nat.beq x 0 then ⟨A0, 8, 1, 1, fun _ => shCells q.cl q.p q.x [q.a, q.b]⟩ else ⟨A1, 8, 1, 1, fun _ => shCells r.cl r.p r.x [r.a, r.b]⟩)
    evK Tryd.prog ext (Btw.BL M) 90 117 (seqL [Btw.at_ 2]) ((⟨[(7, .val v), (0, .val (.int .i64 o)), (4, .xp [0, 0, 0] 0 0), (5, .xp [1, 0, 0] 0 0)], []⟩ : Cut).st 0) (grab Tryd.prog Tryd.f88 [7, 0, 4, 5, 18] [] 0) =
    some (.cut .normal ⟨(7, .val v) :: [(0, .val (.int .i64 o)), (4, .xp [0, 0, 0] 0 0), (5, .xp [1, 0, 0] 0 0), (18, .val (.bool (r.cl != q.cl)))], []⟩) := by kernel_rfl
set_option maxRecDepth 100000 in
theorem bt_b (M : Nat → Mo) (A0 A1 : Option Addr) (q r : SA) (o : Int) (v : Value) : letI := rowsB M (fun x => bif Nat.beq x 0 then ⟨A0, 8, 1, 1, fun _ => shCells q.cl q.p q.x [q.a, q.b]⟩ else ⟨A1, 8, 1, 1, fun _ => shCells r.cl r.p r.x [r.a, r.b]⟩)
    evK Tryd.prog ext (Btw.BL M) 90 117 (seqL [Btw.at_ 4]) ((⟨[(7, .val v), (0, .val (.int .i64 o)), (4, .xp [0, 0, 0] 0 0), (5, .xp [1, 0, 0] 0 0)], []⟩ : Cut).st 0) (grab Tryd.prog Tryd.f88 [7, 0, 4, 5, 31] [] 0) =
    some (.cut .normal ⟨(7, .val v) :: [(0, .val (.int .i64 o)), (4, .xp [0, 0, 0] 0 0), (5, .xp [1, 0, 0] 0 0), (31, .val (.bool (!S.eqC r.p q.p)))], []⟩) := by kernel_rfl
set_option maxRecDepth 100000 in
theorem bt_c (M : Nat → Mo) (A0 A1 : Option Addr) (q r : SA) (o : Int) (v : Value) : letI := rowsB M (fun x => bif Nat.beq x 0 then ⟨A0, 8, 1, 1, fun _ => shCells q.cl q.p q.x [q.a, q.b]⟩ else ⟨A1, 8, 1, 1, fun _ => shCells r.cl r.p r.x [r.a, r.b]⟩)
    evK Tryd.prog ext (Btw.BL M) 90 117 (seqL [Btw.at_ 6]) ((⟨[(7, .val v), (0, .val (.int .i64 o)), (4, .xp [0, 0, 0] 0 0), (5, .xp [1, 0, 0] 0 0)], []⟩ : Cut).st 0) (grab Tryd.prog Tryd.f88 [7, 0, 4, 5, 43] [] 0) =
    some (.cut .normal ⟨(7, .val v) :: [(0, .val (.int .i64 o)), (4, .xp [0, 0, 0] 0 0), (5, .xp [1, 0, 0] 0 0), (43, .val (.bool (r.x != q.x)))], []⟩) := by kernel_rfl
set_option maxRecDepth 100000 in
theorem bt_d (M : Nat → Mo) (A0 A1 : Option Addr) (q r : SA) (o : Int) (v : Value) : letI := rowsB M (fun x => bif Nat.beq x 0 then ⟨A0, 8, 1, 1, fun _ => shCells q.cl q.p q.x [q.a, q.b]⟩ else ⟨A1, 8, 1, 1, fun _ => shCells r.cl r.p r.x [r.a, r.b]⟩)
    evK Tryd.prog ext (Btw.BL M) 90 117 (seqL [Btw.at_ 8, Btw.at_ 9]) ((⟨[(7, .val v), (0, .val (.int .i64 o)), (4, .xp [0, 0, 0] 0 0), (5, .xp [1, 0, 0] 0 0)], []⟩ : Cut).st 0) (grab Tryd.prog Tryd.f88 [7, 0, 4, 5, 8, 55, 56, 57] [] 0) =
    some (.cut .normal ⟨(7, .val v) :: [(0, .val (.int .i64 o)), (4, .xp [0, 0, 0] 0 0), (5, .xp [1, 0, 0] 0 0), (8, .val (.int .i64 (S.kept (q.sh M) (r.sh M)))), (55, .xs [q.a, q.b]), (56, .val (.int .i64 ((M q.a).g q.b).n)), (57, .val (.int .i64 ((0 : Nat) : Int)))], []⟩) := by kernel_rfl
set_option maxRecDepth 100000 in
theorem bt_h1 (M : Nat → Mo) (A0 A1 : Option Addr) (q r : SA) (o : Int) (v : Value) (i : Nat) : letI := rowsB M (fun x => bif Nat.beq x 0 then ⟨A0, 8, 1, 1, fun _ => shCells q.cl q.p q.x [q.a, q.b]⟩ else ⟨A1, 8, 1, 1, fun _ => shCells r.cl r.p r.x [r.a, r.b]⟩)
    evK Tryd.prog ext (Btw.BL M) 90 117 (seqL (Btw.rd1.take 2)) ((⟨[(7, .val v), (0, .val (.int .i64 o)), (4, .xp [0, 0, 0] 0 0), (5, .xp [1, 0, 0] 0 0), (8, .val (.int .i64 (S.kept (q.sh M) (r.sh M)))), (55, .xs [q.a, q.b]), (56, .val (.int .i64 ((M q.a).g q.b).n)), (57, .val (.int .i64 (i : Int)))], []⟩ : Cut).st 0) (grab Tryd.prog Tryd.f88 [7, 0, 4, 5, 8, 55, 56, 57] [] 0) =
    bif decide ((i : Int) < (((M q.a).g q.b).n : Int)) then some (.cut .normal ⟨(7, .val v) :: [(0, .val (.int .i64 o)), (4, .xp [0, 0, 0] 0 0), (5, .xp [1, 0, 0] 0 0), (8, .val (.int .i64 (S.kept (q.sh M) (r.sh M)))), (55, .xs [q.a, q.b]), (56, .val (.int .i64 ((M q.a).g q.b).n)), (57, .val (.int .i64 (i : Int)))], []⟩) else some (.cut (.exit 0) ⟨(7, .val v) :: [(0, .val (.int .i64 o)), (4, .xp [0, 0, 0] 0 0), (5, .xp [1, 0, 0] 0 0), (8, .val (.int .i64 (S.kept (q.sh M) (r.sh M)))), (55, .xs [q.a, q.b]), (56, .val (.int .i64 ((M q.a).g q.b).n)), (57, .val (.int .i64 (i : Int)))], []⟩) := by kernel_rfl
set_option maxRecDepth 100000 in
theorem bt_i1 (M : Nat → Mo) (A0 A1 : Option Addr) (q r : SA) (o : Int) (v : Value) (i : Nat) : letI := rowsB M (fun x => bif Nat.beq x 0 then ⟨A0, 8, 1, 1, fun _ => shCells q.cl q.p q.x [q.a, q.b]⟩ else ⟨A1, 8, 1, 1, fun _ => shCells r.cl r.p r.x [r.a, r.b]⟩)
    evK Tryd.prog ext (Btw.BL M) 90 117 (seqL (Btw.in1.take 3)) ((⟨[(7, .val v), (0, .val (.int .i64 o)), (4, .xp [0, 0, 0] 0 0), (5, .xp [1, 0, 0] 0 0), (8, .val (.int .i64 (S.kept (q.sh M) (r.sh M)))), (55, .xs [q.a, q.b]), (56, .val (.int .i64 ((M q.a).g q.b).n)), (57, .val (.int .i64 (i : Int)))], []⟩ : Cut).st 0) (grab Tryd.prog Tryd.f88 [7, 0, 4, 5, 8, 55, 56, 57, 10, 71] [0] 1) =
    bif decide (0 ≤ (i : Int)) && decide ((i : Int) < (((M q.a).g q.b).n : Int)) then (bif decide (S.find ((M r.a).g r.b) (((M q.a).g q.b).g i).k < 0) then some (.cut .normal ⟨(7, .val v) :: [(0, .val (.int .i64 o)), (4, .xp [0, 0, 0] 0 0), (5, .xp [1, 0, 0] 0 0), (8, .val (.int .i64 (S.kept (q.sh M) (r.sh M)))), (55, .xs [q.a, q.b]), (56, .val (.int .i64 ((M q.a).g q.b).n)), (57, .val (.int .i64 (i : Int))), (10, .ptr 0 0), (71, .val (.bool true))], [(0, ⟨66, (((M q.a).g q.b).g i).cells⟩)]⟩) else some (.cut .normal ⟨(7, .val v) :: [(0, .val (.int .i64 o)), (4, .xp [0, 0, 0] 0 0), (5, .xp [1, 0, 0] 0 0), (8, .val (.int .i64 (S.kept (q.sh M) (r.sh M)))), (55, .xs [q.a, q.b]), (56, .val (.int .i64 ((M q.a).g q.b).n)), (57, .val (.int .i64 (i : Int))), (10, .ptr 0 0), (71, .val (.bool (decide (S.find ((M r.a).g r.b) (((M q.a).g q.b).g i).k ≥ S.kept (q.sh M) (r.sh M)))))], [(0, ⟨66, (((M q.a).g q.b).g i).cells⟩)]⟩)) else none := by kernel_rfl
set_option maxRecDepth 100000 in
theorem bt_n1 (M : Nat → Mo) (A0 A1 : Option Addr) (q r : SA) (o : Int) (v : Value) (i : Nat) : letI := rowsB M (fun x => bif Nat.beq x 0 then ⟨A0, 8, 1, 1, fun _ => shCells q.cl q.p q.x [q.a, q.b]⟩ else ⟨A1, 8, 1, 1, fun _ => shCells r.cl r.p r.x [r.a, r.b]⟩)
    evK Tryd.prog ext (Btw.BL M) 90 117 (seqL (Btw.rd1.drop 3)) ((⟨[(7, .val v), (0, .val (.int .i64 o)), (4, .xp [0, 0, 0] 0 0), (5, .xp [1, 0, 0] 0 0), (8, .val (.int .i64 (S.kept (q.sh M) (r.sh M)))), (55, .xs [q.a, q.b]), (56, .val (.int .i64 ((M q.a).g q.b).n)), (57, .val (.int .i64 (i : Int)))], []⟩ : Cut).st 0) (grab Tryd.prog Tryd.f88 [7, 0, 4, 5, 8, 55, 56, 57] [] 0) =
    some (.cut .normal ⟨(7, .val v) :: [(0, .val (.int .i64 o)), (4, .xp [0, 0, 0] 0 0), (5, .xp [1, 0, 0] 0 0), (8, .val (.int .i64 (S.kept (q.sh M) (r.sh M)))), (55, .xs [q.a, q.b]), (56, .val (.int .i64 ((M q.a).g q.b).n)), (57, .val (.int .i64 (IntKind.i64.wrap ((i : Int) + 1))))], []⟩) := by kernel_rfl
set_option maxRecDepth 100000 in
theorem bt_m (M : Nat → Mo) (A0 A1 : Option Addr) (q r : SA) (o : Int) (v : Value) (i : Nat) : letI := rowsB M (fun x => bif Nat.beq x 0 then ⟨A0, 8, 1, 1, fun _ => shCells q.cl q.p q.x [q.a, q.b]⟩ else ⟨A1, 8, 1, 1, fun _ => shCells r.cl r.p r.x [r.a, r.b]⟩)
    evK Tryd.prog ext (Btw.BL M) 90 117 (seqL [Btw.at_ 11]) ((⟨[(7, .val v), (0, .val (.int .i64 o)), (4, .xp [0, 0, 0] 0 0), (5, .xp [1, 0, 0] 0 0), (8, .val (.int .i64 (S.kept (q.sh M) (r.sh M)))), (55, .xs [q.a, q.b]), (56, .val (.int .i64 ((M q.a).g q.b).n)), (57, .val (.int .i64 (i : Int)))], []⟩ : Cut).st 0) (grab Tryd.prog Tryd.f88 [7, 0, 4, 5, 8, 81, 82, 83] [] 0) =
    some (.cut .normal ⟨(7, .val v) :: [(0, .val (.int .i64 o)), (4, .xp [0, 0, 0] 0 0), (5, .xp [1, 0, 0] 0 0), (8, .val (.int .i64 (S.kept (q.sh M) (r.sh M)))), (81, .xs [r.a, r.b]), (82, .val (.int .i64 ((M r.a).g r.b).n)), (83, .val (.int .i64 ((0 : Nat) : Int)))], []⟩) := by kernel_rfl
set_option maxRecDepth 100000 in
theorem bt_h2 (M : Nat → Mo) (A0 A1 : Option Addr) (q r : SA) (o : Int) (v : Value) (i : Nat) : letI := rowsB M (fun x => bif Nat.beq x 0 then ⟨A0, 8, 1, 1, fun _ => shCells q.cl q.p q.x [q.a, q.b]⟩ else ⟨A1, 8, 1, 1, fun _ => shCells r.cl r.p r.x [r.a, r.b]⟩)
    evK Tryd.prog ext (Btw.BL M) 90 117 (seqL (Btw.rd2.take 2)) ((⟨[(7, .val v), (0, .val (.int .i64 o)), (4, .xp [0, 0, 0] 0 0), (5, .xp [1, 0, 0] 0 0), (8, .val (.int .i64 (S.kept (q.sh M) (r.sh M)))), (81, .xs [r.a, r.b]), (82, .val (.int .i64 ((M r.a).g r.b).n)), (83, .val (.int .i64 (i : Int)))], []⟩ : Cut).st 0) (grab Tryd.prog Tryd.f88 [7, 0, 4, 5, 8, 81, 82, 83] [] 0) =
    bif decide ((i : Int) < (((M r.a).g r.b).n : Int)) then some (.cut .normal ⟨(7, .val v) :: [(0, .val (.int .i64 o)), (4, .xp [0, 0, 0] 0 0), (5, .xp [1, 0, 0] 0 0), (8, .val (.int .i64 (S.kept (q.sh M) (r.sh M)))), (81, .xs [r.a, r.b]), (82, .val (.int .i64 ((M r.a).g r.b).n)), (83, .val (.int .i64 (i : Int)))], []⟩) else some (.cut (.exit 2) ⟨(7, .val v) :: [(0, .val (.int .i64 o)), (4, .xp [0, 0, 0] 0 0), (5, .xp [1, 0, 0] 0 0), (8, .val (.int .i64 (S.kept (q.sh M) (r.sh M)))), (81, .xs [r.a, r.b]), (82, .val (.int .i64 ((M r.a).g r.b).n)), (83, .val (.int .i64 (i : Int)))], []⟩) := by kernel_rfl
set_option maxRecDepth 100000 in
theorem bt_i2 (M : Nat → Mo) (A0 A1 : Option Addr) (q r : SA) (o : Int) (v : Value) (i : Nat) : letI := rowsB M (fun x => bif Nat.beq x 0 then ⟨A0, 8, 1, 1, fun _ => shCells q.cl q.p q.x [q.a, q.b]⟩ else ⟨A1, 8, 1, 1, fun _ => shCells r.cl r.p r.x [r.a, r.b]⟩)
    evK Tryd.prog ext (Btw.BL M) 90 117 (seqL (Btw.in2.take 2)) ((⟨[(7, .val v), (0, .val (.int .i64 o)), (4, .xp [0, 0, 0] 0 0), (5, .xp [1, 0, 0] 0 0), (8, .val (.int .i64 (S.kept (q.sh M) (r.sh M)))), (81, .xs [r.a, r.b]), (82, .val (.int .i64 ((M r.a).g r.b).n)), (83, .val (.int .i64 (i : Int)))], []⟩ : Cut).st 0) (grab Tryd.prog Tryd.f88 [7, 0, 4, 5, 8, 81, 82, 83, 12, 13, 105] [0] 1) =
    bif decide (0 ≤ (i : Int)) && decide ((i : Int) < (((M r.a).g r.b).n : Int)) then (bif decide ((i : Int) ≥ S.kept (q.sh M) (r.sh M)) then some (.cut .normal ⟨(7, .val v) :: [(0, .val (.int .i64 o)), (4, .xp [0, 0, 0] 0 0), (5, .xp [1, 0, 0] 0 0), (8, .val (.int .i64 (S.kept (q.sh M) (r.sh M)))), (81, .xs [r.a, r.b]), (82, .val (.int .i64 ((M r.a).g r.b).n)), (83, .val (.int .i64 (i : Int))), (12, .val (.int .i64 (i : Int))), (13, .ptr 0 0), (105, .val (.bool true))], [(0, ⟨66, (((M r.a).g r.b).g i).cells⟩)]⟩) else (bif decide (0 ≤ S.find ((M q.a).g q.b) (((M r.a).g r.b).g i).k) && decide (S.find ((M q.a).g q.b) (((M r.a).g r.b).g i).k < (((M q.a).g q.b).n : Int)) then some (.cut .normal ⟨(7, .val v) :: [(0, .val (.int .i64 o)), (4, .xp [0, 0, 0] 0 0), (5, .xp [1, 0, 0] 0 0), (8, .val (.int .i64 (S.kept (q.sh M) (r.sh M)))), (81, .xs [r.a, r.b]), (82, .val (.int .i64 ((M r.a).g r.b).n)), (83, .val (.int .i64 (i : Int))), (12, .val (.int .i64 (i : Int))), (13, .ptr 0 0), (105, .val (.bool (!S.alikeC (((M q.a).g q.b).g (S.find ((M q.a).g q.b) (((M r.a).g r.b).g i).k).toNat).d (((M r.a).g r.b).g i).d)))], [(0, ⟨66, (((M r.a).g r.b).g i).cells⟩)]⟩) else none)) else none := by kernel_rfl
set_option maxRecDepth 100000 in
theorem bt_n2 (M : Nat → Mo) (A0 A1 : Option Addr) (q r : SA) (o : Int) (v : Value) (i : Nat) : letI := rowsB M (fun x => bif Nat.beq x 0 then ⟨A0, 8, 1, 1, fun _ => shCells q.cl q.p q.x [q.a, q.b]⟩ else ⟨A1, 8, 1, 1, fun _ => shCells r.cl r.p r.x [r.a, r.b]⟩)
    evK Tryd.prog ext (Btw.BL M) 90 117 (seqL (Btw.rd2.drop 3)) ((⟨[(7, .val v), (0, .val (.int .i64 o)), (4, .xp [0, 0, 0] 0 0), (5, .xp [1, 0, 0] 0 0), (8, .val (.int .i64 (S.kept (q.sh M) (r.sh M)))), (81, .xs [r.a, r.b]), (82, .val (.int .i64 ((M r.a).g r.b).n)), (83, .val (.int .i64 (i : Int)))], []⟩ : Cut).st 0) (grab Tryd.prog Tryd.f88 [7, 0, 4, 5, 8, 81, 82, 83] [] 0) =
    some (.cut .normal ⟨(7, .val v) :: [(0, .val (.int .i64 o)), (4, .xp [0, 0, 0] 0 0), (5, .xp [1, 0, 0] 0 0), (8, .val (.int .i64 (S.kept (q.sh M) (r.sh M)))), (81, .xs [r.a, r.b]), (82, .val (.int .i64 ((M r.a).g r.b).n)), (83, .val (.int .i64 (IntKind.i64.wrap ((i : Int) + 1))))], []⟩) := by kernel_rfl
set_option maxRecDepth 100000 in
theorem bt_e (M : Nat → Mo) (A0 A1 : Option Addr) (q r : SA) (o : Int) (v : Value) (i : Nat) : letI := rowsB M (fun x => bif Nat.beq x 0 then ⟨A0, 8, 1, 1, fun _ => shCells q.cl q.p q.x [q.a, q.b]⟩ else ⟨A1, 8, 1, 1, fun _ => shCells r.cl r.p r.x [r.a, r.b]⟩)
    evK Tryd.prog ext (Btw.BL M) 90 117 (seqL (Btw.bt.drop 13)) ((⟨[(7, .val v), (0, .val (.int .i64 o)), (4, .xp [0, 0, 0] 0 0), (5, .xp [1, 0, 0] 0 0), (8, .val (.int .i64 (S.kept (q.sh M) (r.sh M)))), (81, .xs [r.a, r.b]), (82, .val (.int .i64 ((M r.a).g r.b).n)), (83, .val (.int .i64 (i : Int)))], []⟩ : Cut).st 0) (grab Tryd.prog Tryd.f88 [7] [] 0) =
    some (.ret (.val v)) := by kernel_rfl
set_option maxRecDepth 100000 in
theorem bt_s3 (M : Nat → Mo) (A0 A1 : Option Addr) (q r : SA) (o : Int) (v : Value) : letI := rowsB M (fun x => bif Nat.beq x 0 then ⟨A0, 8, 1, 1, fun _ => shCells q.cl q.p q.x [q.a, q.b]⟩ else ⟨A1, 8, 1, 1, fun _ => shCells r.cl r.p r.x [r.a, r.b]⟩)
    (evOps Tryd.prog ext (callWith Tryd.prog (Btw.BL M) (ev Tryd.prog ext (Btw.BL M) 20)) Btw.o3 117 (Btw.o3.toList.take 6) ((⟨[(7, .val v), (0, .val (.int .i64 o)), (4, .xp [0, 0, 0] 0 0), (5, .xp [1, 0, 0] 0 0)], []⟩ : Cut).st 0)).map (fun s => (s.tmps 19, s.tmps 24, s.mem 0, cutT s [0, 4, 5])) =
    some (.val v, .slc 0 0 1 1, some ⟨99, (S.dCl o (r.sh M)).cells⟩, [(0, .val (.int .i64 o)), (4, .xp [0, 0, 0] 0 0), (5, .xp [1, 0, 0] 0 0)]) := by kernel_rfl
set_option maxRecDepth 100000 in
theorem bt_s5 (M : Nat → Mo) (A0 A1 : Option Addr) (q r : SA) (o : Int) (v : Value) : letI := rowsB M (fun x => bif Nat.beq x 0 then ⟨A0, 8, 1, 1, fun _ => shCells q.cl q.p q.x [q.a, q.b]⟩ else ⟨A1, 8, 1, 1, fun _ => shCells r.cl r.p r.x [r.a, r.b]⟩)
    (evOps Tryd.prog ext (callWith Tryd.prog (Btw.BL M) (ev Tryd.prog ext (Btw.BL M) 20)) Btw.o5 117 (Btw.o5.toList.take 6) ((⟨[(7, .val v), (0, .val (.int .i64 o)), (4, .xp [0, 0, 0] 0 0), (5, .xp [1, 0, 0] 0 0)], []⟩ : Cut).st 0)).map (fun s => (s.tmps 32, s.tmps 37, s.mem 0, cutT s [0, 4, 5])) =
    some (.val v, .slc 0 0 1 1, some ⟨99, (S.dPr o (r.sh M)).cells⟩, [(0, .val (.int .i64 o)), (4, .xp [0, 0, 0] 0 0), (5, .xp [1, 0, 0] 0 0)]) := by kernel_rfl
set_option maxRecDepth 100000 in
theorem bt_s7 (M : Nat → Mo) (A0 A1 : Option Addr) (q r : SA) (o : Int) (v : Value) : letI := rowsB M (fun x => bif Nat.beq x 0 then ⟨A0, 8, 1, 1, fun _ => shCells q.cl q.p q.x [q.a, q.b]⟩ else ⟨A1, 8, 1, 1, fun _ => shCells r.cl r.p r.x [r.a, r.b]⟩)
    (evOps Tryd.prog ext (callWith Tryd.prog (Btw.BL M) (ev Tryd.prog ext (Btw.BL M) 20)) Btw.o7 117 (Btw.o7.toList.take 6) ((⟨[(7, .val v), (0, .val (.int .i64 o)), (4, .xp [0, 0, 0] 0 0), (5, .xp [1, 0, 0] 0 0)], []⟩ : Cut).st 0)).map (fun s => (s.tmps 44, s.tmps 49, s.mem 0, cutT s [0, 4, 5])) =
    some (.val v, .slc 0 0 1 1, some ⟨99, (S.dEx o (r.sh M)).cells⟩, [(0, .val (.int .i64 o)), (4, .xp [0, 0, 0] 0 0), (5, .xp [1, 0, 0] 0 0)]) := by kernel_rfl
set_option maxRecDepth 100000 in
theorem bt_s14 (M : Nat → Mo) (A0 A1 : Option Addr) (q r : SA) (o : Int) (v : Value) (i : Nat) : letI := rowsB M (fun x => bif Nat.beq x 0 then ⟨A0, 8, 1, 1, fun _ => shCells q.cl q.p q.x [q.a, q.b]⟩ else ⟨A1, 8, 1, 1, fun _ => shCells r.cl r.p r.x [r.a, r.b]⟩)
    (evOps Tryd.prog ext (callWith Tryd.prog (Btw.BL M) (ev Tryd.prog ext (Btw.BL M) 20)) Btw.o14 117 (Btw.o14.toList.take 6) ((⟨[(7, .val v), (0, .val (.int .i64 o)), (4, .xp [0, 0, 0] 0 0), (5, .xp [1, 0, 0] 0 0), (8, .val (.int .i64 (S.kept (q.sh M) (r.sh M)))), (55, .xs [q.a, q.b]), (56, .val (.int .i64 ((M q.a).g q.b).n)), (57, .val (.int .i64 (i : Int))), (10, .ptr 0 0), (71, .val (.bool true))], [(0, ⟨66, (((M q.a).g q.b).g i).cells⟩)]⟩ : Cut).st 1)).map (fun s => (s.tmps 72, s.tmps 77, s.mem 1, cutT s [0, 4, 5, 8, 55, 56, 57])) =
    some (.val v, .slc 1 0 1 1, some ⟨99, (S.dGone o (((M q.a).g q.b).g i)).cells⟩, [(0, .val (.int .i64 o)), (4, .xp [0, 0, 0] 0 0), (5, .xp [1, 0, 0] 0 0), (8, .val (.int .i64 (S.kept (q.sh M) (r.sh M)))), (55, .xs [q.a, q.b]), (56, .val (.int .i64 ((M q.a).g q.b).n)), (57, .val (.int .i64 (i : Int)))]) := by kernel_rfl
set_option maxRecDepth 100000 in
theorem bt_s20 (M : Nat → Mo) (A0 A1 : Option Addr) (q r : SA) (o : Int) (v : Value) (i : Nat) : letI := rowsB M (fun x => bif Nat.beq x 0 then ⟨A0, 8, 1, 1, fun _ => shCells q.cl q.p q.x [q.a, q.b]⟩ else ⟨A1, 8, 1, 1, fun _ => shCells r.cl r.p r.x [r.a, r.b]⟩)
    (evOps Tryd.prog ext (callWith Tryd.prog (Btw.BL M) (ev Tryd.prog ext (Btw.BL M) 20)) Btw.o20 117 (Btw.o20.toList.take 8) ((⟨[(7, .val v), (0, .val (.int .i64 o)), (4, .xp [0, 0, 0] 0 0), (5, .xp [1, 0, 0] 0 0), (8, .val (.int .i64 (S.kept (q.sh M) (r.sh M)))), (81, .xs [r.a, r.b]), (82, .val (.int .i64 ((M r.a).g r.b).n)), (83, .val (.int .i64 (i : Int))), (12, .val (.int .i64 (i : Int))), (13, .ptr 0 0), (105, .val (.bool true))], [(0, ⟨66, (((M r.a).g r.b).g i).cells⟩)]⟩ : Cut).st 1)).map (fun s => (s.tmps 106, s.tmps 113, s.mem 1, cutT s [0, 4, 5, 8, 81, 82, 83])) =
    some (.val v, .slc 1 0 1 1, some ⟨99, (S.dPut o (((M r.a).g r.b).g i)).cells⟩, [(0, .val (.int .i64 o)), (4, .xp [0, 0, 0] 0 0), (5, .xp [1, 0, 0] 0 0), (8, .val (.int .i64 (S.kept (q.sh M) (r.sh M)))), (81, .xs [r.a, r.b]), (82, .val (.int .i64 ((M r.a).g r.b).n)), (83, .val (.int .i64 (i : Int)))]) := by kernel_rfl
end Go.Proofs.YtaojjpdlfnphiaaDoor.PDescKinds
end
section
/- invariant.between runs. -/
set_option linter.unusedSimpArgs false
set_option linter.unusedVariables false
set_option linter.unusedSectionVars false
namespace Go.Proofs.YtaojjpdlfnphiaaDoor.PDescKinds
open Go.RowKit Go.Ev
theorem Grow.weak {M : Nat → Mo} {bx : Nat → XR} {N : Nat} {w0 : World} {tv : Nat} {ts ts' : List (Nat × SV)} {L : List Dl} {a : Act} {w : World} (h : Grow M bx N w0 tv ts L a w) (hs : ∀ p ∈ ts', p ∈ ts) : Grow M bx N w0 tv ts' L a w :=
  ⟨h.below, h.inv, h.size, h.defers, fun p hp => h.tm p (hs p hp), fun p hp => h.ok p (hs p hp), h.own⟩
theorem Grow.condSite {M : Nat → Mo} {bx : Nat → XR} {N : Nat} {w0 : World} {tv : Nat} {ts ts1 : List (Nat × SV)} {L : List Dl} {a : Act} {w : World} {c : Bool} {t id : Nat} {ops : Array Oper} {δ : Dl} {l : List Code} {Q : Exit → Act → World → Prop}
    (h : Grow M bx N w0 tv ts1 L a w) (hm : (t, SV.val (.bool c)) ∈ ts1) (hw : ∀ p ∈ ts, p ∈ ts1)
    (hsite : Grow M bx N w0 tv ts L a w → ∀ Q : Exit → Act → World → Prop, (∀ a' w', Grow M bx N w0 tv ts (L ++ [δ]) a' w' → Q .normal a' w') → (Code.region id ops false).wp Tryd.prog Q a w)
    (hQ : ∀ a' w', Grow M bx N w0 tv ts (L ++ S.iff c δ) a' w' → wpL Tryd.prog l Q a' w') : wpL Tryd.prog (.cond (.tmp t) (.region id ops false) .skip :: l) Q a w := by
  simp only [wpL]
  have hv : a.eval (.tmp t) = .bool c := (h.tm _ hm).trans (@den_val (rowsB M bx) _ _)
  cases c with
  | true => exact wp_cond_true hv (hsite (h.weak hw) _ fun a' w' h' => hQ a' w' h')
  | false =>
    refine wp_cond_false hv (wp_skip ?_)
    have := h.weak hw
    refine hQ a w ?_
    show Grow M bx N w0 tv ts (L ++ []) a w
    rw [List.append_nil]
    exact this
namespace Btw
noncomputable def tail3 : List Code := [at_ 4] ++ (.cond (.tmp 31) (.region 5 o5 false) .skip :: ([at_ 6] ++ (.cond (.tmp 43) (.region 7 o7 false) .skip :: ([at_ 8, at_ 9] ++ (.block 0 (.loop (roundOf [at_ 10])) :: ([at_ 11] ++ (.block 2 (.loop (roundOf [at_ 12])) :: bt.drop 13)))))))
theorem split : bt = bt.take 2 ++ ([at_ 2] ++ (.cond (.tmp 18) (.region 3 o3 false) .skip :: tail3)) := by kernel_rfl
theorem rd1_eq : rd1 = rd1.take 2 ++ (.block 1 (inB (rd1.getD 2 .skip)) :: rd1.drop 3) := by kernel_rfl
theorem in1_eq : in1 = in1.take 3 ++ [.cond (.tmp 71) (.region 14 o14 false) .skip] := by kernel_rfl
theorem rd2_eq : rd2 = rd2.take 2 ++ (.block 3 (inB (rd2.getD 2 .skip)) :: rd2.drop 3) := by kernel_rfl
theorem in2_eq : in2 = in2.take 2 ++ [.cond (.tmp 105) (.region 20 o20 false) .skip] := by kernel_rfl
noncomputable def oo (o : Array Oper) (k : Nat) : Oper := o.toList.getD k default
theorem o3_eq : o3.toList = o3.toList.take 6 ++ [oo o3 6, oo o3 7] := by kernel_rfl
theorem o5_eq : o5.toList = o5.toList.take 6 ++ [oo o5 6, oo o5 7] := by kernel_rfl
theorem o7_eq : o7.toList = o7.toList.take 6 ++ [oo o7 6, oo o7 7] := by kernel_rfl
theorem o14_eq : o14.toList = o14.toList.take 6 ++ [oo o14 6, oo o14 7] := by kernel_rfl
theorem o20_eq : o20.toList = o20.toList.take 8 ++ [oo o20 8, oo o20 9] := by kernel_rfl
abbrev boxes (A0 A1 : Option Addr) (q r : SA) : Nat → XR := (fun x => bif Nat.beq x 0 then ⟨A0, 8, 1, 1, fun _ => shCells q.cl q.p q.x [q.a, q.b]⟩ else ⟨A1, 8, 1, 1, fun _ => shCells r.cl r.p r.x [r.a, r.b]⟩)
abbrev T0 (o : Int) : List (Nat × SV) := [(0, .val (.int .i64 o)), (4, .xp [0, 0, 0] 0 0), (5, .xp [1, 0, 0] 0 0)]
abbrev TI (M : Nat → Mo) (q r : SA) (o : Int) (i : Nat) : List (Nat × SV) := [(0, .val (.int .i64 o)), (4, .xp [0, 0, 0] 0 0), (5, .xp [1, 0, 0] 0 0), (8, .val (.int .i64 (S.kept (q.sh M) (r.sh M)))), (55, .xs [q.a, q.b]), (56, .val (.int .i64 ((M q.a).g q.b).n)), (57, .val (.int .i64 (i : Int)))]
abbrev TJ (M : Nat → Mo) (q r : SA) (o : Int) (i : Nat) : List (Nat × SV) := [(0, .val (.int .i64 o)), (4, .xp [0, 0, 0] 0 0), (5, .xp [1, 0, 0] 0 0), (8, .val (.int .i64 (S.kept (q.sh M) (r.sh M)))), (81, .xs [r.a, r.b]), (82, .val (.int .i64 ((M r.a).g r.b).n)), (83, .val (.int .i64 (i : Int)))]
section
variable {M : Nat → Mo} {A0 A1 : Option Addr} {q r : SA} {o : Int} {w0 : World} {L : List Dl} {a : Act} {w : World}
theorem ctx (hM : Fit M) : @Ctx (rowsB M (boxes A0 A1 q r)) Tryd.prog ext (BL M) (Inv M (boxes A0 A1 q r)) := ctxB M _ Bvents5 (entsS_cons (ent_idxC M _ hM) (entsS_cons (ent_kept112 M _ hM) entsS_nil))
theorem cs (hM : Fit M) : letI := rowsB M (boxes A0 A1 q r); CallSound Tryd.prog (Inv M (boxes A0 A1 q r)) (callWith Tryd.prog (BL M) (ev Tryd.prog ext (BL M) 20)) := by
  letI := rowsB M (boxes A0 A1 q r)
  have C := ctx (A0 := A0) (A1 := A1) (q := q) (r := r) hM
  exact call_sound C.hs C.hG (ev_sound mixed ext_sound C.hs C.hXO C.hG 20).1
set_option maxRecDepth 100000 in
theorem site_o3 (hM : Fit M) {id : Nat} (h : Grow M (boxes A0 A1 q r) 117 w0 7 (T0 o) L a w) (hl : L.length ≤ 5000000) (Q : Exit → Act → World → Prop)
    (hQ : ∀ a' w', Grow M (boxes A0 A1 q r) 117 w0 7 (T0 o) (L ++ [S.dCl o (r.sh M)]) a' w' → Q .normal a' w') : (Code.region id o3 false).wp Tryd.prog Q a w := by
  letI := rowsB M (boxes A0 A1 q r)
  exact h.site (ts' := T0 o) (δ := S.dCl o (r.sh M)) (d := 25) (x := 19) (y := 24) (b := 0) ext_sound (cs hM) o3_eq (by kernel_rfl) (by kernel_rfl) (by kernel_rfl) (by kernel_rfl) (by kernel_rfl) (by kernel_rfl) (by decide) (by decide) h.sr (bt_s3 M A0 A1 q r o _)
    (fun p hp => by
      obtain ⟨_, g2, g3, g4⟩ := goodB_at (tv := 7) (ts := T0 o) (by rfl) p hp
      refine ⟨?_, g4, g2, g3⟩
      simp only [List.mem_cons, List.not_mem_nil, or_false] at hp
      rcases hp with rfl | rfl | rfl <;> exact beq_ne (by rfl)) hl hQ
set_option maxRecDepth 100000 in
theorem site_o5 (hM : Fit M) {id : Nat} (h : Grow M (boxes A0 A1 q r) 117 w0 7 (T0 o) L a w) (hl : L.length ≤ 5000000) (Q : Exit → Act → World → Prop)
    (hQ : ∀ a' w', Grow M (boxes A0 A1 q r) 117 w0 7 (T0 o) (L ++ [S.dPr o (r.sh M)]) a' w' → Q .normal a' w') : (Code.region id o5 false).wp Tryd.prog Q a w := by
  letI := rowsB M (boxes A0 A1 q r)
  exact h.site (ts' := T0 o) (δ := S.dPr o (r.sh M)) (d := 38) (x := 32) (y := 37) (b := 0) ext_sound (cs hM) o5_eq (by kernel_rfl) (by kernel_rfl) (by kernel_rfl) (by kernel_rfl) (by kernel_rfl) (by kernel_rfl) (by decide) (by decide) h.sr (bt_s5 M A0 A1 q r o _)
    (fun p hp => by
      obtain ⟨_, g2, g3, g4⟩ := goodB_at (tv := 7) (ts := T0 o) (by rfl) p hp
      refine ⟨?_, g4, g2, g3⟩
      simp only [List.mem_cons, List.not_mem_nil, or_false] at hp
      rcases hp with rfl | rfl | rfl <;> exact beq_ne (by rfl)) hl hQ
set_option maxRecDepth 100000 in
theorem site_o7 (hM : Fit M) {id : Nat} (h : Grow M (boxes A0 A1 q r) 117 w0 7 (T0 o) L a w) (hl : L.length ≤ 5000000) (Q : Exit → Act → World → Prop)
    (hQ : ∀ a' w', Grow M (boxes A0 A1 q r) 117 w0 7 (T0 o) (L ++ [S.dEx o (r.sh M)]) a' w' → Q .normal a' w') : (Code.region id o7 false).wp Tryd.prog Q a w := by
  letI := rowsB M (boxes A0 A1 q r)
  exact h.site (ts' := T0 o) (δ := S.dEx o (r.sh M)) (d := 50) (x := 44) (y := 49) (b := 0) ext_sound (cs hM) o7_eq (by kernel_rfl) (by kernel_rfl) (by kernel_rfl) (by kernel_rfl) (by kernel_rfl) (by kernel_rfl) (by decide) (by decide) h.sr (bt_s7 M A0 A1 q r o _)
    (fun p hp => by
      obtain ⟨_, g2, g3, g4⟩ := goodB_at (tv := 7) (ts := T0 o) (by rfl) p hp
      refine ⟨?_, g4, g2, g3⟩
      simp only [List.mem_cons, List.not_mem_nil, or_false] at hp
      rcases hp with rfl | rfl | rfl <;> exact beq_ne (by rfl)) hl hQ
theorem iffs_len (c : Nat → Bool) (d : Nat → Dl) (n : Nat) : ((List.range n).flatMap fun i => S.iff (c i) (d i)).length ≤ n := by
  induction n with
  | zero => simp
  | succ n ih =>
    rw [List.range_succ, List.flatMap_append, List.length_append]
    have : ((List.flatMap (fun i => S.iff (c i) (d i)) [n])).length ≤ 1 := by
      simp only [List.flatMap_cons, List.flatMap_nil, List.append_nil]
      cases c n <;> simp [S.iff]
    omega
set_option maxRecDepth 100000 in
theorem round1 (hM : Fit M) {i : Nat} (h : Grow M (boxes A0 A1 q r) 117 w0 7 (TI M q r o i) L a w) (hi : i < ((M q.a).g q.b).n) (hl : L.length ≤ 5000000) {Q : Exit → Act → World → Prop}
    (hQ : ∀ a' w', Grow M (boxes A0 A1 q r) 117 w0 7 (TI M q r o (i + 1)) (L ++ S.iff (S.goneAt (q.sh M) (r.sh M) i) (S.dGone o (((M q.a).g q.b).g i))) a' w' → Q .normal a' w') : wpL Tryd.prog rd1 Q a w := by
  letI := rowsB M (boxes A0 A1 q r)
  have C := ctx (A0 := A0) (A1 := A1) (q := q) (r := r) hM
  rw [rd1_eq, wpL_app]
  refine h.step C (ts' := TI M q r o i) (fun v => (bt_h1 M A0 A1 q r o v i).trans (by rw [dlt hi]; rfl)) (by rfl) fun a1 w1 h1 => ?_
  show wpL Tryd.prog (Code.block 1 (inB (rd1.getD 2 .skip)) :: rd1.drop 3) Q a1 w1
  simp only [wpL]
  refine wp_block (wpL_flat _ ?_)
  show wpL Tryd.prog in1 _ a1 w1
  have fin : ∀ a' w', Grow M (boxes A0 A1 q r) 117 w0 7 (TI M q r o i) (L ++ S.iff (S.goneAt (q.sh M) (r.sh M) i) (S.dGone o (((M q.a).g q.b).g i))) a' w' → Exit.inBlock 1 (Exit.then (wpL Tryd.prog (rd1.drop 3) Q) Q) .normal a' w' := by
    intro a' w' h'
    show wpL Tryd.prog (rd1.drop 3) Q a' w'
    exact h'.step (ex := .normal) C (ts' := TI M q r o (i + 1)) (fun v => (bt_n1 M A0 A1 q r o v i).trans (by rw [wr hi (by have := (hM q.a).2 q.b; omega)])) (by rfl) hQ
  rw [in1_eq, wpL_app]
  obtain ⟨c, hc, hev⟩ : ∃ c, c = S.goneAt (q.sh M) (r.sh M) i ∧ evK Tryd.prog ext (Btw.BL M) 90 117 (seqL (Btw.in1.take 3)) ((⟨(7, .val (a1.tmps.getD 7 undef)) :: TI M q r o i, []⟩ : Cut).st 0) (grab Tryd.prog Tryd.f88 [7, 0, 4, 5, 8, 55, 56, 57, 10, 71] [0] 1) = some (.cut .normal ⟨(7, .val (a1.tmps.getD 7 undef)) :: (TI M q r o i ++ [(10, .ptr 0 0), (71, .val (.bool c))]), [(0, ⟨66, (((M q.a).g q.b).g i).cells⟩)]⟩) := by
    refine ⟨_, rfl, (bt_i1 M A0 A1 q r o _ i).trans ?_⟩
    rw [dge, dlt hi]
    simp only [Bool.and_self, cond_true, S.goneAt]
    cases hf : decide (S.find ((M r.a).g r.b) (((M q.a).g q.b).g i).k < 0) with
    | true =>
      have : decide (S.find (r.sh M) ((q.sh M).g i).k < 0) = true := hf
      rw [this]
      rfl
    | false =>
      have : decide (S.find (r.sh M) ((q.sh M).g i).k < 0) = false := hf
      rw [this]
      rfl
  refine piece C.mix C.hX C.hs C.hXO C.hG hev h1.invw h1.sr (fun v hv => by cases hv) (fun ex d hd m a2 w2 hr => ?_)
  cases hd
  show wpL Tryd.prog [.cond (.tmp 71) (.region 14 o14 false) .skip] _ a2 w2
  simp only [wpL]
  have hv : a2.eval (.tmp 71) = .bool c := (hr.ar.tm 71 rfl).trans (den_val _ _)
  cases hcc : c with
  | true =>
    rw [hcc] at hv hr hc
    refine wp_cond_true hv ?_
    refine h1.site (ts' := TI M q r o i) (δ := S.dGone o (((M q.a).g q.b).g i)) (d := 78) (x := 72) (y := 77) (b := 1) ext_sound (cs hM) o14_eq (by kernel_rfl) (by kernel_rfl) (by kernel_rfl) (by kernel_rfl) (by kernel_rfl) (by kernel_rfl) (by decide) (by decide) hr (bt_s14 M A0 A1 q r o _ i)
      (fun p hp => by
        obtain ⟨_, g2, g3, g4⟩ := goodB_at (tv := 7) (ts := TI M q r o i) (by rfl) p hp
        refine ⟨?_, g4, g2, g3⟩
        simp only [List.mem_cons, List.not_mem_nil, or_false] at hp
        rcases hp with rfl | rfl | rfl | rfl | rfl | rfl | rfl <;> exact beq_ne (by rfl)) hl (fun a' w' h' => ?_)
    refine fin a' w' ?_
    rw [← hc]
    exact h'
  | false =>
    rw [hcc] at hv hr hc
    refine wp_cond_false hv (wp_skip (fin a2 w2 ?_))
    rw [← hc]
    show Grow M (boxes A0 A1 q r) 117 w0 7 (TI M q r o i) (L ++ []) a2 w2
    rw [List.append_nil]
    exact h1.back hr (by rfl) (fun p hp => by
      simp only [List.mem_cons, List.not_mem_nil, or_false] at hp
      rcases hp with rfl | rfl | rfl | rfl | rfl | rfl | rfl <;> rfl)
set_option maxRecDepth 100000 in
theorem loop1 (hM : Fit M) {Q : Exit → Act → World → Prop} {rest : List Code} (hn : ((M q.a).g q.b).n ≤ 1048576) (hL : L.length ≤ 3000000)
    (hQ : ∀ a' w', Grow M (boxes A0 A1 q r) 117 w0 7 (TI M q r o ((M q.a).g q.b).n) (L ++ S.gones o (q.sh M) (r.sh M) ((M q.a).g q.b).n) a' w' → wpL Tryd.prog rest Q a' w') :
    ∀ (k i : Nat) (a : Act) (w : World), Grow M (boxes A0 A1 q r) 117 w0 7 (TI M q r o i) (L ++ S.gones o (q.sh M) (r.sh M) i) a w → i ≤ ((M q.a).g q.b).n → ((M q.a).g q.b).n - i < k →
      Code.rounds Tryd.prog (roundOf [at_ 10]) (Exit.inBlock 0 (Exit.then (wpL Tryd.prog rest Q) Q)) k a w := by
  intro k
  induction k with
  | zero => intro i a w h h1 h2; omega
  | succ k ih =>
    intro i a w h h1 h2
    rw [rounds_succ]
    refine wpL_flat _ ?_
    show wpL Tryd.prog rd1 _ a w
    by_cases hi : i < ((M q.a).g q.b).n
    · have hlen : (S.gones o (q.sh M) (r.sh M) i).length ≤ i := iffs_len _ _ i
      refine round1 hM h hi (by rw [List.length_append]; omega) (fun a' w' h' => ih (i + 1) a' w' ?_ (by omega) (by omega))
      have e : S.gones o (q.sh M) (r.sh M) (i + 1) = S.gones o (q.sh M) (r.sh M) i ++ S.iff (S.goneAt (q.sh M) (r.sh M) i) (S.dGone o (((M q.a).g q.b).g i)) := by
        unfold S.gones
        rw [List.range_succ, List.flatMap_append]
        simp
        rfl
      rw [e, ← List.append_assoc]
      exact h'
    · obtain rfl : i = ((M q.a).g q.b).n := by omega
      letI := rowsB M (boxes A0 A1 q r)
      have C := ctx (A0 := A0) (A1 := A1) (q := q) (r := r) hM
      rw [rd1_eq, wpL_app]
      refine h.step C (ts' := TI M q r o ((M q.a).g q.b).n) (fun v => (bt_h1 M A0 A1 q r o v ((M q.a).g q.b).n).trans (by rw [dnl]; rfl)) (by rfl) fun a1 w1 h1 => ?_
      exact hQ a1 w1 h1
set_option maxRecDepth 100000 in
theorem round2 (hM : Fit M) {i : Nat} (h : Grow M (boxes A0 A1 q r) 117 w0 7 (TJ M q r o i) L a w) (hi : i < ((M r.a).g r.b).n) (hl : L.length ≤ 5000000) {Q : Exit → Act → World → Prop}
    (hQ : ∀ a' w', Grow M (boxes A0 A1 q r) 117 w0 7 (TJ M q r o (i + 1)) (L ++ S.iff (S.putAt (q.sh M) (r.sh M) i) (S.dPut o (((M r.a).g r.b).g i))) a' w' → Q .normal a' w') : wpL Tryd.prog rd2 Q a w := by
  letI := rowsB M (boxes A0 A1 q r)
  have C := ctx (A0 := A0) (A1 := A1) (q := q) (r := r) hM
  rw [rd2_eq, wpL_app]
  refine h.step C (ts' := TJ M q r o i) (fun v => (bt_h2 M A0 A1 q r o v i).trans (by rw [dlt hi]; rfl)) (by rfl) fun a1 w1 h1 => ?_
  show wpL Tryd.prog (Code.block 3 (inB (rd2.getD 2 .skip)) :: rd2.drop 3) Q a1 w1
  simp only [wpL]
  refine wp_block (wpL_flat _ ?_)
  show wpL Tryd.prog in2 _ a1 w1
  have fin : ∀ a' w', Grow M (boxes A0 A1 q r) 117 w0 7 (TJ M q r o i) (L ++ S.iff (S.putAt (q.sh M) (r.sh M) i) (S.dPut o (((M r.a).g r.b).g i))) a' w' → Exit.inBlock 3 (Exit.then (wpL Tryd.prog (rd2.drop 3) Q) Q) .normal a' w' := by
    intro a' w' h'
    show wpL Tryd.prog (rd2.drop 3) Q a' w'
    exact h'.step (ex := .normal) C (ts' := TJ M q r o (i + 1)) (fun v => (bt_n2 M A0 A1 q r o v i).trans (by rw [wr hi (by have := (hM r.a).2 r.b; omega)])) (by rfl) hQ
  rw [in2_eq, wpL_app]
  obtain ⟨c, hc, hev⟩ : ∃ c, c = S.putAt (q.sh M) (r.sh M) i ∧ evK Tryd.prog ext (Btw.BL M) 90 117 (seqL (Btw.in2.take 2)) ((⟨(7, .val (a1.tmps.getD 7 undef)) :: TJ M q r o i, []⟩ : Cut).st 0) (grab Tryd.prog Tryd.f88 [7, 0, 4, 5, 8, 81, 82, 83, 12, 13, 105] [0] 1) = some (.cut .normal ⟨(7, .val (a1.tmps.getD 7 undef)) :: (TJ M q r o i ++ [(12, .val (.int .i64 (i : Int))), (13, .ptr 0 0), (105, .val (.bool c))]), [(0, ⟨66, (((M r.a).g r.b).g i).cells⟩)]⟩) := by
    refine ⟨_, rfl, (bt_i2 M A0 A1 q r o _ i).trans ?_⟩
    rw [dge, dlt hi]
    simp only [Bool.and_self, cond_true, S.putAt]
    cases hf : decide ((i : Int) ≥ S.kept (q.sh M) (r.sh M)) with
    | true => rfl
    | false =>
      obtain ⟨k1, k2⟩ := kept_find (b := q.sh M) (a := r.sh M) (j := i) hi (by have := of_decide_eq_false hf; omega)
      have k1 : 0 ≤ S.find ((M q.a).g q.b) (((M r.a).g r.b).g i).k := k1
      have k2 : S.find ((M q.a).g q.b) (((M r.a).g r.b).g i).k < (((M q.a).g q.b).n : Int) := k2
      rw [decide_eq_true k1, decide_eq_true k2]
      rfl
  refine piece C.mix C.hX C.hs C.hXO C.hG hev h1.invw h1.sr (fun v hv => by cases hv) (fun ex d hd m a2 w2 hr => ?_)
  cases hd
  show wpL Tryd.prog [.cond (.tmp 105) (.region 20 o20 false) .skip] _ a2 w2
  simp only [wpL]
  have hv : a2.eval (.tmp 105) = .bool c := (hr.ar.tm 105 rfl).trans (den_val _ _)
  cases hcc : c with
  | true =>
    rw [hcc] at hv hr hc
    refine wp_cond_true hv ?_
    refine h1.site (ts' := TJ M q r o i) (δ := S.dPut o (((M r.a).g r.b).g i)) (d := 114) (x := 106) (y := 113) (b := 1) ext_sound (cs hM) o20_eq (by kernel_rfl) (by kernel_rfl) (by kernel_rfl) (by kernel_rfl) (by kernel_rfl) (by kernel_rfl) (by decide) (by decide) hr (bt_s20 M A0 A1 q r o _ i)
      (fun p hp => by
        obtain ⟨_, g2, g3, g4⟩ := goodB_at (tv := 7) (ts := TJ M q r o i) (by rfl) p hp
        refine ⟨?_, g4, g2, g3⟩
        simp only [List.mem_cons, List.not_mem_nil, or_false] at hp
        rcases hp with rfl | rfl | rfl | rfl | rfl | rfl | rfl <;> exact beq_ne (by rfl)) hl (fun a' w' h' => ?_)
    refine fin a' w' ?_
    rw [← hc]
    exact h'
  | false =>
    rw [hcc] at hv hr hc
    refine wp_cond_false hv (wp_skip (fin a2 w2 ?_))
    rw [← hc]
    show Grow M (boxes A0 A1 q r) 117 w0 7 (TJ M q r o i) (L ++ []) a2 w2
    rw [List.append_nil]
    exact h1.back hr (by rfl) (fun p hp => by
      simp only [List.mem_cons, List.not_mem_nil, or_false] at hp
      rcases hp with rfl | rfl | rfl | rfl | rfl | rfl | rfl <;> rfl)
set_option maxRecDepth 100000 in
theorem loop2 (hM : Fit M) {Q : Exit → Act → World → Prop} {rest : List Code} (hn : ((M r.a).g r.b).n ≤ 1048576) (hL : L.length ≤ 3000000)
    (hQ : ∀ a' w', Grow M (boxes A0 A1 q r) 117 w0 7 (TJ M q r o ((M r.a).g r.b).n) (L ++ S.puts o (q.sh M) (r.sh M) ((M r.a).g r.b).n) a' w' → wpL Tryd.prog rest Q a' w') :
    ∀ (k i : Nat) (a : Act) (w : World), Grow M (boxes A0 A1 q r) 117 w0 7 (TJ M q r o i) (L ++ S.puts o (q.sh M) (r.sh M) i) a w → i ≤ ((M r.a).g r.b).n → ((M r.a).g r.b).n - i < k →
      Code.rounds Tryd.prog (roundOf [at_ 12]) (Exit.inBlock 2 (Exit.then (wpL Tryd.prog rest Q) Q)) k a w := by
  intro k
  induction k with
  | zero => intro i a w h h1 h2; omega
  | succ k ih =>
    intro i a w h h1 h2
    rw [rounds_succ]
    refine wpL_flat _ ?_
    show wpL Tryd.prog rd2 _ a w
    by_cases hi : i < ((M r.a).g r.b).n
    · have hlen : (S.puts o (q.sh M) (r.sh M) i).length ≤ i := iffs_len _ _ i
      refine round2 hM h hi (by rw [List.length_append]; omega) (fun a' w' h' => ih (i + 1) a' w' ?_ (by omega) (by omega))
      have e : S.puts o (q.sh M) (r.sh M) (i + 1) = S.puts o (q.sh M) (r.sh M) i ++ S.iff (S.putAt (q.sh M) (r.sh M) i) (S.dPut o (((M r.a).g r.b).g i)) := by
        unfold S.puts
        rw [List.range_succ, List.flatMap_append]
        simp
        rfl
      rw [e, ← List.append_assoc]
      exact h'
    · obtain rfl : i = ((M r.a).g r.b).n := by omega
      letI := rowsB M (boxes A0 A1 q r)
      have C := ctx (A0 := A0) (A1 := A1) (q := q) (r := r) hM
      rw [rd2_eq, wpL_app]
      refine h.step C (ts' := TJ M q r o ((M r.a).g r.b).n) (fun v => (bt_h2 M A0 A1 q r o v ((M r.a).g r.b).n).trans (by rw [dnl]; rfl)) (by rfl) fun a1 w1 h1 => ?_
      exact hQ a1 w1 h1
end
end Btw
end Go.Proofs.YtaojjpdlfnphiaaDoor.PDescKinds
end
section
/- invariant.between, from its beginning to its end. -/
set_option linter.unusedSimpArgs false
set_option linter.unusedVariables false
set_option linter.unusedSectionVars false
namespace Go.Proofs.YtaojjpdlfnphiaaDoor.PDescKinds
open Go.RowKit Go.Ev
/-- A list of deltas in memory of its own, above a world's blocks. -/
def Made (w0 : World) (L : List Dl) (v : Value) (w : World) : Prop := Below w0.heap.size w0 w ∧ w.ownsRow w0.heap.size 99 29 v L.length (L.flatMap Dl.list)
theorem own_base {w : World} {b b' e z n : Nat} {v : Value} {xs : List Value} (h : w.ownsRow b e z v n xs) (hb : b' ≤ b) : w.ownsRow b' e z v n xs := by
  refine ⟨h.1, ?_⟩
  rcases h.2 with h | ⟨g, cap, cur, h1, h2, h3⟩
  · exact .inl h
  · exact .inr ⟨g, cap, cur, h1, Nat.le_trans hb h2, h3⟩
theorem iff_len (c : Bool) (d : Dl) : (S.iff c d).length ≤ 1 := by cases c <;> simp [S.iff]
namespace Btw
set_option maxRecDepth 100000 in
theorem body {M : Nat → Mo} (hM : Fit M) {A0 A1 : Option Addr} {q r : SA} {o : Int} {w1 : World} {a1 : Act} (hn : ((M q.a).g q.b).n ≤ 1048576) (hn' : ((M r.a).g r.b).n ≤ 1048576) (g0 : Grow M (boxes A0 A1 q r) 117 w1 7 (T0 o) [] a1 w1) :
    wpL Tryd.prog ([at_ 2] ++ (.cond (.tmp 18) (.region 3 o3 false) .skip :: tail3)) (bodyPost Tryd.prog Tryd.f88 (fun e w' => ∃ v, e = .returned v ∧ Made w1 (S.between o (q.sh M) (r.sh M)) v w')) a1 w1 := by
  letI := rowsB M (boxes A0 A1 q r)
  have C := ctx (A0 := A0) (A1 := A1) (q := q) (r := r) hM
  rw [wpL_app]
  refine g0.step (ex := .normal) C (ts' := T0 o ++ [(18, .val (.bool (r.cl != q.cl)))]) (fun v => bt_a M A0 A1 q r o v) (by rfl) fun a2 w2 g1 => ?_
  refine g1.condSite (c := r.cl != q.cl) (ts := T0 o) (δ := S.dCl o (r.sh M)) (by simp) (fun p hp => List.mem_append_left _ hp) (fun h Q hQ => site_o3 hM h (by simp) Q hQ) fun a2 w2 g2 => ?_
  unfold tail3
  rw [wpL_app]
  refine g2.step (ex := .normal) C (ts' := T0 o ++ [(31, .val (.bool (!S.eqC r.p q.p)))]) (fun v => bt_b M A0 A1 q r o v) (by rfl) fun a3 w3 g3 => ?_
  have l2 := iff_len (r.cl != q.cl) (S.dCl o (r.sh M))
  refine g3.condSite (c := !S.eqC r.p q.p) (ts := T0 o) (δ := S.dPr o (r.sh M)) (by simp) (fun p hp => List.mem_append_left _ hp) (fun h Q hQ => site_o5 hM h (by simp only [List.length_append, List.length_nil]; omega) Q hQ) fun a4 w4 g4 => ?_
  show wpL Tryd.prog ([at_ 6] ++ _) _ a4 w4
  rw [wpL_app]
  refine g4.step (ex := .normal) C (ts' := T0 o ++ [(43, .val (.bool (r.x != q.x)))]) (fun v => bt_c M A0 A1 q r o v) (by rfl) fun a5 w5 g5 => ?_
  have l3 := iff_len (!S.eqC r.p q.p) (S.dPr o (r.sh M))
  refine g5.condSite (c := r.x != q.x) (ts := T0 o) (δ := S.dEx o (r.sh M)) (by simp) (fun p hp => List.mem_append_left _ hp) (fun h Q hQ => site_o7 hM h (by simp only [List.length_append, List.length_nil]; omega) Q hQ) fun a6 w6 g6 => ?_
  have l4 := iff_len (r.x != q.x) (S.dEx o (r.sh M))
  have eh : [] ++ S.iff (r.cl != q.cl) (S.dCl o (r.sh M)) ++ S.iff (!S.eqC r.p q.p) (S.dPr o (r.sh M)) ++ S.iff (r.x != q.x) (S.dEx o (r.sh M)) = S.heads o (q.sh M) (r.sh M) := rfl
  rw [eh] at g6
  have lh : (S.heads o (q.sh M) (r.sh M)).length ≤ 3 := by
    rw [← eh]
    simp only [List.length_append, List.length_nil]
    omega
  show wpL Tryd.prog ([at_ 8, at_ 9] ++ _) _ a6 w6
  rw [wpL_app]
  refine g6.step (ex := .normal) C (ts' := TI M q r o 0) (fun v => bt_d M A0 A1 q r o v) (by rfl) fun a7 w7 g7 => ?_
  show wpL Tryd.prog (.block 0 (.loop (roundOf [at_ 10])) :: ([at_ 11] ++ (.block 2 (.loop (roundOf [at_ 12])) :: bt.drop 13))) _ a7 w7
  simp only [wpL]
  refine wp_block (wp_loop_rounds (((M q.a).g q.b).n + 1) ?_)
  refine loop1 (L := S.heads o (q.sh M) (r.sh M)) hM hn (by omega) (fun a8 w8 g8 => ?_) (((M q.a).g q.b).n + 1) 0 a7 w7 (by
    show Grow _ _ _ _ _ _ (_ ++ []) _ _
    rw [List.append_nil]
    exact g7) (Nat.zero_le _) (by omega)
  rw [wpL_app]
  refine g8.step (ex := .normal) C (ts' := TJ M q r o 0) (fun v => bt_m M A0 A1 q r o v ((M q.a).g q.b).n) (by rfl) fun a9 w9 g9 => ?_
  show wpL Tryd.prog (.block 2 (.loop (roundOf [at_ 12])) :: bt.drop 13) _ a9 w9
  simp only [wpL]
  have lg : (S.gones o (q.sh M) (r.sh M) ((M q.a).g q.b).n).length ≤ ((M q.a).g q.b).n := iffs_len _ _ _
  refine wp_block (wp_loop_rounds (((M r.a).g r.b).n + 1) ?_)
  refine loop2 (L := S.heads o (q.sh M) (r.sh M) ++ S.gones o (q.sh M) (r.sh M) ((M q.a).g q.b).n) hM hn' (by rw [List.length_append]; omega) (fun a10 w10 g10 => ?_) (((M r.a).g r.b).n + 1) 0 a9 w9 (by
    show Grow _ _ _ _ _ _ (_ ++ []) _ _
    rw [List.append_nil]
    exact g9) (Nat.zero_le _) (by omega)
  refine piece C.mix C.hX C.hs C.hXO C.hG (bt_e M A0 A1 q r o (a10.tmps.getD 7 undef) ((M r.a).g r.b).n) g10.invw g10.sr (fun v hv m' a' w' h1 h2 h3 => ?_) (fun ex d hd => by cases hd)
  cases hv
  rw [den_val] at h2
  refine ⟨h1, _, h2, _, rfl, g10.below.trans (h3.mono g10.below.size), ?_⟩
  have := g10.own.kept (grown_of h3 none) (by cases hv : (a10.tmps.getD 7 undef).ownBlock <;> simp)
  exact this
set_option maxRecDepth 100000 in
theorem calls {M : Nat → Mo} (hM : Fit M) {q r : SA} {o : Int} {w0 : World} (hI : Inv M noBox w0) (hn : ((M q.a).g q.b).n ≤ 1048576) (hn' : ((M r.a).g r.b).n ≤ 1048576) (m0 : Nat → Nat) :
    Calls Tryd.prog 88 (([.val (.int .i64 o), q.sv, r.sv] : List SV).map (@SV.den (rowsB M noBox) m0)).toArray w0 (fun e w' => ∃ v, e = .returned v ∧ Made w0 (S.between o (q.sh M) (r.sh M)) v w') := by
  letI := rowsB M noBox
  refine calls_of_wp Tryd.func88 (c := Tryd.f88.body.getD .skip) (by kernel_rfl) ?_
  refine wpL_flat _ ?_
  show wpL Tryd.prog bt _ _ _
  rw [split, wpL_app]
  have hst := start_sound (fn := Tryd.f88) [.val (.int .i64 o), q.sv, r.sv] (fun x hx => by
    simp only [List.mem_cons, List.not_mem_nil, or_false] at hx
    rcases hx with rfl | rfl | rfl
    · exact ok_val _ _
    · exact ok_sa _ _
    · exact ok_sa _ _) w0 m0
  have C0 := ctxB M noBox Bvents5 (LS := [(110, idxC M), (112, noMem (onShSh fun q r => LI (S.kept (q.sh M) (r.sh M))))]) (entsS_cons (ent_idxC M _ hM) (entsS_cons (ent_kept112 M _ hM) entsS_nil))
  refine piece C0.mix C0.hX C0.hs C0.hXO C0.hG (bt_st M none none q r o undef) hI hst (fun v hv => by cases hv) (fun ex d hd m a1 w1 hr1 => ?_)
  cases hd
  have hb1 := hr1.mr.below
  have q0 := hr1.mr.blk 0 ⟨60, shCells q.cl q.p q.x [q.a, q.b]⟩ rfl
  have q1 := hr1.mr.blk 1 ⟨60, shCells r.cl r.p r.x [r.a, r.b]⟩ rfl
  have hI1 : Inv M noBox w1 := inv_stable _ _ _ _ hI hb1
  have hIb : Inv M (boxes (some ⟨m 0, 0, none⟩) (some ⟨m 1, 0, none⟩) q r) w1 := ⟨hI1.1, xok_box hI1.2 (fun x => by
    cases hx : Nat.beq x 0 with
    | true =>
      have e : boxes (some ⟨m 0, 0, none⟩) (some ⟨m 1, 0, none⟩) q r x = ⟨some ⟨m 0, 0, none⟩, 8, 1, 1, fun _ => shCells q.cl q.p q.x [q.a, q.b]⟩ := by
        show (bif Nat.beq x 0 then _ else _) = _
        rw [hx]; rfl
      rw [e]
      exact box_row (bx := noBox) (blk := ⟨60, shCells q.cl q.p q.x [q.a, q.b]⟩) hr1.mr rfl (simple_sh _ _ _ _ _)
    | false =>
      have e : boxes (some ⟨m 0, 0, none⟩) (some ⟨m 1, 0, none⟩) q r x = ⟨some ⟨m 1, 0, none⟩, 8, 1, 1, fun _ => shCells r.cl r.p r.x [r.a, r.b]⟩ := by
        show (bif Nat.beq x 0 then _ else _) = _
        rw [hx]; rfl
      rw [e]
      exact box_row (bx := noBox) (blk := ⟨60, shCells r.cl r.p r.x [r.a, r.b]⟩) hr1.mr rfl (simple_sh _ _ _ _ _))⟩
  have e7 : a1.tmps.getD 7 undef = .slice none 0 0 := (hr1.ar.tm 7 rfl).trans (den_val _ _)
  have g0 : Grow M (boxes (some ⟨m 0, 0, none⟩) (some ⟨m 1, 0, none⟩) q r) 117 w1 7 (T0 o) [] a1 w1 := by
    refine ⟨Below.refl _ _, hIb, hr1.ar.size, hr1.ar.defers, fun p hp => ?_, fun p hp => ?_, ?_⟩
    · simp only [List.mem_cons, List.not_mem_nil, or_false] at hp
      rcases hp with rfl | rfl | rfl
      · exact (hr1.ar.tm 0 rfl).trans (by rw [@den_val (rowsB M (boxes _ _ _ _))]; exact den_val _ _)
      · exact (hr1.ar.tm 4 rfl).trans (by rw [@den_xp (rowsB M (boxes _ _ _ _))]; exact den_ptr _ _ _)
      · exact (hr1.ar.tm 5 rfl).trans (by rw [@den_xp (rowsB M (boxes _ _ _ _))]; exact den_ptr _ _ _)
    · exact (@goodB_at (rowsB M (boxes (some ⟨m 0, 0, none⟩) (some ⟨m 1, 0, none⟩) q r)) 7 (T0 o) (by rfl) p hp).2.2.1
    · rw [e7]
      exact World.ownsRow_nil _ _ _ _
  refine wpL_mono _ (body hM hn hn' g0) fun e a' w' h => body_mono (fun e w' ⟨v, he, hb, ho⟩ => ⟨v, he, hb1.trans (hb.mono hb1.size), own_base ho hb1.size⟩) h
end Btw
end Go.Proofs.YtaojjpdlfnphiaaDoor.PDescKinds
end
section
/- invariant.twice: has some shape a key twice? The program asks a map. -/
set_option linter.unusedSimpArgs false
set_option linter.unusedVariables false
set_option linter.unusedSectionVars false
namespace Go.Proofs.YtaojjpdlfnphiaaDoor.PDescKinds
open Go.RowKit Go.Ev Go.Maps
namespace Tw
theorem und64 : Tryd.prog.underlying 64 = some (.struct #[{ name := "Str", type := 9, offset := 0, embedded := false, tag := "", pkgPath := "", byteOffset := 0 }, { name := "Sym", type := 3, offset := 1, embedded := false, tag := "", pkgPath := "", byteOffset := 16 }]) := Tryd.underlying64
theorem law64 : Keyed Tryd.prog 64 := Keyed.of_law (deep_law_laid (m := 3) (by kernel_rfl) (by decide) (of_decide_eq_true (by kernel_rfl)) (by kernel_rfl) (by rw [Tryd.underlying64]))
def wfKey (a : ByteArray) (b : Int) : Bool := decide (a.size ≤ maxLen) && (Lit.int .i64 b).wf
set_option maxRecDepth 100000 in
theorem keyOf64 (a : ByteArray) (b : Int) (hab : wfKey a b = true) : ∃ l, keyOf Tryd.prog 64 (.agg #[.string a, .int .i64 b]) = some l := by
  simp only [wfKey, Bool.and_eq_true, decide_eq_true_eq] at hab
  obtain ⟨ha, hb⟩ := hab
  unfold keyOf
  rw [und64]
  have h1 : Tryd.prog.keyType 64 = true := by kernel_rfl
  have hc : Tryd.prog.cellsOf 64 = 2 := by kernel_rfl
  have hc9 : Tryd.prog.cellsOf 9 = 1 := by kernel_rfl
  have hc3 : Tryd.prog.cellsOf 3 = 1 := by kernel_rfl
  have h2 : Value.formed Tryd.prog 64 (.agg #[.string a, .int .i64 b]) = true := by
    unfold Value.formed
    rw [und64]
    simp [hc]
  simp only [h1, h2, Bool.and_self, if_true]
  obtain ⟨n, hn⟩ : ∃ n, Tryd.prog.types.size = n + 1 := ⟨Tryd.prog.types.size - 1, by kernel_rfl⟩
  have h3 : (Tryd.prog.keyLits (Tryd.prog.types.size + 1) 64 (Value.agg #[.string a, .int .i64 b]).cells.toList) = some [.string a.data.toList, .int .i64 b] := by
    rw [hn, show (Value.agg #[Value.string a, Value.int .i64 b]).cells.toList = [Value.string a, Value.int .i64 b] from rfl]
    have e9 : ∀ cs, cs = [Value.string a] → Tryd.prog.keyLits (n + 1) 9 cs = some [.string a.data.toList] := by
      rintro _ rfl
      unfold Program.keyLits
      rw [Tryd.underlying9]
      simp [ha]
    have e3 : ∀ cs, cs = [Value.int .i64 b] → Tryd.prog.keyLits (n + 1) 3 cs = some [.int .i64 b] := by
      rintro _ rfl
      unfold Program.keyLits
      rw [Tryd.underlying3]
      simp [hb]
    unfold Program.keyLits
    rw [und64]
    simp only []
    rw [if_pos ⟨by rw [hc]; rfl, by simp⟩]
    simp [List.mapM_cons, hc9, hc3, e9, e3]
  rw [h3]
  exact ⟨_, rfl⟩
abbrev KeyT := ByteArray × Int
def keySeen (seen : List KeyT) (a : ByteArray) (b : Int) : Bool := seen.any fun q => q.1.toList == a.toList && (q.2 == b)
theorem bytes_ext {a b : ByteArray} (h : (a.toList == b.toList) = true) : a = b := by
  have h2 : a.toList = b.toList := by simpa using h
  rw [ByteArray.toList_eq, ByteArray.toList_eq] at h2
  obtain ⟨⟨x⟩⟩ := a
  obtain ⟨⟨y⟩⟩ := b
  simpa using h2
/-- What the map says while the keys of 'seen' have been put. -/
def Says (D : DataW Unit) (seen : List KeyT) : Prop := IsMap D ∧ ∀ a b kl, keyOf Tryd.prog 64 (.agg #[.string a, .int .i64 b]) = some kl → D.atKey kl (.lit (.int .i64 0)) = .lit (.int .i64 (if keySeen seen a b = true then 1 else 0))
theorem Says.nil : Says (.map []) [] := ⟨isMap_empty, fun a b kl _ => rfl⟩
set_option maxRecDepth 100000 in
theorem Says.put {D : DataW Unit} {seen : List KeyT} (h : Says D seen) {a : ByteArray} {b : Int} {kl : Lit} (hk : keyOf Tryd.prog 64 (.agg #[.string a, .int .i64 b]) = some kl) : Says (D.put kl (.lit (.int .i64 1))) ((a, b) :: seen) := by
  refine ⟨h.1.put _ _, fun a' b' kl' hk' => ?_⟩
  by_cases e : kl' = kl
  · subst e
    have e2 := law64.inj hk hk'
    injection e2 with e2
    have e3 : a = a' ∧ b = b' := by simpa using e2
    obtain ⟨rfl, rfl⟩ := e3
    rw [atKey_put_same h.1 (law64.key hk)]
    simp [keySeen]
  · rw [atKey_put_other e, h.2 a' b' kl' hk']
    have : keySeen ((a, b) :: seen) a' b' = keySeen seen a' b' := by
      unfold keySeen
      rw [List.any_cons]
      have hne : (a.toList == a'.toList && (b == b')) = false := by
        rw [Bool.eq_false_iff]
        intro hh
        simp only [Bool.and_eq_true] at hh
        have ha := bytes_ext hh.1
        have hb : b = b' := by simpa using hh.2
        subst ha hb
        rw [hk] at hk'
        exact e (Option.some.inj hk').symm
      simp only [hne, Bool.false_or]
    rw [this]
theorem zeroE (w : World) : (zeroValue 3).run Tryd.prog w = .ok (.int .i64 0) w := by kernel_rfl
def seen (s : Sh) : Nat → List KeyT
  | 0 => []
  | j + 1 => ((s.g j).k.s, (s.g j).k.n) :: seen s j
end Tw
namespace S
def dupAt (s : Sh) (j : Nat) : Bool := Tw.keySeen (Tw.seen s j) (s.g j).k.s (s.g j).k.n
def dup (s : Sh) : Bool := (seek (fun j => bif dupAt s j then some true else none) s.n 0).getD false
def twice (m : Mo) : Bool := (seek (fun i => bif dup (m.g i) then some true else none) m.n 0).getD false
theorem any_true {q : Nat → Bool} {n : Nat} {j : Nat} (hj : j < n) (h : q j = true) : (seek (fun j => bif q j then some true else none) n 0).getD false = true := by
  cases hs : seek (fun j => bif q j then some true else none) n 0 with
  | none =>
    have := (seek_none n 0).1 hs j (Nat.zero_le _) (by omega)
    rw [h] at this
    cases this
  | some v =>
    obtain ⟨k, _, _, h3⟩ := seek_some n 0 hs
    cases hq : q k with
    | false => rw [hq] at h3; cases h3
    | true => rw [hq] at h3; cases h3; rfl
theorem any_false {q : Nat → Bool} {n : Nat} (h : ∀ j, j < n → q j = false) : (seek (fun j => bif q j then some true else none) n 0).getD false = false := by
  have : seek (fun j => bif q j then some true else none) n 0 = none := (seek_none n 0).2 fun j _ hj => by rw [h j (by omega)]; rfl
  rw [this]
  rfl
end S
def wfK (k : K) : Bool := Tw.wfKey k.s k.n
def KeysOk (M : Nat → Mo) : Prop := ∀ a i j, wfK (((M a).g i).g j).k = true
namespace Tw
noncomputable def tw : List Code := bodyOf Tryd.f87
noncomputable def rd : List Code := flat (roundOf tw)
noncomputable def inn : List Code := flat (inB (rd.getD 2 .skip))
noncomputable def ops4 : Array Oper := opsOf (inn.getD 1 .skip)
noncomputable def rdi : List Code := flat (roundOf [inn.getD 3 .skip])
noncomputable def inn3 : List Code := flat (inB (rdi.getD 2 .skip))
noncomputable def ops8 : Array Oper := opsOf (inn3.getD 1 .skip)
noncomputable def ops10 : Array Oper := opsOf (inn3.getD 3 .skip)
noncomputable def oo (o : Array Oper) (k : Nat) : Oper := o.toList.getD k default
abbrev CL : GFn := tab2 BvL5 []
abbrev TO (M : Nat → Mo) (a i : Nat) : List (Nat × SV) := [(8, .xs [a]), (9, .val (.int .i64 (M a).n)), (10, .val (.int .i64 (i : Int)))]
abbrev TIn (M : Nat → Mo) (a i j b : Nat) : List (Nat × SV) := [(8, .xs [a]), (9, .val (.int .i64 (M a).n)), (10, .val (.int .i64 (i : Int))), (5, .val (.map (some b))), (16, .xs [a, i]), (17, .val (.int .i64 ((M a).g i).n)), (18, .val (.int .i64 (j : Int)))]
set_option maxRecDepth 100000 in
theorem t0 (M : Nat → Mo) (bx : Nat → XR) (a i j b : Nat) : letI := rowsB M bx
    evK Tryd.prog ext CL 80 32 (seqL (preOf tw)) (⟨argS [.xs [a]], fun _ => none, 0⟩) (grab Tryd.prog Tryd.f87 [8, 9, 10] [] 0) =
    some (.cut .normal ⟨TO M a 0, []⟩) := by kernel_rfl
set_option maxRecDepth 100000 in
theorem t1 (M : Nat → Mo) (bx : Nat → XR) (a i j b : Nat) : letI := rowsB M bx
    evK Tryd.prog ext CL 80 32 (seqL (rd.take 2)) ((⟨TO M a i, []⟩ : Cut).st 0) (grab Tryd.prog Tryd.f87 [8, 9, 10] [] 0) =
    bif decide ((i : Int) < ((M a).n : Int)) then some (.cut .normal ⟨TO M a i, []⟩) else some (.cut (.exit 0) ⟨TO M a i, []⟩) := by kernel_rfl
set_option maxRecDepth 100000 in
theorem t2 (M : Nat → Mo) (bx : Nat → XR) (a i j b : Nat) : letI := rowsB M bx
    evK Tryd.prog ext CL 80 32 (seqL (inn.take 1)) ((⟨TO M a i, []⟩ : Cut).st 0) (grab Tryd.prog Tryd.f87 [8, 9, 10, 4] [0] 1) =
    bif decide (0 ≤ (i : Int)) && decide ((i : Int) < ((M a).n : Int)) then some (.cut .normal ⟨TO M a i ++ [(4, .ptr 0 0)], [(0, ⟨60, shCells ((M a).g i).cl ((M a).g i).p ((M a).g i).x [a, i]⟩)]⟩) else none := by kernel_rfl
set_option maxRecDepth 100000 in
theorem t3 (M : Nat → Mo) (A : Option Addr) (a i j b : Nat) : letI := rowsB M (fun _ => ⟨A, 8, 1, 1, fun _ => shCells ((M a).g i).cl ((M a).g i).p ((M a).g i).x [a, i]⟩)
    evK Tryd.prog ext CL 80 32 (seqL [inn.getD 2 .skip]) ((⟨TO M a i ++ [(4, .xp [0, 0, 0] 0 0), (5, .val (.map (some b)))], []⟩ : Cut).st 0) (grab Tryd.prog Tryd.f87 [8, 9, 10, 5, 16, 17, 18] [] 0) =
    some (.cut .normal ⟨TIn M a i 0 b, []⟩) := by kernel_rfl
set_option maxRecDepth 100000 in
theorem t4 (M : Nat → Mo) (bx : Nat → XR) (a i j b : Nat) : letI := rowsB M bx
    evK Tryd.prog ext CL 80 32 (seqL (rd.drop 3)) ((⟨TO M a i, []⟩ : Cut).st 0) (grab Tryd.prog Tryd.f87 [8, 9, 10] [] 0) =
    some (.cut .normal ⟨[(8, .xs [a]), (9, .val (.int .i64 (M a).n)), (10, .val (.int .i64 (IntKind.i64.wrap ((i : Int) + 1))))], []⟩) := by kernel_rfl
set_option maxRecDepth 100000 in
theorem t5 (M : Nat → Mo) (bx : Nat → XR) (a i j b : Nat) : letI := rowsB M bx
    evK Tryd.prog ext CL 80 32 (seqL (postOf tw)) ((⟨TO M a i, []⟩ : Cut).st 0) (grab Tryd.prog Tryd.f87 [8, 9, 10] [] 0) =
    some (.ret (.val (.bool false))) := by kernel_rfl
set_option maxRecDepth 100000 in
theorem u1 (M : Nat → Mo) (bx : Nat → XR) (a i j b : Nat) : letI := rowsB M bx
    evK Tryd.prog ext CL 80 32 (seqL (rdi.take 2)) ((⟨TIn M a i j b, []⟩ : Cut).st 0) (grab Tryd.prog Tryd.f87 [8, 9, 10, 5, 16, 17, 18] [] 0) =
    bif decide ((j : Int) < (((M a).g i).n : Int)) then some (.cut .normal ⟨TIn M a i j b, []⟩) else some (.cut (.exit 2) ⟨TIn M a i j b, []⟩) := by kernel_rfl
set_option maxRecDepth 100000 in
theorem u2 (M : Nat → Mo) (bx : Nat → XR) (a i j b : Nat) : letI := rowsB M bx
    evK Tryd.prog ext CL 80 32 (seqL (inn3.take 1)) ((⟨TIn M a i j b, []⟩ : Cut).st 0) (grab Tryd.prog Tryd.f87 [8, 9, 10, 5, 16, 17, 18, 7] [0] 1) =
    bif decide (0 ≤ (j : Int)) && decide ((j : Int) < (((M a).g i).n : Int)) then some (.cut .normal ⟨TIn M a i j b ++ [(7, .ptr 0 0)], [(0, ⟨66, (((M a).g i).g j).cells⟩)]⟩) else none := by kernel_rfl
set_option maxRecDepth 100000 in
theorem u3 (M : Nat → Mo) (bx : Nat → XR) (a i j b : Nat) : letI := rowsB M bx
    (evOps Tryd.prog ext (callWith Tryd.prog CL (ev Tryd.prog ext CL 20)) ops8 32 (ops8.toList.take 3) ((⟨TIn M a i j b ++ [(7, .ptr 0 0)], [(0, ⟨66, (((M a).g i).g j).cells⟩)]⟩ : Cut).st 1)).bind (cutS [8, 9, 10, 5, 16, 17, 18, 7, 22, 24] [0] 1) =
    some ⟨TIn M a i j b ++ [(7, .ptr 0 0), (22, .val (.map (some b))), (24, .val (((M a).g i).g j).k.agg)], [(0, ⟨66, (((M a).g i).g j).cells⟩)]⟩ := by kernel_rfl
set_option maxRecDepth 100000 in
theorem u4 (M : Nat → Mo) (bx : Nat → XR) (a i j b : Nat) (c : Int) : letI := rowsB M bx
    (evOps Tryd.prog ext (callWith Tryd.prog CL (ev Tryd.prog ext CL 20)) ops8 32 (ops8.toList.drop 4) (⟨putS (pickT (TIn M a i j b ++ [(7, .ptr 0 0), (22, .val (.map (some b))), (24, .val (((M a).g i).g j).k.agg)])) (some 25) (.val (.int .i64 c)), pickM [(0, ⟨66, (((M a).g i).g j).cells⟩)], 1⟩)).bind (cutS [8, 9, 10, 5, 16, 17, 18, 7, 26] [0] 1) =
    some ⟨TIn M a i j b ++ [(7, .ptr 0 0), (26, .val (.bool (decide (c > 0))))], [(0, ⟨66, (((M a).g i).g j).cells⟩)]⟩ := by kernel_rfl
set_option maxRecDepth 100000 in
theorem u5 (M : Nat → Mo) (bx : Nat → XR) (a i j b : Nat) : letI := rowsB M bx
    evK Tryd.prog ext CL 80 32 (seqL (flat (thenOf (inn3.getD 2 .skip)))) ((⟨TIn M a i j b ++ [(7, .ptr 0 0), (26, .val (.bool true))], [(0, ⟨66, (((M a).g i).g j).cells⟩)]⟩ : Cut).st 1) (grab Tryd.prog Tryd.f87 [] [] 0) =
    some (.ret (.val (.bool true))) := by kernel_rfl
set_option maxRecDepth 100000 in
theorem u6 (M : Nat → Mo) (bx : Nat → XR) (a i j b : Nat) : letI := rowsB M bx
    (evOps Tryd.prog ext (callWith Tryd.prog CL (ev Tryd.prog ext CL 20)) ops10 32 (ops10.toList.take 3) ((⟨TIn M a i j b ++ [(7, .ptr 0 0), (26, .val (.bool false))], [(0, ⟨66, (((M a).g i).g j).cells⟩)]⟩ : Cut).st 1)).bind (cutS [8, 9, 10, 5, 16, 17, 18, 27, 29] [] 0) =
    some ⟨TIn M a i j b ++ [(27, .val (.map (some b))), (29, .val (((M a).g i).g j).k.agg)], []⟩ := by kernel_rfl
set_option maxRecDepth 100000 in
theorem u7 (M : Nat → Mo) (bx : Nat → XR) (a i j b : Nat) : letI := rowsB M bx
    evK Tryd.prog ext CL 80 32 (seqL (rdi.drop 3)) ((⟨TIn M a i j b, []⟩ : Cut).st 0) (grab Tryd.prog Tryd.f87 [8, 9, 10, 5, 16, 17, 18] [] 0) =
    some (.cut .normal ⟨[(8, .xs [a]), (9, .val (.int .i64 (M a).n)), (10, .val (.int .i64 (i : Int))), (5, .val (.map (some b))), (16, .xs [a, i]), (17, .val (.int .i64 ((M a).g i).n)), (18, .val (.int .i64 (IntKind.i64.wrap ((j : Int) + 1))))], []⟩) := by kernel_rfl
theorem tw_eq : tw = preOf tw ++ (.block 0 (.loop (roundOf tw)) :: postOf tw) := by kernel_rfl
theorem rd_eq : rd = rd.take 2 ++ (.block 1 (inB (rd.getD 2 .skip)) :: rd.drop 3) := by kernel_rfl
theorem inn_eq : inn = inn.take 1 ++ [.region 4 ops4 false, inn.getD 2 .skip, .block 2 (.loop (roundOf [inn.getD 3 .skip]))] := by kernel_rfl
theorem rdi_eq : rdi = rdi.take 2 ++ (.block 3 (inB (rdi.getD 2 .skip)) :: rdi.drop 3) := by kernel_rfl
theorem inn3_eq : inn3 = inn3.take 1 ++ [.region 8 ops8 false, .cond (.tmp 26) (thenOf (inn3.getD 2 .skip)) .skip, .region 10 ops10 false] := by kernel_rfl
theorem ops4_eq : ops4.toList = [oo ops4 0, oo ops4 1] := by kernel_rfl
theorem ops8_eq : ops8.toList = ops8.toList.take 3 ++ (oo ops8 3 :: ops8.toList.drop 4) := by kernel_rfl
theorem ops10_eq : ops10.toList = ops10.toList.take 3 ++ [oo ops10 3] := by kernel_rfl
theorem m4_op : (oo ops4 0).op = .makeMap 116 none := by kernel_rfl
theorem m4_dst : (oo ops4 0).dst = some 14 := by kernel_rfl
theorem m4_guard : (oo ops4 0).guard = none := by kernel_rfl
theorem a4_op : (oo ops4 1).op = .assign (.tmp 14) := by kernel_rfl
theorem a4_dst : (oo ops4 1).dst = some 5 := by kernel_rfl
theorem a4_guard : (oo ops4 1).guard = none := by kernel_rfl
theorem l8_op : (oo ops8 3).op = .lookup 116 (.tmp 22) (.tmp 24) false := by kernel_rfl
theorem l8_dst : (oo ops8 3).dst = some 25 := by kernel_rfl
theorem l8_guard : (oo ops8 3).guard = none := by kernel_rfl
theorem u10_op : (oo ops10 3).op = .mapUpdate 116 (.tmp 27) (.tmp 29) (.const (.int .i64 1)) := by kernel_rfl
theorem u10_dst : (oo ops10 3).dst = none := by kernel_rfl
theorem u10_guard : (oo ops10 3).guard = none := by kernel_rfl
end Tw
end Go.Proofs.YtaojjpdlfnphiaaDoor.PDescKinds
end
section
/- invariant.twice runs. -/
set_option linter.unusedSimpArgs false
set_option linter.unusedVariables false
set_option linter.unusedSectionVars false
namespace Go.Proofs.YtaojjpdlfnphiaaDoor.PDescKinds
open Go.RowKit Go.Ev Go.Maps
namespace Tw
structure OSt (M : Nat → Mo) (a : Nat) (w0 : World) (i : Nat) (act : Act) (w : World) : Prop where
  below : Below w0.heap.size w0 w
  size : act.tmps.size = 32
  defers : act.defers = []
  tm : ∀ p ∈ TO M a i, act.tmps.getD p.1 undef = @SV.den (rowsB M noBox) (fun _ => 0) p.2
structure TSt (M : Nat → Mo) (a : Nat) (w0 : World) (i j b : Nat) (act : Act) (w : World) : Prop where
  below : Below w0.heap.size w0 w
  size : act.tmps.size = 32
  defers : act.defers = []
  tm : ∀ p ∈ TIn M a i j b, act.tmps.getD p.1 undef = @SV.den (rowsB M noBox) (fun _ => 0) p.2
  high : w0.heap.size ≤ b
  map : ∃ D : DataW Unit, w.ownsMap Tryd.prog 64 (plainElem Tryd.prog 3) b j D ∧ Says D (seen ((M a).g i) j)
section
variable {M : Nat → Mo} {a : Nat} {w0 : World} {i j b : Nat} {act : Act} {w : World}
theorem OSt.sr (h : OSt M a w0 i act w) : @SR (rowsB M noBox) w 32 (fun _ => 0) ((⟨TO M a i, []⟩ : Cut).st 0) act w := by
  letI := rowsB M noBox
  refine epoch h.size h.defers _ _ h.tm (fun p hp => ?_)
  simp only [List.mem_cons, List.not_mem_nil, or_false] at hp
  rcases hp with rfl | rfl | rfl <;> first | exact ok_xs | exact ok_val _ _
theorem TSt.sr (h : TSt M a w0 i j b act w) : @SR (rowsB M noBox) w 32 (fun _ => 0) ((⟨TIn M a i j b, []⟩ : Cut).st 0) act w := by
  letI := rowsB M noBox
  refine epoch h.size h.defers _ _ h.tm (fun p hp => ?_)
  simp only [List.mem_cons, List.not_mem_nil, or_false] at hp
  rcases hp with rfl | rfl | rfl | rfl | rfl | rfl | rfl <;> first | exact ok_xs | exact ok_val _ _
theorem tm_of {m : Nat → Nat} {st : St} (hr : @SR (rowsB M noBox) w 32 m st act w0) {ts : List (Nat × SV)} (h : ∀ p ∈ ts, st.tmps p.1 = p.2 ∧ p.2.known = true ∧ @SV.ok (rowsB M noBox) (fun _ => none) p.2) : ∀ p ∈ ts, act.tmps.getD p.1 undef = @SV.den (rowsB M noBox) (fun _ => 0) p.2 := by
  letI := rowsB M noBox
  intro p hp
  obtain ⟨h1, h2, h3⟩ := h p hp
  rw [hr.ar.tm p.1 (by rw [h1]; exact h2), h1]
  exact (SV.den_agree (mem := fun _ => none) (m := m) (m' := fun _ => 0) (fun b hb => by cases hb) h3).symm
set_option maxRecDepth 100000 in
theorem roundI (hI : Inv M noBox w0) (hK : KeysOk M) (hn : ((M a).g i).n ≤ 1048576) (h : TSt M a w0 i j b act w) (hj : j < ((M a).g i).n) {Q : Exit → Act → World → Prop}
    (hdup : S.dupAt ((M a).g i) j = true → ∀ a' w', a'.defers = [] → (results Tryd.f87 a'.tmps).run Tryd.prog w' = .ok (.bool true) w' → Below w0.heap.size w0 w' → Q .ret a' w')
    (hgo : S.dupAt ((M a).g i) j = false → ∀ a' w', TSt M a w0 i (j + 1) b a' w' → Q .normal a' w') : wpL Tryd.prog rdi Q act w := by
  letI := rowsB M noBox
  have hIw : Inv M noBox w := inv_stable _ _ _ _ hI h.below
  have C := ctxB M noBox Bvents5 entsS_nil
  have hc : CallSound Tryd.prog (Inv M noBox) (callWith Tryd.prog CL (ev Tryd.prog ext CL 20)) := call_sound C.hs C.hG (ev_sound mixed ext_sound C.hs C.hXO C.hG 20).1
  obtain ⟨D, hown, hsays⟩ := h.map
  obtain ⟨kl, hkl⟩ := keyOf64 _ _ (hK a i j)
  rw [rdi_eq, wpL_app]
  have e1 := u1 M noBox a i j b
  rw [dlt hj] at e1
  refine piece C.mix C.hX C.hs C.hXO C.hG e1 hIw h.sr (fun v hv => by cases hv) (fun ex d hd m1 a1 w1 hr1 => ?_)
  cases hd
  show wpL Tryd.prog (.block 3 (inB (rdi.getD 2 .skip)) :: rdi.drop 3) Q a1 w1
  simp only [wpL]
  refine wp_block (wpL_flat _ ?_)
  show wpL Tryd.prog inn3 _ a1 w1
  rw [inn3_eq, wpL_app]
  have e2 := u2 M noBox a i j b
  rw [dge, dlt hj] at e2
  refine piece C.mix C.hX C.hs C.hXO C.hG e2 hIw hr1 (fun v hv => by cases hv) (fun ex d hd m2 a2 w2 hr2 => ?_)
  cases hd
  show wpL Tryd.prog (.region 8 ops8 false :: [.cond (.tmp 26) (thenOf (inn3.getD 2 .skip)) .skip, .region 10 ops10 false]) _ a2 w2
  rw [wpL]
  refine wp_region_list ?_
  rw [ops8_eq]
  obtain ⟨st3, hst3, hcut3⟩ := Option.bind_eq_some_iff.1 (u3 M noBox a i j b)
  refine ops_sound_tail ext_sound hIw C.hs C.hXO hc _ _ _ _ m2 a2 w2 hst3 hr2 ?_
  intro m3 a3 w3 _ hr3
  have hr3 := cut_sound hcut3 hr3
  have b3 := hr3.mr.below
  have e22 : a3.eval (.tmp 22) = .map (some b) := (hr3.ar.tm 22 rfl).trans (den_val _ _)
  have e24 : a3.eval (.tmp 24) = (((M a).g i).g j).k.agg := (hr3.ar.tm 24 rfl).trans (den_val _ _)
  have hown3 := hown.kept (grown_of b3 none) (by simp)
  refine wpList_lookup_own_int w3 l8_guard (.tmp 22) (.tmp 24) 116 l8_op 64 3 .i64 law64 Tryd.underlying116 Tryd.underlying3 (zeroE _) b j D e22 hown3 _ kl e24 hkl (fun c hat hwc => ?_)
  have hcv : c = if S.dupAt ((M a).g i) j = true then 1 else 0 := by
    have := hsays.2 _ _ _ hkl
    rw [hat] at this
    injection this with this
    injection this with _ this
  rw [l8_dst]
  have hr4 : SR w 32 m3 ⟨putS (pickT (TIn M a i j b ++ [(7, .ptr 0 0), (22, .val (.map (some b))), (24, .val (((M a).g i).g j).k.agg)])) (some 25) (.val (.int .i64 c)), pickM [(0, ⟨66, (((M a).g i).g j).cells⟩)], 1⟩ (a3.put (some 25) (.int .i64 c)) w3 := by
    have := hr3.ar.put (d := some 25) (v := .val (.int .i64 c)) (m' := m3) (Agree.refl _ _) (Grows.refl _) (by rfl) (ok_val _ _)
    rw [den_val] at this
    exact ⟨hr3.mr, this, hr3.fresh⟩
  obtain ⟨st4, hst4, hcut4⟩ := Option.bind_eq_some_iff.1 (u4 M noBox a i j b c)
  rw [← List.append_nil (ops8.toList.drop 4)]
  refine ops_sound_tail ext_sound hIw C.hs C.hXO hc [] _ _ _ _ _ _ hst4 hr4 ?_
  intro m5 a5 w5 _ hr5
  have hr5 := cut_sound hcut4 hr5
  have b5 := hr5.mr.below
  have hv : a5.eval (.tmp 26) = .bool (decide (c > 0)) := (hr5.ar.tm 26 rfl).trans (den_val _ _)
  show wpL Tryd.prog (.cond (.tmp 26) (thenOf (inn3.getD 2 .skip)) .skip :: [.region 10 ops10 false]) _ a5 w5
  rw [wpL]
  cases hd : S.dupAt ((M a).g i) j with
  | true =>
    rw [hd, if_pos rfl] at hcv
    subst hcv
    refine wp_cond_true hv (wpL_flat _ ?_)
    refine piece C.mix C.hX C.hs C.hXO C.hG (u5 M noBox a i j b) hIw hr5 (fun v hv m' a' w' g1 g2 g3 => ?_) (fun ex d hd => by cases hd)
    cases hv
    rw [den_val] at g2
    exact hdup hd a' w' g1 g2 (h.below.trans (g3.mono h.below.size))
  | false =>
    rw [hd, if_neg (by decide)] at hcv
    subst hcv
    refine wp_cond_false hv (wp_skip ?_)
    show wpL Tryd.prog (.region 10 ops10 false :: []) _ a5 w5
    rw [wpL]
    refine wp_region_list ?_
    rw [ops10_eq]
    obtain ⟨st6, hst6, hcut6⟩ := Option.bind_eq_some_iff.1 (u6 M noBox a i j b)
    refine ops_sound_tail ext_sound hIw C.hs C.hXO hc _ _ _ _ _ _ _ hst6 hr5 ?_
    intro m6 a6 w6 _ hr6
    have hr6 := cut_sound hcut6 hr6
    have b6 := hr6.mr.below
    have e27 : a6.eval (.tmp 27) = .map (some b) := (hr6.ar.tm 27 rfl).trans (den_val _ _)
    have e29 : a6.eval (.tmp 29) = (((M a).g i).g j).k.agg := (hr6.ar.tm 29 rfl).trans (den_val _ _)
    have hown6 := hown.kept (grown_of b6 none) (by simp)
    have hM : maxLen = 9223372036854775807 := by decide +kernel
    refine wpList_mapUpdate_own w6 u10_guard (.tmp 27) (.tmp 29) (.const (.int .i64 1)) 116 u10_op 64 3 law64 Tryd.underlying116 (plainElem Tryd.prog 3) b j D e27 hown6 (by omega) _ (.int .i64 1) kl e29 rfl hkl (.lit (.int .i64 1)) [] (plainElem_int Tryd.underlying3 (by decide)) (fun w7 hown7 hgr => ?_)
    rw [u10_dst]
    have hb7 : Below w0.heap.size w0 w7 := by
      have hb6 : Below w0.heap.size w0 w6 := h.below.trans (b6.mono h.below.size)
      refine hb6.trans ⟨hgr.os, hgr.tape, hgr.output, hgr.size, fun k hk => hgr.block k (Nat.lt_of_lt_of_le hk hb6.size) (fun e => ?_)⟩
      have e := Option.some.inj e
      have := h.high
      omega
    have hI7 : Inv M noBox w7 := inv_stable _ _ _ _ hI hb7
    show wpL Tryd.prog (rdi.drop 3) Q a6 w7
    have hsr7 : SR w7 32 (fun _ => 0) ((⟨TIn M a i j b, []⟩ : Cut).st 0) a6 w7 := by
      refine epoch hr6.ar.size hr6.ar.defers _ _ (tm_of hr6 (fun p hp => ?_)) (fun p hp => ?_)
      · simp only [List.mem_cons, List.not_mem_nil, or_false] at hp
        rcases hp with rfl | rfl | rfl | rfl | rfl | rfl | rfl <;> refine ⟨rfl, rfl, ?_⟩ <;> first | exact ok_xs | exact ok_val _ _
      · simp only [List.mem_cons, List.not_mem_nil, or_false] at hp
        rcases hp with rfl | rfl | rfl | rfl | rfl | rfl | rfl <;> first | exact ok_xs | exact ok_val _ _
    have e7 := u7 M noBox a i j b
    rw [wr hj (by omega)] at e7
    refine piece C.mix C.hX C.hs C.hXO C.hG e7 hI7 hsr7 (fun v hv => by cases hv) (fun ex d hd8 m8 a8 w8 hr8 => ?_)
    cases hd8
    refine hgo hd a8 w8 ⟨hb7.trans (hr8.mr.below.mono hb7.size), hr8.ar.size, hr8.ar.defers, tm_of hr8 (fun p hp => ?_), h.high, _, hown7.kept (grown_of hr8.mr.below none) (by simp), Says.put hsays hkl⟩
    simp only [List.mem_cons, List.not_mem_nil, or_false] at hp
    rcases hp with rfl | rfl | rfl | rfl | rfl | rfl | rfl <;> refine ⟨rfl, rfl, ?_⟩ <;> first | exact ok_xs | exact ok_val _ _
theorem loopI (hI : Inv M noBox w0) (hK : KeysOk M) (hn : ((M a).g i).n ≤ 1048576) {Q : Exit → Act → World → Prop}
    (hdup : S.dup ((M a).g i) = true → ∀ a' w', a'.defers = [] → (results Tryd.f87 a'.tmps).run Tryd.prog w' = .ok (.bool true) w' → Below w0.heap.size w0 w' → Q .ret a' w')
    (hend : S.dup ((M a).g i) = false → ∀ a' w', TSt M a w0 i ((M a).g i).n b a' w' → Q .normal a' w') :
    ∀ (k j : Nat) (act : Act) (w : World), TSt M a w0 i j b act w → (∀ t, t < j → S.dupAt ((M a).g i) t = false) → j ≤ ((M a).g i).n → ((M a).g i).n - j < k → Code.rounds Tryd.prog (roundOf [inn.getD 3 .skip]) (Exit.inBlock 2 Q) k act w := by
  intro k
  induction k with
  | zero => intro j act w h hs h1 h2; omega
  | succ k ih =>
    intro j act w h hs h1 h2
    rw [rounds_succ]
    refine wpL_flat _ ?_
    show wpL Tryd.prog rdi _ act w
    by_cases hj : j < ((M a).g i).n
    · refine roundI hI hK hn h hj (fun hd a' w' g1 g2 g3 => hdup (S.any_true hj hd) a' w' g1 g2 g3) (fun hd a' w' h' => ih (j + 1) a' w' h' (fun t ht => ?_) (by omega) (by omega))
      by_cases e : t = j
      · rw [e]; exact hd
      · exact hs t (by omega)
    · obtain rfl : j = ((M a).g i).n := by omega
      letI := rowsB M noBox
      have hIw : Inv M noBox w := inv_stable _ _ _ _ hI h.below
      have C := ctxB M noBox Bvents5 entsS_nil
      rw [rdi_eq, wpL_app]
      have e1 := u1 M noBox a i ((M a).g i).n b
      rw [dnl] at e1
      refine piece C.mix C.hX C.hs C.hXO C.hG e1 hIw h.sr (fun v hv => by cases hv) (fun ex d hd m1 a1 w1 hr1 => ?_)
      cases hd
      obtain ⟨D, hown, hsays⟩ := h.map
      refine hend (S.any_false hs) a1 w1 ⟨h.below.trans (hr1.mr.below.mono h.below.size), hr1.ar.size, hr1.ar.defers, tm_of hr1 (fun p hp => ?_), h.high, D, hown.kept (grown_of hr1.mr.below none) (by simp), hsays⟩
      simp only [List.mem_cons, List.not_mem_nil, or_false] at hp
      rcases hp with rfl | rfl | rfl | rfl | rfl | rfl | rfl <;> refine ⟨rfl, rfl, ?_⟩ <;> first | exact ok_xs | exact ok_val _ _
set_option maxRecDepth 100000 in
theorem piece3 {A : Option Addr} {w3 : World} {a3 : Act} {m : Nat → Nat} (hI : Inv M (fun _ => ⟨A, 8, 1, 1, fun _ => shCells ((M a).g i).cl ((M a).g i).p ((M a).g i).x [a, i]⟩) w3)
    (hr : @SR (rowsB M (fun _ => ⟨A, 8, 1, 1, fun _ => shCells ((M a).g i).cl ((M a).g i).p ((M a).g i).x [a, i]⟩)) w3 32 m ((⟨TO M a i ++ [(4, .xp [0, 0, 0] 0 0), (5, .val (.map (some b)))], []⟩ : Cut).st 0) a3 w3) {Q : Exit → Act → World → Prop}
    (hQ : ∀ m4 a4 w4, @SR (rowsB M (fun _ => ⟨A, 8, 1, 1, fun _ => shCells ((M a).g i).cl ((M a).g i).p ((M a).g i).x [a, i]⟩)) w3 32 m4 ((⟨TIn M a i 0 b, []⟩ : Cut).st 0) a4 w4 → Q .normal a4 w4) : wpL Tryd.prog [inn.getD 2 .skip] Q a3 w3 := by
  letI := rowsB M (fun _ => ⟨A, 8, 1, 1, fun _ => shCells ((M a).g i).cl ((M a).g i).p ((M a).g i).x [a, i]⟩)
  have C := ctxB M (fun _ => ⟨A, 8, 1, 1, fun _ => shCells ((M a).g i).cl ((M a).g i).p ((M a).g i).x [a, i]⟩) Bvents5 entsS_nil
  refine piece C.mix C.hX C.hs C.hXO C.hG (t3 M A a i 0 b) hI hr (fun v hv => by cases hv) (fun ex d hd m4 a4 w4 hr4 => ?_)
  cases hd
  exact hQ m4 a4 w4 hr4
set_option maxRecDepth 100000 in
theorem roundO (hI : Inv M noBox w0) (hK : KeysOk M) (hs : Small (M a)) (h : OSt M a w0 i act w) (hi : i < (M a).n) {Q : Exit → Act → World → Prop}
    (hdup : S.dup ((M a).g i) = true → ∀ a' w', a'.defers = [] → (results Tryd.f87 a'.tmps).run Tryd.prog w' = .ok (.bool true) w' → Below w0.heap.size w0 w' → Q .ret a' w')
    (hgo : S.dup ((M a).g i) = false → ∀ a' w', OSt M a w0 (i + 1) a' w' → Q .normal a' w') : wpL Tryd.prog rd Q act w := by
  letI := rowsB M noBox
  have hIw : Inv M noBox w := inv_stable _ _ _ _ hI h.below
  have C := ctxB M noBox Bvents5 entsS_nil
  rw [rd_eq, wpL_app]
  have e1 := t1 M noBox a i 0 0
  rw [dlt hi] at e1
  refine piece C.mix C.hX C.hs C.hXO C.hG e1 hIw h.sr (fun v hv => by cases hv) (fun ex d hd m1 a1 w1 hr1 => ?_)
  cases hd
  show wpL Tryd.prog (.block 1 (inB (rd.getD 2 .skip)) :: rd.drop 3) Q a1 w1
  simp only [wpL]
  refine wp_block (wpL_flat _ ?_)
  show wpL Tryd.prog inn _ a1 w1
  rw [inn_eq, wpL_app]
  have e2 := t2 M noBox a i 0 0
  rw [dge, dlt hi] at e2
  refine piece C.mix C.hX C.hs C.hXO C.hG e2 hIw hr1 (fun v hv => by cases hv) (fun ex d hd m2 a2 w2 hr2 => ?_)
  cases hd
  have b2 := hr2.mr.below
  have hI2 : Inv M noBox w2 := inv_stable _ _ _ _ hIw b2
  have hb2 : Below w0.heap.size w0 w2 := h.below.trans (b2.mono h.below.size)
  have hs2 : a2.tmps.size = 32 := hr2.ar.size
  show wpL Tryd.prog (.region 4 ops4 false :: [inn.getD 2 .skip, .block 2 (.loop (roundOf [inn.getD 3 .skip]))]) _ a2 w2
  rw [wpL]
  refine wp_region_list ?_
  rw [ops4_eq]
  refine wpList_plain m4_guard fun K hKc => ?_
  have x1 : (execOp a2.eval (oo ops4 0)).run Tryd.prog w2 = .ok (.value (.map (some w2.heap.size))) (w2.alloc (.map #[] 0)) := by
    unfold execOp
    simp only [m4_op]
    rfl
  unfold Oper.wp
  rw [x1, Oper.upon_value, m4_dst]
  refine hKc _ _ (wpList_plain a4_guard fun K hKc => ?_)
  have e14 : (a2.put (some 14) (.map (some w2.heap.size))).eval (.tmp 14) = .map (some w2.heap.size) := Copy.put_self a2 14 _ (by omega)
  have x2 : (execOp (a2.put (some 14) (.map (some w2.heap.size))).eval (oo ops4 1)).run Tryd.prog (w2.alloc (.map #[] 0)) = .ok (.value (.map (some w2.heap.size))) (w2.alloc (.map #[] 0)) := by
    unfold execOp
    simp only [a4_op, e14, Sem.run_pure]
  unfold Oper.wp
  rw [x2, Oper.upon_value, a4_dst]
  refine hKc _ _ ?_
  have hown := World.ownsMap_made (H := Unit) w2 Tryd.prog 64 (plainElem Tryd.prog 3)
  have hg := World.grownBy_alloc w2 (.map #[] 0) none
  have hal : Below w2.heap.size w2 (w2.alloc (.map #[] 0)) := ⟨hg.os, hg.tape, hg.output, hg.size, fun k hk => hg.block k hk (by simp)⟩
  generalize ha3 : (a2.put (some 14) (.map (some w2.heap.size))).put (some 5) (.map (some w2.heap.size)) = a3
  have hs3 : a3.tmps.size = 32 := by rw [← ha3]; simp [Act.put, hs2]
  have d3 : a3.defers = [] := by rw [← ha3]; exact hr2.ar.defers
  have eo : ∀ t, t ≠ 14 → t ≠ 5 → a3.tmps.getD t undef = a2.tmps.getD t undef := fun t h1 h2 => by rw [← ha3, Copy.put_ne _ _ _ _ (Ne.symm h2), Copy.put_ne _ _ _ _ (Ne.symm h1)]
  have e5 : a3.tmps.getD 5 undef = .map (some w2.heap.size) := by rw [← ha3]; exact Copy.put_self _ 5 _ (by simp [Act.put, hs2])
  generalize hw3 : w2.alloc (.map #[] 0) = w3 at hown hal
  have hb3 : Below w0.heap.size w0 w3 := hb2.trans (hal.mono hb2.size)
  -- the shape's box came in
  have hIx : Inv M (fun _ => ⟨some ⟨m2 0, 0, none⟩, 8, 1, 1, fun _ => shCells ((M a).g i).cl ((M a).g i).p ((M a).g i).x [a, i]⟩) w3 :=
    inv_stable _ _ _ _ ⟨hI2.1, xok_box hI2.2 (fun x => box_row (bx := noBox) (blk := ⟨60, shCells ((M a).g i).cl ((M a).g i).p ((M a).g i).x [a, i]⟩) hr2.mr rfl (simple_sh _ _ _ _ _))⟩ hal
  have hsr : @SR (rowsB M (fun _ => ⟨some ⟨m2 0, 0, none⟩, 8, 1, 1, fun _ => shCells ((M a).g i).cl ((M a).g i).p ((M a).g i).x [a, i]⟩)) w3 32 (fun _ => 0) ((⟨TO M a i ++ [(4, .xp [0, 0, 0] 0 0), (5, .val (.map (some w2.heap.size)))], []⟩ : Cut).st 0) a3 w3 := by
    letI := rowsB M (fun _ => ⟨some ⟨m2 0, 0, none⟩, 8, 1, 1, fun _ => shCells ((M a).g i).cl ((M a).g i).p ((M a).g i).x [a, i]⟩)
    refine epoch hs3 d3 _ _ (fun p hp => ?_) (fun p hp => ?_)
    · simp only [List.mem_append, List.mem_cons, List.not_mem_nil, or_false] at hp
      rcases hp with (rfl | rfl | rfl) | rfl | rfl
      · rw [eo 8 (by decide) (by decide), @AR.tm (rowsB M noBox) _ _ _ _ _ (@SR.ar (rowsB M noBox) _ _ _ _ _ _ hr2) 8 rfl, den_xs]
        exact @den_xs (rowsB M noBox) _ _
      · rw [eo 9 (by decide) (by decide), @AR.tm (rowsB M noBox) _ _ _ _ _ (@SR.ar (rowsB M noBox) _ _ _ _ _ _ hr2) 9 rfl, den_val]
        exact @den_val (rowsB M noBox) _ _
      · rw [eo 10 (by decide) (by decide), @AR.tm (rowsB M noBox) _ _ _ _ _ (@SR.ar (rowsB M noBox) _ _ _ _ _ _ hr2) 10 rfl, den_val]
        exact @den_val (rowsB M noBox) _ _
      · rw [eo 4 (by decide) (by decide), @AR.tm (rowsB M noBox) _ _ _ _ _ (@SR.ar (rowsB M noBox) _ _ _ _ _ _ hr2) 4 rfl, den_xp]
        exact @den_ptr (rowsB M noBox) _ _ _
      · rw [e5, den_val]
    · simp only [List.mem_append, List.mem_cons, List.not_mem_nil, or_false] at hp
      rcases hp with (rfl | rfl | rfl) | rfl | rfl <;> first | exact ok_xs | exact ok_val _ _ | exact ok_xp.2 (show 0 < 1 by decide)
  show wpL Tryd.prog ([inn.getD 2 .skip] ++ [.block 2 (.loop (roundOf [inn.getD 3 .skip]))]) _ a3 w3
  rw [wpL_app]
  refine piece3 (b := w2.heap.size) hIx hsr (fun m4 a4 w4 hr4 => ?_)
  have b4 := @MR.below (rowsB M _) _ _ _ _ (@SR.mr (rowsB M _) _ _ _ _ _ _ hr4)
  have ar4 := @SR.ar (rowsB M _) _ _ _ _ _ _ hr4
  have hT : TSt M a w0 i 0 w2.heap.size a4 w4 := by
    refine ⟨hb3.trans (b4.mono hb3.size), @AR.size (rowsB M _) _ _ _ _ _ ar4, @AR.defers (rowsB M _) _ _ _ _ _ ar4, fun p hp => ?_, hb2.size, .map [], hown.kept (grown_of b4 none) (by simp), Says.nil⟩
    simp only [List.mem_cons, List.not_mem_nil, or_false] at hp
    rcases hp with rfl | rfl | rfl | rfl | rfl | rfl | rfl
    · exact (@AR.tm (rowsB M _) _ _ _ _ _ ar4 8 rfl).trans (Eq.trans (@den_xs (rowsB M _) _ [a]) (@den_xs (rowsB M noBox) (fun _ => 0) [a]).symm)
    · exact (@AR.tm (rowsB M _) _ _ _ _ _ ar4 9 rfl).trans ((@den_val (rowsB M _) _ _).trans (den_val _ _).symm)
    · exact (@AR.tm (rowsB M _) _ _ _ _ _ ar4 10 rfl).trans ((@den_val (rowsB M _) _ _).trans (den_val _ _).symm)
    · exact (@AR.tm (rowsB M _) _ _ _ _ _ ar4 5 rfl).trans ((@den_val (rowsB M _) _ _).trans (den_val _ _).symm)
    · exact (@AR.tm (rowsB M _) _ _ _ _ _ ar4 16 rfl).trans (Eq.trans (@den_xs (rowsB M _) _ [a, i]) (@den_xs (rowsB M noBox) (fun _ => 0) [a, i]).symm)
    · exact (@AR.tm (rowsB M _) _ _ _ _ _ ar4 17 rfl).trans ((@den_val (rowsB M _) _ _).trans (den_val _ _).symm)
    · exact (@AR.tm (rowsB M _) _ _ _ _ _ ar4 18 rfl).trans ((@den_val (rowsB M _) _ _).trans (den_val _ _).symm)
  show wpL Tryd.prog [.block 2 (.loop (roundOf [inn.getD 3 .skip]))] _ a4 w4
  simp only [wpL]
  refine wp_block (wp_loop_rounds (((M a).g i).n + 1) ?_)
  refine loopI (Q := Exit.then (fun x y => Exit.inBlock 1 (Exit.then (wpL Tryd.prog (rd.drop 3) Q) Q) .normal x y) (Exit.inBlock 1 (Exit.then (wpL Tryd.prog (rd.drop 3) Q) Q))) hI hK (hs.2 i) (fun hd a' w' g1 g2 g3 => hdup hd a' w' g1 g2 g3) (fun hd a' w' h' => ?_) (((M a).g i).n + 1) 0 a4 w4 hT (fun t ht => absurd ht (Nat.not_lt_zero _)) (Nat.zero_le _) (by omega)
  show wpL Tryd.prog (rd.drop 3) Q a' w'
  have hI' : Inv M noBox w' := inv_stable _ _ _ _ hI h'.below
  have hO : OSt M a w0 i a' w' := ⟨h'.below, h'.size, h'.defers, fun p hp => h'.tm p (by
    simp only [List.mem_cons, List.not_mem_nil, or_false] at hp ⊢
    rcases hp with h | h | h <;> simp [h])⟩
  have e4 := t4 M noBox a i 0 0
  rw [wr hi (by have := hs.1; omega)] at e4
  refine piece C.mix C.hX C.hs C.hXO C.hG e4 hI' hO.sr (fun v hv => by cases hv) (fun ex d hd8 m8 a8 w8 hr8 => ?_)
  cases hd8
  refine hgo hd a8 w8 ⟨h'.below.trans (hr8.mr.below.mono h'.below.size), hr8.ar.size, hr8.ar.defers, tm_of hr8 (fun p hp => ?_)⟩
  simp only [List.mem_cons, List.not_mem_nil, or_false] at hp
  rcases hp with rfl | rfl | rfl <;> refine ⟨rfl, rfl, ?_⟩ <;> first | exact ok_xs | exact ok_val _ _
set_option maxRecDepth 100000 in
theorem calls (hI : Inv M noBox w0) (hK : KeysOk M) (hs : Small (M a)) : Calls Tryd.prog 87 #[.slice (M a).A (M a).n (M a).c] w0 (fun e w' => e = .returned (.bool (S.twice (M a))) ∧ Below w0.heap.size w0 w') := by
  letI := rowsB M noBox
  have C := ctxB M noBox Bvents5 entsS_nil
  refine calls_of_wp Tryd.func87 (c := Tryd.f87.body.getD .skip) (by kernel_rfl) ?_
  refine wpL_flat _ ?_
  show wpL Tryd.prog tw _ _ _
  rw [tw_eq, wpL_app]
  have hst := start_sound (fn := Tryd.f87) [.xs [a]] (fun x hx => by
    simp only [List.mem_cons, List.not_mem_nil, or_false] at hx
    subst hx
    exact ok_xs) w0 (fun _ => 0)
  have loop : ∀ (k i : Nat) (act : Act) (w : World), OSt M a w0 i act w → (∀ t, t < i → S.dup ((M a).g t) = false) → i ≤ (M a).n → (M a).n - i < k →
      Code.rounds Tryd.prog (roundOf tw) (Exit.inBlock 0 (Exit.then (wpL Tryd.prog (postOf tw) (bodyPost Tryd.prog Tryd.f87 (fun e w' => e = .returned (.bool (S.twice (M a))) ∧ Below w0.heap.size w0 w'))) (bodyPost Tryd.prog Tryd.f87 (fun e w' => e = .returned (.bool (S.twice (M a))) ∧ Below w0.heap.size w0 w')))) k act w := by
    intro k
    induction k with
    | zero => intro i act w h hs h1 h2; omega
    | succ k ih =>
      intro i act w h hd0 h1 h2
      rw [rounds_succ]
      refine wpL_flat _ ?_
      show wpL Tryd.prog rd _ act w
      by_cases hi : i < (M a).n
      · refine roundO hI hK hs h hi (fun hd a' w' g1 g2 g3 => ?_) (fun hd a' w' h' => ih (i + 1) a' w' h' (fun t ht => ?_) (by omega) (by omega))
        · have e : S.twice (M a) = true := S.any_true hi hd
          exact ⟨g1, _, g2, by rw [e], g3⟩
        · by_cases e : t = i
          · rw [e]; exact hd
          · exact hd0 t (by omega)
      · obtain rfl : i = (M a).n := by omega
        have hIw : Inv M noBox w := inv_stable _ _ _ _ hI h.below
        rw [rd_eq, wpL_app]
        have e1 := t1 M noBox a (M a).n 0 0
        rw [dnl] at e1
        refine piece C.mix C.hX C.hs C.hXO C.hG e1 hIw h.sr (fun v hv => by cases hv) (fun ex d hd m1 a1 w1 hr1 => ?_)
        cases hd
        show wpL Tryd.prog (postOf tw) _ a1 w1
        refine piece C.mix C.hX C.hs C.hXO C.hG (t5 M noBox a (M a).n 0 0) hIw hr1 (fun v hv m' a' w' g1 g2 g3 => ?_) (fun ex d hd => by cases hd)
        cases hv
        rw [den_val] at g2
        have e : S.twice (M a) = false := S.any_false hd0
        exact ⟨g1, _, g2, by rw [e], h.below.trans (g3.mono h.below.size)⟩
  refine piece C.mix C.hX C.hs C.hXO C.hG (t0 M noBox a 0 0 0) hI hst (fun v hv => by cases hv) (fun ex d hd m1 a1 w1 hr1 => ?_)
  cases hd
  show wpL Tryd.prog (.block 0 (.loop (roundOf tw)) :: postOf tw) _ a1 w1
  simp only [wpL]
  refine wp_block (wp_loop_rounds ((M a).n + 1) ?_)
  refine loop ((M a).n + 1) 0 a1 w1 ⟨hr1.mr.below, hr1.ar.size, hr1.ar.defers, tm_of hr1 (fun p hp => ?_)⟩ (fun t ht => absurd ht (Nat.not_lt_zero _)) (Nat.zero_le _) (by omega)
  simp only [List.mem_cons, List.not_mem_nil, or_false] at hp
  rcases hp with rfl | rfl | rfl <;> refine ⟨rfl, rfl, ?_⟩ <;> first | exact ok_xs | exact ok_val _ _
end
end Tw
end Go.Proofs.YtaojjpdlfnphiaaDoor.PDescKinds
end
section
/- invariant.Diff, of two moments of one length. -/
set_option linter.unusedSimpArgs false
set_option linter.unusedVariables false
set_option linter.unusedSectionVars false
namespace Go.Proofs.YtaojjpdlfnphiaaDoor.PDescKinds
open Go.RowKit Go.Ev
theorem ent_twice87 (M : Nat → Mo) (bx : Nat → XR) (hK : KeysOk M) (hS : ∀ a, Small (M a)) : Ent M bx (87, noMem (onM fun a => LB (S.twice (M a)))) := by
  letI := rowsB M bx
  refine EntryS.of (fun args t v h1 h2 => ?_) (inv_stable M bx)
  obtain ⟨a, rfl, rfl⟩ := onM_eq h1
  cases h2
  refine ⟨ok_val _ _, fun x hx => by
    simp only [List.mem_cons, List.not_mem_nil, or_false] at hx
    subst hx
    exact ok_xs, fun w m hI => ?_⟩
  have hI0 : Inv M noBox w := ⟨hI.1, xok_box hI.2 (fun _ j hj => absurd hj (Nat.not_lt_zero _))⟩
  have hargs : ([SV.xs [a]].map (SV.den m)).toArray = #[.slice (M a).A (M a).n (M a).c] := by
    simp only [List.map_cons, List.map_nil, den_xs]
    rfl
  rw [hargs]
  refine Calls.mono (Tw.calls hI0 hK (hS a)) fun e w' ⟨he, hb⟩ => ⟨⟨m, ?_⟩, hb⟩
  rw [he, den_val]
namespace S
def diffTo (b a : Mo) (n : Nat) : List Dl := (List.range n).flatMap fun (i : Nat) => between ((i : Int) + 1) (b.g i) (a.g i)
/-- invariant.Diff, of moments of one length. -/
def diff (b a : Mo) : List Dl := diffTo b a a.n
end S
namespace Df
noncomputable def df : List Code := bodyOf Tryd.f50
noncomputable def rd : List Code := flat (roundOf df)
noncomputable def inn : List Code := flat (inB (rd.getD 2 .skip))
noncomputable def o10 : Array Oper := opsOf ((flat (thenOf (inn.getD 2 .skip))).getD 0 .skip)
noncomputable def oo (k : Nat) : Oper := o10.toList.getD k default
abbrev DL (M : Nat → Mo) : GFn := tab2 BvL5 [(87, noMem (onM fun a => LB (S.twice (M a))))]
abbrev TD (M : Nat → Mo) (x y i : Nat) : List (Nat × SV) := [(0, .xs [x]), (1, .xs [y]), (22, .xs [y]), (23, .val (.int .i64 (M y).n)), (24, .val (.int .i64 (i : Int)))]
set_option maxRecDepth 100000 in
theorem d0 (M : Nat → Mo) (bx : Nat → XR) (x y i : Nat) (v : Value) : letI := rowsB M bx
    evK Tryd.prog ext (DL M) 80 75 (seqL (preOf df)) (⟨argS [.xs [x], .xs [y]], fun _ => none, 0⟩) (grab Tryd.prog Tryd.f50 [6, 0, 1, 22, 23, 24] [] 0) =
    bif decide (((M y).n : Int) < ((M x).n : Int)) then some (.ret (.val (.tuple #[.slice none 0 0, .int .i64 7]))) else (bif S.twice (M x) then some (.ret (.val (.tuple #[.slice none 0 0, .int .i64 5]))) else (bif S.twice (M y) then some (.ret (.val (.tuple #[.slice none 0 0, .int .i64 5]))) else some (.cut .normal ⟨(6, .val (.slice none 0 0)) :: TD M x y 0, []⟩))) := by kernel_rfl
set_option maxRecDepth 100000 in
theorem d1 (M : Nat → Mo) (bx : Nat → XR) (x y i : Nat) (v : Value) : letI := rowsB M bx
    evK Tryd.prog ext (DL M) 80 75 (seqL (rd.take 2)) ((⟨(6, .val v) :: TD M x y i, []⟩ : Cut).st 0) (grab Tryd.prog Tryd.f50 [6, 0, 1, 22, 23, 24] [] 0) =
    bif decide ((i : Int) < ((M y).n : Int)) then some (.cut .normal ⟨(6, .val v) :: TD M x y i, []⟩) else some (.cut (.exit 0) ⟨(6, .val v) :: TD M x y i, []⟩) := by kernel_rfl
set_option maxRecDepth 100000 in
theorem d2 (M : Nat → Mo) (bx : Nat → XR) (x y i : Nat) (v : Value) : letI := rowsB M bx
    evK Tryd.prog ext (DL M) 80 75 (seqL (inn.take 2)) ((⟨(6, .val v) :: TD M x y i, []⟩ : Cut).st 0) (grab Tryd.prog Tryd.f50 [6, 0, 1, 22, 23, 24, 7, 8, 32] [0] 1) =
    bif decide (0 ≤ (i : Int)) && decide ((i : Int) < ((M y).n : Int)) then some (.cut .normal ⟨(6, .val v) :: (TD M x y i ++ [(7, .val (.int .i64 (i : Int))), (8, .ptr 0 0), (32, .val (.bool (decide ((i : Int) < ((M x).n : Int)))))]), [(0, ⟨60, shCells ((M y).g i).cl ((M y).g i).p ((M y).g i).x [y, i]⟩)]⟩) else none := by kernel_rfl
set_option maxRecDepth 100000 in
theorem d3 (M : Nat → Mo) (bx : Nat → XR) (x y i : Nat) (v : Value) : letI := rowsB M bx
    evK Tryd.prog ext (DL M) 80 75 (seqL (rd.drop 3)) ((⟨(6, .val v) :: TD M x y i, []⟩ : Cut).st 0) (grab Tryd.prog Tryd.f50 [6, 0, 1, 22, 23, 24] [] 0) =
    some (.cut .normal ⟨(6, .val v) :: [(0, .xs [x]), (1, .xs [y]), (22, .xs [y]), (23, .val (.int .i64 (M y).n)), (24, .val (.int .i64 (IntKind.i64.wrap ((i : Int) + 1))))], []⟩) := by kernel_rfl
set_option maxRecDepth 100000 in
theorem d4 (M : Nat → Mo) (bx : Nat → XR) (x y i : Nat) (v : Value) : letI := rowsB M bx
    evK Tryd.prog ext (DL M) 80 75 (seqL (postOf df)) ((⟨(6, .val v) :: TD M x y i, []⟩ : Cut).st 0) (grab Tryd.prog Tryd.f50 [] [] 0) =
    some (.ret (.val (.tuple #[v, .int .i64 0]))) := by kernel_rfl
theorem df_eq : df = preOf df ++ (.block 0 (.loop (roundOf df)) :: postOf df) := by kernel_rfl
theorem rd_eq : rd = rd.take 2 ++ (.block 1 (inB (rd.getD 2 .skip)) :: rd.drop 3) := by kernel_rfl
theorem inn_eq : inn = inn.take 2 ++ (.cond (.tmp 32) (thenOf (inn.getD 2 .skip)) .skip :: inn.drop 3) := by kernel_rfl
theorem then_eq : flat (thenOf (inn.getD 2 .skip)) = [.region 10 o10 true, .exit 1] := by kernel_rfl
theorem op0 : (oo 0).op = .move (.tmp 6) := by kernel_rfl
theorem dst0 : (oo 0).dst = some 33 := by kernel_rfl
theorem grd0 : (oo 0).guard = none := by kernel_rfl
theorem op1 : (oo 1).op = .move (.tmp 7) := by kernel_rfl
theorem dst1 : (oo 1).dst = some 34 := by kernel_rfl
theorem grd1 : (oo 1).guard = none := by kernel_rfl
theorem op2 : (oo 2).op = .binOp .add 3 (.tmp 34) (.const (.int .i64 1)) 3 := by kernel_rfl
theorem dst2 : (oo 2).dst = some 35 := by kernel_rfl
theorem grd2 : (oo 2).guard = none := by kernel_rfl
theorem op3 : (oo 3).op = .move (.tmp 0) := by kernel_rfl
theorem dst3 : (oo 3).dst = some 36 := by kernel_rfl
theorem grd3 : (oo 3).guard = none := by kernel_rfl
theorem op4 : (oo 4).op = .move (.tmp 7) := by kernel_rfl
theorem dst4 : (oo 4).dst = some 37 := by kernel_rfl
theorem grd4 : (oo 4).guard = none := by kernel_rfl
theorem op5 : (oo 5).op = .indexAddr 51 (.tmp 36) (.tmp 37) := by kernel_rfl
theorem dst5 : (oo 5).dst = some 38 := by kernel_rfl
theorem grd5 : (oo 5).guard = none := by kernel_rfl
theorem op6 : (oo 6).op = .load 60 (.tmp 38) := by kernel_rfl
theorem dst6 : (oo 6).dst = some 39 := by kernel_rfl
theorem grd6 : (oo 6).guard = none := by kernel_rfl
theorem op7 : (oo 7).op = .load 60 (.tmp 8) := by kernel_rfl
theorem dst7 : (oo 7).dst = some 40 := by kernel_rfl
theorem grd7 : (oo 7).guard = none := by kernel_rfl
theorem op8 : (oo 8).op = .call { callee := .value (.func 88), args := #[.tmp 35, .tmp 39, .tmp 40], argTypes := #[3, 60, 60] } := by kernel_rfl
theorem dst8 : (oo 8).dst = some 41 := by kernel_rfl
theorem grd8 : (oo 8).guard = none := by kernel_rfl
theorem op9 : (oo 9).op = .call { callee := .builtin .append, args := #[.tmp 33, .tmp 41], argTypes := #[68, 68] } := by kernel_rfl
theorem dst9 : (oo 9).dst = some 42 := by kernel_rfl
theorem grd9 : (oo 9).guard = none := by kernel_rfl
theorem op10 : (oo 10).op = .assign (.tmp 42) := by kernel_rfl
theorem dst10 : (oo 10).dst = some 6 := by kernel_rfl
theorem grd10 : (oo 10).guard = none := by kernel_rfl
theorem free0 : Region.free .any o10 #[false, false, false, false, false, false, false, false, false, false, false] 0 = true := by kernel_rfl
theorem rdy0 : (Region.ready .any o10 #[false, false, false, false, false, false, false, false, false, false, false]).contains 0 = true := by kernel_rfl
theorem free1 : Region.free .any o10 #[true, false, false, false, false, false, false, false, false, false, false] 1 = true := by kernel_rfl
theorem rdy1 : (Region.ready .any o10 #[true, false, false, false, false, false, false, false, false, false, false]).contains 1 = true := by kernel_rfl
theorem free2 : Region.free .any o10 #[true, true, false, false, false, false, false, false, false, false, false] 2 = true := by kernel_rfl
theorem rdy2 : (Region.ready .any o10 #[true, true, false, false, false, false, false, false, false, false, false]).contains 2 = true := by kernel_rfl
theorem free3 : Region.free .any o10 #[true, true, true, false, false, false, false, false, false, false, false] 3 = true := by kernel_rfl
theorem rdy3 : (Region.ready .any o10 #[true, true, true, false, false, false, false, false, false, false, false]).contains 3 = true := by kernel_rfl
theorem free4 : Region.free .any o10 #[true, true, true, true, false, false, false, false, false, false, false] 4 = true := by kernel_rfl
theorem rdy4 : (Region.ready .any o10 #[true, true, true, true, false, false, false, false, false, false, false]).contains 4 = true := by kernel_rfl
theorem free5 : Region.free .any o10 #[true, true, true, true, true, false, false, false, false, false, false] 5 = true := by kernel_rfl
theorem rdy5 : (Region.ready .any o10 #[true, true, true, true, true, false, false, false, false, false, false]).contains 5 = true := by kernel_rfl
theorem free6 : Region.free .any o10 #[true, true, true, true, true, true, false, false, false, false, false] 6 = true := by kernel_rfl
theorem rdy6 : (Region.ready .any o10 #[true, true, true, true, true, true, false, false, false, false, false]).contains 6 = true := by kernel_rfl
theorem free7 : Region.free .any o10 #[true, true, true, true, true, true, true, false, false, false, false] 7 = true := by kernel_rfl
theorem rdy7 : (Region.ready .any o10 #[true, true, true, true, true, true, true, false, false, false, false]).contains 7 = true := by kernel_rfl
theorem rdy8 : Region.ready .any o10 #[true, true, true, true, true, true, true, true, false, false, false] = [8] := by kernel_rfl
theorem rdy9 : Region.ready .any o10 #[true, true, true, true, true, true, true, true, true, false, false] = [9] := by kernel_rfl
theorem rdy10 : Region.ready .any o10 #[true, true, true, true, true, true, true, true, true, true, false] = [10] := by kernel_rfl
theorem rdy11 : Region.ready .any o10 #[true, true, true, true, true, true, true, true, true, true, true] = [] := by kernel_rfl
theorem nosel : Region.noSelect o10 = true := by kernel_rfl
end Df
end Go.Proofs.YtaojjpdlfnphiaaDoor.PDescKinds
end
end
