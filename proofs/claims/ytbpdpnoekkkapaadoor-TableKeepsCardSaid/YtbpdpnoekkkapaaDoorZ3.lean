/- Parts of the proof, joined (3). -/
import Derived.Laws.BitsAllLaws
import Derived.Lib.DecodeN
import Derived.Lib.Bytes
import Derived.WalkKit
import Derived.ProofKit
import Derived.OpenShut
import Derived.Deep.DeepHandedRow
import Derived.Lib.LaidTab
import Derived.Lib.LaidIn
import Derived.Lib.LaidU8T
import Derived.Laws.AppendOwnNone
import Derived.Maps.OwnOps
import Derived.Maps.Views
import Derived.DeepKeys4
import Derived.Carry
import Derived.OrdersHeld
import Derived.Shelf.RegionOpenPlain
import Derived.Deep.RegionLaw
import Derived.Lib.SliceRun
import Derived.Deep.RegionHeld3
import Derived.Laws.BitsLemmas
import Derived.RowKit
import Derived.MapKept
import Derived.WideKeyRuns
import Derived.DeepKeys3
import Derived.Lib.SlicesS
import Derived.WideKeyMaps2
import Derived.RangeFuncRecord
import Derived.RangeFuncCalls
import Derived.OrdersIn
import Derived.RangeFuncLeaves
import Derived.Lib.Strings
import Derived.Lib.Walk
import Derived.Lib.ConvBytes
import Derived.Lib.Hide
import Derived.Laws.Strings3
import Derived.Laws.Closers25
import Derived.Laws.Closers25b
import Derived.BigCall
import Derived.BigGuard
import Derived.Test.YtbpdpnoekkkapaaDoorZ2
set_option linter.unusedSectionVars false
set_option linter.unusedSimpArgs false
set_option linter.unusedVariables false
section
section
namespace Go.Ev
open Go.RowKit
section
variable [XEnv]
variable {P : Program} {X : ExtFn} {call : CallFn} {I : World → Prop} {N : Nat} {ops : Array Oper} {w0 : World} {Q : Exit → Act → World → Prop}
theorem pickT_mem (t : Nat) : ∀ ts : List (Nat × SV), pickT ts t = SV.unk ∨ (t, pickT ts t) ∈ ts
  | [] => .inl rfl
  | p :: r => by
    simp only [pickT]
    cases h : Nat.beq t p.1 with
    | true =>
      have := Nat.eq_of_beq_eq_true h
      subst this
      exact .inr List.mem_cons_self
    | false =>
      rcases pickT_mem t r with h | h
      · exact .inl h
      · exact .inr (List.mem_cons_of_mem _ h)
theorem epoch {a : Act} {w : World} (hs : a.tmps.size = N) (hd : a.defers = []) (ts : List (Nat × SV)) (m : Nat → Nat) (h : ∀ p ∈ ts, a.tmps.getD p.1 undef = p.2.den m) (hok : ∀ p ∈ ts, p.2.ok fun _ => none) :
    SR w N m ((Cut.mk ts []).st 0) a w := by
  refine ⟨MR.start w m, ⟨hs, hd, fun t ht => ?_, fun t => ?_⟩, fun _ _ => rfl⟩
  · have ht : (pickT ts t).known = true := ht
    show a.tmps.getD t undef = (pickT ts t).den m
    rcases pickT_mem t ts with h1 | h1
    · rw [h1] at ht; cases ht
    · exact h _ h1
  · show (pickT ts t).ok _
    rcases pickT_mem t ts with h1 | h1
    · rw [h1]; exact ok_unk
    · exact hok _ h1
theorem epochB {a : Act} {w w' : World} {next : Nat} (hb : Below w.heap.size w w') (hs : a.tmps.size = N) (hd : a.defers = []) (ts : List (Nat × SV)) (bs : List (Nat × Blk)) (m : Nat → Nat) (h : ∀ p ∈ ts, a.tmps.getD p.1 undef = p.2.den m)
    (hok : ∀ p ∈ ts, p.2.ok (pickM bs)) (hblk : ∀ b k, pickM bs b = some k → w.heap.size ≤ m b ∧ w'.heap[m b]? = some (.cells (k.cells.map (SV.den m)).toArray k.ty (0, 0)) ∧ ∀ c ∈ k.cells, c.ok (pickM bs))
    (hinj : ∀ b b' k k', pickM bs b = some k → pickM bs b' = some k' → m b = m b' → b = b') (hfr : ∀ b, next ≤ b → pickM bs b = none) :
    SR w N m ((Cut.mk ts bs).st next) a w' := by
  refine ⟨⟨hb, hblk, hinj⟩, ⟨hs, hd, fun t ht => ?_, fun t => ?_⟩, hfr⟩
  · have ht : (pickT ts t).known = true := ht
    show a.tmps.getD t undef = (pickT ts t).den m
    rcases pickT_mem t ts with h1 | h1
    · rw [h1] at ht; cases ht
    · exact h _ h1
  · show (pickT ts t).ok _
    rcases pickT_mem t ts with h1 | h1
    · rw [h1]; exact ok_unk
    · exact hok _ h1
end
end Go.Ev
namespace Go.Proofs.YtbpdpnoekkkapaaDoor.PDescKinds
open Go.RowKit Go.Ev
def inB : Code → Code
  | .block _ c => c
  | c => c
def opsOf : Code → Array Oper
  | .region _ ops _ => ops
  | _ => #[]
namespace Copy
end Copy
namespace Copy
end Copy
end Go.Proofs.YtbpdpnoekkkapaaDoor.PDescKinds
end
section
namespace Go.Proofs.YtbpdpnoekkkapaaDoor.PDescKinds
open Go.RowKit Go.Ev
theorem flat_len {f : Nat → List Value} {z : Nat} (hz : ∀ t, (f t).length = z) (n : Nat) : ((List.range n).flatMap f).length = n * z := by
  induction n with
  | zero => simp
  | succ n ih => rw [List.range_succ, List.flatMap_append, List.length_append, ih, Nat.succ_mul]; simp [hz]
theorem flat_in {f : Nat → List Value} {z : Nat} (hz : ∀ t, (f t).length = z) : ∀ (n t k : Nat) (u : Value), t < n → (f t)[k]? = some u → ((List.range n).flatMap f)[t * z + k]? = some u
  | 0, t, k, u, h, _ => absurd h (Nat.not_lt_zero _)
  | n + 1, t, k, u, h, hk => by
    have hkz : k < z := by rw [← hz t]; exact (List.getElem?_eq_some_iff.1 hk).1
    rw [List.range_succ, List.flatMap_append]
    by_cases e : t = n
    · subst e
      rw [List.getElem?_append_right (by rw [flat_len hz]; omega), flat_len hz]
      simpa using hk
    · have hlt : t < n := by omega
      have h1 : t * z + k < n * z := by
        have : (t + 1) * z ≤ n * z := Nat.mul_le_mul_right z hlt
        rw [Nat.add_mul] at this
        omega
      rw [List.getElem?_append_left (by rw [flat_len hz]; exact h1)]
      exact flat_in hz n t k u hlt hk
theorem flat_out {f : Nat → List Value} {z : Nat} (hz : ∀ t, (f t).length = z) : ∀ (n j : Nat) (u : Value), ((List.range n).flatMap f)[j]? = some u → ∃ t k, t < n ∧ j = t * z + k ∧ (f t)[k]? = some u
  | 0, j, u, h => by simp at h
  | n + 1, j, u, h => by
    rw [List.range_succ, List.flatMap_append] at h
    by_cases hj : j < n * z
    · rw [List.getElem?_append_left (by rw [flat_len hz]; exact hj)] at h
      obtain ⟨t, k, h1, h2, h3⟩ := flat_out hz n j u h
      exact ⟨t, k, by omega, h2, h3⟩
    · rw [List.getElem?_append_right (by rw [flat_len hz]; omega), flat_len hz] at h
      refine ⟨n, j - n * z, by omega, by omega, by simpa using h⟩
theorem flat_congr {f g : Nat → List Value} (n : Nat) (h : ∀ j, j < n → f j = g j) : (List.range n).flatMap f = (List.range n).flatMap g := by
  induction n with
  | zero => rfl
  | succ n ih => rw [List.range_succ, List.flatMap_append, List.flatMap_append, ih fun j hj => h j (by omega)]; simp [h n (by omega)]
namespace Copy
theorem put_self (a : Act) (d : Nat) (v : Value) (h : d < a.tmps.size) : (a.put (some d) v).tmps.getD d undef = v := by
  show (a.tmps.setIfInBounds d v).getD d undef = v
  simp [h]
theorem put_ne (a : Act) (d t : Nat) (v : Value) (h : d ≠ t) : (a.put (some d) v).tmps.getD t undef = a.tmps.getD t undef := by
  show (a.tmps.setIfInBounds d v).getD t undef = _
  simp [Array.getElem?_setIfInBounds_ne h]
section
end
end Copy
end Go.Proofs.YtbpdpnoekkkapaaDoor.PDescKinds
end
section
namespace Go.Proofs.YtbpdpnoekkkapaaDoor.PDescKinds
open Go.RowKit Go.Ev
def slA : Value → Option Addr
  | .slice A _ _ => A
  | _ => none
def slC : Value → Nat
  | .slice _ _ c => c
  | _ => 0
theorem own_slice {w : World} {b e z n : Nat} {v : Value} {xs : List Value} (h : w.ownsRow b e z v n xs) : v = .slice (slA v) n (slC v) ∧ (slA v = none → n = 0 ∧ slC v = 0) := by
  rcases h.2 with ⟨rfl, rfl⟩ | ⟨g, cap, cur, rfl, _⟩
  · exact ⟨rfl, fun _ => ⟨rfl, rfl⟩⟩
  · exact ⟨rfl, fun h => by cases h⟩
namespace Brk
end Brk
end Go.Proofs.YtbpdpnoekkkapaaDoor.PDescKinds
end
section
namespace Go.Ev
section
variable [XEnv]
variable {P : Program} {X : ExtFn} {G : GFn} {I : World → Prop} {N : Nat} {fn : Func} {fs : List Fr} {l : List Code} {k : Nat} {ts bs : List Nat} {next : Nat}
end
end Go.Ev
namespace Go.Proofs.YtbpdpnoekkkapaaDoor.PDescKinds
open Go.RowKit Go.Ev
section
end
end Go.Proofs.YtbpdpnoekkkapaaDoor.PDescKinds
end
section
namespace Go.Proofs.YtbpdpnoekkkapaaDoor.PDescKinds
open Go.RowKit Go.Ev
theorem own_base {w : World} {b b' e z n : Nat} {v : Value} {xs : List Value} (h : w.ownsRow b e z v n xs) (hb : b' ≤ b) : w.ownsRow b' e z v n xs := by
  refine ⟨h.1, ?_⟩
  rcases h.2 with h | ⟨g, cap, cur, h1, h2, h3⟩
  · exact .inl h
  · exact .inr ⟨g, cap, cur, h1, Nat.le_trans hb h2, h3⟩
namespace Btw
end Btw
end Go.Proofs.YtbpdpnoekkkapaaDoor.PDescKinds
end
section
namespace Go.Proofs.YtbpdpnoekkkapaaDoor.PDescKinds
open Go.RowKit Go.Ev
theorem put_all (a : Act) (N d : Nat) (v : Value) (hs : a.tmps.size = N) (hd : d < N) : (a.put (some d) v).tmps.size = N ∧ (a.put (some d) v).defers = a.defers ∧ (a.put (some d) v).tmps.getD d undef = v ∧ ∀ t, d ≠ t → (a.put (some d) v).tmps.getD t undef = a.tmps.getD t undef :=
  ⟨by simp [Act.put, hs], rfl, Copy.put_self a d v (by omega), fun t h => Copy.put_ne a d t v h⟩
theorem wpOp_of {P : Program} {ops : Array Oper} {Q : Exit → Act → World → Prop} {i : Nat} {o : Oper} {K : Act → World → Prop} {a : Act} {w : World} (hi : ops[i]? = some o) (hg : o.guard = none) (h : o.wp P a w K Q) : wpOp P ops Q i K a w := by
  unfold Go.wpOp
  simp only [hi, Region.wanted, hg, if_true]
  exact .inl h
namespace Df
end Df
end Go.Proofs.YtbpdpnoekkkapaaDoor.PDescKinds
end
section
namespace Go.Ev
open Go.RowKit Go.Proofs.YtbpdpnoekkkapaaDoor.PDescKinds
variable [XEnv]
def lenV (P : Program) (b : Builtin) (ts : Array TypeId) (args : List SV) : Option SV :=
  match b with
  | .len => match args with
    | [.val (.slice _ n _)] => match ts[0]? with
      | some t => match pureRun P (underlying t) with
        | some (.slice _) => some (.val (.int .i64 n))
        | _ => none
      | none => none
    | _ => none
  | _ => none
def evP (P : Program) (ρ : Operand → SV) (o : Oper) : Option SV :=
  match o.op with
  | .move x => bif (ρ x).known then some (ρ x) else none
  | .assign x => bif (ρ x).known then some (ρ x) else none
  | .load t x => match ρ x with
    | .xp r i off => evLoad P t ⟨t, (XEnv.env r).g i⟩ off
    | _ => none
  | .fieldAddr s x i => match ρ x with
    | .xp r j off => match fieldOff P s i with
      | some d => some (.xp r j (off + d))
      | none => none
    | .val (.pointer (some A)) => match fieldOff P s i with
      | some d => some (.val (.pointer (some (A.add d))))
      | none => none
    | _ => none
  | .nilCheck x => match ρ x with
    | .xp r j off => some (.xp r j off)
    | .val (.pointer (some A)) => some (.val (.pointer (some A)))
    | _ => none
  | .call c => match c.callee with
    | .builtin b => match lenV P b c.argTypes (c.args.toList.map ρ) with
      | some v => some v
      | none => lenOf P b c.argTypes (c.args.toList.map ρ)
    | _ => none
  | .binOp op t x y _ => match ρ x with
    | .val a => match ρ y with
      | .val b => match binV P op t x y a b with
        | some v => some (.val v)
        | none => none
      | _ => none
    | _ => none
  | .indexAddr t x i => match ρ x with
    | .val (.slice (some A) n _) => match ρ i with
      | .val (.int _ j) => match pureRun P (underlying t) with
        | some (.slice elem) => match pureRun P (sizeOf elem) with
          | some size => bif decide (0 ≤ j) && decide (j < n) then some (.val (.pointer (some (A.add (j.toNat * size))))) else none
          | none => none
        | _ => none
      | _ => none
    | _ => idxAddr P t (ρ x) (ρ i)
  | .build _ _ => bif o.op.operands.toList.all (fun x => (ρ x).isVal) && noSelect o.op then
      match pureRun P (execOp (fun x => (ρ x).un) o) with
      | some (.value v) => some (.val v)
      | _ => none
    else none
  | .extract _ _ => bif o.op.operands.toList.all (fun x => (ρ x).isVal) && noSelect o.op then
      match pureRun P (execOp (fun x => (ρ x).un) o) with
      | some (.value v) => some (.val v)
      | _ => none
    else none
  | .unOp _ _ _ => bif o.op.operands.toList.all (fun x => (ρ x).isVal) && noSelect o.op then
      match pureRun P (execOp (fun x => (ρ x).un) o) with
      | some (.value v) => some (.val v)
      | _ => none
    else none
  | _ => none
section
variable {P : Program} {ρ : Operand → SV} {o : Oper} {m : Nat → Nat} {a : Act} {w : World} {v : SV}
theorem evP_run (hX0 : XOk w) (hok : ∀ x, (ρ x).ok fun _ => none) (he : ∀ x, (ρ x).known = true → a.eval x = (ρ x).den m) (h : evP P ρ o = some v) :
    (execOp a.eval o).run P w = .ok (.value (v.den m)) w ∧ v.ok fun _ => none := by
  unfold evP at h
  split at h
  · rename_i x ho
    cases hkn : (ρ x).known with
    | false => rw [hkn] at h; cases h
    | true =>
      rw [hkn] at h
      simp only [cond_true, Option.some.injEq] at h
      subst h
      exact ⟨by unfold execOp; simp only [ho, he x hkn, Sem.run_pure], hok x⟩
  · rename_i x ho
    cases hkn : (ρ x).known with
    | false => rw [hkn] at h; cases h
    | true =>
      rw [hkn] at h
      simp only [cond_true, Option.some.injEq] at h
      subst h
      exact ⟨by unfold execOp; simp only [ho, he x hkn, Sem.run_pure], hok x⟩
  · rename_i t x ho
    split at h
    · rename_i r i off hx
      have hxo : (SV.xp r i off).ok fun _ => none := hx ▸ hok x
      obtain ⟨hl, huok⟩ := xload_sound (P := P) (m := m) (mem := fun _ => none) hX0 (ok_xp.1 hxo) h
      exact ⟨by unfold execOp; simp only [ho, he x (known_of hx rfl), hx, Sem.run_bind, hl, Result.andThen_ok, Sem.run_pure], huok⟩
    · cases h
  · rename_i s x i ho
    split at h
    · rename_i r j off hx
      split at h
      · rename_i d hd
        simp only [Option.some.injEq] at h
        subst h
        have hb : (SV.xp r j off).ok fun _ => none := hx ▸ hok x
        obtain ⟨_, _, ad, hA, _, _⟩ := hX0 r j (ok_xp.1 hb)
        exact ⟨by
          unfold execOp
          simp only [ho, he x (known_of hx rfl), hx, den_xp, hA, Option.map_some, Sem.run_bind, xfield_sound hd, Result.andThen_ok, Sem.run_pure]
          rw [add_add, Nat.add_assoc], ok_xp.2 (ok_xp.1 hb)⟩
      · cases h
    · rename_i A hx
      split at h
      · rename_i d hd
        simp only [Option.some.injEq] at h
        subst h
        exact ⟨by
          unfold execOp
          simp only [ho, he x (known_of hx rfl), hx, den_val, Sem.run_bind, xfield_sound hd, Result.andThen_ok, Sem.run_pure], ok_val _ _⟩
      · cases h
    · cases h
  · rename_i x ho
    split at h
    · rename_i r j off hx
      simp only [Option.some.injEq] at h
      subst h
      have hb : (SV.xp r j off).ok fun _ => none := hx ▸ hok x
      obtain ⟨_, _, ad, hA, _, _⟩ := hX0 r j (ok_xp.1 hb)
      exact ⟨by unfold execOp; simp only [ho, he x (known_of hx rfl), hx, den_xp, hA, Option.map_some, Sem.run_pure], hb⟩
    · rename_i A hx
      simp only [Option.some.injEq] at h
      subst h
      exact ⟨by unfold execOp; simp only [ho, he x (known_of hx rfl), hx, den_val, Sem.run_pure], ok_val _ _⟩
    · cases h
  · rename_i c ho
    split at h
    · rename_i bi hbi
      obtain ⟨cal, ags, ts⟩ := c
      simp only at hbi h
      subst hbi
      split at h
      · rename_i v' hlv
        simp only [Option.some.injEq] at h
        subst h
        unfold lenV at hlv
        split at hlv
        · split at hlv
          · rename_i A n cap hargs
            split at hlv
            case h_2 => cases hlv
            rename_i ty hty
            split at hlv
            case h_2 => cases hlv
            rename_i elem hel
            simp only [Option.some.injEq] at hlv
            subst hlv
            have hmap : ags.map a.eval = #[.slice A n cap] := by
              rw [map_eval (m := m) he (by rw [hargs]; intro x hx; rcases List.mem_singleton.1 hx with rfl; rfl), hargs]
              simp [den_val]
            have : (execOp a.eval o).run P w = .ok (.value (.int .i64 n)) w := by
              unfold execOp
              have h0 : (#[Value.slice A n cap] : Array Value)[0]? = some (.slice A n cap) := rfl
              simp only [ho, resolve, hmap, Sem.run_bind, Sem.run_pure, Result.andThen_ok, invoke, builtin, Builtin.len_, hty, h0, pureRun_run _ hel w]
              rfl
            exact ⟨by rw [den_val]; exact this, ok_val _ _⟩
          · cases hlv
        · cases hlv
      unfold lenOf at h
      split at h
      · split at h
        · rename_i b off n cap hargs
          split at h
          case h_2 => cases h
          split at h
          case h_2 => cases h
          have := args_ok hok (.slc b off n cap) (show SV.slc b off n cap ∈ ags.toList.map ρ by rw [hargs]; simp)
          exact absurd (ok_slc.1 this) (by simp)
        · rename_i r hargs
          split at h
          case h_2 => cases h
          rename_i ty hty
          split at h
          case h_2 => cases h
          rename_i elem hel
          simp only [Option.some.injEq] at h
          subst h
          have hmap : ags.map a.eval = #[.slice (XEnv.env r).A (XEnv.env r).n (XEnv.env r).c] := by
            rw [map_eval (m := m) he (by rw [hargs]; intro x hx; rcases List.mem_singleton.1 hx with rfl; rfl), hargs]
            simp [den_xs]
          have : (execOp a.eval o).run P w = .ok (.value (.int .i64 (XEnv.env r).n)) w := by
            unfold execOp
            have h0 : (#[Value.slice (XEnv.env r).A (XEnv.env r).n (XEnv.env r).c] : Array Value)[0]? = some (.slice (XEnv.env r).A (XEnv.env r).n (XEnv.env r).c) := rfl
            simp only [ho, resolve, hmap, Sem.run_bind, Sem.run_pure, Result.andThen_ok, invoke, builtin, Builtin.len_, hty, h0, pureRun_run _ hel w]
            rfl
          exact ⟨by rw [den_val]; exact this, ok_val _ _⟩
        · cases h
      · cases h
    · cases h
  · rename_i op t x y yt ho
    split at h
    · rename_i p hx
      split at h
      · rename_i q hy
        split at h
        · rename_i u hu
          simp only [Option.some.injEq] at h
          subst h
          have h1 : a.eval x = p := by rw [he x (known_of hx rfl), hx]; exact den_val _ _
          have h2 : a.eval y = q := by rw [he y (known_of hy rfl), hy]; exact den_val _ _
          exact ⟨by unfold execOp; simp only [ho, h1, h2]; rw [Sem.run_bind, binV_run hu w, den_val]; rfl, ok_val _ _⟩
        · cases h
      · cases h
    · cases h
  · rename_i t x i ho
    split at h
    · rename_i A n c hx
      split at h
      · rename_i kk q hi
        split at h
        · rename_i elem hu
          split at h
          · rename_i size hsz
            cases hb : (decide (0 ≤ q) && decide (q < (n : Int))) with
            | false => rw [hb] at h; cases h
            | true =>
              rw [hb] at h
              simp only [cond_true, Option.some.injEq] at h
              subst h
              rw [Bool.and_eq_true, decide_eq_true_eq, decide_eq_true_eq] at hb
              have h1 : a.eval x = .slice (some A) n c := by rw [he x (known_of hx rfl), hx, den_val]
              have h2 : a.eval i = .int kk q := by rw [he i (known_of hi rfl), hi, den_val]
              exact ⟨by
                unfold execOp
                simp only [ho, h1, h2, Instr.indexAt, asIntOf, Sem.run_bind, Sem.run_pure, Result.andThen_ok, pureRun_run _ hu w, if_pos hb, pureRun_run _ hsz w, den_val], ok_val _ _⟩
          · cases h
        · cases h
      · cases h
    · obtain ⟨k1, k2⟩ := idx_known h
      obtain ⟨hl, huok⟩ := idx_sound (P := P) (w := w) (m := m) hX0 h (hok x)
      exact ⟨by unfold execOp; simp only [ho, he x k1, he i k2, Sem.run_bind, hl, Result.andThen_ok, Sem.run_pure], huok⟩
  · rename_i t ps ho
    cases hc : (o.op.operands.toList.all (fun x => (ρ x).isVal) && noSelect o.op) with
    | false => rw [hc] at h; cases h
    | true =>
      rw [hc] at h
      simp only [cond_true] at h
      rw [Bool.and_eq_true] at hc
      have hns : ∀ cs b, o.op ≠ .select cs b := fun cs b hh => by rw [hh] at hc; cases hc.2
      have hev : ∀ x ∈ o.op.operands, a.eval x = (ρ x).un := fun x hx => by
        have := List.all_eq_true.1 hc.1 x (by simpa using hx)
        cases hq : ρ x with
        | val u => rw [he x (known_of hq rfl), hq, den_val]; rfl
        | _ => rw [hq] at this; cases this
      have h2 : execOp (fun x => (ρ x).un) o = execOp a.eval o := execOp_congr o hns fun x hx => (hev x hx).symm
      split at h
      · rename_i u hu
        simp only [Option.some.injEq] at h
        subst h
        rw [h2] at hu
        exact ⟨by rw [den_val]; exact pureRun_run _ hu w, ok_val _ _⟩
      · cases h
  · rename_i _ _ ho
    cases hc : (o.op.operands.toList.all (fun x => (ρ x).isVal) && noSelect o.op) with
    | false => rw [hc] at h; cases h
    | true =>
      rw [hc] at h
      simp only [cond_true] at h
      rw [Bool.and_eq_true] at hc
      have hns : ∀ cs b, o.op ≠ .select cs b := fun cs b hh => by rw [hh] at hc; cases hc.2
      have hev : ∀ x ∈ o.op.operands, a.eval x = (ρ x).un := fun x hx => by
        have := List.all_eq_true.1 hc.1 x (by simpa using hx)
        cases hq : ρ x with
        | val u => rw [he x (known_of hq rfl), hq, den_val]; rfl
        | _ => rw [hq] at this; cases this
      have h2 : execOp (fun x => (ρ x).un) o = execOp a.eval o := execOp_congr o hns fun x hx => (hev x hx).symm
      split at h
      · rename_i u hu
        simp only [Option.some.injEq] at h
        subst h
        rw [h2] at hu
        exact ⟨by rw [den_val]; exact pureRun_run _ hu w, ok_val _ _⟩
      · cases h
  · rename_i _ _ _ ho
    cases hc : (o.op.operands.toList.all (fun x => (ρ x).isVal) && noSelect o.op) with
    | false => rw [hc] at h; cases h
    | true =>
      rw [hc] at h
      simp only [cond_true] at h
      rw [Bool.and_eq_true] at hc
      have hns : ∀ cs b, o.op ≠ .select cs b := fun cs b hh => by rw [hh] at hc; cases hc.2
      have hev : ∀ x ∈ o.op.operands, a.eval x = (ρ x).un := fun x hx => by
        have := List.all_eq_true.1 hc.1 x (by simpa using hx)
        cases hq : ρ x with
        | val u => rw [he x (known_of hq rfl), hq, den_val]; rfl
        | _ => rw [hq] at this; cases this
      have h2 : execOp (fun x => (ρ x).un) o = execOp a.eval o := execOp_congr o hns fun x hx => (hev x hx).symm
      split at h
      · rename_i u hu
        simp only [Option.some.injEq] at h
        subst h
        rw [h2] at hu
        exact ⟨by rw [den_val]; exact pureRun_run _ hu w, ok_val _ _⟩
      · cases h
  · cases h
end
def takes (P : Program) (ops : Array Oper) (N : Nat) : List Nat → (Nat → SV) → Array Bool → Option ((Nat → SV) × Array Bool)
  | [], t, l => some (t, l)
  | i :: r, t, l => match ops[i]? with
    | some o => bif o.guard.isNone && (Region.free .any ops l i && ((Region.ready .any ops l).contains i && dstOk N o.dst)) then
        match evP P (look t) o with
        | some v => takes P ops N r (putS t o.dst v) (l.setIfInBounds i true)
        | none => none
      else none
    | none => none
section
variable {P : Program} {ops : Array Oper} {N : Nat} {m : Nat → Nat} {S : World → Prop} {Q : Act → World → Prop}
abbrev onlyN (Q : Act → World → Prop) : Exit → Act → World → Prop := fun e a w => match e with | .normal => Q a w | _ => False
end
def reads (P : Program) (N : Nat) : List Oper → (Nat → SV) → Option (Nat → SV)
  | [], t => some t
  | o :: r, t => if o.guard.isNone && dstOk N o.dst then
      match evP P (look t) o with
      | some v => reads P N r (putS t o.dst v)
      | none => none
    else none
section
variable {P : Program} {N : Nat} {m : Nat → Nat} {Q : Exit → Act → World → Prop}
theorem reads_sound {os : Array Oper} {rest : List Oper} : ∀ (ops : List Oper) (t t' : Nat → SV) (a : Act) (w : World), XOk w → reads P N ops t = some t' → AR N m t (fun _ => none) a →
    (∀ a', AR N m t' (fun _ => none) a' → wpList P os Q rest a' w) → wpList P os Q (ops ++ rest) a w
  | [], t, t', a, w, _, h, har, k => by
    simp only [reads, Option.some.injEq] at h
    subst h
    exact k a har
  | o :: r, t, t', a, w, hX, h, har, k => by
    unfold reads at h
    cases hc : (o.guard.isNone && dstOk N o.dst) with
    | false => rw [hc] at h; cases h
    | true =>
      rw [hc] at h
      simp only [if_true] at h
      rw [Bool.and_eq_true] at hc
      obtain ⟨hg, hd⟩ := hc
      split at h
      · rename_i v hv
        obtain ⟨hr, hvok⟩ := evP_run (m := m) (w := w) hX (fun x => har.look_ok x) (fun x hk => har.eval x hk) hv
        show wpList P os Q (o :: (r ++ rest)) a w
        refine wpList_plain (by simpa using hg) fun K hK => ?_
        unfold Oper.wp
        rw [hr, Oper.upon_value]
        exact hK _ _ (reads_sound r _ t' _ w hX h (har.put (Agree.refl _ _) (Grows.refl _) hd hvok) k)
      · cases h
end
end Go.Ev
end
section
namespace Go.Proofs.YtbpdpnoekkkapaaDoor.PDescKinds
open Go.RowKit Go.Ev
def splice {α : Type} (l : List α) (o : Nat) (cs : List α) : List α := l.take o ++ cs ++ l.drop (o + cs.length)
theorem splice_len {α : Type} (l : List α) (o : Nat) (cs : List α) (h : o + cs.length ≤ l.length) : (splice l o cs).length = l.length := by
  simp [splice]
  omega
theorem splice_at {α : Type} (l : List α) (o : Nat) (cs : List α) (h : o + cs.length ≤ l.length) (j : Nat) : (splice l o cs)[j]? = if j < o then l[j]? else if j < o + cs.length then cs[j - o]? else l[j]? := by
  unfold splice
  by_cases h1 : j < o
  · rw [if_pos h1, List.append_assoc, List.getElem?_append_left (by rw [List.length_take]; omega), List.getElem?_take, if_pos h1]
  · rw [if_neg h1]
    by_cases h2 : j < o + cs.length
    · rw [if_pos h2, List.getElem?_append_left (by rw [List.length_append, List.length_take]; omega), List.getElem?_append_right (by rw [List.length_take]; omega), List.length_take]
      congr 1
      omega
    · rw [if_neg h2, List.getElem?_append_right (by rw [List.length_append, List.length_take]; omega), List.length_append, List.length_take, List.getElem?_drop]
      congr 1
      omega
theorem splice_take {α : Type} (l : List α) (o : Nat) (cs : List α) (m : Nat) (h : o + cs.length ≤ m) (hm : m ≤ l.length) : (splice l o cs).take m = splice (l.take m) o cs := by
  have hl : (l.take m).length = m := by rw [List.length_take]; omega
  apply List.ext_getElem?
  intro j
  rw [List.getElem?_take, splice_at _ _ _ (by omega), splice_at _ _ _ (by omega), List.getElem?_take]
  by_cases h1 : j < m
  · simp only [if_pos h1]
  · simp only [if_neg h1]
    rw [if_neg (by omega), if_neg (by omega)]
def fput {α : Type} (f : Nat → α) (t : Nat) (x : α) : Nat → α := fun j => if j = t then x else f j
theorem splice_flat {f : Nat → List Value} {z n t o : Nat} {cs : List Value} (hz : ∀ t, (f t).length = z) (ht : t < n) (ho : o + cs.length ≤ z) :
    splice ((List.range n).flatMap f) (t * z + o) cs = (List.range n).flatMap (fput f t (splice (f t) o cs)) := by
  have hz' : ∀ j, (fput f t (splice (f t) o cs) j).length = z := fun j => by
    unfold fput
    split
    · rw [splice_len _ _ _ (by rw [hz]; exact ho), hz]
    · exact hz j
  have hb : (t + 1) * z ≤ n * z := Nat.mul_le_mul_right z ht
  rw [Nat.add_mul, Nat.one_mul] at hb
  have hl : t * z + o + cs.length ≤ ((List.range n).flatMap f).length := by rw [flat_len hz]; omega
  apply List.ext_getElem?
  intro j
  cases hq : ((List.range n).flatMap (fput f t (splice (f t) o cs)))[j]? with
  | none =>
    rw [List.getElem?_eq_none_iff, flat_len hz'] at hq
    rw [List.getElem?_eq_none_iff, splice_len _ _ _ hl, flat_len hz]
    exact hq
  | some u =>
    obtain ⟨q, r, q1, rfl, q3⟩ := flat_out hz' n j u hq
    have hr : r < z := by rw [← hz' q]; exact (List.getElem?_eq_some_iff.1 q3).1
    rw [splice_at _ _ _ hl]
    by_cases e : q = t
    · subst e
      simp only [fput, if_pos] at q3
      rw [splice_at _ _ _ (by rw [hz]; exact ho)] at q3
      by_cases h1 : r < o
      · rw [if_pos h1] at q3
        rw [if_pos (by omega)]
        exact flat_in hz n q r u q1 q3
      · rw [if_neg h1] at q3
        rw [if_neg (by omega)]
        by_cases h2 : r < o + cs.length
        · rw [if_pos h2] at q3
          rw [if_pos (by omega), ← q3]
          congr 1
          omega
        · rw [if_neg h2] at q3
          rw [if_neg (by omega)]
          exact flat_in hz n q r u q1 q3
    · simp only [fput, if_neg e] at q3
      have hin := flat_in hz n q r u q1 q3
      rcases Nat.lt_or_gt_of_ne e with hlt | hgt
      · have : (q + 1) * z ≤ t * z := Nat.mul_le_mul_right z hlt
        rw [Nat.add_mul, Nat.one_mul] at this
        rw [if_pos (by omega)]
        exact hin
      · have : (t + 1) * z ≤ q * z := Nat.mul_le_mul_right z hgt
        rw [Nat.add_mul, Nat.one_mul] at this
        rw [if_neg (by omega), if_neg (by omega)]
        exact hin
theorem own_splice {w : World} {B e z n c g : Nat} {f : Nat → List Value} (h : w.ownsRow B e z (.slice (some ⟨g, 0, none⟩) n c) n ((List.range n).flatMap f)) (hz : ∀ t, (f t).length = z) {P : Program} {ty : TypeId} {t o : Nat} {x : Value} (ht : t < n)
    (hs : pureRun P (sizeOf ty) = some x.cells.size) (ho : o + x.cells.size ≤ z) (h1 : ∀ u ∈ x.cells.toList, u.oneCell' = true) :
    ∃ w', (Instr.storeAt ty (.pointer (some ⟨g, t * z + o, none⟩)) x).run P w = .ok () w' ∧ w'.ownsRow B e z (.slice (some ⟨g, 0, none⟩) n c) n ((List.range n).flatMap (fput f t (splice (f t) o x.cells.toList))) ∧ w.grownBy w' (some g) := by
  letI : XEnv := ⟨fun _ => ⟨none, 0, 0, 0, fun _ => []⟩⟩
  have hlen : x.cells.toList.length = x.cells.size := Array.length_toList
  have hb : (t + 1) * z ≤ n * z := Nat.mul_le_mul_right z ht
  rw [Nat.add_mul, Nat.one_mul] at hb
  rcases h.2 with ⟨e, _⟩ | ⟨g', cap, cur, e, h2, h3, h4, h5, h6, h7⟩
  · cases e
  simp only [Value.slice.injEq, Option.some.injEq, Addr.mk.injEq, and_true, true_and] at e
  obtain ⟨rfl, rfl⟩ := e
  have hcap : n * z ≤ c * z := Nat.mul_le_mul_right z h4
  have hcl : cur.toList.length = c * z := by rw [Array.length_toList]; exact h6
  have hev : evStore P ty ⟨e, cur.toList.map SV.val⟩ (t * z + o) (.val x) = some ⟨e, (splice cur.toList (t * z + o) x.cells.toList).map SV.val⟩ := by
    unfold evStore
    rw [hs]
    have c1 : Nat.beq (SV.val x).cells.length x.cells.size = true := by
      simp only [SV.cells, List.length_map, Array.length_toList]
      exact Nat.beq_refl _
    have c2 : Nat.ble (t * z + o + x.cells.size) (cur.toList.map SV.val).length = true := by
      rw [List.length_map, hcl]
      exact Nat.ble_eq_true_of_le (by omega)
    have c3 : (SV.val x).cells.all SV.one = true := by
      simp only [SV.cells, List.all_map, List.all_eq_true]
      exact fun u hu => h1 u hu
    simp only [c1, c2, c3, Bool.and_self, cond_true]
    simp only [SV.cells]
    unfold splice
    rw [List.map_append, List.map_append, List.map_take, List.map_drop, hlen]
  have hden : ∀ l : List Value, ((l.map SV.val).map (SV.den fun _ => 0)) = l := fun l => by
    rw [List.map_map, show (SV.den (fun _ => 0) ∘ SV.val) = _root_.id from funext fun v => den_val _ v, List.map_id]
  obtain ⟨hr, _, _⟩ := store_sound (P := P) (w := w) (m := fun _ => 0) (mem := fun _ => none) (g := g) (k := ⟨e, cur.toList.map SV.val⟩) hev (by rw [hden]; exact h3) (fun s hs => by
    obtain ⟨u, _, rfl⟩ := List.mem_map.1 hs
    exact ok_val _ _) (ok_val _ _)
  rw [den_val, hden] at hr
  refine ⟨_, hr, ⟨?_, .inr ⟨g, c, _, rfl, h2, setRow_heap _ _ _ _ _ _ h3, h4, h5, ?_, ?_⟩⟩, ⟨rfl, rfl, rfl, by simp [World.setRow], fun k _ hk => setRow_other _ _ _ _ (fun e => hk (by rw [e]))⟩⟩
  · refine flat_len (fun j => ?_) n
    unfold fput
    split
    · rw [splice_len _ _ _ (by rw [hz, hlen]; exact ho), hz]
    · exact hz j
  · show (splice cur.toList (t * z + o) x.cells.toList).toArray.size = _
    rw [List.size_toArray, splice_len _ _ _ (by rw [hlen, hcl]; omega), hcl]
  · rw [← splice_flat hz ht (by rw [hlen]; exact ho), ← h7]
    show (splice cur.toList (t * z + o) x.cells.toList).take (n * z) = _
    exact splice_take _ _ _ _ (by rw [hlen]; omega) (by rw [hcl]; exact hcap)
end Go.Proofs.YtbpdpnoekkkapaaDoor.PDescKinds
end
section
namespace Go.Proofs.YtbpdpnoekkkapaaDoor.PDescKinds
open Go.RowKit Go.Ev
theorem append_fresh {P : Program} (w : World) (base : Nat) (t ty e : TypeId) (i : TypeInfo) (z : Value) (size bytes : Nat) (ht : P.underlying t = some (.slice e)) (hi : P.info? e = some i) (hz : i.zero = some z)
    (hsize : i.size = size) (hby : i.bytes = bytes) (hzs : z.cells.size = size) (hsz : 0 < size) (v : Value) (n : Nat) (xs : List Value) (hown : w.ownsRow base e size v n xs)
    (a : Addr) (m c : Nat) (news : List Value) (hl : news.length = m * size) (hnews : ∀ j u, news[j]? = some u → w.cell? (a.add j) = some u) (h1 : ∀ u ∈ news, u.oneCell' = true)
    (h63 : n + m ≤ maxLen) (hbytes : (n + m) * bytes ≤ 140737488355328) (hbase : base ≤ w.heap.size) :
    ∃ v' w', (Builtin.append_ #[t, t] ty #[v, .slice (some a) m c]).run P w = .ok v' w' ∧ w'.ownsRow base e size v' (n + m) (xs ++ news) ∧ w.grownBy w' v.ownBlock ∧
      (v'.ownBlock = v.ownBlock ∨ ∃ g, v'.ownBlock = some g ∧ w.heap.size ≤ g) := by
  obtain ⟨v', w', hr, h2, h3, h4⟩ := run_append_own w base t ty e i z size bytes ht hi hz hsize hby hzs hsz v n xs hown a m c news hl hnews h1 h63 hbytes hbase
  refine ⟨v', w', hr, h2, h3, ?_⟩
  have hsmall : n + m ≤ 9223372036854775807 := by simp only [maxLen] at h63; omega
  subst hsize hby
  rcases hown.2 with ⟨rfl, rfl⟩ | ⟨g, cap, cur, rfl, hbg, hg, hnc, hcm, hcs, htake⟩
  · by_cases hm : m = 0
    · left; rw [h4.2 ⟨rfl, hm⟩]
    · right
      have := run_append_nil (P := P) w t ty e i z ht hi hz a m c news hl hnews (by omega) (by omega) (by have hb := hbytes; simp only [Nat.zero_add] at hb; omega)
      rw [this] at hr
      cases hr
      exact ⟨_, rfl, Nat.le_refl _⟩
  · by_cases hroom : n + m ≤ cap
    · left
      have hfit : n * i.size + news.length ≤ cur.size := by rw [hl, hcs, ← Nat.add_mul]; exact Nat.mul_le_mul_right _ hroom
      have := run_append_room (P := P) w t ty e i ht hi g n cap cur hg a m c news hl hnews h1 hroom hfit
      rw [this] at hr
      cases hr
      rfl
    · right
      have := run_append_grow (P := P) w t ty e i z ht hi hz ⟨g, 0, none⟩ n cap xs hown.1 (hown.cells (g := g) rfl) a m c news hl hnews (by omega) (by omega) (growslice_fits (by omega) hbytes)
      rw [this] at hr
      cases hr
      exact ⟨_, rfl, Nat.le_refl _⟩
theorem wp_append_fresh {P : Program} {w : World} {o : Oper} {a : Act} {K : Act → World → Prop} {Q : Exit → Act → World → Prop} (s x : Operand) (t : TypeId)
    (ho : o.op = .call { callee := .builtin .append, args := #[s, x], argTypes := #[t, t] })
    (base : Nat) (e : TypeId) (i : TypeInfo) (z : Value) (size bytes : Nat) (ht : P.underlying t = some (.slice e)) (hi : P.info? e = some i) (hz : i.zero = some z)
    (hsize : i.size = size) (hby : i.bytes = bytes) (hzs : z.cells.size = size) (hsz : 0 < size)
    (v : Value) (n : Nat) (xs : List Value) (hs : a.eval s = v) (hown : w.ownsRow base e size v n xs)
    (ad : Addr) (m c : Nat) (news : List Value) (hx : a.eval x = .slice (some ad) m c) (hl : news.length = m * size) (hnews : ∀ j u, news[j]? = some u → w.cell? (ad.add j) = some u) (h1 : ∀ u ∈ news, u.oneCell' = true)
    (h63 : n + m ≤ maxLen) (hbytes : (n + m) * bytes ≤ 140737488355328) (hbase : base ≤ w.heap.size)
    (h : ∀ v' w', w'.ownsRow base e size v' (n + m) (xs ++ news) → w.grownBy w' v.ownBlock → (v'.ownBlock = v.ownBlock ∨ ∃ g, v'.ownBlock = some g ∧ w.heap.size ≤ g) → K (a.put o.dst v') w') : o.wp P a w K Q := by
  obtain ⟨v', w', hr, h2, h3, h4⟩ := append_fresh (P := P) w base t o.type e i z size bytes ht hi hz hsize hby hzs hsz v n xs hown ad m c news hl hnews h1 h63 hbytes hbase
  have hex : (execOp a.eval o).run P w = .ok (.value v') w' := by
    unfold execOp
    simp only [ho, resolve, invoke, builtin, Sem.run_bind, Sem.run_pure, Result.andThen_ok, List.map_toArray, List.map_cons, List.map_nil, hs, hx, hr]
  unfold Oper.wp
  rw [hex, Oper.upon_value]
  exact h v' w' h2 h3 h4
theorem row_slice {w : World} {b e z n : Nat} {A : Option Addr} {c : Nat} {xs : List Value} (h : w.ownsRow b e z (.slice A n c) n xs) : A = none ∧ n = 0 ∧ c = 0 ∨ ∃ g, A = some ⟨g, 0, none⟩ ∧ b ≤ g ∧ g < w.heap.size := by
  rcases h.2 with ⟨e, h0⟩ | ⟨g, cap, cur, e, h1, h2, _⟩
  · cases e
    exact .inl ⟨rfl, rfl, rfl⟩
  · cases e
    exact .inr ⟨g, rfl, h1, (Array.getElem?_eq_some_iff.1 h2).1⟩
theorem own_at {w : World} {b e z n g c : Nat} {f : Nat → List Value} (hz : ∀ t, (f t).length = z) (h : w.ownsRow b e z (.slice (some ⟨g, 0, none⟩) n c) n ((List.range n).flatMap f)) {t : Nat} (ht : t < n) (k : Nat) (u : Value) (hk : (f t)[k]? = some u) : w.cell? ((⟨g, 0, none⟩ : Addr).add (t * z + k)) = some u :=
  h.cells (g := g) rfl _ _ (flat_in hz n t k u ht hk)
section
end
end Go.Proofs.YtbpdpnoekkkapaaDoor.PDescKinds
end
section
namespace Go.Proofs.YtbpdpnoekkkapaaDoor.PDescKinds
open Go.RowKit Go.Lib
open Go.Ev (add_none)
end Go.Proofs.YtbpdpnoekkkapaaDoor.PDescKinds
end
section
namespace Go.Proofs.YtbpdpnoekkkapaaDoor.PDescKinds
open Go.RowKit Go.Ev
namespace R
end R
end Go.Proofs.YtbpdpnoekkkapaaDoor.PDescKinds
end
section
namespace Go.Proofs.YtbpdpnoekkkapaaDoor.PDescKinds
open Go.RowKit Go.Ev
end Go.Proofs.YtbpdpnoekkkapaaDoor.PDescKinds
end
section
namespace Go.Ev
open Go.RowKit Go.Proofs.YtbpdpnoekkkapaaDoor.PDescKinds
section
variable [XEnv] {P : Program} {N : Nat} {m : Nat → Nat} {Q : Exit → Act → World → Prop}
theorem ar_of {a : Act} (w : World) {ts : List (Nat × SV)} (hs : a.tmps.size = N) (hd : a.defers = []) (h : ∀ p ∈ ts, a.tmps.getD p.1 undef = p.2.den m) (hok : ∀ p ∈ ts, p.2.ok fun _ => none) : AR N m (pickT ts) (fun _ => none) a :=
  (epoch (w := w) hs hd ts m h hok).ar
theorem ar_get {a : Act} {t : Nat → SV} {mem : Mem} (h : AR N m t mem a) {i : Nat} {s : SV} (e : t i = s) (hk : s.known = true) : a.tmps.getD i undef = s.den m := by
  rw [← e] at hk ⊢
  exact h.tm i hk
theorem ar_eval {a : Act} {t : Nat → SV} {mem : Mem} (h : AR N m t mem a) {i : Nat} {v : Value} (e : t i = .val v) : a.eval (.tmp i) = v := (ar_get h e rfl).trans (den_val _ _)
theorem wpList_reads {os : Array Oper} {l rest : List Oper} {ns : List Nat} {vs : List SV} {t : Nat → SV} {a : Act} {w : World} (hX : XOk w) (hev : (reads P N l t).map (fun t => ns.map t) = some vs) (har : AR N m t (fun _ => none) a)
    (k : ∀ a' t', AR N m t' (fun _ => none) a' → ns.map t' = vs → wpList P os Q rest a' w) : wpList P os Q (l ++ rest) a w := by
  obtain ⟨t', h1, h2⟩ := Option.map_eq_some_iff.1 hev
  exact reads_sound l _ t' a w hX h1 har fun a' h => k a' t' h h2
theorem store_run {a : Act} {w w' : World} {o : Oper} {t : TypeId} {x y : Operand} {p v : Value} (ho : o.op = .store t x y) (hx : a.eval x = p) (hy : a.eval y = v) (h : (Instr.storeAt t p v).run P w = .ok () w') : (execOp a.eval o).run P w = .ok .skip w' := by
  unfold execOp
  simp only [ho, hx, hy, Sem.run_bind, h, Result.andThen_ok, Sem.run_pure]
theorem wpList_store {os : Array Oper} {o : Oper} {a : Act} {w w' : World} {t : TypeId} {x y : Operand} {p v : Value} (ho : o.op = .store t x y) (hg : o.guard = none) (hd : o.dst = none) (hx : a.eval x = p) (hy : a.eval y = v)
    (h : (Instr.storeAt t p v).run P w = .ok () w') (k : Q .normal a w') : wpList P os Q [o] a w := by
  refine wpList_plain hg fun K hK => ?_
  unfold Oper.wp
  rw [store_run ho hx hy h, Oper.upon_skip, hd]
  exact hK _ _ k
end
end Go.Ev
namespace Go.Proofs.YtbpdpnoekkkapaaDoor.PDescKinds
open Go.RowKit Go.Ev
namespace L
end L
namespace S
end S
end Go.Proofs.YtbpdpnoekkkapaaDoor.PDescKinds
end
section
section
namespace Go.Proofs.YtbpdpnoekkkapaaDoor.PDescKinds
open Go.RowKit Go.Ev
@[instance_reducible] def rowsX (bA : Option Addr) (b : List SV) (sA : Option Addr) (s : List SV) : XEnv := ⟨fun r => match r with
  | [] => ⟨bA, b.length, 1, 1, fun _ => b⟩
  | _ :: _ => ⟨sA, s.length, 1, 1, fun _ => s⟩⟩
@[instance_reducible] def row0 : XEnv := ⟨fun _ => ⟨none, 0, 0, 0, fun _ => []⟩⟩
theorem xok_0 (w : World) : @XOk row0 w := fun r j hj => absurd hj (Nat.not_lt_zero _)
namespace Ap
set_option maxRecDepth 100000
end Ap
end Go.Proofs.YtbpdpnoekkkapaaDoor.PDescKinds
end
section
namespace Go.Proofs.YtbpdpnoekkkapaaDoor.PDescKinds
open Go.RowKit Go.Ev
theorem below_grown {B g : Nat} {w w' : World} (hB : B ≤ w.heap.size) (hg : w.grownBy w' (some g)) (h : B ≤ g) : Below B w w' :=
  ⟨hg.os, hg.tape, hg.output, hg.size, fun k hk => hg.block k (Nat.lt_of_lt_of_le hk hB) (fun e => by
    simp only [Option.some.injEq] at e
    omega)⟩
theorem xrow_val {w : World} {A : Addr} {l : List Value} (hA : A.block < w.heap.size) (h : ∀ k u, l[k]? = some u → w.cell? (A.add k) = some u) (e : XEnv) : @XRow e w ⟨some A, (l.map SV.val).length, 1, 1, fun _ => l.map SV.val⟩ := by
  intro j hj
  have hj : j < 1 := hj
  obtain rfl : j = 0 := by omega
  refine ⟨rfl, fun s hs mem => ?_, A, rfl, hA, fun k s hk m => ?_⟩
  · obtain ⟨u, _, rfl⟩ := List.mem_map.1 hs
    exact ok_val _ _
  · have hk : (l.map SV.val)[k]? = some s := hk
    rw [List.getElem?_map] at hk
    obtain ⟨u, hu, rfl⟩ := Option.map_eq_some_iff.1 hk
    rw [show 0 * (l.map SV.val).length + k = k by omega, den_val]
    exact h k u hu
theorem build1 {o : Oper} {a : Act} {w : World} {N : Nat} {K : Act → World → Prop} {Q : Exit → Act → World → Prop} {t : Nat → SV} {ty : TypeId} {l : List Value} (har : @AR row0 N (fun _ => 0) t (fun _ => none) a)
    (hev : @evOp row0 Tryd.prog ext (fun _ _ _ _ => none) (Ev.look t) (fun _ => none) 0 o = some (.slc 0 0 1 1, .new ⟨ty, l.map SV.val⟩))
    (k : ∀ g w', Below w.heap.size w w' → w.heap.size ≤ g → w'.heap[g]? = some (.cells l.toArray ty (0, 0)) → K (a.put o.dst (.slice (some ⟨g, 0, none⟩) 1 1)) w') : o.wp Tryd.prog a w K Q := by
  letI := row0
  refine op_sound (I := fun _ => True) (w0 := w) ext_sound trivial (fun _ _ _ _ => trivial) (fun w _ => xok_0 w) (fun f args mem id v m' n hc => by cases hc) hev (fun _ => rfl) (fun ⟨m, n, he⟩ => by cases he) (fun x => har.look_ok x) (fun x hk => har.eval x hk) (MR.start w fun _ => 0) fun m' w' h1 h2 h3 h4 h5 => ?_
  obtain ⟨b1, b2, b3⟩ := h2.blk 0 ⟨ty, l.map SV.val⟩ (by simp [Eff.mem, upd])
  rw [den_slc]
  refine k (m' 0) w' h2.below b1 ?_
  rw [b2, List.map_map, show (SV.den m' ∘ SV.val) = _root_.id from funext fun v => den_val _ v, List.map_id]
namespace Ap
section
variable {v0 A3 A6 : Value} {i what : Int} {a : Act} {w : World} {Q : Exit → Act → World → Prop}
end
end Ap
end Go.Proofs.YtbpdpnoekkkapaaDoor.PDescKinds
end
section
namespace Go.Proofs.YtbpdpnoekkkapaaDoor.PDescKinds
open Go.RowKit Go.Ev
namespace Ap
section
end
end Ap
end Go.Proofs.YtbpdpnoekkkapaaDoor.PDescKinds
end
section
namespace Go.Ev
open Go.RowKit Go.Proofs.YtbpdpnoekkkapaaDoor.PDescKinds
section
variable [XEnv] {P : Program} {N : Nat} {m : Nat → Nat}
end
end Go.Ev
namespace Go.Proofs.YtbpdpnoekkkapaaDoor.PDescKinds
open Go.RowKit Go.Ev
namespace Ap
section
end
end Ap
end Go.Proofs.YtbpdpnoekkkapaaDoor.PDescKinds
end
section
namespace Go.Proofs.YtbpdpnoekkkapaaDoor.PDescKinds
open Go.RowKit Go.Ev
namespace Ap
theorem ctx0 : @Ctx row0 Tryd.prog ext (tab []) (fun _ => True) := by
  letI := row0
  exact ⟨mixed, ext_sound, fun _ _ _ _ => trivial, fun w _ => xok_0 w, tab_sound entries_nil⟩
section
end
end Ap
end Go.Proofs.YtbpdpnoekkkapaaDoor.PDescKinds
end
section
namespace Go.Proofs.YtbpdpnoekkkapaaDoor.PDescKinds
open Go.RowKit Go.Ev
namespace Ap
section
end
end Ap
end Go.Proofs.YtbpdpnoekkkapaaDoor.PDescKinds
end
section
namespace Go.Proofs.YtbpdpnoekkkapaaDoor.PDescKinds
open Go.RowKit Go.Ev
namespace Ap
section
end
end Ap
end Go.Proofs.YtbpdpnoekkkapaaDoor.PDescKinds
end
section
namespace Go.Proofs.YtbpdpnoekkkapaaDoor.PDescKinds
open Go.RowKit Go.Ev
namespace Clone
end Clone
end Go.Proofs.YtbpdpnoekkkapaaDoor.PDescKinds
end
section
namespace Go.Proofs.YtbpdpnoekkkapaaDoor.PDescKinds
open Go.RowKit Go.Ev
namespace Pa
set_option maxRecDepth 100000
end Pa
end Go.Proofs.YtbpdpnoekkkapaaDoor.PDescKinds
end
section
namespace Go.Ev
open Go.RowKit Go.Proofs.YtbpdpnoekkkapaaDoor.PDescKinds
def offD (l : List Oper) (t : Nat) : Bool := l.all fun o => match o.dst with
  | some d => !(Nat.beq d t)
  | none => true
def offDs (l : List Oper) (ts : List Nat) : Bool := ts.all (offD l)
section
variable [XEnv] {P : Program} {N : Nat} {m : Nat → Nat} {Q : Exit → Act → World → Prop}
theorem put_off {a : Act} {d : Option Nat} {v : Value} {t : Nat} (h : (match d with | some d => !(Nat.beq d t) | none => true) = true) : (a.put d v).tmps.getD t undef = a.tmps.getD t undef := by
  cases d with
  | none => rfl
  | some d =>
    refine Copy.put_ne a d t v fun e => ?_
    subst e
    simp only [Nat.beq_refl, Bool.not_true] at h
    cases h
theorem reads_off {os : Array Oper} {rest : List Oper} : ∀ (ops : List Oper) (t t' : Nat → SV) (a : Act) (w : World), XOk w → reads P N ops t = some t' → AR N m t (fun _ => none) a →
    (∀ a', AR N m t' (fun _ => none) a' → (∀ i, offD ops i = true → a'.tmps.getD i undef = a.tmps.getD i undef) → wpList P os Q rest a' w) → wpList P os Q (ops ++ rest) a w
  | [], t, t', a, w, _, h, har, k => by
    simp only [reads, Option.some.injEq] at h
    subst h
    exact k a har fun _ _ => rfl
  | o :: r, t, t', a, w, hX, h, har, k => by
    unfold reads at h
    cases hc : (o.guard.isNone && dstOk N o.dst) with
    | false => rw [hc] at h; cases h
    | true =>
      rw [hc] at h
      simp only [if_true] at h
      rw [Bool.and_eq_true] at hc
      obtain ⟨hg, hd⟩ := hc
      split at h
      · rename_i v hv
        obtain ⟨hr, hvok⟩ := evP_run (m := m) (w := w) hX (fun x => har.look_ok x) (fun x hk => har.eval x hk) hv
        show wpList P os Q (o :: (r ++ rest)) a w
        refine wpList_plain (by simpa using hg) fun K hK => ?_
        unfold Oper.wp
        rw [hr, Oper.upon_value]
        refine hK _ _ (reads_off r _ t' _ w hX h (har.put (Agree.refl _ _) (Grows.refl _) hd hvok) fun a' h1 h2 => k a' h1 fun i hi => ?_)
        simp only [offD, List.all_cons, Bool.and_eq_true] at hi
        exact (h2 i hi.2).trans (put_off hi.1)
      · cases h
theorem wpList_readsF {os : Array Oper} {l rest : List Oper} {ns : List Nat} {vs : List SV} {t : Nat → SV} {a : Act} {w : World} (keep : List Nat) (hX : XOk w) (hev : (reads P N l t).map (fun t => ns.map t) = some vs) (hk : offDs l keep = true) (har : AR N m t (fun _ => none) a)
    (k : ∀ a' t', AR N m t' (fun _ => none) a' → ns.map t' = vs → (∀ i ∈ keep, a'.tmps.getD i undef = a.tmps.getD i undef) → wpList P os Q rest a' w) : wpList P os Q (l ++ rest) a w := by
  obtain ⟨t', h1, h2⟩ := Option.map_eq_some_iff.1 hev
  exact reads_off l _ t' a w hX h1 har fun a' h h' => k a' t' h h2 fun i hi => h' i (List.all_eq_true.1 hk i hi)
end
end Go.Ev
namespace Go.Proofs.YtbpdpnoekkkapaaDoor.PDescKinds
open Go.RowKit Go.Ev
namespace Pa
section
end
end Pa
end Go.Proofs.YtbpdpnoekkkapaaDoor.PDescKinds
end
section
namespace Go.Proofs.YtbpdpnoekkkapaaDoor.PDescKinds
open Go.RowKit Go.Ev
namespace Pa
section
end
end Pa
end Go.Proofs.YtbpdpnoekkkapaaDoor.PDescKinds
end
section
namespace Go.Proofs.YtbpdpnoekkkapaaDoor.PDescKinds
open Go.RowKit Go.Ev
namespace L
end L
namespace Pa
section
end
end Pa
end Go.Proofs.YtbpdpnoekkkapaaDoor.PDescKinds
end
section
namespace Go.Proofs.YtbpdpnoekkkapaaDoor.PDescKinds
open Go.RowKit Go.Ev
namespace Pa
section
end
end Pa
end Go.Proofs.YtbpdpnoekkkapaaDoor.PDescKinds
end
section
namespace Go.Proofs.YtbpdpnoekkkapaaDoor.PDescKinds
open Go.RowKit Go.Ev
namespace L
end L
section
end
end Go.Proofs.YtbpdpnoekkkapaaDoor.PDescKinds
end
section
namespace Go.Proofs.YtbpdpnoekkkapaaDoor.PDescKinds
open Go.RowKit Go.Ev
namespace L
end L
section
end
end Go.Proofs.YtbpdpnoekkkapaaDoor.PDescKinds
end
section
namespace Go.Proofs.YtbpdpnoekkkapaaDoor.PDescKinds
open Go.RowKit Go.Ev
namespace Bk
set_option maxRecDepth 100000
section
end
end Bk
end Go.Proofs.YtbpdpnoekkkapaaDoor.PDescKinds
end
end
section
namespace Go.Proofs.YtbpdpnoekkkapaaDoor.PDescKinds
open Go.RowKit Go.Ev
end Go.Proofs.YtbpdpnoekkkapaaDoor.PDescKinds
end
section
namespace Go.Proofs.YtbpdpnoekkkapaaDoor.PDescKinds
open Go.RowKit Go.Ev
namespace RP
section
end
end RP
end Go.Proofs.YtbpdpnoekkkapaaDoor.PDescKinds
end
section
namespace Go.Proofs.YtbpdpnoekkkapaaDoorV.PrintLast
section
variable {P : Program} {ops : Array Oper} {Q : Exit → Act → World → Prop} {md : Region.Mode} {S : World → Prop} {ds : List Nat}
def Region.reachB (md : Region.Mode) (ops : Array Oper) (i : Nat) : Nat → Nat → Bool
  | 0, _ => false
  | fuel + 1, d => match ops[d]? with
    | some o => o.after.any fun e => Region.binds md e && (e.on == i || Region.reachB md ops i fuel e.on)
    | none => false
def Region.closedB (md : Region.Mode) (ops : Array Oper) (listed : Array Bool) : Bool :=
  (List.range ops.size).all fun j => !listed.getD j false || match ops[j]? with
    | some o => o.after.all fun e => !Region.binds md e || listed.getD e.on false
    | none => true
def Region.lastB (md : Region.Mode) (ops : Array Oper) (listed : Array Bool) (ds : List Nat) (i : Nat) : Bool :=
  ds.all fun d => listed.getD d true || Region.reachB md ops i ops.size d
def ListedClosed (md : Region.Mode) (ops : Array Oper) (listed : Array Bool) : Prop :=
  ∀ j oj, ops[j]? = some oj → listed.getD j false = true → ∀ e ∈ oj.after, Region.binds md e = true → listed.getD e.on false = true
theorem Region.closedB_spec {listed : Array Bool} (h : Region.closedB md ops listed = true) : ListedClosed md ops listed := by
  intro j oj hj hl e he hb
  have hlt : j < ops.size := (Array.getElem?_eq_some_iff.1 hj).1
  have h1 := List.all_eq_true.1 h j (List.mem_range.2 hlt)
  simp only [hl, hj, Bool.not_true, Bool.false_or] at h1
  have h2 := Array.all_eq_true_iff_forall_mem.1 h1 e he
  simpa [hb] using h2
theorem ListedClosed.set {listed : Array Bool} {i : Nat} (h : ListedClosed md ops listed) (hi : i ∈ Region.ready md ops listed) : ListedClosed md ops (listed.setIfInBounds i true) := by
  obtain ⟨_, oi, hoi, hall⟩ := mem_ready.1 hi
  intro j oj hj hl e he hb
  by_cases hij : i = j
  · subst hij
    have : oj = oi := Option.some.inj (hj.symm.trans hoi)
    subst this
    exact getD_set_true (hall e he hb)
  · rw [getD_set_ne false hij] at hl
    exact getD_set_true (h j oj hj hl e he hb)
theorem Region.reach_listed {listed : Array Bool} {i : Nat} (hc : ListedClosed md ops listed) : ∀ (fuel d : Nat), Region.reachB md ops i fuel d = true → listed.getD d false = true → listed.getD i false = true
  | 0, _, h, _ => by simp [Region.reachB] at h
  | fuel + 1, d, h, hl => by
    unfold Region.reachB at h
    cases ho : ops[d]? with
    | none => rw [ho] at h; simp at h
    | some o =>
      rw [ho] at h
      obtain ⟨e, he, h1⟩ := Array.any_eq_true'.1 h
      simp only [Bool.and_eq_true, Bool.or_eq_true, beq_iff_eq] at h1
      have hle := hc d o ho hl e he h1.1
      rcases h1.2 with h2 | h2
      · rw [← h2]; exact hle
      · exact Region.reach_listed hc fuel e.on h2 hle
theorem Region.reach_not_ready {listed : Array Bool} {i d fuel : Nat} (hc : ListedClosed md ops listed) (hr : Region.reachB md ops i fuel d = true) (hun : listed.getD i true = false) : d ∉ Region.ready md ops listed := by
  intro hd
  obtain ⟨_, o, ho, hall⟩ := mem_ready.1 hd
  have hi : listed.getD i false = true := by
    cases fuel with
    | zero => simp [Region.reachB] at hr
    | succ n =>
      unfold Region.reachB at hr
      rw [ho] at hr
      obtain ⟨e, he, h1⟩ := Array.any_eq_true'.1 hr
      simp only [Bool.and_eq_true, Bool.or_eq_true, beq_iff_eq] at h1
      have hle := hall e he h1.1
      rcases h1.2 with h2 | h2
      · rw [← h2]; exact hle
      · exact Region.reach_listed hc n e.on h2 hle
  rcases Nat.lt_or_ge i listed.size with h' | h'
  · simp [h'] at hun hi
    rw [hun] at hi
    cases hi
  · simp [Array.getElem?_eq_none h'] at hun
def wpAnyLast (P : Program) (md : Region.Mode) (ops : Array Oper) (Q : Exit → Act → World → Prop) (S : World → Prop) (ds : List Nat) : Nat → Array Bool → Act → World → Prop
  | 0, listed, a, w => Region.ready md ops listed = [] ∧ Q .normal a w
  | fuel + 1, listed, a, w =>
    (Region.ready md ops listed = [] → Q .normal a w) ∧
    ∀ i ∈ Region.ready md ops listed, wpOp P ops Q i (fun a' w' => (i ∉ ds → S w → S w') ∧ wpAnyLast P md ops Q S ds fuel (listed.setIfInBounds i true) a' w') a w
theorem wpAny_of_last : ∀ (fuel : Nat) (listed : Array Bool) (a : Act) (w : World), wpAnyLast P md ops Q S ds fuel listed a w → wpAny P md ops Q fuel listed a w
  | 0, _, _, _, h => h
  | fuel + 1, _, _, _, h => ⟨h.1, fun i hi => wpOp_mono (fun a' w' h' => wpAny_of_last fuel _ a' w' h'.2) (h.2 i hi)⟩
theorem wpAnyLast_first {i : Nat} {oi : Oper} {v : Value} (hi : ops[i]? = some oi) (hsel : ∀ (j : Nat) (o : Oper) cs b, ops[j]? = some o → o.op ≠ .select cs b)
    (hQ : ∀ c a w, Q (.panic c) (a.put oi.dst v) w → Q (.panic c) a w) (n : Nat) :
    ∀ (fuel : Nat) (listed : Array Bool) (a : Act) (w : World),
      (∀ j oj, ops[j]? = some oj → j ≠ i → listed.getD j true = false → (∀ e ∈ oj.after, Region.binds md e = true → e.on ≠ i) → oi.apart ops oj = true) →
      ListedClosed md ops listed → (∀ d ∈ ds, listed.getD d true = false → Region.reachB md ops i n d = true) →
      i ∈ Region.ready md ops listed → YieldsIf P ops S oi v a → S w →
      wpAnyLast P md ops Q S ds fuel (listed.setIfInBounds i true) (a.put oi.dst v) w → wpAnyLast P md ops Q S ds (fuel + 1) listed a w := by
  intro fuel
  induction fuel with
  | zero =>
    intro listed a w _ _ _ hr hy hS H
    refine ⟨fun h => (by rw [h] at hr; cases hr), fun j hj => ?_⟩
    by_cases hji : j = i
    · subst hji; exact hy.wpOp hi hS ⟨fun _ h => h, H⟩
    · have := ready_mono hj hji
      rw [H.1] at this
      cases this
  | succ fuel ih =>
    intro listed a w hfree hc hd hr hy hS H
    refine ⟨fun h => (by rw [h] at hr; cases hr), fun j hj => ?_⟩
    by_cases hji : j = i
    · subst hji; exact hy.wpOp hi hS ⟨fun _ h => h, H⟩
    · have h1 := H.2 j (ready_mono hj hji)
      obtain ⟨hjun, oj, hoj, hall⟩ := mem_ready.1 hj
      have hiun := (mem_ready.1 hr).1
      have hnot : ∀ e ∈ oj.after, Region.binds md e = true → e.on ≠ i := fun e he hb heq => by
        have h1 := hall e he hb
        rw [heq] at h1
        rcases Nat.lt_or_ge i listed.size with h' | h'
        · simp [h'] at hiun h1; rw [hiun] at h1; cases h1
        · simp [Array.getElem?_eq_none h'] at h1
      have hjd : j ∉ ds := fun hm => Region.reach_not_ready hc (hd j hm hjun) hiun hj
      have h2 := wpOp_putIf hoj (hfree j oj hoj hji hjun hnot) (fun cs b => hsel i oi cs b hi) (fun cs b => hsel j oj cs b hoj) hQ hy h1
      have hfree' : ∀ k ok, ops[k]? = some ok → k ≠ i → (listed.setIfInBounds j true).getD k true = false →
          (∀ e ∈ ok.after, Region.binds md e = true → e.on ≠ i) → oi.apart ops ok = true := fun k ok hk hki hun hno => by
        refine hfree k ok hk hki ?_ hno
        by_cases hjk : j = k
        · subst hjk; exact hjun
        · rw [getD_set_ne true hjk] at hun; exact hun
      have hd' : ∀ d ∈ ds, (listed.setIfInBounds j true).getD d true = false → Region.reachB md ops i n d = true := fun d hm hun => by
        refine hd d hm ?_
        by_cases hjk : j = d
        · subst hjk; exact hjun
        · rw [getD_set_ne true hjk] at hun; exact hun
      refine wpOp_mono (fun a' w' h3 => ⟨h3.2.1, ih (listed.setIfInBounds j true) a' w' hfree' (hc.set hj) hd' (ready_mono hr (Ne.symm hji)) h3.1 (h3.2.1 hjd hS) ?_⟩) h2
      rw [Array.setIfInBounds_comm _ _ hji]
      exact h3.2.2
theorem wpAnyLast_take {i : Nat} {oi : Oper} {v : Value} {fuel : Nat} {listed : Array Bool} {a : Act} {w : World} (hi : ops[i]? = some oi)
    (hs : Region.noSelect ops = true) (hf : Region.free md ops listed i = true) (hr : (Region.ready md ops listed).contains i = true)
    (hc : Region.closedB md ops listed = true) (hl : Region.lastB md ops listed ds i = true)
    (hQ : ∀ c a w, Q (.panic c) (a.put oi.dst v) w → Q (.panic c) a w) (hy : YieldsIf P ops S oi v a) (hS : S w)
    (h : wpAnyLast P md ops Q S ds fuel (listed.setIfInBounds i true) (a.put oi.dst v) w) : wpAnyLast P md ops Q S ds (fuel + 1) listed a w :=
  wpAnyLast_first hi (Region.noSelect_spec hs) hQ ops.size fuel listed a w (Region.free_spec hi hf) (Region.closedB_spec hc)
    (fun d hm hun => by have := List.all_eq_true.1 hl d hm; rw [hun] at this; simpa using this) (by simpa using hr) hy hS h
theorem wp_region_last {id : Nat} {a : Act} {w : World} (hm : P.follows .mixedOrders = true)
    (h : wpAnyLast P .any ops Q S ds ops.size (Array.replicate ops.size false) a { w with drawn := w.drawn + 1 }) : (Code.region id ops true).wp P Q a w :=
  wp_region_any hm (wpAny_of_last _ _ _ _ h)
end
section
variable {P : Program} {ops : Array Oper} {Q : Exit → Act → World → Prop} {md : Region.Mode} {S : World → Prop} {ds : List Nat}
end
end Go.Proofs.YtbpdpnoekkkapaaDoorV.PrintLast
end
section
namespace Go.Ev
open Go.RowKit Go.Proofs.YtbpdpnoekkkapaaDoorV.PrintLast Go.Proofs.YtbpdpnoekkkapaaDoor.PDescKinds
section
variable [XEnv] {P : Program} {ops : Array Oper} {N : Nat} {m : Nat → Nat} {S : World → Prop} {Q : Act → World → Prop} {ds : List Nat}
def takesL (P : Program) (ops : Array Oper) (ds : List Nat) (N : Nat) : List Nat → (Nat → SV) → Array Bool → Option ((Nat → SV) × Array Bool)
  | [], t, l => some (t, l)
  | i :: r, t, l => match ops[i]? with
    | some o => bif o.guard.isNone && ((Region.free .any ops l i && (Region.ready .any ops l).contains i) && ((Go.Proofs.YtbpdpnoekkkapaaDoorV.PrintLast.Region.closedB .any ops l && Go.Proofs.YtbpdpnoekkkapaaDoorV.PrintLast.Region.lastB .any ops l ds i) && dstOk N o.dst)) then
        match evP P (look t) o with
        | some v => takesL P ops ds N r (putS t o.dst v) (l.setIfInBounds i true)
        | none => none
      else none
    | none => none
theorem takesL_sound (hS : ∀ w, S w → XOk w) (hns : Region.noSelect ops = true) : ∀ (is : List Nat) (t t' : Nat → SV) (l l' : Array Bool) (fuel : Nat) (a : Act) (w : World), takesL P ops ds N is t l = some (t', l') → AR N m t (fun _ => none) a → S w →
    (∀ a', AR N m t' (fun _ => none) a' → wpAnyLast P .any ops (onlyN Q) S ds fuel l' a' w) → wpAnyLast P .any ops (onlyN Q) S ds (is.length + fuel) l a w
  | [], t, t', l, l', fuel, a, w, h, har, hSw, k => by
    simp only [takesL, Option.some.injEq, Prod.mk.injEq] at h
    obtain ⟨rfl, rfl⟩ := h
    simpa using k a har
  | i :: r, t, t', l, l', fuel, a, w, h, har, hSw, k => by
    unfold takesL at h
    split at h
    · rename_i o ho
      cases hc : (o.guard.isNone && ((Region.free .any ops l i && (Region.ready .any ops l).contains i) && ((Go.Proofs.YtbpdpnoekkkapaaDoorV.PrintLast.Region.closedB .any ops l && Go.Proofs.YtbpdpnoekkkapaaDoorV.PrintLast.Region.lastB .any ops l ds i) && dstOk N o.dst))) with
      | false => rw [hc] at h; cases h
      | true =>
        rw [hc] at h
        simp only [cond_true] at h
        simp only [Bool.and_eq_true] at hc
        obtain ⟨hg, ⟨hf, hr⟩, ⟨hcl, hla⟩, hd⟩ := hc
        split at h
        · rename_i v hv
          have hgn : o.guard = none := by simpa using hg
          have hy : YieldsIf P ops S o (v.den m) a := .inl ⟨by simp [Region.wanted, hgn], fun w' hw' => (evP_run (m := m) (hS w' hw') (fun x => har.look_ok x) (fun x hk => har.eval x hk) hv).1⟩
          have hvok := (evP_run (m := m) (hS w hSw) (fun x => har.look_ok x) (fun x hk => har.eval x hk) hv).2
          rw [show (i :: r).length + fuel = (r.length + fuel) + 1 by simp only [List.length_cons]; omega]
          refine wpAnyLast_take ho hns hf hr hcl hla (fun c a w h => h.elim) hy hSw ?_
          exact takesL_sound hS hns r _ t' _ l' fuel _ w h (har.put (Agree.refl _ _) (Grows.refl _) hd hvok) hSw k
        · cases h
    · cases h
theorem takesL_cut (hS : ∀ w, S w → XOk w) (hns : Region.noSelect ops = true) {is : List Nat} {t : Nat → SV} {l l' : Array Bool} {ns : List Nat} {vs : List SV} {fuel : Nat} {a : Act} {w : World}
    (h : (takesL P ops ds N is t l).map (fun p => (ns.map p.1, p.2)) = some (vs, l')) (har : AR N m t (fun _ => none) a) (hw : S w)
    (k : ∀ a' t', AR N m t' (fun _ => none) a' → ns.map t' = vs → wpAnyLast P .any ops (onlyN Q) S ds fuel l' a' w) : wpAnyLast P .any ops (onlyN Q) S ds (is.length + fuel) l a w := by
  obtain ⟨⟨t', l2⟩, h1, h2⟩ := Option.map_eq_some_iff.1 h
  simp only [Prod.mk.injEq] at h2
  obtain ⟨h2, rfl⟩ := h2
  exact takesL_sound hS hns is t t' l l2 fuel a w h1 har hw fun a' har' => k a' t' har' h2
end
end Go.Ev
namespace Go.Proofs.YtbpdpnoekkkapaaDoor.PDescKinds
open Go.RowKit Go.Ev Go.Proofs.YtbpdpnoekkkapaaDoorV.PrintLast
theorem region_last {id : Nat} {ops : Array Oper} {Q : Exit → Act → World → Prop} (S : World → Prop) (ds : List Nat) {a : Act} {w : World}
    (h : wpAnyLast Tryd.prog .any ops (onlyN fun a w => Q .normal a w) S ds ops.size (Array.replicate ops.size false) a { w with drawn := w.drawn + 1 }) : (Code.region id ops true).wp Tryd.prog Q a w :=
  wp_mono (wp_region_last mixed h) fun e a w h => by cases e <;> first | exact h | exact h.elim
structure Kp (N : Nat) (ts : List (Nat × Value)) (a : Act) : Prop where
  size : a.tmps.size = N
  defers : a.defers = []
  vals : ∀ p ∈ ts, a.tmps.getD p.1 undef = p.2
section
variable {N : Nat} {ts us : List (Nat × Value)} {a : Act} {w w1 : World} {Q : Exit → Act → World → Prop}
theorem Kp.put (h : Kp N ts a) {d : Nat} {v : Value} (hd : (decide (d < N) && ts.all fun p => d != p.1) = true) : Kp N ((d, v) :: ts) (a.put (some d) v) := by
  simp only [Bool.and_eq_true, decide_eq_true_eq, List.all_eq_true, bne_iff_ne] at hd
  obtain ⟨h1, h2, h3, h4⟩ := put_all a N d v h.size hd.1
  refine ⟨h1, h2.trans h.defers, fun p hp => ?_⟩
  rcases List.mem_cons.1 hp with rfl | hp
  · exact h3
  · exact (h4 p.1 (hd.2 p hp)).trans (h.vals p hp)
theorem Kp.get (h : Kp N ts a) {d : Nat} {v : Value} (hm : (d, v) ∈ ts) : a.eval (.tmp d) = v := h.vals _ hm
theorem Kp.sub (h : Kp N ts a) (hs : ∀ p ∈ us, p ∈ ts) : Kp N us a := ⟨h.size, h.defers, fun p hp => h.vals p (hs p hp)⟩
theorem Kp.ar [XEnv] {m : Nat → Nat} {ss : List (Nat × SV)} (h : Kp N ts a) (w : World) (hs : ∀ p ∈ ss, (p.1, p.2.den m) ∈ ts ∧ p.2.ok fun _ => none) : AR N m (pickT ss) (fun _ => none) a :=
  ar_of w h.size h.defers (fun p hp => h.vals (p.1, p.2.den m) (hs p hp).1) fun p hp => (hs p hp).2
end
theorem wpList_val {os : Array Oper} {rest : List Oper} {o : Oper} {a : Act} {w : World} {Q : Exit → Act → World → Prop} {v : Value} (hg : o.guard = none) (hr : (execOp a.eval o).run Tryd.prog w = .ok (.value v) w) (k : wpList Tryd.prog os Q rest (a.put o.dst v) w) : wpList Tryd.prog os Q (o :: rest) a w := by
  refine wpList_plain hg fun K hK => ?_
  unfold Oper.wp
  rw [hr, Oper.upon_value]
  exact hK _ _ k
end Go.Proofs.YtbpdpnoekkkapaaDoor.PDescKinds
end
section
namespace Go.Proofs.YtbpdpnoekkkapaaDoor.PDescKinds
open Go.RowKit Go.Ev
namespace RP
set_option maxRecDepth 100000
section
theorem ar_none {a : Act} {N : Nat} {ts us : List (Nat × Value)} (h : Kp N ts a) (hu : ∀ p ∈ us, p ∈ ts) (w : World) : @AR row0 N (fun _ => 0) (pickT (us.map fun p => (p.1, .val p.2))) (fun _ => none) a := by
  letI := row0
  refine h.ar w fun p hp => ?_
  obtain ⟨q, hq, rfl⟩ := List.mem_map.1 hp
  refine ⟨?_, ok_val _ _⟩
  rw [den_val]
  exact hu q hq
end
end RP
end Go.Proofs.YtbpdpnoekkkapaaDoor.PDescKinds
end
section
namespace Go.Proofs.YtbpdpnoekkkapaaDoor.PDescKinds
open Go.RowKit Go.Ev
theorem pieceZ {N k : Nat} {l : List Code} {fn : Func} {st : St} {ts bs : List Nat} {next : Nat} {r : Res} {m : Nat → Nat} {a : Act} {w : World} {Q : Exit → Act → World → Prop} (h : @evK row0 _ Tryd.prog ext (tab []) k N (seqL l) st (grab Tryd.prog fn ts bs next) = some r) (hr : @SR row0 w N m st a w)
    (hret : ∀ v, r = .ret v → ∀ m' a' w', a'.defers = [] → (results fn a'.tmps).run Tryd.prog w' = .ok (@SV.den row0 m' v) w' → Below w.heap.size w w' → Q .ret a' w')
    (hcut : ∀ ex d, r = .cut ex d → ∀ m' a' w', @SR row0 w N m' (d.st next) a' w' → Q ex.out a' w') : wpL Tryd.prog l Q a w := by
  letI := row0
  exact piece Ap.ctx0.mix Ap.ctx0.hX Ap.ctx0.hs Ap.ctx0.hXO Ap.ctx0.hG h (w0 := w) trivial hr hret hcut
namespace RP
set_option maxRecDepth 100000
section
end
end RP
end Go.Proofs.YtbpdpnoekkkapaaDoor.PDescKinds
end
section
namespace Go.Proofs.YtbpdpnoekkkapaaDoor.PDescKinds
open Go.RowKit Go.Ev
namespace Sp
set_option maxRecDepth 100000
end Sp
end Go.Proofs.YtbpdpnoekkkapaaDoor.PDescKinds
end
section
namespace Go.Proofs.YtbpdpnoekkkapaaDoor.PDescKinds
open Go.RowKit Go.Ev
section
variable {B hi : Nat} {w0 w w' : World}
end
namespace Sp
section
end
end Sp
end Go.Proofs.YtbpdpnoekkkapaaDoor.PDescKinds
end
section
namespace Go.Ev
open Go.RowKit
section
variable [XEnv] {P : Program} {X : ExtFn} {G : GFn} {I : World → Prop} {w0 : World} {N : Nat} {call : CallFn} {os : Array Oper} {rest : List Oper} {Q : Exit → Act → World → Prop}
theorem opsR_sound (hX : ExtSound P X) (hI : I w0) (hs : Stable I) (hXO : ∀ w, I w → XOk w) (hcall : CallSound P I call) : ∀ (l : List Oper) (st st' : St) (m : Nat → Nat) (a : Act) (w : World), evOps P X call os N l st = some st' → SR w0 N m st a w →
    (∀ m' a' w', SR w0 N m' st' a' w' → wpList P os Q rest a' w') → wpList P os Q (l ++ rest) a w
  | [], st, st', m, a, w, h, hr, k => by
    simp only [evOps, Option.some.injEq] at h
    subst h
    exact k m a w hr
  | o :: r, st, st', m, a, w, h, hr, k => by
    unfold evOps at h
    cases hdg : dstOk N o.dst && knownG os st.tmps o with
    | false => rw [hdg] at h; cases h
    | true =>
      rw [hdg] at h
      rw [Bool.and_eq_true] at hdg
      obtain ⟨hd, hgk⟩ := hdg
      simp only [cond_true] at h
      show wpList P os Q (o :: (r ++ rest)) a w
      unfold wpList
      rw [want_eq hr.ar.tm o hgk]
      cases hw : wantS os st.tmps o with
      | true =>
        rw [hw] at h
        simp only [cond_true] at h
        simp only [if_true]
        split at h
        · rename_i v e he
          refine .inl (op_sound hX hI hs hXO hcall he (fun _ => hr.fresh _ (Nat.le_refl _)) (fun _ => hr.fresh) hr.ar.look_ok hr.ar.eval hr.mr ?_)
          intro m' w' hag hmr hv hg hall
          have hf := hall hr.fresh
          exact opsR_sound hX hI hs hXO hcall r _ st' m' _ w' h ⟨hmr, hr.ar.put hag hg hd hv, hf.1⟩ k
        · cases h
      | false =>
        rw [hw] at h
        simp only [cond_false] at h
        simp only [Bool.false_eq_true, if_false]
        exact opsR_sound hX hI hs hXO hcall r _ st' m _ w h ⟨hr.mr, (den_val m undef) ▸ hr.ar.put (v := .val undef) (Agree.refl _ _) (Grows.refl _) hd (ok_val _ _), hr.fresh⟩ k
theorem opsPiece {m : Nat → Nat} {st : St} {a : Act} {w : World} (hmix : P.follows .mixedOrders = true) (hX : ExtSound P X) (hs : Stable I) (hXO : ∀ w, I w → XOk w) (hG : GivenSound P I G) {k : Nat} {l : List Oper} {ts bs : List Nat} {next : Nat} {c : Cut}
    (h : evOpsK P X (callWithK P G (evK P X G k)) os N l st (fun st => cutS ts bs next st) = some c) (hI : I w0) (hr : SR w0 N m st a w)
    (hk : ∀ m' a' w', SR w0 N m' (c.st next) a' w' → wpList P os Q rest a' w') : wpList P os Q (l ++ rest) a w := by
  rw [evOpsK_eq (callWithK_eq (fun N c st κ => evK_eq k N c st κ))] at h
  obtain ⟨st', h1, h2⟩ := Option.bind_eq_some_iff.1 h
  exact opsR_sound hX hI hs hXO (call_sound hs hG (ev_sound hmix hX hs hXO hG k).1) l st st' m a w h1 hr fun m' a' w' hr' => hk m' a' w' (cut_sound h2 hr')
end
end Go.Ev
end
section
namespace Go.Proofs.YtbpdpnoekkkapaaDoor.PDescKinds
open Go.RowKit Go.Ev
theorem ownsRow_same {w w' : World} {B n z : Nat} {e : TypeId} {v : Value} {xs : List Value} (h : w.ownsRow B e z v n xs) (hs : ∀ g, v.ownBlock = some g → w'.heap[g]? = w.heap[g]?) : w'.ownsRow B e z v n xs := by
  refine ⟨h.1, ?_⟩
  rcases h.2 with h | ⟨g, cap, cur, rfl, h2, h3, h4⟩
  · exact .inl h
  · exact .inr ⟨g, cap, cur, rfl, h2, (hs g rfl).trans h3, h4⟩
namespace Lw
set_option maxRecDepth 100000
section
end
end Lw
end Go.Proofs.YtbpdpnoekkkapaaDoor.PDescKinds
end
section
namespace Go.Proofs.YtbpdpnoekkkapaaDoor.PDescKinds
open Go.RowKit Go.Ev
namespace Lw
set_option maxRecDepth 100000
section
theorem wpList_wanted {a : Act} {w : World} {Q : Exit → Act → World → Prop} {P : Program} {os : Array Oper} {rest : List Oper} {o : Oper} (hw : Region.wanted o (yielded os a.tmps) = true) (h : ∀ K : Act → World → Prop, (∀ a w, wpList P os Q rest a w → K a w) → o.wp P a w K Q) : wpList P os Q (o :: rest) a w :=
  wpList_step fun K hK => by
    simp only [hw, if_true]
    exact h K hK
end
end Lw
end Go.Proofs.YtbpdpnoekkkapaaDoor.PDescKinds
end
end
section
namespace Go.Ev
open Go.RowKit
end Go.Ev
namespace Go.Proofs.YtbpdpnoekkkapaaDoorV.PrintLast
open Go.RowKit
section
variable {P : Program} {ops : Array Oper} {Q : Exit → Act → World → Prop} {md : Region.Mode} {S : World → Prop} {ds : List Nat}
theorem wpAnyLast_all {rs : List Nat} {fuel : Nat} {listed : Array Bool} {a : Act} {w : World} (hr : Region.ready md ops listed = rs) (hne : rs ≠ [])
    (h : ∀ i ∈ rs, wpOp P ops Q i (fun a' w' => (i ∉ ds → S w → S w') ∧ wpAnyLast P md ops Q S ds fuel (listed.setIfInBounds i true) a' w') a w) : wpAnyLast P md ops Q S ds (fuel + 1) listed a w :=
  ⟨fun h0 => absurd (hr ▸ h0) hne, hr ▸ h⟩
theorem wpAnyLast_done {listed : Array Bool} {a : Act} {w : World} (hr : Region.ready md ops listed = []) (h : Q .normal a w) :
    ∀ fuel, wpAnyLast P md ops Q S ds fuel listed a w
  | 0 => ⟨hr, h⟩
  | _ + 1 => ⟨fun _ => h, by rw [hr]; simp⟩
theorem wpAnyLast_one {i : Nat} {o : Oper} {l' : Array Bool} {fuel : Nat} {listed : Array Bool} {a : Act} {w : World} (hr : (Region.ready md ops listed == [i]) = true) (hi : ops[i]? = some o) (hg : o.guard = none) (hl : listed.setIfInBounds i true = l')
    (h : o.wp P a w (fun a' w' => (i ∉ ds → S w → S w') ∧ wpAnyLast P md ops Q S ds fuel l' a' w') Q) : wpAnyLast P md ops Q S ds (fuel + 1) listed a w := by
  subst hl
  refine wpAnyLast_all (rs := [i]) (by simpa using hr) (by simp) fun q hq => ?_
  obtain rfl : q = i := by simpa using hq
  exact Go.Proofs.YtbpdpnoekkkapaaDoor.PDescKinds.wpOp_of hi hg h
end
end Go.Proofs.YtbpdpnoekkkapaaDoorV.PrintLast
namespace Go.Proofs.YtbpdpnoekkkapaaDoor.PDescKinds
open Go.RowKit Go.Ev Go.Proofs.YtbpdpnoekkkapaaDoorV.PrintLast
set_option maxRecDepth 100000
structure FrT (B : Nat) (T : List Nat) (w w' : World) : Prop where
  os : w'.os = w.os
  tape : w'.tape = w.tape
  output : w'.output = w.output
  size : w.heap.size ≤ w'.heap.size
  block : ∀ k, k < w.heap.size → (k < B ∨ ∀ cs ty c, w.heap[k]? = some (.cells cs ty c) → ty ∉ T) → w'.heap[k]? = w.heap[k]?
theorem FrT.of {B : Nat} {T : List Nat} {w w' : World} (h : Below w.heap.size w w') : FrT B T w w' := ⟨h.os, h.tape, h.output, h.size, fun k hk _ => h.block k hk⟩
theorem FrT.row {B b e z n : Nat} {T : List Nat} {v : Value} {xs : List Value} {w w' : World} (hf : FrT B T w w') (h : w.ownsRow b e z v n xs) (he : e ∉ T) : w'.ownsRow b e z v n xs :=
  ownsRow_same h fun g hg => by
    rcases h.2 with ⟨rfl, _⟩ | ⟨g', cap, cur, rfl, h1, h2, _⟩
    · cases hg
    · cases hg
      refine hf.block _ (Array.getElem?_eq_some_iff.1 h2).1 (.inr fun cs ty c hc => ?_)
      have h2 : w.heap[g']? = some (.cells cur e (0, 0)) := h2
      rw [h2] at hc
      cases hc
      exact he
section
variable {B : Nat} {T : List Nat} {w w' w0 : World} {a : Act} {Q : Exit → Act → World → Prop}
theorem Kp.sr {e : XEnv} {N : Nat} {ts : List (Nat × Value)} (h : Kp N ts a) (w : World) : @SR e w N (fun _ => 0) ((⟨ts.map fun p => (p.1, .val p.2), []⟩ : Cut).st 0) a w := by
  letI := e
  refine epoch h.size h.defers _ _ (fun p hp => ?_) (fun p hp => ?_)
  · obtain ⟨q, hq, rfl⟩ := List.mem_map.1 hp
    rw [den_val]
    exact h.vals q hq
  · obtain ⟨q, hq, rfl⟩ := List.mem_map.1 hp
    exact ok_val _ _
theorem SR.kp {e : XEnv} {N : Nat} {c : Cut} {ts : List (Nat × Value)} {m : Nat → Nat} {a' : Act} {w w' : World} {next : Nat} (hr : @SR e w N m (c.st next) a' w') (hk : ∀ p ∈ ts, (pickT c.ts p.1).known = true ∧ @SV.den e m (pickT c.ts p.1) = p.2) : Kp N ts a' := by
  letI := e
  refine ⟨hr.ar.size, hr.ar.defers, fun p hp => ?_⟩
  obtain ⟨h1, h2⟩ := hk p hp
  exact (hr.ar.tm p.1 h1).trans h2
theorem op_val {N : Nat} {o : Oper} {ts us : List (Nat × Value)} {v : Value} {d : Nat} {K : Act → World → Prop} (hk : Kp N ts a) (hu : ∀ p ∈ us, p ∈ ts) (hev : @evP row0 Tryd.prog (Ev.look (pickT (us.map fun p => (p.1, .val p.2)))) o = some (.val v)) (hd : o.dst = some d)
    (k : K (a.put (some d) v) w) : o.wp Tryd.prog a w K Q := by
  letI := row0
  have har := RP.ar_none hk hu w
  have := (evP_run (m := fun _ => 0) (xok_0 w) (fun x => har.look_ok x) (fun x hk => har.eval x hk) hev).1
  rw [den_val] at this
  unfold Oper.wp
  rw [this, Oper.upon_value, hd]
  exact k
theorem rowPut (f : Nat → List Value) (n : Nat) (x : List Value) : ((List.range (n + 1)).flatMap fun j => (fput f n x) j) = ((List.range n).flatMap f) ++ x := by
  rw [List.range_succ, List.flatMap_append, flat_congr n (g := f) fun t ht => by simp only [fput]; rw [if_neg (by omega)]]
  simp [fput]
theorem call_op {o : Oper} {f : FuncId} {xs : Array Operand} {ats : Array TypeId} {vs : Array Value} {a : Act} {w : World} {R : Ending → World → Prop} {K : Act → World → Prop} {Q : Exit → Act → World → Prop}
    (ho : o.op = .call { callee := .value (.func f), args := xs, argTypes := ats }) (he : enters Tryd.prog f = true) (hv : xs.map a.eval = vs) (hc : Calls Tryd.prog f vs w R) (hR : ∀ e w', R e w' → ∃ v, e = .returned v)
    (k : ∀ v w', R (.returned v) w' → K (a.put o.dst v) w') : o.wp Tryd.prog a w K Q := by
  have x2 : (execOp a.eval o).run Tryd.prog w = .ok (.enter f vs) w := by
    rw [← run_enters he vs w]
    unfold execOp
    simp only [ho, resolve, hv, Act.eval, Deferred.ofValue, Sem.run_bind, Sem.run_pure, Result.andThen_ok, invoke]
    simp
  unfold Oper.wp
  rw [x2, Oper.upon_enter]
  refine Calls.mono hc fun e w' hr => ?_
  obtain ⟨v, rfl⟩ := hR e w' hr
  exact k v w' hr
theorem SR.own {e : XEnv} {N : Nat} {c : Cut} {m : Nat → Nat} {a : Act} {w w' : World} {next b : Nat} {l : List Value} {ty : TypeId} (hr : @SR e w N m (c.st next) a w') (h : pickM c.bs b = some ⟨ty, l.map SV.val⟩) : w.heap.size ≤ m b ∧ w'.heap[m b]? = some (.cells l.toArray ty (0, 0)) := by
  letI := e
  obtain ⟨b1, b2, _⟩ := hr.mr.blk b ⟨ty, l.map SV.val⟩ h
  refine ⟨b1, ?_⟩
  rw [b2, List.map_map, show (SV.den m ∘ SV.val) = _root_.id from funext fun v => den_val _ v, List.map_id]
theorem SR.bel {e : XEnv} {N : Nat} {st : St} {m : Nat → Nat} {a : Act} {w w' : World} (hr : @SR e w N m st a w') : Below w.heap.size w w' := by
  letI := e
  exact hr.mr.below
theorem pair_tail {os : Array Oper} {o : Oper} {l : List Oper} {N d3 x y : Nat} {f : FuncId} {xs : Array Operand} {ats : Array TypeId} {vs : Array Value} {ts : List (Nat × Value)} {R : Ending → World → Prop} (hk : Kp N ts a)
    (ho : o.op = .call { callee := .value (.func f), args := xs, argTypes := ats }) (hg : o.guard = none) (hd : o.dst = some d3) (he : enters Tryd.prog f = true) (hv : xs.map a.eval = vs) (hc : Calls Tryd.prog f vs w R) (hR : ∀ e w', R e w' → ∃ p q, e = .returned (.tuple #[p, q]))
    (e2 : ∀ p q, letI := row0; (reads Tryd.prog N l (pickT [(d3, .val (.tuple #[p, q]))])).map (fun t => [x, y].map t) = some [.val p, .val q]) (hkeep : (decide (d3 < N) && ts.all fun p => d3 != p.1) = true) (hoff : offDs l (ts.map (·.1)) = true)
    (k : ∀ p q a' w', R (.returned (.tuple #[p, q])) w' → Kp N ((x, p) :: (y, q) :: ts) a' → Q .normal a' w') : wpList Tryd.prog os Q (o :: (l ++ [])) a w := by
  refine wpList_plain hg fun K hK => ?_
  refine call_op ho he hv hc (fun e w' hr => ?_) fun u w1 hr => ?_
  · obtain ⟨p, q, rfl⟩ := hR e w' hr
    exact ⟨_, rfl⟩
  obtain ⟨p, q, hu⟩ := hR _ _ hr
  cases hu
  rw [hd]
  refine hK _ _ ?_
  have K1 := hk.put (d := d3) (v := .tuple #[p, q]) hkeep
  generalize a.put (some d3) (.tuple #[p, q]) = a1 at K1 ⊢
  refine @wpList_readsF row0 _ _ (fun _ => 0) _ _ _ _ _ _ _ a1 w1 (ts.map (·.1)) (xok_0 w1) (e2 p q) hoff (RP.ar_none (us := [(d3, .tuple #[p, q])]) K1 (by simp) w1) fun a2 t2 har2 e hk2 => ?_
  simp only [List.map_cons, List.map_nil, List.cons.injEq, and_true] at e
  obtain ⟨ex, ey⟩ := e
  refine k p q a2 w1 hr ⟨@AR.size row0 _ _ _ _ _ har2, @AR.defers row0 _ _ _ _ _ har2, fun r hr => ?_⟩
  rcases List.mem_cons.1 hr with rfl | hr
  · exact @ar_eval row0 _ _ _ _ _ har2 _ _ ex
  rcases List.mem_cons.1 hr with rfl | hr
  · exact @ar_eval row0 _ _ _ _ _ har2 _ _ ey
  · exact (hk2 r.1 (List.mem_map.2 ⟨r, hr, rfl⟩)).trans (K1.vals r (List.mem_cons_of_mem _ hr))
theorem xrow_own {e : XEnv} {w : World} {b z n c : Nat} {ty : TypeId} {A : Option Addr} {f : Nat → List Value} (hz : ∀ t, (f t).length = z) (h : w.ownsRow b ty z (.slice A n c) n ((List.range n).flatMap f)) : @XRow e w ⟨A, z, n, c, fun j => (f j).map SV.val⟩ := by
  letI := e
  intro j hj
  have hj : j < n := hj
  rcases row_slice h with ⟨_, e, _⟩ | ⟨g, rfl, h1, h2⟩
  · omega
  · refine ⟨by simp [hz], fun s hs mem => ?_, ⟨g, 0, none⟩, rfl, h2, fun k s hk m => ?_⟩
    · obtain ⟨u, _, rfl⟩ := List.mem_map.1 hs
      exact ok_val _ _
    · have hk : ((f j).map SV.val)[k]? = some s := hk
      rw [List.getElem?_map] at hk
      obtain ⟨u, hu, rfl⟩ := Option.map_eq_some_iff.1 hk
      rw [den_val]
      exact own_at hz h hj k u hu
end
end Go.Proofs.YtbpdpnoekkkapaaDoor.PDescKinds
end
section
namespace Go.Proofs.YtbpdpnoekkkapaaDoor.PDescKinds
open Go.RowKit Go.Ev
set_option maxRecDepth 100000
def keq (a b : K) : Bool := a.s == b.s && (a.n == b.n && true)
theorem ba_iff {a b : ByteArray} : (a == b) = true ↔ a = b := by
  constructor
  · intro h
    rw [beq_toListBytes] at h
    exact (Lib.bytes_beq_iff a b).1 h
  · rintro rfl
    exact ba_beq a
theorem keq_iff {a b : K} : keq a b = true ↔ a = b := by
  unfold keq
  obtain ⟨s, n⟩ := a
  obtain ⟨t, m⟩ := b
  simp only [Bool.and_true, Bool.and_eq_true, beq_iff_eq, K.mk.injEq, ba_iff]
theorem keq_refl (a : K) : keq a a = true := keq_iff.2 rfl
theorem run_keq (a b : K) (w : World) : (Op.equal 34 a.agg b.agg).run Tryd.prog w = .ok (keq a b) w :=
  eqB_run 10000 34 a.agg b.agg (keq a b) (by kernel_rfl) w
abbrev Me := K × Nat × Nat
def ment (p : Me) : MapEntry := { key := p.1.agg, val := .int .i64 (p.2.1 : Int), born := p.2.2 }
def mfind : List Me → K → Nat → Option (Nat × Nat)
  | [], _, _ => none
  | p :: r, k, i => bif keq k p.1 then some (i, p.2.1) else mfind r k (i + 1)
def mget (m : List Me) (k : K) : Option Nat := (mfind m k 0).map (·.2)
theorem run_findAsk (k : K) (w : World) : ∀ (m : List Me) (i : Nat), (Instr.findAsking 34 k.agg (m.map ment) i).run Tryd.prog w = .ok ((mfind m k i).map fun q => (q.1, Value.int .i64 (q.2 : Int))) w
  | [], i => rfl
  | p :: r, i => by
    simp only [List.map_cons, Instr.findAsking, Sem.run_bind, ment, run_keq, Result.andThen_ok, mfind]
    cases h : keq k p.1 with
    | true => simp [Sem.run_pure]
    | false =>
      simp only [Bool.false_eq_true, if_false, cond_false]
      exact run_findAsk k w r (i + 1)
theorem run_find (k : K) (w : World) (m : List Me) : (Instr.findKey 34 k.agg (m.map ment)).run Tryd.prog w = .ok ((mfind m k 0).map fun q => (q.1, Value.int .i64 (q.2 : Int))) w := by
  rw [run_findKey_eq w (by kernel_rfl)]
  exact run_findAsk k w m 0
theorem run_checkN (k : K) (w : World) (e : Bool) (n : Nat) : (Instr.checkKey e (n + 2) 34 k.agg).run Tryd.prog w = .ok () w := by
  have h34 : Tryd.prog.underlying 34 = some (.struct #[⟨"Str", 9, 0, false, "", "", 0⟩, ⟨"Sym", 3, 1, false, "", "", 16⟩]) := by kernel_rfl
  have h9 : Tryd.prog.underlying 9 = some .string := by kernel_rfl
  have h3 : Tryd.prog.underlying 3 = some (.int .i64) := by kernel_rfl
  have p0 : (part 9 #[.string k.s, .int .i64 k.n] 0).run Tryd.prog w = .ok (.string k.s) w := by kernel_rfl
  have p1 : (part 3 #[.string k.s, .int .i64 k.n] 1).run Tryd.prog w = .ok (.int .i64 k.n) w := by kernel_rfl
  unfold K.agg
  simp [Instr.checkKey, run_underlying h34, run_underlying h9, run_underlying h3, p0, p1, Sem.run_bind, Result.andThen]
theorem run_check (k : K) (w : World) (e : Bool) : (Instr.checkKey e 10000 34 k.agg).run Tryd.prog w = .ok () w := run_checkN k w e 9998
theorem und56 : Tryd.prog.underlying 56 = some (.map 34 3) := by kernel_rfl
def mobj (m : List Me) (clock : Nat) : Obj := .map (m.map ment).toArray clock
section
variable {w : World} {b clock : Nat} {m : List Me}
theorem run_look (hb : w.heap[b]? = some (mobj m clock)) (k : K) : (Instr.lookup 56 (.map (some b)) k.agg true).run Tryd.prog w = .ok (.tuple #[.int .i64 (((mget m k).getD 0 : Nat) : Int), .bool (mget m k).isSome]) w := by
  have hz : (zeroValue 3).run Tryd.prog w = .ok (.int .i64 0) w := by kernel_rfl
  have hf := run_find k w m
  unfold mget
  cases h : mfind m k 0 with
  | none =>
    rw [h] at hf
    simp [Instr.lookup, run_underlying und56, MapKept.run_getObj_map hb, run_check, hf, hz, Result.andThen, Sem.run_bind]
  | some q =>
    rw [h] at hf
    simp [Instr.lookup, run_underlying und56, MapKept.run_getObj_map hb, run_check, hf, hz, Result.andThen, Sem.run_bind]
def setM (w : World) (b : Nat) (m : List Me) (clock : Nat) : World := w.putObj b (mobj m clock)
theorem run_put_new (hb : w.heap[b]? = some (mobj m clock)) (k : K) (i : Nat) (h : mget m k = none) : (Instr.mapUpdate 56 (.map (some b)) k.agg (.int .i64 (i : Int))).run Tryd.prog w = .ok () (setM w b (m ++ [(k, i, clock)]) (clock + 1)) := by
  have hf := run_find k w m
  unfold mget at h
  rw [Option.map_eq_none_iff] at h
  rw [h] at hf
  simp [Instr.mapUpdate, run_underlying und56, MapKept.run_getObj_map hb, run_check, hf, Result.andThen, Sem.run_bind, MapKept.run_setObj_map _ hb, setM, World.putObj, mobj, ment]
theorem run_mlen (hb : w.heap[b]? = some (mobj m clock)) (ty : TypeId) : (Builtin.len_ #[56] ty #[.map (some b)]).run Tryd.prog w = .ok (.int .i64 (m.length : Int)) w := by
  simp [Builtin.len_, run_underlying und56, MapKept.run_getObj_map hb, Result.andThen, Sem.run_bind, mobj, goInt]
end
end Go.Proofs.YtbpdpnoekkkapaaDoor.PDescKinds
end
section
namespace Go.Proofs.YtbpdpnoekkkapaaDoor.PDescKinds
open Go.RowKit Go.Ev Go.Proofs.YtbpdpnoekkkapaaDoorV.PrintLast
set_option maxRecDepth 100000
noncomputable def bodyOf (fn : Func) : List Code := flat (fn.body.getD .skip)
def thenOf : Code → Code
  | .cond _ t _ => t
  | c => c
def elseOf : Code → Code
  | .cond _ _ e => e
  | c => c
def D.list (d : D) : List Value := [.int .i64 d.v.k, .bool d.v.b, .float .f64 d.v.n, .string d.v.s, .int .i64 d.v.id,
  .int .i64 d.g.k, .bool d.g.b, .float .f64 d.g.n, .string d.g.s, .int .i64 d.g.id, .int .i64 d.t.k, .bool d.t.b, .float .f64 d.t.n, .string d.t.s, .int .i64 d.t.id, .int .i64 d.w, .int .i64 d.e, .int .i64 d.c]
def K.list (k : K) : List Value := [.string k.s, .int .i64 k.n]
structure En where
  k : K
  d : D
  num : Nat
  gone : Bool
def En.list (e : En) : List Value := [.string e.k.s, .int .i64 e.k.n, .int .i64 e.d.v.k, .bool e.d.v.b, .float .f64 e.d.v.n, .string e.d.v.s, .int .i64 e.d.v.id,
  .int .i64 e.d.g.k, .bool e.d.g.b, .float .f64 e.d.g.n, .string e.d.g.s, .int .i64 e.d.g.id, .int .i64 e.d.t.k, .bool e.d.t.b, .float .f64 e.d.t.n, .string e.d.t.s, .int .i64 e.d.t.id, .int .i64 e.d.w, .int .i64 e.d.e, .int .i64 e.d.c,
  .int .u64 (e.num : Int), .bool e.gone]
theorem En.len (e : En) : e.list.length = 22 := rfl
theorem En.one (e : En) : ∀ u ∈ e.list, u.oneCell' = true := by
  intro u hu
  simp only [En.list, List.mem_cons, List.not_mem_nil, or_false] at hu
  rcases hu with rfl | rfl | rfl | rfl | rfl | rfl | rfl | rfl | rfl | rfl | rfl | rfl | rfl | rfl | rfl | rfl | rfl | rfl | rfl | rfl | rfl | rfl <;> rfl
structure Tb where
  gb : Nat
  mb : Nat
  A : Option Addr
  n : Nat
  c : Nat
  E : Nat → En
  last : Nat
  m : List Me
  clock : Nat
def Tb.vals (t : Tb) : List Value := [.slice t.A t.n t.c, .map (some t.mb), .int .u64 (t.last : Int)]
abbrev sl1 (b : Nat) : Value := .slice (some ⟨b, 0, none⟩) 1 1
abbrev pt (b : Nat) : Value := .pointer (some ⟨b, 0, none⟩)
structure OwnT (B : Nat) (w : World) (t : Tb) : Prop where
  box : w.ownsRow B 80 3 (sl1 t.gb) 1 ((List.range 1).flatMap fun _ => t.vals)
  row : w.ownsRow B 84 22 (.slice t.A t.n t.c) t.n ((List.range t.n).flatMap fun j => (t.E j).list)
  map : w.heap[t.mb]? = some (mobj t.m t.clock) ∧ B ≤ t.mb
abbrev noXR : XR := ⟨none, 0, 0, 0, fun _ => []⟩
abbrev bxR (b : Nat) (l : List Value) : XR := ⟨some ⟨b, 0, none⟩, (l.map SV.val).length, 1, 1, fun _ => l.map SV.val⟩
def rowE (t : Tb) (x : Nat → XR) : Nat → XR
  | 0 => ⟨some ⟨t.gb, 0, none⟩, 3, 1, 1, fun _ => [.xs [1], .val (.map (some t.mb)), .val (.int .u64 (t.last : Int))]⟩
  | 1 => ⟨t.A, 22, t.n, t.c, fun j => (t.E j).list.map SV.val⟩
  | n + 2 => x n
@[instance_reducible] def rowsT (t : Tb) (x : Nat → XR) : XEnv := ⟨fun r => match r with
  | [n] => rowE t x n
  | _ => noXR⟩
section
variable {B : Nat} {T : List Nat} {w w' : World} {t : Tb}
theorem own_bel {w w' : World} {b e z n : Nat} {v : Value} {xs : List Value} (h : w.ownsRow b e z v n xs) (hb : Below w.heap.size w w') : w'.ownsRow b e z v n xs := (FrT.of (B := 0) (T := []) hb).row h (by simp)
theorem fr_map {b : Nat} {m : List Me} {k : Nat} (hf : FrT B T w w') (h : w.heap[b]? = some (mobj m k)) : w'.heap[b]? = some (mobj m k) := by
  rw [hf.block b (Array.getElem?_eq_some_iff.1 h).1 (.inr fun cs ty c e => by rw [h] at e; cases e)]
  exact h
theorem OwnT.fr (h : OwnT B w t) (hf : FrT B T w w') (hT : 80 ∉ T ∧ 84 ∉ T) : OwnT B w' t := ⟨hf.row h.box hT.1, hf.row h.row hT.2, fr_map hf h.map.1, h.map.2⟩
theorem OwnT.bel (h : OwnT B w t) (hb : Below w.heap.size w w') : OwnT B w' t := h.fr (FrT.of (B := B) (T := []) hb) (by simp)
theorem OwnT.mono {B' : Nat} (h : OwnT B w t) (hB : B' ≤ B) : OwnT B' w t := ⟨own_base h.box hB, own_base h.row hB, h.map.1, Nat.le_trans hB h.map.2⟩
theorem own_cell {w : World} {b e z g : Nat} {l : List Value} (hz : l.length = z) (h : w.ownsRow b e z (sl1 g) 1 ((List.range 1).flatMap fun _ => l)) : b ≤ g ∧ g < w.heap.size ∧ ∀ k u, l[k]? = some u → w.cell? ((⟨g, 0, none⟩ : Addr).add k) = some u := by
  have key : b ≤ g ∧ g < w.heap.size := by
    rcases row_slice h with ⟨e, _⟩ | ⟨g', e, h1, h2⟩
    · cases e
    · cases e; exact ⟨h1, h2⟩
  refine ⟨key.1, key.2, fun k u hk => ?_⟩
  have := own_at (f := fun _ => l) (fun _ => hz) h (t := 0) (by omega) k u hk
  rw [Nat.zero_mul, Nat.zero_add] at this
  exact this
theorem own_new {w : World} {B g t z : Nat} {l : List Value} (hz : l.length = z) (hg : B ≤ g) (h : w.heap[g]? = some (.cells l.toArray t (0, 0))) : w.ownsRow B t z (sl1 g) 1 ((List.range 1).flatMap fun _ => l) := by
  have hM : maxLen = 9223372036854775807 := by decide +kernel
  refine ⟨by simp [hz], .inr ⟨g, 1, l.toArray, rfl, hg, h, Nat.le_refl _, by omega, by simp [hz], ?_⟩⟩
  simp only [List.range_one, List.flatMap_cons, List.flatMap_nil, List.append_nil]
  rw [Nat.one_mul, ← hz]
  exact List.take_length
theorem box_row {e : XEnv} {w : World} {b t g z : Nat} {l : List Value} (hz : l.length = z) (h : w.ownsRow b t z (sl1 g) 1 ((List.range 1).flatMap fun _ => l)) : @XRow e w (bxR g l) := xrow_val (own_cell hz h).2.1 (own_cell hz h).2.2 e
theorem box_heap {e : XEnv} {w : World} {t g : Nat} {l : List Value} (h : w.heap[g]? = some (.cells l.toArray t (0, 0))) : @XRow e w (bxR g l) := box_row (b := 0) (z := l.length) rfl (own_new rfl (Nat.zero_le _) h)
theorem xrow_den {e : XEnv} {w : World} {A : Addr} {n c z : Nat} {l : List SV} {vs : List Value} (hz : l.length = z) (hok : ∀ s ∈ l, ∀ mem, @SV.ok e mem s) (hd : ∀ m, l.map (@SV.den e m) = vs) (hA : A.block < w.heap.size) (hc : ∀ k u, vs[k]? = some u → w.cell? (A.add k) = some u) (hn : n ≤ 1) : @XRow e w ⟨some A, z, n, c, fun _ => l⟩ := fun j hj => by
  have hj : j < n := hj
  obtain rfl : j = 0 := by omega
  refine ⟨hz, hok, A, rfl, hA, fun k s hk m => ?_⟩
  have hk : l[k]? = some s := hk
  show w.cell? (A.add (0 * z + k)) = _
  rw [Nat.zero_mul, Nat.zero_add]
  refine hc k _ ?_
  rw [← hd m, List.getElem?_map, hk]
  rfl
theorem OwnT.xok (h : OwnT B w t) {x : Nat → XR} (hx : ∀ e : XEnv, ∀ n, @XRow e w (x n)) : @XOk (rowsT t x) w := fun r => match r with
  | [] => fun j hj => absurd hj (Nat.not_lt_zero _)
  | _ :: _ :: _ => fun j hj => absurd hj (Nat.not_lt_zero _)
  | [0] => by
    obtain ⟨_, h1, h2⟩ := own_cell (l := t.vals) rfl h.box
    exact xrow_den (l := [.xs [1], .val (.map (some t.mb)), .val (.int .u64 (t.last : Int))]) (vs := t.vals) rfl (fun s hs mem => by
      simp only [List.mem_cons, List.not_mem_nil, or_false] at hs
      rcases hs with rfl | rfl | rfl <;> first | exact @ok_val (rowsT t x) _ _ | exact @ok_xs (rowsT t x) _ _) (fun m => by
      simp only [List.map_cons, List.map_nil, @den_val (rowsT t x), @den_xs (rowsT t x)]
      rfl) h1 h2 (Nat.le_refl _)
  | [1] => xrow_own (fun j => En.len _) h.row
  | [n + 2] => hx (rowsT t x) n
theorem noX_row (e : XEnv) (w : World) : @XRow e w noXR := fun j hj => absurd hj (Nat.not_lt_zero _)
theorem setM_grown (w : World) (b : Nat) (m : List Me) (k : Nat) : w.grownBy (setM w b m k) (some b) :=
  ⟨rfl, rfl, rfl, by simp [setM, World.putObj], fun j hj hn => World.putObj_heap_other (fun e => hn (by rw [e]))⟩
theorem setM_same {b : Nat} {m m' : List Me} {k k' : Nat} (h : w.heap[b]? = some (mobj m k)) : (setM w b m' k').heap[b]? = some (mobj m' k') := World.putObj_heap_same (Array.getElem?_eq_some_iff.1 h).1
theorem setM_row {b : Nat} {m m' : List Me} {k k' : Nat} (h : w.heap[b]? = some (mobj m k)) {b' e z n : Nat} {v : Value} {xs : List Value} (hr : w.ownsRow b' e z v n xs) : (setM w b m' k').ownsRow b' e z v n xs :=
  ownsRow_same hr fun g hg => by
    rcases hr.2 with ⟨rfl, _⟩ | ⟨g', cap, cur, rfl, h1, h2, _⟩
    · cases hg
    · cases hg
      exact World.putObj_heap_other (fun e => by
        have e : g' = b := e
        subst e
        rw [h] at h2
        cases h2)
end
end Go.Proofs.YtbpdpnoekkkapaaDoor.PDescKinds
end
section
namespace Go.Proofs.YtbpdpnoekkkapaaDoor.PDescKinds
open Go.RowKit Go.Ev Go.Proofs.YtbpdpnoekkkapaaDoorV.PrintLast
set_option maxRecDepth 100000
structure Fr (S : Nat → Prop) (w w' : World) : Prop where
  os : w'.os = w.os
  tape : w'.tape = w.tape
  output : w'.output = w.output
  size : w.heap.size ≤ w'.heap.size
  block : ∀ k, k < w.heap.size → ¬ S k → w'.heap[k]? = w.heap[k]?
theorem Fr.of {S : Nat → Prop} {w w' : World} (h : Below w.heap.size w w') : Fr S w w' := ⟨h.os, h.tape, h.output, h.size, fun k hk _ => h.block k hk⟩
theorem Fr.grown {S : Nat → Prop} {w w' : World} {r : Option Nat} (h : w.grownBy w' r) (hr : ∀ k, r = some k → S k) : Fr S w w' := ⟨h.os, h.tape, h.output, h.size, fun k hk hn => h.block k hk (fun e => hn (hr k e.symm))⟩
theorem Fr.trans {S S' : Nat → Prop} {w w1 w2 : World} (h : Fr S w w1) (g : Fr S' w1 w2) (hs : ∀ k, S' k → S k ∨ w.heap.size ≤ k) : Fr S w w2 :=
  ⟨g.os.trans h.os, g.tape.trans h.tape, g.output.trans h.output, Nat.le_trans h.size g.size, fun k hk hn => (g.block k (Nat.lt_of_lt_of_le hk h.size) (fun e => (hs k e).elim hn (by omega))).trans (h.block k hk hn)⟩
theorem Fr.mono {S S' : Nat → Prop} {w w' : World} (h : Fr S w w') (hs : ∀ k, S k → S' k) : Fr S' w w' := ⟨h.os, h.tape, h.output, h.size, fun k hk hn => h.block k hk fun e => hn (hs k e)⟩
theorem Fr.below {S : Nat → Prop} {w w' : World} {B : Nat} (h : Fr S w w') (hB : B ≤ w.heap.size) (hs : ∀ k, S k → B ≤ k) : Below B w w' := ⟨h.os, h.tape, h.output, h.size, fun k hk => h.block k (by omega) fun e => by have := hs k e; omega⟩
theorem Fr.row {S : Nat → Prop} {w w' : World} {b e z n : Nat} {v : Value} {xs : List Value} (h : Fr S w w') (hr : w.ownsRow b e z v n xs) (hn : ∀ g, v.ownBlock = some g → ¬ S g) : w'.ownsRow b e z v n xs :=
  ownsRow_same hr fun g hg => h.block g (hr.lt g hg).2 (hn g hg)
theorem Fr.at {S : Nat → Prop} {w w' : World} {g : Nat} {o : Obj} (h : Fr S w w') (hg : w.heap[g]? = some o) (hn : ¬ S g) : w'.heap[g]? = some o := (h.block g (Array.getElem?_eq_some_iff.1 hg).1 hn).trans hg
def Tb.blk (t : Tb) (k : Nat) : Prop := k = t.gb ∨ k = t.mb ∨ (Value.slice t.A t.n t.c).ownBlock = some k
theorem OwnT.blk {B : Nat} {w : World} {t : Tb} (h : OwnT B w t) {k : Nat} (hk : t.blk k) : B ≤ k ∧ k < w.heap.size := by
  rcases hk with rfl | rfl | hk
  · have := own_cell (l := t.vals) rfl h.box
    exact ⟨this.1, this.2.1⟩
  · exact ⟨h.map.2, (Array.getElem?_eq_some_iff.1 h.map.1).1⟩
  · exact h.row.lt k hk
theorem OwnT.away {B : Nat} {w w' : World} {t : Tb} {S : Nat → Prop} (h : OwnT B w t) (hf : Fr S w w') (hS : ∀ k, t.blk k → ¬ S k) : OwnT B w' t :=
  ⟨hf.row h.box fun g hg => hS g (.inl (by cases hg; rfl)), hf.row h.row fun g hg => hS g (.inr (.inr hg)), ⟨hf.at h.map.1 (hS _ (.inr (.inl rfl))), h.map.2⟩⟩
namespace S
def chk (k : K) : Int := (key_Check.f k.s k.n).getD 0
end S
theorem chk_some (k : K) : key_Check.f k.s k.n = some (S.chk k) := by
  have h : ∃ r, key_Check.f k.s k.n = some r := by
    unfold key_Check.f
    by_cases h0 : k.n = 0
    · rw [if_pos h0]
      by_cases h1 : (k.s.size : Int) ≤ 1048576
      · rw [if_pos h1]
        have hv : units_Valid.f k.s = some (units_Valid.val (k.s.size + 1) k.s 0 0) := by unfold units_Valid.f; rw [if_pos (by omega)]
        rw [hv, Option.bind_some]
        repeat' split
        all_goals exact ⟨_, rfl⟩
      · rw [if_neg h1]
        repeat' split
        all_goals exact ⟨_, rfl⟩
    · rw [if_neg h0]
      repeat' split
      all_goals exact ⟨_, rfl⟩
  obtain ⟨r, hr⟩ := h
  unfold S.chk
  rw [hr]
  rfl
def TC (k : K) : DT Value := .leaf (.int .i64 (S.chk k))
theorem ent_chk : E (33, onK TC) := fun args t v h hv w hI => by
  obtain ⟨k, rfl, rfl⟩ := onK_eq h
  cases hv
  exact key_Check.calls k.s k.n (S.chk k) w hI (chk_some k)
abbrev AT : Tab := [(33, onK TC)]
theorem entsAT : ∀ p ∈ AT, E p := entries_cons ent_chk entries_nil
theorem den_x (t : Tb) (x : Nat → XR) (b n : Nat) (l : List Value) (h : x n = bxR b l) (m : Nat → Nat) : @SV.den (rowsT t x) m (.xp [n + 2] 0 0) = pt b := by
  rw [@den_xp (rowsT t x)]
  show Value.pointer ((x n).A.map fun a => a.add (0 * (x n).sz + 0)) = _
  rw [h]
  show Value.pointer (some ((⟨b, 0, none⟩ : Addr).add (0 * _ + 0))) = _
  rw [Nat.zero_mul, add_none]
theorem den_t (t : Tb) (x : Nat → XR) (m : Nat → Nat) : @SV.den (rowsT t x) m (.xp [0] 0 0) = pt t.gb := by
  rw [@den_xp (rowsT t x)]
  show Value.pointer (some ((⟨t.gb, 0, none⟩ : Addr).add (0 * 3 + 0))) = _
  rw [Nat.zero_mul, add_none]
theorem ok_t (t : Tb) (x : Nat → XR) (mem : Mem) : @SV.ok (rowsT t x) mem (.xp [0] 0 0) := (@ok_xp (rowsT t x) _ _ _ _).2 Nat.zero_lt_one
theorem ok_x (t : Tb) (x : Nat → XR) (b n : Nat) (l : List Value) (h : x n = bxR b l) (mem : Mem) : @SV.ok (rowsT t x) mem (.xp [n + 2] 0 0) := (@ok_xp (rowsT t x) _ _ _ _).2 (by
  show 0 < (x n).n
  rw [h]
  exact Nat.zero_lt_one)
def two2 (a b : XR) : Nat → XR
  | 0 => a
  | 1 => b
  | _ => noXR
theorem two2_ok {w : World} {a b : XR} (ha : ∀ e : XEnv, @XRow e w a) (hb : ∀ e : XEnv, @XRow e w b) : ∀ e : XEnv, ∀ n, @XRow e w (two2 a b n) := fun e n => match n with
  | 0 => ha e
  | 1 => hb e
  | _ + 2 => noX_row e w
end Go.Proofs.YtbpdpnoekkkapaaDoor.PDescKinds
end
section
namespace Go.Proofs.YtbpdpnoekkkapaaDoor.PDescKinds
open Go.RowKit Go.Ev Go.Proofs.YtbpdpnoekkkapaaDoorV.PrintLast
set_option maxRecDepth 100000
theorem look_run {o : Oper} {a : Act} {w : World} {x y : Operand} {b c : Nat} {m : List Me} {k : K} (ho : o.op = .lookup 56 x y true) (hx : a.eval x = .map (some b)) (hy : a.eval y = k.agg) (hb : w.heap[b]? = some (mobj m c)) :
    (execOp a.eval o).run Tryd.prog w = .ok (.value (.tuple #[.int .i64 (((mget m k).getD 0 : Nat) : Int), .bool (mget m k).isSome])) w := by
  unfold execOp
  simp only [ho, hx, hy, Sem.run_bind, run_look hb, Result.andThen_ok, Sem.run_pure]
theorem ops_get {ops : Array Oper} {n : Nat} (hs : ops.size = n) (j : Nat) (hj : j < n) : ops[j]? = some (ops.toList.getD j default) := by
  rw [← Array.getElem?_toList, List.getD_eq_getElem?_getD, List.getElem?_eq_getElem (by rw [Array.length_toList, hs]; exact hj)]
  rfl
theorem drew_own {B : Nat} {w : World} {t : Tb} (h : OwnT B w t) : OwnT B { w with drawn := w.drawn + 1 } t := ⟨h.box, h.row, h.map⟩
theorem drew_bel (w : World) : Below w.heap.size w { w with drawn := w.drawn + 1 } := ⟨rfl, rfl, rfl, Nat.le_refl _, fun _ _ => rfl⟩
noncomputable def lkP : Array Oper := opsOf ((bodyOf Tryd.f15).getD 4 .skip)
theorem lkP_size : lkP.size = 11 := by kernel_rfl
@[instance_reducible] def lkP_E (t : Tb) (kb : Nat) (k : K) (db : Nat) (d : D) : XEnv := rowsT t (two2 (bxR kb k.list) (bxR db d.list))
theorem lkP_a (t : Tb) (kb : Nat) (k : K) (db : Nat) (d : D)  : letI := lkP_E t kb k db d
    (takesL Tryd.prog lkP [] 68 [0, 1, 2, 3, 4] (pickT [(0, .xp [0] 0 0), (4, .xp [2] 0 0), (5, .xp [3] 0 0)]) (Array.replicate 11 false)).map (fun p => ([19, 20, 0, 4, 5].map p.1, p.2)) =
    some ([.val (.map (some t.mb)), .val k.agg, .xp [0] 0 0, .xp [2] 0 0, .xp [3] 0 0], #[true, true, true, true, true, false, false, false, false, false, false]) := by kernel_rfl
theorem lkP_b (p : Int) (ok : Bool) (t : Tb) (kb : Nat) (db : Nat)  : letI := row0
    (takesL Tryd.prog lkP [] 68 [6, 7, 8, 9, 10] (pickT ((21, SV.val (.tuple #[.int .i64 p, .bool ok])) :: [(0, SV.val (pt t.gb)), (4, SV.val (pt kb)), (5, SV.val (pt db))])) #[true, true, true, true, true, true, false, false, false, false, false]).map (fun p => ([8, 9, 0, 4, 5].map p.1, p.2)) =
    some ([.val (.int .i64 p), .val (.bool ok), .val (pt t.gb), .val (pt kb), .val (pt db)], #[true, true, true, true, true, true, true, true, true, true, true]) := by kernel_rfl
set_option maxHeartbeats 1000000 in
theorem lkP_reg {B : Nat} {w : World} {t : Tb} {k : K} {kb : Nat} {db : Nat} {d : D}  {a : Act} {Q : Exit → Act → World → Prop} (hO : OwnT B w t) (hkb : w.heap[kb]? = some (.cells k.list.toArray 34 (0, 0))) (hdb : w.heap[db]? = some (.cells d.list.toArray 40 (0, 0)))
    (hk : Kp 68 [(0, pt t.gb), (4, pt kb), (5, pt db)] a)
    (hQ : ∀ a' w', Kp 68 ((8, .int .i64 (((mget t.m k).getD 0 : Nat) : Int)) :: (9, .bool (mget t.m k).isSome) :: [(0, pt t.gb), (4, pt kb), (5, pt db)]) a' → w'.heap = w.heap → Below w.heap.size w w' → OwnT B w' t → Q .normal a' w') : (Code.region 4 lkP true).wp Tryd.prog Q a w := by
  refine region_last (fun w' => @XOk (lkP_E t kb k db d) w') [] ?_
  rw [lkP_size]
  have hO1 := drew_own hO
  have hQ' := fun a' h => hQ a' _ h (rfl : ({ w with drawn := w.drawn + 1 } : World).heap = w.heap) (drew_bel w) hO1
  have hS1 : @XOk (lkP_E t kb k db d) { w with drawn := w.drawn + 1 } := hO1.xok (two2_ok (fun e => box_heap (t := 34) hkb) (fun e => box_heap (t := 40) hdb))
  have hm1 : ({ w with drawn := w.drawn + 1 } : World).heap[t.mb]? = some (mobj t.m t.clock) := hO.map.1
  generalize ({ w with drawn := w.drawn + 1 } : World) = w1 at hS1 hQ' hm1 ⊢
  have har0 : @AR (lkP_E t kb k db d) 68 (fun _ => 0) (pickT [(0, .xp [0] 0 0), (4, .xp [2] 0 0), (5, .xp [3] 0 0)]) (fun _ => none) a := by
    letI := lkP_E t kb k db d
    refine hk.ar w1 fun p hp => ?_
    simp only [List.mem_cons, List.not_mem_nil, or_false] at hp
    rcases hp with rfl | rfl | rfl
    · exact ⟨by rw [den_t]; simp, ok_t t _ _⟩
    · exact ⟨by rw [den_x t _ kb 0 k.list rfl]; simp, ok_x t _ kb 0 k.list rfl _⟩
    · exact ⟨by rw [den_x t _ db 1 d.list rfl]; simp, ok_x t _ db 1 d.list rfl _⟩
  show wpAnyLast Tryd.prog .any lkP _ _ _ ([0, 1, 2, 3, 4].length + 6) (Array.replicate 11 false) a w1
  refine @takesL_cut (lkP_E t kb k db d) _ _ _ _ _ _ _ (fun w h => h) (by kernel_rfl) _ _ _ _ _ _ _ _ _ (lkP_a t kb k db d ) har0 hS1 fun a2 t2 har2 e2 => ?_
  simp only [List.map_cons, List.map_nil, List.cons.injEq, and_true] at e2
  obtain ⟨fm, fk, f0, f4, f5⟩ := e2
  have K2 : Kp 68 ((19, .map (some t.mb)) :: (20, k.agg) :: [(0, pt t.gb), (4, pt kb), (5, pt db)]) a2 := by
    refine ⟨@AR.size (lkP_E t kb k db d) _ _ _ _ _ har2, @AR.defers (lkP_E t kb k db d) _ _ _ _ _ har2, fun p hp => ?_⟩
    simp only [List.mem_cons, List.not_mem_nil, or_false] at hp
    rcases hp with rfl | rfl | rfl | rfl | rfl
    · exact @ar_eval (lkP_E t kb k db d) _ _ _ _ _ har2 _ _ fm
    · exact @ar_eval (lkP_E t kb k db d) _ _ _ _ _ har2 _ _ fk
    · exact (@ar_get (lkP_E t kb k db d) _ _ _ _ _ har2 _ _ f0 rfl).trans (den_t t _ _)
    · exact (@ar_get (lkP_E t kb k db d) _ _ _ _ _ har2 _ _ f4 rfl).trans (den_x t _ kb 0 k.list rfl _)
    · exact (@ar_get (lkP_E t kb k db d) _ _ _ _ _ har2 _ _ f5 rfl).trans (den_x t _ db 1 d.list rfl _)
  refine wpAnyLast_one (i := 5) (l' := #[true, true, true, true, true, true, false, false, false, false, false]) (by kernel_rfl) (ops_get lkP_size 5 (by decide)) (by kernel_rfl) (by kernel_rfl) ?_
  unfold Oper.wp
  rw [look_run (o := lkP.toList.getD 5 default) (x := .tmp 19) (y := .tmp 20) (k := k) (by kernel_rfl) (K2.get (by simp)) (K2.get (by simp)) hm1, Oper.upon_value, show (lkP.toList.getD 5 default).dst = some 21 by kernel_rfl]
  refine ⟨fun _ h => h, ?_⟩
  have K3 := K2.put (d := 21) (v := .tuple #[.int .i64 (((mget t.m k).getD 0 : Nat) : Int), .bool (mget t.m k).isSome]) rfl
  generalize a2.put (some 21) (.tuple #[.int .i64 (((mget t.m k).getD 0 : Nat) : Int), .bool (mget t.m k).isSome]) = a3 at K3 ⊢
  have har3 := RP.ar_none (us := (21, .tuple #[.int .i64 (((mget t.m k).getD 0 : Nat) : Int), .bool (mget t.m k).isSome]) :: [(0, pt t.gb), (4, pt kb), (5, pt db)]) K3 (by simp) w1
  show wpAnyLast Tryd.prog .any lkP _ _ _ ([6, 7, 8, 9, 10].length + 0) #[true, true, true, true, true, true, false, false, false, false, false] a3 w1
  refine @takesL_cut row0 _ _ _ _ _ _ _ (fun w _ => xok_0 w) (by kernel_rfl) _ _ _ _ _ _ _ _ _ (lkP_b _ _ t kb db ) har3 hS1 fun a4 t4 har4 e4 => ?_
  simp only [List.map_cons, List.map_nil, List.cons.injEq, and_true] at e4
  obtain ⟨fp, fo, f0, f4, f5⟩ := e4
  refine wpAnyLast_done (by kernel_rfl) ?_ 0
  refine hQ' a4 ⟨@AR.size row0 _ _ _ _ _ har4, @AR.defers row0 _ _ _ _ _ har4, fun p hp => ?_⟩
  simp only [List.mem_cons, List.not_mem_nil, or_false] at hp
  rcases hp with rfl | rfl | rfl | rfl | rfl
  · exact @ar_eval row0 _ _ _ _ _ har4 _ _ fp
  · exact @ar_eval row0 _ _ _ _ _ har4 _ _ fo
  · exact @ar_eval row0 _ _ _ _ _ har4 _ _ f0
  · exact @ar_eval row0 _ _ _ _ _ har4 _ _ f4
  · exact @ar_eval row0 _ _ _ _ _ har4 _ _ f5
noncomputable def lkG : Array Oper := opsOf ((bodyOf Tryd.f23).getD 1 .skip)
theorem lkG_size : lkG.size = 11 := by kernel_rfl
@[instance_reducible] def lkG_E (t : Tb) (kb : Nat) (k : K)  : XEnv := rowsT t (two2 (bxR kb k.list) (noXR))
theorem lkG_a (t : Tb) (kb : Nat) (k : K)  (v4 : Value) : letI := lkG_E t kb k 
    (takesL Tryd.prog lkG [] 29 [0, 1, 2, 3, 4] (pickT [(0, .xp [0] 0 0), (3, .xp [2] 0 0), (4, .val v4)]) (Array.replicate 11 false)).map (fun p => ([12, 13, 0, 3, 4].map p.1, p.2)) =
    some ([.val (.map (some t.mb)), .val k.agg, .xp [0] 0 0, .xp [2] 0 0, .val v4], #[true, true, true, true, true, false, false, false, false, false, false]) := by kernel_rfl
theorem lkG_b (p : Int) (ok : Bool) (t : Tb) (kb : Nat)  (v4 : Value) : letI := row0
    (takesL Tryd.prog lkG [] 29 [6, 7, 8, 9, 10] (pickT ((14, SV.val (.tuple #[.int .i64 p, .bool ok])) :: [(0, SV.val (pt t.gb)), (3, SV.val (pt kb)), (4, SV.val (v4))])) #[true, true, true, true, true, true, false, false, false, false, false]).map (fun p => ([6, 7, 0, 3, 4].map p.1, p.2)) =
    some ([.val (.int .i64 p), .val (.bool ok), .val (pt t.gb), .val (pt kb), .val (v4)], #[true, true, true, true, true, true, true, true, true, true, true]) := by kernel_rfl
set_option maxHeartbeats 1000000 in
theorem lkG_reg {B : Nat} {w : World} {t : Tb} {k : K} {kb : Nat}  {v4 : Value} {a : Act} {Q : Exit → Act → World → Prop} (hO : OwnT B w t) (hkb : w.heap[kb]? = some (.cells k.list.toArray 34 (0, 0))) 
    (hk : Kp 29 [(0, pt t.gb), (3, pt kb), (4, v4)] a)
    (hQ : ∀ a' w', Kp 29 ((6, .int .i64 (((mget t.m k).getD 0 : Nat) : Int)) :: (7, .bool (mget t.m k).isSome) :: [(0, pt t.gb), (3, pt kb), (4, v4)]) a' → w'.heap = w.heap → Below w.heap.size w w' → OwnT B w' t → Q .normal a' w') : (Code.region 1 lkG true).wp Tryd.prog Q a w := by
  refine region_last (fun w' => @XOk (lkG_E t kb k ) w') [] ?_
  rw [lkG_size]
  have hO1 := drew_own hO
  have hQ' := fun a' h => hQ a' _ h (rfl : ({ w with drawn := w.drawn + 1 } : World).heap = w.heap) (drew_bel w) hO1
  have hS1 : @XOk (lkG_E t kb k ) { w with drawn := w.drawn + 1 } := hO1.xok (two2_ok (fun e => box_heap (t := 34) hkb) (fun e => noX_row e _))
  have hm1 : ({ w with drawn := w.drawn + 1 } : World).heap[t.mb]? = some (mobj t.m t.clock) := hO.map.1
  generalize ({ w with drawn := w.drawn + 1 } : World) = w1 at hS1 hQ' hm1 ⊢
  have har0 : @AR (lkG_E t kb k ) 29 (fun _ => 0) (pickT [(0, .xp [0] 0 0), (3, .xp [2] 0 0), (4, .val v4)]) (fun _ => none) a := by
    letI := lkG_E t kb k 
    refine hk.ar w1 fun p hp => ?_
    simp only [List.mem_cons, List.not_mem_nil, or_false] at hp
    rcases hp with rfl | rfl | rfl
    · exact ⟨by rw [den_t]; simp, ok_t t _ _⟩
    · exact ⟨by rw [den_x t _ kb 0 k.list rfl]; simp, ok_x t _ kb 0 k.list rfl _⟩
    · exact ⟨by rw [den_val]; simp, ok_val _ _⟩
  show wpAnyLast Tryd.prog .any lkG _ _ _ ([0, 1, 2, 3, 4].length + 6) (Array.replicate 11 false) a w1
  refine @takesL_cut (lkG_E t kb k ) _ _ _ _ _ _ _ (fun w h => h) (by kernel_rfl) _ _ _ _ _ _ _ _ _ (lkG_a t kb k  v4) har0 hS1 fun a2 t2 har2 e2 => ?_
  simp only [List.map_cons, List.map_nil, List.cons.injEq, and_true] at e2
  obtain ⟨fm, fk, f0, f3, f4⟩ := e2
  have K2 : Kp 29 ((12, .map (some t.mb)) :: (13, k.agg) :: [(0, pt t.gb), (3, pt kb), (4, v4)]) a2 := by
    refine ⟨@AR.size (lkG_E t kb k ) _ _ _ _ _ har2, @AR.defers (lkG_E t kb k ) _ _ _ _ _ har2, fun p hp => ?_⟩
    simp only [List.mem_cons, List.not_mem_nil, or_false] at hp
    rcases hp with rfl | rfl | rfl | rfl | rfl
    · exact @ar_eval (lkG_E t kb k ) _ _ _ _ _ har2 _ _ fm
    · exact @ar_eval (lkG_E t kb k ) _ _ _ _ _ har2 _ _ fk
    · exact (@ar_get (lkG_E t kb k ) _ _ _ _ _ har2 _ _ f0 rfl).trans (den_t t _ _)
    · exact (@ar_get (lkG_E t kb k ) _ _ _ _ _ har2 _ _ f3 rfl).trans (den_x t _ kb 0 k.list rfl _)
    · exact @ar_eval (lkG_E t kb k ) _ _ _ _ _ har2 _ _ f4
  refine wpAnyLast_one (i := 5) (l' := #[true, true, true, true, true, true, false, false, false, false, false]) (by kernel_rfl) (ops_get lkG_size 5 (by decide)) (by kernel_rfl) (by kernel_rfl) ?_
  unfold Oper.wp
  rw [look_run (o := lkG.toList.getD 5 default) (x := .tmp 12) (y := .tmp 13) (k := k) (by kernel_rfl) (K2.get (by simp)) (K2.get (by simp)) hm1, Oper.upon_value, show (lkG.toList.getD 5 default).dst = some 14 by kernel_rfl]
  refine ⟨fun _ h => h, ?_⟩
  have K3 := K2.put (d := 14) (v := .tuple #[.int .i64 (((mget t.m k).getD 0 : Nat) : Int), .bool (mget t.m k).isSome]) rfl
  generalize a2.put (some 14) (.tuple #[.int .i64 (((mget t.m k).getD 0 : Nat) : Int), .bool (mget t.m k).isSome]) = a3 at K3 ⊢
  have har3 := RP.ar_none (us := (14, .tuple #[.int .i64 (((mget t.m k).getD 0 : Nat) : Int), .bool (mget t.m k).isSome]) :: [(0, pt t.gb), (3, pt kb), (4, v4)]) K3 (by simp) w1
  show wpAnyLast Tryd.prog .any lkG _ _ _ ([6, 7, 8, 9, 10].length + 0) #[true, true, true, true, true, true, false, false, false, false, false] a3 w1
  refine @takesL_cut row0 _ _ _ _ _ _ _ (fun w _ => xok_0 w) (by kernel_rfl) _ _ _ _ _ _ _ _ _ (lkG_b _ _ t kb  v4) har3 hS1 fun a4 t4 har4 e4 => ?_
  simp only [List.map_cons, List.map_nil, List.cons.injEq, and_true] at e4
  obtain ⟨fp, fo, f0, f3, f4⟩ := e4
  refine wpAnyLast_done (by kernel_rfl) ?_ 0
  refine hQ' a4 ⟨@AR.size row0 _ _ _ _ _ har4, @AR.defers row0 _ _ _ _ _ har4, fun p hp => ?_⟩
  simp only [List.mem_cons, List.not_mem_nil, or_false] at hp
  rcases hp with rfl | rfl | rfl | rfl | rfl
  · exact @ar_eval row0 _ _ _ _ _ har4 _ _ fp
  · exact @ar_eval row0 _ _ _ _ _ har4 _ _ fo
  · exact @ar_eval row0 _ _ _ _ _ har4 _ _ f0
  · exact @ar_eval row0 _ _ _ _ _ har4 _ _ f3
  · exact @ar_eval row0 _ _ _ _ _ har4 _ _ f4
@[instance_reducible] def lkD_E (t : Tb) (kb : Nat) (k : K)  : XEnv := rowsT t (two2 (bxR kb k.list) (noXR))
end Go.Proofs.YtbpdpnoekkkapaaDoor.PDescKinds
end
section
namespace Go.Proofs.YtbpdpnoekkkapaaDoor.PDescKinds
open Go.RowKit Go.Ev Go.Proofs.YtbpdpnoekkkapaaDoorV.PrintLast
set_option maxRecDepth 100000
section
variable [e : XEnv] {N : Nat} {ops : Array Oper} {S : World → Prop} {Q : Act → World → Prop} {ds : List Nat} {ss : List (Nat × SV)} {ns : List Nat} {vs : List SV} {us : List Value} {ts : List (Nat × Value)} {a : Act} {w : World}
theorem kp_of_ar {t : Nat → SV} {a' : Act} (har : AR N (fun _ => 0) t (fun _ => none) a') (e : ns.map t = vs) (hv : vs.map (SV.den fun _ => 0) = us) (hkn : vs.all SV.known = true) : Kp N (ns.zip us) a' := by
  refine ⟨har.size, har.defers, fun p hp => ?_⟩
  subst hv e
  rw [List.map_map] at hp
  have : ∃ n ∈ ns, p = (n, (t n).den fun _ => 0) := by
    clear hkn
    induction ns with
    | nil => cases hp
    | cons n r ih =>
      simp only [List.map_cons, List.zip_cons_cons, List.mem_cons] at hp
      rcases hp with rfl | hp
      · exact ⟨n, List.mem_cons_self, rfl⟩
      · obtain ⟨n', h1, h2⟩ := ih hp
        exact ⟨n', List.mem_cons_of_mem _ h1, h2⟩
  obtain ⟨n, hn, rfl⟩ := this
  exact har.tm n (List.all_eq_true.1 hkn _ (List.mem_map.2 ⟨n, hn, rfl⟩))
theorem take_kp {is : List Nat} {l l' : Array Bool} {fuel : Nat} (hS : ∀ w, S w → XOk w) (hns : Region.noSelect ops = true) (h : (takesL Tryd.prog ops ds N is (pickT ss) l).map (fun p => (ns.map p.1, p.2)) = some (vs, l')) (hk : Kp N ts a)
    (hs : ∀ p ∈ ss, (p.1, p.2.den fun _ => 0) ∈ ts ∧ p.2.ok fun _ => none) (hv : vs.map (SV.den fun _ => 0) = us) (hkn : vs.all SV.known = true) (hw : S w) (k : ∀ a', Kp N (ns.zip us) a' → wpAnyLast Tryd.prog .any ops (onlyN Q) S ds fuel l' a' w) :
    wpAnyLast Tryd.prog .any ops (onlyN Q) S ds (is.length + fuel) l a w :=
  takesL_cut hS hns h (hk.ar w hs) hw fun a2 t2 har2 e2 => k a2 (kp_of_ar har2 e2 hv hkn)
theorem read_kp {os : Array Oper} {l rest : List Oper} {Q : Exit → Act → World → Prop} (hX : XOk w) (h : (reads Tryd.prog N l (pickT ss)).map (fun t => ns.map t) = some vs) (hk : Kp N ts a)
    (hs : ∀ p ∈ ss, (p.1, p.2.den fun _ => 0) ∈ ts ∧ p.2.ok fun _ => none) (hv : vs.map (SV.den fun _ => 0) = us) (hkn : vs.all SV.known = true) (k : ∀ a', Kp N (ns.zip us) a' → wpList Tryd.prog os Q rest a' w) : wpList Tryd.prog os Q (l ++ rest) a w :=
  wpList_reads hX h (hk.ar w hs) fun a2 t2 har2 e2 => k a2 (kp_of_ar har2 e2 hv hkn)
end
theorem store_any {md : Region.Mode} {ops : Array Oper} {Q : Exit → Act → World → Prop} {S : World → Prop} {ds : List Nat} {i : Nat} {o : Oper} {l l' : Array Bool} {fuel : Nat} {a : Act} {w w' : World} {t : TypeId} {x y : Operand} {p v : Value} (hr : (Region.ready md ops l == [i]) = true) (hi : ops[i]? = some o) (hg : o.guard = none) (hl : l.setIfInBounds i true = l') (hds : i ∈ ds)
    (ho : o.op = .store t x y) (hd : o.dst = none) (hx : a.eval x = p) (hy : a.eval y = v) (h : (Instr.storeAt t p v).run Tryd.prog w = .ok () w') (k : wpAnyLast Tryd.prog md ops Q S ds fuel l' a w') : wpAnyLast Tryd.prog md ops Q S ds (fuel + 1) l a w := by
  refine wpAnyLast_one hr hi hg hl ?_
  unfold Oper.wp
  rw [store_run ho hx hy h, Oper.upon_skip, hd]
  exact ⟨fun hn => absurd hds hn, k⟩
section
variable {B : Nat} {w w' : World} {t : Tb}
def Tb.setD (t : Tb) (p : Nat) (d : D) : Tb := { t with E := fput t.E p { t.E p with d := d } }
theorem own_ne {b1 b2 e1 e2 z1 z2 n1 n2 : Nat} {v1 v2 : Value} {x1 x2 : List Value} (h1 : w.ownsRow b1 e1 z1 v1 n1 x1) (h2 : w.ownsRow b2 e2 z2 v2 n2 x2) (he : e1 ≠ e2) {g : Nat} (g1 : v1.ownBlock = some g) (g2 : v2.ownBlock = some g) : False := by
  rcases h1.2 with ⟨rfl, _⟩ | ⟨g', cap, cur, rfl, _, k1, _⟩
  · cases g1
  · cases g1
    rcases h2.2 with ⟨rfl, _⟩ | ⟨g'', cap', cur', rfl, _, k2, _⟩
    · cases g2
    · cases g2
      rw [k1] at k2
      cases k2
      exact he rfl
theorem own_nm {b1 e1 z1 n1 : Nat} {v1 : Value} {x1 : List Value} {m : List Me} {c : Nat} (h1 : w.ownsRow b1 e1 z1 v1 n1 x1) {g : Nat} (hm : w.heap[g]? = some (mobj m c)) (g1 : v1.ownBlock = some g) : False := by
  rcases h1.2 with ⟨rfl, _⟩ | ⟨g', cap, cur, rfl, _, k1, _⟩
  · cases g1
  · cases g1
    rw [hm] at k1
    cases k1
theorem grown_row {b e z n : Nat} {v : Value} {xs : List Value} {r : Option Nat} (h : w.ownsRow b e z v n xs) (hg : w.grownBy w' r) (hr : ∀ g, v.ownBlock = some g → r ≠ some g) : w'.ownsRow b e z v n xs :=
  ownsRow_same h fun g hg' => hg.block g (h.lt g hg').2 (fun e => hr g hg' e.symm)
theorem grown_map {b : Nat} {m : List Me} {c : Nat} {r : Option Nat} (h : w.heap[b]? = some (mobj m c)) (hg : w.grownBy w' r) (hr : r ≠ some b) : w'.heap[b]? = some (mobj m c) :=
  (hg.block b (Array.getElem?_eq_some_iff.1 h).1 (fun e => hr e.symm)).trans h
theorem OwnT.box' (h : OwnT B w t) {vs : Tb} (hg : w.grownBy w' (some t.gb)) (hb : w'.ownsRow B 80 3 (sl1 t.gb) 1 ((List.range 1).flatMap fun _ => vs.vals)) (e : vs.gb = t.gb ∧ vs.mb = t.mb ∧ vs.m = t.m ∧ vs.clock = t.clock) (hr : w'.ownsRow B 84 22 (.slice vs.A vs.n vs.c) vs.n ((List.range vs.n).flatMap fun j => (vs.E j).list)) : OwnT B w' vs := by
  obtain ⟨e1, e2, e3, e4⟩ := e
  refine ⟨by rw [e1]; exact hb, hr, ?_, by rw [e2]; exact h.map.2⟩
  rw [e2, e3, e4]
  exact grown_map h.map.1 hg fun e => own_nm h.box h.map.1 (by rw [← e]; rfl)
theorem OwnT.row_kept (h : OwnT B w t) (hg : w.grownBy w' (some t.gb)) : w'.ownsRow B 84 22 (.slice t.A t.n t.c) t.n ((List.range t.n).flatMap fun j => (t.E j).list) :=
  grown_row h.row hg fun g hg' e => by cases e; exact own_ne h.box h.row (by decide) rfl hg'
theorem box_put {z o g ty0 : Nat} {l : List Value} {ty : TypeId} {x : Value} {P : Program} (hz : l.length = z) (h : w.ownsRow B ty0 z (sl1 g) 1 ((List.range 1).flatMap fun _ => l)) (hs : pureRun P (sizeOf ty) = some x.cells.size) (ho : o + x.cells.size ≤ z) (h1 : ∀ u ∈ x.cells.toList, u.oneCell' = true) :
    ∃ w', (Instr.storeAt ty (.pointer (some ⟨g, o, none⟩)) x).run P w = .ok () w' ∧ w'.ownsRow B ty0 z (sl1 g) 1 ((List.range 1).flatMap fun _ => splice l o x.cells.toList) ∧ w.grownBy w' (some g) := by
  obtain ⟨w', h1, h2, h3⟩ := own_splice h (fun _ => hz) (t := 0) (o := o) (by omega) hs ho h1
  rw [Nat.zero_mul, Nat.zero_add] at h1
  exact ⟨w', h1, h2, h3⟩
theorem OwnT.ent_put (h : OwnT B w t) {p : Nat} (hp : p < t.n) (d : D) : ∃ w', (Instr.storeAt 40 (.pointer (t.A.map fun a => a.add (p * 22 + 2))) d.agg).run Tryd.prog w = .ok () w' ∧ OwnT B w' (t.setD p d) ∧ w.grownBy w' (Value.slice t.A t.n t.c).ownBlock := by
  rcases row_slice h.row with ⟨_, e, _⟩ | ⟨g, hA, h1, h2⟩
  · omega
  · have hr := h.row
    rw [hA] at hr
    obtain ⟨w', h3, h4, h5⟩ := own_splice hr (fun j => En.len _) hp (o := 2) (P := Tryd.prog) (ty := 40) (x := d.agg) (by kernel_rfl) (by show 2 + 18 ≤ 22; decide) (fun u hu => by
      have hu : u ∈ d.list := hu
      simp only [D.list, List.mem_cons, List.not_mem_nil, or_false] at hu
      rcases hu with rfl | rfl | rfl | rfl | rfl | rfl | rfl | rfl | rfl | rfl | rfl | rfl | rfl | rfl | rfl | rfl | rfl | rfl <;> rfl)
    refine ⟨w', ?_, ?_, ?_⟩
    · show (Instr.storeAt 40 (.pointer (t.A.map fun a => a.add (p * 22 + 2))) d.agg).run Tryd.prog w = _
      rw [hA]
      show (Instr.storeAt 40 (.pointer (some ((⟨g, 0, none⟩ : Addr).add (p * 22 + 2)))) d.agg).run Tryd.prog w = _
      rw [add_none, Nat.zero_add]
      exact h3
    · have e : (fput (fun j => (t.E j).list) p (splice (t.E p).list 2 d.agg.cells.toList)) = fun j => ((t.setD p d).E j).list := by
        funext j
        simp only [fput, Tb.setD]
        by_cases hj : j = p
        · subst hj
          simp only [if_pos]
          rfl
        · simp only [if_neg hj]
      rw [e] at h4
      refine ⟨grown_row h.box h5 fun g' hg' e' => ?_, by show w'.ownsRow B 84 22 (.slice t.A t.n t.c) t.n _; rw [hA]; exact h4, grown_map h.map.1 h5 fun e' => ?_, h.map.2⟩
      · cases hg'
        exact own_ne h.box h.row (by decide) rfl (by rw [hA]; exact e')
      · exact own_nm h.row h.map.1 (by rw [hA]; exact e')
    · rw [hA]
      exact h5
theorem OwnT.map' (h : OwnT B w t) (m : List Me) (c : Nat) : OwnT B (setM w t.mb m c) { t with m := m, clock := c } :=
  ⟨setM_row h.map.1 h.box, setM_row h.map.1 h.row, setM_same h.map.1, h.map.2⟩
theorem OwnT.last_put (h : OwnT B w t) (l : Nat) : ∃ w', (Instr.storeAt 78 (.pointer (some ⟨t.gb, 2, none⟩)) (.int .u64 (l : Int))).run Tryd.prog w = .ok () w' ∧ OwnT B w' { t with last := l } ∧ w.grownBy w' (some t.gb) := by
  obtain ⟨w', h1, h2, h3⟩ := box_put (ty := 78) (x := .int .u64 (l : Int)) (o := 2) (P := Tryd.prog) (l := t.vals) rfl h.box (by kernel_rfl) (show 2 + 1 ≤ 3 by decide) (fun u hu => by
    have hu : u ∈ [Value.int .u64 (l : Int)] := hu
    simp only [List.mem_singleton] at hu
    subst hu; rfl)
  exact ⟨w', h1, h.box' (vs := { t with last := l }) h3 h2 ⟨rfl, rfl, rfl, rfl⟩ (h.row_kept h3), h3⟩
end
theorem one_ev [e : XEnv] {N : Nat} {ops : Array Oper} {S : World → Prop} {Q : Exit → Act → World → Prop} {ds : List Nat} {ss : List (Nat × SV)} {ts : List (Nat × Value)} {a : Act} {w : World} {i : Nat} {o : Oper} {l l' : Array Bool} {fuel d : Nat} {v : SV}
    (hr : (Region.ready .any ops l == [i]) = true) (hi : ops[i]? = some o) (hg : o.guard = none) (hl : l.setIfInBounds i true = l') (hX : XOk w) (hk : Kp N ts a) (hs : ∀ p ∈ ss, (p.1, p.2.den fun _ => 0) ∈ ts ∧ p.2.ok fun _ => none)
    (hev : evP Tryd.prog (Ev.look (pickT ss)) o = some v) (hd : o.dst = some d) (hoff : (decide (d < N) && ts.all fun p => d != p.1) = true) (k : ∀ a', Kp N ((d, v.den fun _ => 0) :: ts) a' → wpAnyLast Tryd.prog .any ops Q S ds fuel l' a' w) :
    wpAnyLast Tryd.prog .any ops Q S ds (fuel + 1) l a w := by
  refine wpAnyLast_one hr hi hg hl ?_
  have har := hk.ar w hs
  have := (evP_run (m := fun _ => 0) hX (fun x => har.look_ok x) (fun x hk => har.eval x hk) hev).1
  unfold Oper.wp
  rw [this, Oper.upon_value, hd]
  exact ⟨fun _ h => h, k _ (hk.put hoff)⟩
theorem one_evL [e : XEnv] {N : Nat} {os : Array Oper} {Q : Exit → Act → World → Prop} {rest : List Oper} {ss : List (Nat × SV)} {ts : List (Nat × Value)} {a : Act} {w : World} {o : Oper} {d : Nat} {v : SV}
    (hg : o.guard = none) (hX : XOk w) (hk : Kp N ts a) (hs : ∀ p ∈ ss, (p.1, p.2.den fun _ => 0) ∈ ts ∧ p.2.ok fun _ => none)
    (hev : evP Tryd.prog (Ev.look (pickT ss)) o = some v) (hd : o.dst = some d) (hoff : (decide (d < N) && ts.all fun p => d != p.1) = true) (k : ∀ a', Kp N ((d, v.den fun _ => 0) :: ts) a' → wpList Tryd.prog os Q rest a' w) : wpList Tryd.prog os Q (o :: rest) a w := by
  refine wpList_plain hg fun K hK => ?_
  have har := hk.ar w hs
  have := (evP_run (m := fun _ => 0) hX (fun x => har.look_ok x) (fun x hk => har.eval x hk) hev).1
  unfold Oper.wp
  rw [this, Oper.upon_value, hd]
  exact hK _ _ (k _ (hk.put hoff))
@[instance_reducible] def rowsN (x : Nat → XR) : XEnv := ⟨fun r => match r with
  | [n] => x n
  | _ => noXR⟩
def nth (l : List XR) : Nat → XR := fun i => l.getD i noXR
theorem xokN {w : World} {l : List XR} (h : ∀ x ∈ l, ∀ e : XEnv, @XRow e w x) : @XOk (rowsN (nth l)) w := fun r => match r with
  | [] => fun j hj => absurd hj (Nat.not_lt_zero _)
  | _ :: _ :: _ => fun j hj => absurd hj (Nat.not_lt_zero _)
  | [n] => by
    show @XRow (rowsN (nth l)) w (l.getD n noXR)
    rw [List.getD_eq_getElem?_getD]
    cases hn : l[n]? with
    | none => exact noX_row _ w
    | some x => exact h x (List.mem_of_getElem? hn) _
theorem den_n (x : Nat → XR) (b n : Nat) (l : List Value) (h : x n = bxR b l) (m : Nat → Nat) : @SV.den (rowsN x) m (.xp [n] 0 0) = pt b := by
  rw [@den_xp (rowsN x)]
  show Value.pointer ((x n).A.map fun a => a.add (0 * (x n).sz + 0)) = _
  rw [h]
  show Value.pointer (some ((⟨b, 0, none⟩ : Addr).add (0 * _ + 0))) = _
  rw [Nat.zero_mul, add_none]
theorem ok_n (x : Nat → XR) (b n : Nat) (l : List Value) (h : x n = bxR b l) (mem : Mem) : @SV.ok (rowsN x) mem (.xp [n] 0 0) := (@ok_xp (rowsN x) _ _ _ _).2 (by
  show 0 < (x n).n
  rw [h]
  exact Nat.zero_lt_one)
end Go.Proofs.YtbpdpnoekkkapaaDoor.PDescKinds
end
section
namespace Go.Proofs.YtbpdpnoekkkapaaDoor.PDescKinds
open Go.RowKit Go.Ev Go.Proofs.YtbpdpnoekkkapaaDoorV.PrintLast
set_option maxRecDepth 100000
theorem ctxA : @Ctx row0 Tryd.prog ext (tab AT) Tabs := by
  letI := row0
  exact ⟨mixed, ext_sound, tabs_stable, fun w h => xok_0 w, tab_sound fun p hp => (fun args t v h1 h2 w hw => entsAT p hp args t v h1 h2 w hw)⟩
theorem pieceA {N k : Nat} {l : List Code} {fn : Func} {st : St} {ts bs : List Nat} {next : Nat} {r : Res} {m : Nat → Nat} {a : Act} {w : World} {Q : Exit → Act → World → Prop} (hT : Tabs w) (h : @evK row0 _ Tryd.prog ext (tab AT) k N (seqL l) st (grab Tryd.prog fn ts bs next) = some r) (hr : @SR row0 w N m st a w)
    (hret : ∀ v, r = .ret v → ∀ m' a' w', a'.defers = [] → (results fn a'.tmps).run Tryd.prog w' = .ok (@SV.den row0 m' v) w' → Below w.heap.size w w' → Q .ret a' w')
    (hcut : ∀ ex d, r = .cut ex d → ∀ m' a' w', @SR row0 w N m' (d.st next) a' w' → Q ex.out a' w') : wpL Tryd.prog l Q a w := by
  letI := row0
  exact piece ctxA.mix ctxA.hX ctxA.hs ctxA.hXO ctxA.hG h (w0 := w) hT hr hret hcut
theorem enter_vals {fid N : Nat} {fn : Func} {vs : List Value} {R : Ending → World → Prop} {w : World} (hf : Tryd.prog.funcs[fid]? = some fn) (hb : fn.body = some (fn.body.getD .skip)) (hN : fn.ntmps = N) (hle : vs.length ≤ N)
    (h : ∀ a, @SR row0 w N (fun _ => 0) ⟨argS (vs.map SV.val), fun _ => none, 0⟩ a w → wpL Tryd.prog (bodyOf fn) (bodyPost Tryd.prog fn R) a w) : Calls Tryd.prog fid vs.toArray w R := by
  refine calls_of_wp hf hb ?_
  refine wpL_flat _ ?_
  have hst := @start_sound row0 fn (vs.map SV.val) (fun y hy => by
    obtain ⟨v, _, rfl⟩ := List.mem_map.1 hy
    exact @ok_val row0 _ _) w (fun _ => 0)
  rw [List.map_map, show (@SV.den row0 (fun _ => 0) ∘ SV.val) = _root_.id from funext fun v => @den_val row0 _ v, List.map_id, List.length_map, hN, Nat.add_sub_cancel' hle] at hst
  rw [hN]
  exact h _ hst
namespace S
inductive Put (k : K) (d : D) (t : Tb) : Int → Tb → Prop where
  | bad : S.chk k ≠ 0 → Put k d t (S.chk k) t
  | old {p : Nat} : S.chk k = 0 → mget t.m k = some p → Put k d t 0 (t.setD p d)
  | new {A : Option Addr} {c : Nat} : S.chk k = 0 → mget t.m k = none → Put k d t 0 { t with A := A, n := t.n + 1, c := c, E := fput t.E t.n ⟨k, d, t.last + 1, false⟩, last := t.last + 1, m := t.m ++ [(k, t.n, t.clock)], clock := t.clock + 1 }
end S
noncomputable def pu : List Code := bodyOf Tryd.f15
noncomputable def pu6 : Array Oper := opsOf ((flat (thenOf (pu.getD 6 .skip))).getD 0 .skip)
noncomputable def pu8 : Array Oper := opsOf (pu.getD 7 .skip)
noncomputable def pu9 : Array Oper := opsOf (pu.getD 8 .skip)
noncomputable def pu10 : Array Oper := opsOf (pu.getD 9 .skip)
theorem pu_eq : pu = [pu.getD 0 .skip, pu.getD 1 .skip, pu.getD 2 .skip, pu.getD 3 .skip] ++ [.region 4 lkP true, pu.getD 5 .skip, .cond (.tmp 24) (thenOf (pu.getD 6 .skip)) .skip, .region 8 pu8 false, .region 9 pu9 true, .region 10 pu10 true, pu.getD 10 .skip, pu.getD 11 .skip] := by kernel_rfl
theorem pu6_eq : flat (thenOf (pu.getD 6 .skip)) = [.region 6 pu6 true, .region 7 (opsOf ((flat (thenOf (pu.getD 6 .skip))).getD 1 .skip)) false, .ret] := by kernel_rfl
theorem pu8_eq : pu8.toList = pu8.toList.take 7 ++ [pu8.toList.getD 7 default] := by kernel_rfl
theorem puH (gb : Nat) (k : K) (d : D) : letI := row0
    evK Tryd.prog ext (tab AT) 60 68 (seqL [pu.getD 0 .skip, pu.getD 1 .skip, pu.getD 2 .skip, pu.getD 3 .skip]) (⟨argS ([pt gb, k.agg, d.agg].map SV.val), fun _ => none, 0⟩) (grab Tryd.prog Tryd.f15 [0, 4, 5] [0, 1] 2) =
    bif S.chk k != 0 then some (Res.ret (.val (.int .i64 (S.chk k)))) else some (Res.cut Ex.normal ⟨[(0, .val (pt gb)), (4, .ptr 0 0), (5, .ptr 1 0)], [(0, ⟨34, k.list.map SV.val⟩), (1, ⟨40, d.list.map SV.val⟩)]⟩) := by kernel_rfl
theorem puT : letI := row0
    evK Tryd.prog ext (tab []) 60 68 (seqL [pu.getD 10 .skip, pu.getD 11 .skip]) ((⟨[], []⟩ : Cut).st 0) (grab Tryd.prog Tryd.f15 [] [] 0) = some (Res.ret (.val (.int .i64 0))) := by kernel_rfl
theorem pu7 : letI := row0
    evK Tryd.prog ext (tab []) 60 68 (seqL [.region 7 (opsOf ((flat (thenOf (pu.getD 6 .skip))).getD 1 .skip)) false, .ret]) ((⟨[], []⟩ : Cut).st 0) (grab Tryd.prog Tryd.f15 [] [] 0) = some (Res.ret (.val (.int .i64 0))) := by kernel_rfl
theorem pu5 (a b c u : Value) (q : Bool) : letI := row0
    evK Tryd.prog ext (tab []) 60 68 (seqL [pu.getD 5 .skip]) ((⟨[(0, .val a), (4, .val b), (5, .val c), (8, .val u), (9, .val (.bool q))], []⟩ : Cut).st 0) (grab Tryd.prog Tryd.f15 [0, 4, 5, 8, 24] [] 0) = some (Res.cut Ex.normal ⟨[(0, .val a), (4, .val b), (5, .val c), (8, .val u), (24, .val (.bool q))], []⟩) := by kernel_rfl
section
variable {B : Nat} {w : World} {t : Tb} {k : K} {d : D} {kb db : Nat} {a : Act} {Q : Exit → Act → World → Prop}
abbrev P3 (g kb db : Nat) : List (Nat × Value) := [(0, pt g), (4, pt kb), (5, pt db)]
theorem hsP {ts : List (Nat × Value)} (h0 : (0, pt t.gb) ∈ ts) (h4 : (4, pt kb) ∈ ts) (h5 : (5, pt db) ∈ ts) : letI := lkP_E t kb k db d; ∀ p ∈ [(0, SV.xp [0] 0 0), (4, .xp [2] 0 0), (5, .xp [3] 0 0)], (p.1, p.2.den fun _ => 0) ∈ ts ∧ p.2.ok fun _ => none := by
  intro p hp
  simp only [List.mem_cons, List.not_mem_nil, or_false] at hp
  rcases hp with rfl | rfl | rfl
  · exact ⟨by rw [den_t]; exact h0, ok_t t _ _⟩
  · exact ⟨by rw [den_x t _ kb 0 k.list rfl]; exact h4, ok_x t _ kb 0 k.list rfl _⟩
  · exact ⟨by rw [den_x t _ db 1 d.list rfl]; exact h5, ok_x t _ db 1 d.list rfl _⟩
theorem xokP (hO : OwnT B w t) (hkb : w.heap[kb]? = some (.cells k.list.toArray 34 (0, 0))) (hdb : w.heap[db]? = some (.cells d.list.toArray 40 (0, 0))) : @XOk (lkP_E t kb k db d) w :=
  hO.xok (two2_ok (fun e => box_heap (t := 34) hkb) (fun e => box_heap (t := 40) hdb))
theorem pu8_v (t : Tb) (kb : Nat) (k : K) (db : Nat) (d : D) : letI := lkP_E t kb k db d
    (reads Tryd.prog 68 (pu8.toList.take 7) (pickT [(0, .xp [0] 0 0), (4, .xp [2] 0 0), (5, .xp [3] 0 0)])).map (fun p => ([0, 4, 5, 38, 40].map p)) = some [.xp [0] 0 0, .xp [2] 0 0, .xp [3] 0 0, .val (.int .u64 (IntKind.u64.wrap ((t.last : Int) + 1))), .xp [0] 0 2] := by kernel_rfl
theorem den_t2 (t : Tb) (x : Nat → XR) (m : Nat → Nat) (o : Nat) : @SV.den (rowsT t x) m (.xp [0] 0 o) = .pointer (some ⟨t.gb, o, none⟩) := by
  rw [@den_xp (rowsT t x)]
  show Value.pointer (some ((⟨t.gb, 0, none⟩ : Addr).add (0 * 3 + o))) = _
  rw [Nat.zero_mul, add_none, Nat.zero_add, Nat.zero_add]
theorem denP0 (m : Nat → Nat) (o : Nat) : @SV.den (lkP_E t kb k db d) m (.xp [0] 0 o) = .pointer (some ⟨t.gb, o, none⟩) := den_t2 t _ m o
theorem denP4 (m : Nat → Nat) : @SV.den (lkP_E t kb k db d) m (.xp [2] 0 0) = pt kb := den_x t _ kb 0 k.list rfl m
theorem denP5 (m : Nat → Nat) : @SV.den (lkP_E t kb k db d) m (.xp [3] 0 0) = pt db := den_x t _ db 1 d.list rfl m
theorem pu8_reg (hO : OwnT B w t) (hkb : w.heap[kb]? = some (.cells k.list.toArray 34 (0, 0))) (hdb : w.heap[db]? = some (.cells d.list.toArray 40 (0, 0))) (hl : t.last + 1 < 18446744073709551616)
    (hk : Kp 68 (P3 t.gb kb db) a)
    (hQ : ∀ a' w', Kp 68 (P3 t.gb kb db) a' → OwnT B w' { t with last := t.last + 1 } → w.grownBy w' (some t.gb) → Q .normal a' w') : (Code.region 8 pu8 false).wp Tryd.prog Q a w := by
  refine wp_region_list ?_
  rw [pu8_eq]
  have hX := xokP hO hkb hdb
  refine read_kp (e := lkP_E t kb k db d) (us := [pt t.gb, pt kb, pt db, .int .u64 ((t.last + 1 : Nat) : Int), .pointer (some ⟨t.gb, 2, none⟩)]) hX (pu8_v t kb k db d) hk (hsP (by simp) (by simp) (by simp)) ?_ (by kernel_rfl) fun a1 K1 => ?_
  · simp only [List.map_cons, List.map_nil, denP0, denP4, denP5, @den_val (lkP_E t kb k db d)]
    rw [show IntKind.u64.wrap ((t.last : Int) + 1) = ((t.last + 1 : Nat) : Int) by rw [IntKind.wrap_u64]; omega]
  · obtain ⟨w', h1, h2, h3⟩ := hO.last_put (t.last + 1)
    refine wpList_store (t := 78) (x := .tmp 40) (y := .tmp 38) (by kernel_rfl) (by kernel_rfl) (by kernel_rfl) (K1.get (d := 40) (by simp)) (K1.get (d := 38) (by simp)) h1 ?_
    exact hQ a1 w' (K1.sub (by simp)) h2 h3
theorem drew_grown {w w' : World} {r : Option Nat} (h : ({ w with drawn := w.drawn + 1 } : World).grownBy w' r) : w.grownBy w' r := ⟨h.os, h.tape, h.output, h.size, h.block⟩
theorem pu9_v (t : Tb) (kb : Nat) (k : K) (db : Nat) (d : D) : letI := lkP_E t kb k db d
    (takesL Tryd.prog pu9 [10] 68 [0, 1, 2, 3, 4, 5, 6, 7, 8, 9] (pickT [(0, .xp [0] 0 0), (4, .xp [2] 0 0), (5, .xp [3] 0 0)]) (Array.replicate 11 false)).map (fun p => ([0, 4, 5, 44, 45, 50].map p.1, p.2)) = some ([.xp [0] 0 0, .xp [2] 0 0, .xp [3] 0 0, .val (.map (some t.mb)), .val k.agg, .val (.int .i64 (t.n : Int))], #[true, true, true, true, true, true, true, true, true, true, false]) := by kernel_rfl
theorem pu9_size : pu9.size = 11 := by kernel_rfl
theorem upd_run {o : Oper} {a : Act} {w w' : World} {t : TypeId} {x y z : Operand} {p v u : Value} (ho : o.op = .mapUpdate t x y z) (hx : a.eval x = p) (hy : a.eval y = v) (hz : a.eval z = u) (h : (Instr.mapUpdate t p v u).run Tryd.prog w = .ok () w') : (execOp a.eval o).run Tryd.prog w = .ok .skip w' := by
  unfold execOp
  simp only [ho, hx, hy, hz, Sem.run_bind, h, Result.andThen_ok, Sem.run_pure]
theorem upd_any {md : Region.Mode} {ops : Array Oper} {Q : Exit → Act → World → Prop} {S : World → Prop} {ds : List Nat} {i : Nat} {o : Oper} {l l' : Array Bool} {fuel : Nat} {a : Act} {w w' : World} {t : TypeId} {x y z : Operand} {p v u : Value} (hr : (Region.ready md ops l == [i]) = true) (hi : ops[i]? = some o) (hg : o.guard = none) (hl : l.setIfInBounds i true = l') (hds : i ∈ ds)
    (ho : o.op = .mapUpdate t x y z) (hd : o.dst = none) (hx : a.eval x = p) (hy : a.eval y = v) (hz : a.eval z = u) (h : (Instr.mapUpdate t p v u).run Tryd.prog w = .ok () w') (k : wpAnyLast Tryd.prog md ops Q S ds fuel l' a w') : wpAnyLast Tryd.prog md ops Q S ds (fuel + 1) l a w := by
  refine wpAnyLast_one hr hi hg hl ?_
  unfold Oper.wp
  rw [upd_run ho hx hy hz h, Oper.upon_skip, hd]
  exact ⟨fun hn => absurd hds hn, k⟩
theorem pu9_reg (hO : OwnT B w t) (hkb : w.heap[kb]? = some (.cells k.list.toArray 34 (0, 0))) (hdb : w.heap[db]? = some (.cells d.list.toArray 40 (0, 0))) (hm : mget t.m k = none)
    (hk : Kp 68 (P3 t.gb kb db) a)
    (hQ : ∀ a' w', Kp 68 (P3 t.gb kb db) a' → OwnT B w' { t with m := t.m ++ [(k, t.n, t.clock)], clock := t.clock + 1 } → w.grownBy w' (some t.mb) → Q .normal a' w') : (Code.region 9 pu9 true).wp Tryd.prog Q a w := by
  refine region_last (fun w' => @XOk (lkP_E t kb k db d) w') [10] ?_
  rw [pu9_size]
  have hO1 := drew_own hO
  have hX : @XOk (lkP_E t kb k db d) { w with drawn := w.drawn + 1 } := xokP hO1 hkb hdb
  show wpAnyLast Tryd.prog .any pu9 _ _ _ ([0, 1, 2, 3, 4, 5, 6, 7, 8, 9].length + 1) (Array.replicate 11 false) a _
  refine take_kp (e := lkP_E t kb k db d) (us := [pt t.gb, pt kb, pt db, .map (some t.mb), k.agg, .int .i64 (t.n : Int)]) (fun w h => h) (by kernel_rfl) (pu9_v t kb k db d) hk (hsP (by simp) (by simp) (by simp)) ?_ (by kernel_rfl) hX fun a1 K1 => ?_
  · simp only [List.map_cons, List.map_nil, denP0, denP4, denP5, @den_val (lkP_E t kb k db d)]
  · refine upd_any (t := 56) (x := .tmp 44) (y := .tmp 45) (z := .tmp 50) (l' := Array.replicate 11 true) (by kernel_rfl) (ops_get pu9_size 10 (by decide)) (by kernel_rfl) (by kernel_rfl) (by simp) (by kernel_rfl) (by kernel_rfl) (K1.get (d := 44) (by simp)) (K1.get (d := 45) (by simp)) (K1.get (d := 50) (by simp)) (run_put_new hO1.map.1 k t.n hm) ?_
    refine wpAnyLast_done (by kernel_rfl) ?_ 0
    exact hQ a1 _ (K1.sub (by simp)) (hO1.map' _ _) (drew_grown (setM_grown { w with drawn := w.drawn + 1 } t.mb _ _))
theorem pu6_v (t : Tb) (kb : Nat) (k : K) (db : Nat) (d : D) (p : Nat) : letI := lkP_E t kb k db d
    (takesL Tryd.prog pu6 [9] 68 [0, 1, 2, 3, 4, 5] (pickT [(0, .xp [0] 0 0), (4, .xp [2] 0 0), (5, .xp [3] 0 0), (8, .val (.int .i64 (p : Int)))]) (Array.replicate 10 false)).map (fun p => ([28, 29, 30].map p.1, p.2)) = some ([.xs [1], .val (.int .i64 (p : Int)), .val d.agg], #[true, true, true, true, true, true, false, false, false, false]) := by kernel_rfl
theorem pu6_size : pu6.size = 10 := by kernel_rfl
theorem denPs (m : Nat → Nat) : @SV.den (lkP_E t kb k db d) m (.xs [1]) = .slice t.A t.n t.c := by rw [@den_xs (lkP_E t kb k db d)]; rfl
theorem denPe (m : Nat → Nat) (p o : Nat) : @SV.den (lkP_E t kb k db d) m (.xp [1] p o) = .pointer (t.A.map fun a => a.add (p * 22 + o)) := by rw [@den_xp (lkP_E t kb k db d)]; rfl
theorem okPe {p o : Nat} (hp : p < t.n) (mem : Mem) : @SV.ok (lkP_E t kb k db d) mem (.xp [1] p o) := (@ok_xp (lkP_E t kb k db d) _ _ _ _).2 hp
theorem pu6_i (t : Tb) (kb : Nat) (k : K) (db : Nat) (d : D) {p : Nat} (hp : p < t.n) : letI := lkP_E t kb k db d
    evP Tryd.prog (Ev.look (pickT [(28, .xs [1]), (29, .val (.int .i64 (p : Int)))])) (pu6.toList.getD 6 default) = some (.xp [1] p 0) := by
  letI := lkP_E t kb k db d
  have h : evP Tryd.prog (Ev.look (pickT [(28, .xs [1]), (29, .val (.int .i64 (p : Int)))])) (pu6.toList.getD 6 default) = bif decide ((0 : Int) ≤ (p : Int)) && decide ((p : Int) < (t.n : Int)) then some (.xp [1] (p : Int).toNat 0) else none := by kernel_rfl
  rw [h, decide_eq_true (by omega : (0 : Int) ≤ (p : Int)), decide_eq_true (by omega : (p : Int) < (t.n : Int)), Int.toNat_natCast]
  rfl
theorem pu6_7 (t : Tb) (kb : Nat) (k : K) (db : Nat) (d : D) (p : Nat) : letI := lkP_E t kb k db d
    evP Tryd.prog (Ev.look (pickT [(31, .xp [1] p 0)])) (pu6.toList.getD 7 default) = some (.xp [1] p 0) := by kernel_rfl
theorem pu6_8 (t : Tb) (kb : Nat) (k : K) (db : Nat) (d : D) (p : Nat) : letI := lkP_E t kb k db d
    evP Tryd.prog (Ev.look (pickT [(32, .xp [1] p 0)])) (pu6.toList.getD 8 default) = some (.xp [1] p 2) := by kernel_rfl
theorem pu6_reg (hO : OwnT B w t) (hkb : w.heap[kb]? = some (.cells k.list.toArray 34 (0, 0))) (hdb : w.heap[db]? = some (.cells d.list.toArray 40 (0, 0))) {p : Nat} (hp : p < t.n)
    (hk : Kp 68 ((8, .int .i64 (p : Int)) :: P3 t.gb kb db) a)
    (hQ : ∀ a' w', Kp 68 [] a' → OwnT B w' (t.setD p d) → w.grownBy w' (Value.slice t.A t.n t.c).ownBlock → Q .normal a' w') : (Code.region 6 pu6 true).wp Tryd.prog Q a w := by
  refine region_last (fun w' => @XOk (lkP_E t kb k db d) w') [9] ?_
  rw [pu6_size]
  have hO1 := drew_own hO
  have hX : @XOk (lkP_E t kb k db d) { w with drawn := w.drawn + 1 } := xokP hO1 hkb hdb
  show wpAnyLast Tryd.prog .any pu6 _ _ _ ([0, 1, 2, 3, 4, 5].length + 4) (Array.replicate 10 false) a _
  refine take_kp (e := lkP_E t kb k db d) (us := [.slice t.A t.n t.c, .int .i64 (p : Int), d.agg]) (fun w h => h) (by kernel_rfl) (pu6_v t kb k db d p) hk (fun q hq => ?_) ?_ (by kernel_rfl) hX fun a1 K1 => ?_
  · rcases List.mem_cons.1 hq with rfl | hq
    · exact hsP (by simp) (by simp) (by simp) _ (by simp)
    rcases List.mem_cons.1 hq with rfl | hq
    · exact hsP (by simp) (by simp) (by simp) _ (by simp)
    rcases List.mem_cons.1 hq with rfl | hq
    · exact hsP (by simp) (by simp) (by simp) _ (by simp)
    · obtain rfl := List.mem_singleton.1 hq
      exact ⟨by rw [@den_val (lkP_E t kb k db d)]; simp, @ok_val (lkP_E t kb k db d) _ _⟩
  · simp only [List.map_cons, List.map_nil, denPs, @den_val (lkP_E t kb k db d)]
  have oke : ∀ p o, p < t.n → @SV.ok (lkP_E t kb k db d) (fun _ => none) (.xp [1] p o) := fun p o h => okPe h _
  refine one_ev (e := lkP_E t kb k db d) (i := 6) (l' := #[true, true, true, true, true, true, true, false, false, false]) (by kernel_rfl) (ops_get pu6_size 6 (by decide)) (by kernel_rfl) (by kernel_rfl) hX K1 (fun q hq => ?_) (pu6_i t kb k db d hp) (d := 31) (by kernel_rfl) (by kernel_rfl) fun a2 K2 => ?_
  · rcases List.mem_cons.1 hq with rfl | hq
    · exact ⟨by rw [denPs]; simp, @ok_xs (lkP_E t kb k db d) _ _⟩
    · obtain rfl := List.mem_singleton.1 hq
      exact ⟨by rw [@den_val (lkP_E t kb k db d)]; simp, @ok_val (lkP_E t kb k db d) _ _⟩
  rw [denPe] at K2
  refine one_ev (e := lkP_E t kb k db d) (i := 7) (l' := #[true, true, true, true, true, true, true, true, false, false]) (by kernel_rfl) (ops_get pu6_size 7 (by decide)) (by kernel_rfl) (by kernel_rfl) hX K2 (fun q hq => ?_) (pu6_7 t kb k db d p) (d := 32) (by kernel_rfl) (by kernel_rfl) fun a3 K3 => ?_
  · obtain rfl := List.mem_singleton.1 hq
    exact ⟨by rw [denPe]; simp, oke _ _ hp⟩
  rw [denPe] at K3
  refine one_ev (e := lkP_E t kb k db d) (i := 8) (l' := #[true, true, true, true, true, true, true, true, true, false]) (by kernel_rfl) (ops_get pu6_size 8 (by decide)) (by kernel_rfl) (by kernel_rfl) hX K3 (fun q hq => ?_) (pu6_8 t kb k db d p) (d := 33) (by kernel_rfl) (by kernel_rfl) fun a4 K4 => ?_
  · obtain rfl := List.mem_singleton.1 hq
    exact ⟨by rw [denPe]; simp, oke _ _ hp⟩
  rw [denPe] at K4
  obtain ⟨w', h1, h2, h3⟩ := hO1.ent_put hp d
  refine store_any (t := 40) (x := .tmp 33) (y := .tmp 30) (i := 9) (l' := Array.replicate 10 true) (by kernel_rfl) (ops_get pu6_size 9 (by decide)) (by kernel_rfl) (by kernel_rfl) (by simp) (by kernel_rfl) (by kernel_rfl) (K4.get (d := 33) (by simp)) (K4.get (d := 30) (by simp)) h1 ?_
  refine wpAnyLast_done (by kernel_rfl) ?_ 0
  exact hQ a4 _ (K4.sub (by simp)) h2 (drew_grown h3)
theorem info_of {ty a b c : Nat} (h : (Tryd.prog.info? ty).bind (fun i => i.zero.map fun z => (i.size, i.bytes, z.cells.size)) = some (a, b, c)) : ∃ (i : TypeInfo) (z : Value), Tryd.prog.info? ty = some i ∧ i.zero = some z ∧ i.size = a ∧ i.bytes = b ∧ z.cells.size = c := by
  obtain ⟨i, hi, h⟩ := Option.bind_eq_some_iff.1 h
  obtain ⟨z, hz, h⟩ := Option.map_eq_some_iff.1 h
  simp only [Prod.mk.injEq] at h
  exact ⟨i, z, hi, hz, h.1, h.2.1, h.2.2⟩
theorem info84 : ∃ (i : TypeInfo) (z : Value), Tryd.prog.info? 84 = some i ∧ i.zero = some z ∧ i.size = 22 ∧ i.bytes = 208 ∧ z.cells.size = 22 := info_of (by kernel_rfl)
theorem und77 : Tryd.prog.underlying 77 = some (.slice 84) := by kernel_rfl
def pu10_X (t : Tb) (kb : Nat) (k : K) (db : Nat) (d : D) : List XR := [bxR t.gb t.vals, bxR kb k.list, bxR db d.list]
@[instance_reducible] def pu10_E (t : Tb) (kb : Nat) (k : K) (db : Nat) (d : D) : XEnv := rowsN (nth (pu10_X t kb k db d))
theorem pu10_v (t : Tb) (kb : Nat) (k : K) (db : Nat) (d : D) : letI := pu10_E t kb k db d
    (takesL Tryd.prog pu10 [17] 68 [0, 1, 2, 3, 4, 5, 6, 7, 8, 9, 10, 11, 12] (pickT [(0, .xp [0] 0 0), (4, .xp [1] 0 0), (5, .xp [2] 0 0)]) (Array.replicate 18 false)).map (fun p => ([51, 55, 63].map p.1, p.2)) = some ([.xp [0] 0 0, .val (.slice t.A t.n t.c), .val (.agg (En.mk k d t.last false).list.toArray)], #[true, true, true, true, true, true, true, true, true, true, true, true, true, false, false, false, false, false]) := by kernel_rfl
theorem pu10_13 (e : En) : letI := row0
   evOp Tryd.prog ext (fun _ _ _ _ => none) (Ev.look (pickT ([(63, Value.agg e.list.toArray)].map fun p => (p.1, SV.val p.2)))) (fun _ => none) 0 (pu10.toList.getD 13 default) = some (.slc 0 0 1 1, .new ⟨84, e.list.map SV.val⟩) := by kernel_rfl
theorem pu10_15 (g : Nat) : letI := row0
    evP Tryd.prog (Ev.look (pickT ([(51, pt g)].map fun p => (p.1, .val p.2)))) (pu10.toList.getD 15 default) = some (.val (pt g)) := by kernel_rfl
theorem pu10_16 (g : Nat) : letI := row0
    evP Tryd.prog (Ev.look (pickT ([(66, pt g)].map fun p => (p.1, .val p.2)))) (pu10.toList.getD 16 default) = some (.val (.pointer (some ((⟨g, 0, none⟩ : Addr).add 0)))) := by kernel_rfl
theorem pu10_size : pu10.size = 18 := by kernel_rfl
theorem xok10 (hO : OwnT B w t) (hkb : w.heap[kb]? = some (.cells k.list.toArray 34 (0, 0))) (hdb : w.heap[db]? = some (.cells d.list.toArray 40 (0, 0))) : @XOk (pu10_E t kb k db d) w := xokN fun x hx e => by
  simp only [pu10_X, List.mem_cons, List.not_mem_nil, or_false] at hx
  rcases hx with rfl | rfl | rfl
  · exact box_row rfl hO.box
  · exact box_heap (t := 34) hkb
  · exact box_heap (t := 40) hdb
theorem grown_cells {w w' : World} {b : Nat} {o : Obj} {r : Option Nat} (h : w.heap[b]? = some o) (hg : w.grownBy w' r) (hr : r ≠ some b) : w'.heap[b]? = some o :=
  (hg.block b (Array.getElem?_eq_some_iff.1 h).1 (fun e => hr e.symm)).trans h
theorem own_nt {b1 e1 z1 n1 ty g : Nat} {v1 : Value} {x1 : List Value} {l : Array Value} (h1 : w.ownsRow b1 e1 z1 v1 n1 x1) (hc : w.heap[g]? = some (.cells l ty (0, 0))) (he : e1 ≠ ty) : v1.ownBlock ≠ some g := fun e => by
  rcases h1.2 with ⟨rfl, _⟩ | ⟨g', cap, cur, rfl, _, k1, _⟩
  · cases e
  · cases e
    rw [hc] at k1
    cases k1
    exact he rfl
theorem OwnT.list' {B : Nat} {w w1 : World} {t u : Tb} (h : OwnT B w t) (hg : w.grownBy w1 (Value.slice t.A t.n t.c).ownBlock) (hr : w1.ownsRow B 84 22 (.slice u.A u.n u.c) u.n ((List.range u.n).flatMap fun j => (u.E j).list))
    (hu : u.gb = t.gb ∧ u.mb = t.mb ∧ u.m = t.m ∧ u.clock = t.clock ∧ u.last = t.last) : w1.ownsRow B 80 3 (sl1 t.gb) 1 ((List.range 1).flatMap fun _ => t.vals) ∧
      ∃ w2, (Instr.storeAt 77 (.pointer (some ⟨t.gb, 0, none⟩)) (.slice u.A u.n u.c)).run Tryd.prog w1 = .ok () w2 ∧ OwnT B w2 u ∧ w1.grownBy w2 (some t.gb) := by
  obtain ⟨u1, u2, u3, u4, u5⟩ := hu
  have hb : w1.ownsRow B 80 3 (sl1 t.gb) 1 ((List.range 1).flatMap fun _ => t.vals) := grown_row h.box hg fun g hg' e => own_ne h.row h.box (by decide) e hg'
  refine ⟨hb, ?_⟩
  obtain ⟨w2, h1, h2, h3⟩ := box_put (ty := 77) (x := .slice u.A u.n u.c) (o := 0) (P := Tryd.prog) (l := t.vals) rfl hb (by kernel_rfl) (show 0 + 1 ≤ 3 by decide) (fun y hy => by
    have hy : y ∈ [Value.slice u.A u.n u.c] := hy
    simp only [List.mem_singleton] at hy
    subst hy; rfl)
  have hm : w1.heap[t.mb]? = some (mobj t.m t.clock) := grown_map h.map.1 hg fun e => own_nm h.row h.map.1 e
  refine ⟨w2, h1, ⟨?_, ?_, ?_, by rw [u2]; exact h.map.2⟩, h3⟩
  · rw [u1]
    have e : u.vals = splice t.vals 0 (Value.slice u.A u.n u.c).cells.toList := by
      unfold Tb.vals
      rw [u2, u5]
      rfl
    rw [e]
    exact h2
  · refine grown_row hr h3 fun g hg' e => ?_
    cases e
    exact own_ne hb hr (by decide) rfl hg'
  · rw [u2, u3, u4]
    exact grown_map hm h3 fun e => own_nm hb hm (by rw [← e]; rfl)
set_option maxHeartbeats 1000000 in
theorem pu10_reg (hO : OwnT B w t) (hkb : w.heap[kb]? = some (.cells k.list.toArray 34 (0, 0))) (hdb : w.heap[db]? = some (.cells d.list.toArray 40 (0, 0))) (hB : B ≤ w.heap.size) (hn : t.n < 1048576)
    (hk : Kp 68 (P3 t.gb kb db) a)
    (hQ : ∀ a' w' A c, Kp 68 [] a' → OwnT B w' { t with A := A, n := t.n + 1, c := c, E := fput t.E t.n ⟨k, d, t.last, false⟩ } → Fr t.blk w w' → ((Value.slice A (t.n + 1) c).ownBlock = (Value.slice t.A t.n t.c).ownBlock ∨ ∃ g, (Value.slice A (t.n + 1) c).ownBlock = some g ∧ w.heap.size ≤ g) → Q .normal a' w') : (Code.region 10 pu10 true).wp Tryd.prog Q a w := by
  refine region_last (fun w' => @XOk (pu10_E t kb k db d) w') [17] ?_
  rw [pu10_size]
  have hO1 := drew_own hO
  have hX : @XOk (pu10_E t kb k db d) { w with drawn := w.drawn + 1 } := xok10 hO1 hkb hdb
  have hf : Fr t.blk w { w with drawn := w.drawn + 1 } := Fr.of (drew_bel w)
  have hsz : ({ w with drawn := w.drawn + 1 } : World).heap.size = w.heap.size := rfl
  have hkb1 : ({ w with drawn := w.drawn + 1 } : World).heap[kb]? = some (.cells k.list.toArray 34 (0, 0)) := hkb
  have hdb1 : ({ w with drawn := w.drawn + 1 } : World).heap[db]? = some (.cells d.list.toArray 40 (0, 0)) := hdb
  generalize ({ w with drawn := w.drawn + 1 } : World) = w1 at hO1 hX hf hsz hkb1 hdb1 ⊢
  show wpAnyLast Tryd.prog .any pu10 _ _ _ ([0, 1, 2, 3, 4, 5, 6, 7, 8, 9, 10, 11, 12].length + 5) (Array.replicate 18 false) a _
  refine take_kp (e := pu10_E t kb k db d) (us := [pt t.gb, .slice t.A t.n t.c, .agg (En.mk k d t.last false).list.toArray]) (fun w h => h) (by kernel_rfl) (pu10_v t kb k db d) hk (fun p hp => ?_) ?_ (by kernel_rfl) hX fun a1 K1 => ?_
  · simp only [List.mem_cons, List.not_mem_nil, or_false] at hp
    rcases hp with rfl | rfl | rfl
    · exact ⟨by rw [den_n _ t.gb 0 t.vals rfl]; simp, ok_n _ t.gb 0 t.vals rfl _⟩
    · exact ⟨by rw [den_n _ kb 1 k.list rfl]; simp, ok_n _ kb 1 k.list rfl _⟩
    · exact ⟨by rw [den_n _ db 2 d.list rfl]; simp, ok_n _ db 2 d.list rfl _⟩
  · simp only [List.map_cons, List.map_nil, @den_val (pu10_E t kb k db d)]
    rw [den_n _ t.gb 0 t.vals rfl]
  have K1 : Kp 68 [(51, pt t.gb), (55, .slice t.A t.n t.c), (63, .agg (En.mk k d t.last false).list.toArray)] a1 := K1
  refine wpAnyLast_one (i := 13) (l' := #[true, true, true, true, true, true, true, true, true, true, true, true, true, true, false, false, false, false]) (by kernel_rfl) (ops_get pu10_size 13 (by decide)) (by kernel_rfl) (by kernel_rfl) ?_
  refine build1 (RP.ar_none (us := [(63, .agg (En.mk k d t.last false).list.toArray)]) K1 (by simp) w1) (pu10_13 _) fun g w2 b2 hg2 hw2 => ?_
  have hO2 := hO1.bel b2
  have hX2 : @XOk (pu10_E t kb k db d) w2 := @XOk.below (pu10_E t kb k db d) _ _ hX b2
  refine ⟨fun _ _ => hX2, ?_⟩
  rw [show (pu10.toList.getD 13 default).dst = some 64 by kernel_rfl]
  have K2 := K1.put (d := 64) (v := .slice (some ⟨g, 0, none⟩) 1 1) rfl
  generalize a1.put (some 64) (.slice (some ⟨g, 0, none⟩) 1 1) = a2 at K2 ⊢
  refine wpAnyLast_one (i := 14) (l' := #[true, true, true, true, true, true, true, true, true, true, true, true, true, true, true, false, false, false]) (by kernel_rfl) (ops_get pu10_size 14 (by decide)) (by kernel_rfl) (by kernel_rfl) ?_
  obtain ⟨i84, z84, q1, q2, q3, q4, q5⟩ := info84
  have hM : maxLen = 9223372036854775807 := by decide +kernel
  refine wp_append_fresh (.tmp 55) (.tmp 64) 77 (by kernel_rfl) B 84 i84 z84 22 208 und77 q1 q2 q3 q4 q5 (by decide) (.slice t.A t.n t.c) t.n _ (K2.get (by simp)) hO2.row ⟨g, 0, none⟩ 1 1 (En.mk k d t.last false).list (K2.get (by simp)) rfl (fun j u hu => ?_) (En.one _) (by omega) (by omega) (Nat.le_trans hB (by have := b2.size; omega)) fun u w3 hown hgr hfr => ?_
  · rw [add_none, cell_of_row w2 g _ _ 84 (0, 0) hw2]
    simpa using hu
  have hu := (own_slice hown).1
  generalize slA u = A at hu
  generalize slC u = c at hu
  subst hu
  obtain ⟨hb3, w4, hst, hO4, hg4⟩ := hO2.list' (u := { t with A := A, n := t.n + 1, c := c, E := fput t.E t.n ⟨k, d, t.last, false⟩ }) hgr (by
    rw [← rowPut] at hown
    show w3.ownsRow B 84 22 (.slice A (t.n + 1) c) (t.n + 1) ((List.range (t.n + 1)).flatMap fun j => (fput t.E t.n ⟨k, d, t.last, false⟩ j).list)
    rw [flat_congr (t.n + 1) (g := fput (fun j => (t.E j).list) t.n (En.mk k d t.last false).list) fun j _ => by
      simp only [fput]
      split <;> rfl]
    exact hown) ⟨rfl, rfl, rfl, rfl, rfl⟩
  have hX3 : @XOk (pu10_E t kb k db d) w3 := xokN fun x hx e => by
    simp only [pu10_X, List.mem_cons, List.not_mem_nil, or_false] at hx
    have hk2 : w2.heap[kb]? = some (.cells k.list.toArray 34 (0, 0)) := (b2.block kb (Array.getElem?_eq_some_iff.1 hkb1).1).trans hkb1
    have hd2 : w2.heap[db]? = some (.cells d.list.toArray 40 (0, 0)) := (b2.block db (Array.getElem?_eq_some_iff.1 hdb1).1).trans hdb1
    rcases hx with rfl | rfl | rfl
    · exact box_row rfl hb3
    · exact box_heap (t := 34) (grown_cells hk2 hgr (own_nt hO2.row hk2 (by decide)))
    · exact box_heap (t := 40) (grown_cells hd2 hgr (own_nt hO2.row hd2 (by decide)))
  refine ⟨fun _ _ => hX3, ?_⟩
  rw [show (pu10.toList.getD 14 default).dst = some 65 by kernel_rfl]
  have K3 := K2.put (d := 65) (v := .slice A (t.n + 1) c) rfl
  generalize a2.put (some 65) (.slice A (t.n + 1) c) = a3 at K3 ⊢
  refine wpAnyLast_one (i := 15) (l' := #[true, true, true, true, true, true, true, true, true, true, true, true, true, true, true, true, false, false]) (by kernel_rfl) (ops_get pu10_size 15 (by decide)) (by kernel_rfl) (by kernel_rfl) ?_
  refine op_val (us := [(51, pt t.gb)]) (d := 66) K3 (by simp) (pu10_15 t.gb) (by kernel_rfl) ⟨fun _ h => h, ?_⟩
  have K4 := K3.put (d := 66) (v := pt t.gb) rfl
  generalize a3.put (some 66) (pt t.gb) = a4 at K4 ⊢
  refine wpAnyLast_one (i := 16) (l' := #[true, true, true, true, true, true, true, true, true, true, true, true, true, true, true, true, true, false]) (by kernel_rfl) (ops_get pu10_size 16 (by decide)) (by kernel_rfl) (by kernel_rfl) ?_
  refine op_val (us := [(66, pt t.gb)]) (d := 67) K4 (by simp) (pu10_16 t.gb) (by kernel_rfl) ⟨fun _ h => h, ?_⟩
  rw [show ((⟨t.gb, 0, none⟩ : Addr).add 0) = ⟨t.gb, 0, none⟩ by rw [add_none]]
  have K5 := K4.put (d := 67) (v := pt t.gb) rfl
  generalize a4.put (some 67) (pt t.gb) = a5 at K5 ⊢
  refine store_any (t := 77) (x := .tmp 67) (y := .tmp 65) (i := 17) (l' := Array.replicate 18 true) (by kernel_rfl) (ops_get pu10_size 17 (by decide)) (by kernel_rfl) (by kernel_rfl) (by simp) (by kernel_rfl) (by kernel_rfl) (K5.get (d := 67) (by simp)) (K5.get (d := 65) (by simp)) hst ?_
  refine wpAnyLast_done (by kernel_rfl) ?_ 0
  have b2' := b2.size
  refine hQ a5 w4 A c (K5.sub (by simp)) hO4 (((hf.trans (Fr.of b2 (S := fun _ => False)) (by simp)).trans (Fr.grown hgr (S := fun k => (Value.slice t.A t.n t.c).ownBlock = some k) (fun k hk => hk)) fun k hk => .inl (.inr (.inr hk))).trans (Fr.grown hg4 (S := fun k => k = t.gb) fun k hk => by cases hk; rfl) fun k hk => .inl (.inl hk)) ?_
  rcases hfr with h | ⟨g', h1, h2⟩
  · exact .inl h
  · exact .inr ⟨g', h1, by omega⟩
abbrev PutR (B : Nat) (w : World) (t : Tb) (k : K) (d : D) (e : Ending) (w' : World) : Prop := ∃ r t', S.Put k d t r t' ∧ e = .returned (.int .i64 r) ∧ OwnT B w' t' ∧ Fr t.blk w w' ∧ ∀ b, t'.blk b → t.blk b ∨ w.heap.size ≤ b
theorem Put.calls (hT : Tabs w) (hO : OwnT B w t) (hB : B ≤ w.heap.size) (hp : ∀ p, mget t.m k = some p → p < t.n) (hn : t.n < 1048576) (hl : t.last + 1 < 18446744073709551616) : Calls Tryd.prog 15 #[pt t.gb, k.agg, d.agg] w (PutR B w t k d) := by
  refine enter_vals (vs := [pt t.gb, k.agg, d.agg]) (N := 68) Tryd.func15 (by kernel_rfl) (by kernel_rfl) (show 3 ≤ 68 by decide) fun a0 h0 => ?_
  show wpL Tryd.prog pu _ _ _
  rw [pu_eq, wpL_app]
  have hsub : ∀ {o : World}, Below w.heap.size w o → Fr t.blk w o := fun h => Fr.of h
  have ev := puH t.gb k d
  cases hq : (S.chk k != 0) with
  | true =>
    rw [hq] at ev
    refine pieceA hT ev h0 (fun v hv m a' w' hd hres hb => ?_) (fun ex d hd => by cases hd)
    cases hv
    rw [@den_val row0] at hres
    exact ⟨hd, _, hres, _, t, .bad (by simpa using hq), rfl, hO.bel hb, Fr.of hb, fun b hb => .inl hb⟩
  | false =>
  rw [hq] at ev
  refine pieceA hT ev h0 (fun v hv => by cases hv) (fun ex c hc m a1 w1 hr => ?_)
  cases hc
  have hq : S.chk k = 0 := by simpa using hq
  have hb1 := SR.bel hr
  have ⟨hg4, hw4⟩ := SR.own (b := 0) (l := k.list) (ty := 34) hr rfl
  have ⟨hg5, hw5⟩ := SR.own (b := 1) (l := d.list) (ty := 40) hr rfl
  have K1 : Kp 68 (P3 t.gb (m 0) (m 1)) a1 := SR.kp hr fun p hp => by
    simp only [List.mem_cons, List.not_mem_nil, or_false] at hp
    rcases hp with rfl | rfl | rfl
    · exact ⟨rfl, @den_val row0 _ _⟩
    · exact ⟨rfl, @den_ptr row0 _ _ _⟩
    · exact ⟨rfl, @den_ptr row0 _ _ _⟩
  generalize m 0 = kb at hg4 hw4 K1
  generalize m 1 = db at hg5 hw5 K1
  have hO1 := hO.bel hb1
  refine lkP_reg hO1 hw4 hw5 K1 fun a2 w2 K2 hh2 hb2 hO2 => ?_
  show wpL Tryd.prog ([pu.getD 5 .skip] ++ _) _ a2 w2
  rw [wpL_app]
  have hkb2 : w2.heap[kb]? = some (.cells k.list.toArray 34 (0, 0)) := by rw [hh2]; exact hw4
  have hdb2 : w2.heap[db]? = some (.cells d.list.toArray 40 (0, 0)) := by rw [hh2]; exact hw5
  have hb12 := hb1.trans (hb2.mono hb1.size)
  refine pieceZ (pu5 (pt t.gb) (pt kb) (pt db) (.int .i64 (((mget t.m k).getD 0 : Nat) : Int)) (mget t.m k).isSome) ((K2.sub (us := [(0, pt t.gb), (4, pt kb), (5, pt db), (8, .int .i64 (((mget t.m k).getD 0 : Nat) : Int)), (9, .bool (mget t.m k).isSome)]) (by simp)).sr w2) (fun v hv => by cases hv) (fun ex c hc m3 a3 w3 hr3 => ?_)
  cases hc
  have hb3 := SR.bel hr3
  have hb13 := hb12.trans (hb3.mono hb12.size)
  have hO3 := hO.bel hb13
  have hkb3 : w3.heap[kb]? = some (.cells k.list.toArray 34 (0, 0)) := (hb3.block kb (Array.getElem?_eq_some_iff.1 hkb2).1).trans hkb2
  have hdb3 : w3.heap[db]? = some (.cells d.list.toArray 40 (0, 0)) := (hb3.block db (Array.getElem?_eq_some_iff.1 hdb2).1).trans hdb2
  have K3 : Kp 68 [(0, pt t.gb), (4, pt kb), (5, pt db), (8, .int .i64 (((mget t.m k).getD 0 : Nat) : Int)), (24, .bool (mget t.m k).isSome)] a3 := SR.kp hr3 fun p hp => by
    simp only [List.mem_cons, List.not_mem_nil, or_false] at hp
    rcases hp with rfl | rfl | rfl | rfl | rfl <;> exact ⟨rfl, @den_val row0 _ _⟩
  have s1 := hb13.size
  cases hmg : mget t.m k with
  | some p =>
    rw [hmg] at K3
    refine wp_cond_true (K3.get (d := 24) (by simp)) ?_
    refine wpL_flat _ ?_
    rw [pu6_eq]
    refine pu6_reg hO3 hkb3 hdb3 (hp p hmg) (K3.sub (by simp)) fun a4 w4 K4 hO4 hg4 => ?_
    show wpL Tryd.prog [_, _] _ a4 w4
    refine pieceZ pu7 (K4.sr w4) (fun v hv m' a' w' hd hres hb' => ?_) (fun ex d hd => by cases hd)
    cases hv
    rw [@den_val row0] at hres
    refine ⟨hd, _, hres, _, t.setD p d, .old hq hmg, rfl, hO4.bel hb', ((Fr.of hb13).trans (Fr.grown hg4 (S := t.blk) fun k hk => .inr (.inr hk)) fun k hk => .inl hk).trans (Fr.of hb' (S := t.blk)) (fun k hk => .inl hk), fun b hb => .inl hb⟩
  | none =>
    rw [hmg] at K3
    refine wp_cond_false (K3.get (d := 24) (by simp)) (wp_skip ?_)
    show wpL Tryd.prog [.region 8 pu8 false, .region 9 pu9 true, .region 10 pu10 true, pu.getD 10 .skip, pu.getD 11 .skip] _ a3 w3
    refine pu8_reg hO3 hkb3 hdb3 hl (K3.sub (by simp)) fun a4 w4 K4 hO4 hg4 => ?_
    have hkb4 := grown_cells hkb3 hg4 (own_nt hO3.box hkb3 (by decide))
    have hdb4 := grown_cells hdb3 hg4 (own_nt hO3.box hdb3 (by decide))
    refine pu9_reg hO4 hkb4 hdb4 hmg K4 fun a5 w5 K5 hO5 hg5 => ?_
    have hkb5 := grown_cells hkb4 hg5 (fun e => by
      have e : t.mb = kb := by cases e; rfl
      have := hO4.map.1
      rw [show ({ t with last := t.last + 1 } : Tb).mb = kb from e, hkb4] at this
      cases this)
    have hdb5 := grown_cells hdb4 hg5 (fun e => by
      have e : t.mb = db := by cases e; rfl
      have := hO4.map.1
      rw [show ({ t with last := t.last + 1 } : Tb).mb = db from e, hdb4] at this
      cases this)
    have s4 := hg4.size
    have s5 := hg5.size
    refine pu10_reg hO5 hkb5 hdb5 (by omega) hn K5 fun a6 w6 A c K6 hO6 hf6 hA => ?_
    show wpL Tryd.prog [_, _] _ a6 w6
    refine pieceZ puT (K6.sr w6) (fun v hv m' a' w' hd hres hb' => ?_) (fun ex d hd => by cases hd)
    cases hv
    rw [@den_val row0] at hres
    refine ⟨hd, _, hres, _, _, .new (A := A) (c := c) hq hmg, rfl, hO6.bel hb', ((((Fr.of hb13).trans (Fr.grown hg4 (S := t.blk) fun k hk => .inl (by cases hk; rfl)) fun k hk => .inl hk).trans (Fr.grown hg5 (S := t.blk) fun k hk => .inr (.inl (by cases hk; rfl))) fun k hk => .inl hk).trans (S' := t.blk) hf6 fun k hk => .inl hk).trans (Fr.of hb' (S := t.blk)) (fun k hk => .inl hk), fun b hb => ?_⟩
    rcases hb with hb | hb | hb
    · exact .inl (.inl hb)
    · exact .inl (.inr (.inl hb))
    · rcases hA with h | ⟨g, h1, h2⟩
      · exact .inl (.inr (.inr (h ▸ hb)))
      · have : some g = some b := h1.symm.trans hb
        cases this
        exact .inr (by omega)
end
end Go.Proofs.YtbpdpnoekkkapaaDoor.PDescKinds
end
section
namespace Go.Proofs.YtbpdpnoekkkapaaDoor.PDescKinds
open Go.RowKit Go.Ev Go.Proofs.YtbpdpnoekkkapaaDoorV.PrintLast
set_option maxRecDepth 100000
def v0 : V := ⟨0, false, 0, ⟨#[]⟩, 0⟩
def d0 : D := ⟨v0, v0, v0, 0, 0, 0⟩
def k0 : K := ⟨⟨#[]⟩, 0⟩
theorem epoch1 [e : XEnv] {N g : Nat} {a : Act} {w0 w : World} {ss : List (Nat × SV)} {l : List Value} {ty : TypeId} {ts : List (Nat × Value)} (hb : Below w0.heap.size w0 w) (hg : w0.heap.size ≤ g) (hw : w.heap[g]? = some (.cells l.toArray ty (0, 0)))
    (hk : Kp N ts a) (hs : ∀ p ∈ ss, (p.1, p.2.den fun _ => g) ∈ ts) (hok : ∀ p ∈ ss, p.2.ok (pickM [(0, ⟨ty, l.map SV.val⟩)])) : SR w0 N (fun _ => g) ((Cut.mk ss [(0, ⟨ty, l.map SV.val⟩)]).st 1) a w := by
  refine epochB hb hk.size hk.defers ss _ _ (fun p hp => hk.vals (p.1, p.2.den fun _ => g) (hs p hp)) hok (fun b k h => ?_) (fun b b' k k' h h' _ => ?_) fun b hb => ?_
  · have : b = 0 ∧ k = ⟨ty, l.map SV.val⟩ := by
      cases b with
      | zero => exact ⟨rfl, by simpa [pickM] using h.symm⟩
      | succ n => cases h
    obtain ⟨rfl, rfl⟩ := this
    refine ⟨hg, ?_, fun c hc => ?_⟩
    · rw [List.map_map, show (SV.den (fun _ => g) ∘ SV.val) = _root_.id from funext fun v => den_val _ v, List.map_id]
      exact hw
    · obtain ⟨v, _, rfl⟩ := List.mem_map.1 hc
      exact ok_val _ _
  · cases b with
    | zero => cases b' with
      | zero => rfl
      | succ n => cases h'
    | succ n => cases h
  · cases b with
    | zero => omega
    | succ n => rfl
@[instance_reducible] def rowsT0 (t : Tb) : XEnv := rowsT t fun _ => noXR
theorem OwnT.xok0 {B : Nat} {w : World} {t : Tb} (h : OwnT B w t) : @XOk (rowsT0 t) w := h.xok fun e _ => noX_row e w
theorem ctx0T (t : Tb) : @Ctx (rowsT0 t) Tryd.prog ext (tab []) (fun w => @XOk (rowsT0 t) w) := by
  letI := rowsT0 t
  exact ⟨mixed, ext_sound, fun w w' h hb => XOk.below h hb, fun w h => h, tab_sound fun p hp => by cases hp⟩
noncomputable def gt : List Code := bodyOf Tryd.f23
theorem gt_eq : gt = [gt.getD 0 .skip] ++ [.region 1 lkG true, gt.getD 2 .skip, gt.getD 3 .skip, gt.getD 4 .skip, gt.getD 5 .skip] := by kernel_rfl
theorem gt0 (gb : Nat) (k : K) : letI := row0
    evK Tryd.prog ext (tab []) 60 29 (seqL [gt.getD 0 .skip]) (⟨argS ([pt gb, k.agg].map SV.val), fun _ => none, 0⟩) (grab Tryd.prog Tryd.f23 [0, 3, 4] [0, 1] 2) =
    some (Res.cut Ex.normal ⟨[(0, .val (pt gb)), (3, .ptr 0 0), (4, .ptr 1 0)], [(0, ⟨34, k.list.map SV.val⟩), (1, ⟨40, d0.list.map SV.val⟩)]⟩) := by kernel_rfl
theorem gt1 (t : Tb) (p : Nat) : letI := rowsT0 t
    evK Tryd.prog ext (tab []) 60 29 (seqL [gt.getD 2 .skip, gt.getD 3 .skip, gt.getD 4 .skip, gt.getD 5 .skip]) ((⟨[(0, .xp [0] 0 0), (4, .ptr 0 0), (6, .val (.int .i64 (p : Int))), (7, .val (.bool true))], [(0, ⟨40, d0.list.map SV.val⟩)]⟩ : Cut).st 1) (grab Tryd.prog Tryd.f23 [] [] 0) =
    bif decide ((0 : Int) ≤ (p : Int)) && decide ((p : Int) < (t.n : Int)) then some (Res.ret (.val (.tuple #[(t.E (p : Int).toNat).d.agg, .bool true]))) else none := by kernel_rfl
theorem gt2 (t : Tb) (p : Nat) : letI := rowsT0 t
    evK Tryd.prog ext (tab []) 60 29 (seqL [gt.getD 2 .skip, gt.getD 3 .skip, gt.getD 4 .skip, gt.getD 5 .skip]) ((⟨[(0, .xp [0] 0 0), (4, .ptr 0 0), (6, .val (.int .i64 (p : Int))), (7, .val (.bool false))], [(0, ⟨40, d0.list.map SV.val⟩)]⟩ : Cut).st 1) (grab Tryd.prog Tryd.f23 [] [] 0) =
    some (Res.ret (.val (.tuple #[d0.agg, .bool false]))) := by kernel_rfl
namespace S
def get (t : Tb) (k : K) : D := match mget t.m k with
  | some p => (t.E p).d
  | none => d0
end S
theorem Get.calls {B : Nat} {w : World} {t : Tb} {k : K} (hO : OwnT B w t) (hp : ∀ p, mget t.m k = some p → p < t.n) :
    Calls Tryd.prog 23 #[pt t.gb, k.agg] w fun e w' => e = .returned (.tuple #[(S.get t k).agg, .bool (mget t.m k).isSome]) ∧ Below w.heap.size w w' := by
  refine enter_vals (vs := [pt t.gb, k.agg]) (N := 29) Tryd.func23 (by kernel_rfl) (by kernel_rfl) (show 2 ≤ 29 by decide) fun a0 h0 => ?_
  show wpL Tryd.prog gt _ _ _
  rw [gt_eq, wpL_app]
  refine pieceZ (gt0 t.gb k) h0 (fun v hv => by cases hv) (fun ex c hc m a1 w1 hr => ?_)
  cases hc
  have hb1 := SR.bel hr
  have ⟨hg3, hw3⟩ := SR.own (b := 0) (l := k.list) (ty := 34) hr rfl
  have ⟨hg4, hw4⟩ := SR.own (b := 1) (l := d0.list) (ty := 40) hr rfl
  have K1 : Kp 29 [(0, pt t.gb), (3, pt (m 0)), (4, pt (m 1))] a1 := SR.kp hr fun p hp => by
    simp only [List.mem_cons, List.not_mem_nil, or_false] at hp
    rcases hp with rfl | rfl | rfl
    · exact ⟨rfl, @den_val row0 _ _⟩
    · exact ⟨rfl, @den_ptr row0 _ _ _⟩
    · exact ⟨rfl, @den_ptr row0 _ _ _⟩
  generalize m 0 = kb at hg3 hw3 K1
  generalize m 1 = db at hg4 hw4 K1
  refine lkG_reg (hO.bel hb1) hw3 K1 fun a2 w2 K2 hh2 hb2 hO2 => ?_
  have hb12 := hb1.trans (hb2.mono hb1.size)
  have hw42 : w2.heap[db]? = some (.cells d0.list.toArray 40 (0, 0)) := by rw [hh2]; exact hw4
  show wpL Tryd.prog [gt.getD 2 .skip, gt.getD 3 .skip, gt.getD 4 .skip, gt.getD 5 .skip] _ a2 w2
  have hI : @XOk (rowsT0 t) w := hO.xok0
  have hsr : ∀ b : Bool, (mget t.m k).isSome = b → @SR (rowsT0 t) w 29 (fun _ => db) ((Cut.mk [(0, .xp [0] 0 0), (4, .ptr 0 0), (6, .val (.int .i64 (((mget t.m k).getD 0 : Nat) : Int))), (7, .val (.bool b))] [(0, ⟨40, d0.list.map SV.val⟩)]).st 1) a2 w2 := fun b hb => by
    refine epoch1 (e := rowsT0 t) hb12 hg4 hw42 K2 (fun q hq => ?_) fun q hq => ?_
    · simp only [List.mem_cons, List.not_mem_nil, or_false] at hq
      rcases hq with rfl | rfl | rfl | rfl
      · rw [den_t]; simp
      · rw [@den_ptr (rowsT0 t)]; simp
      · rw [@den_val (rowsT0 t)]; simp
      · rw [@den_val (rowsT0 t), ← hb]; simp
    · simp only [List.mem_cons, List.not_mem_nil, or_false] at hq
      rcases hq with rfl | rfl | rfl | rfl
      · exact ok_t t _ _
      · exact (@ok_ptr (rowsT0 t) _ _ _).2 rfl
      · exact @ok_val (rowsT0 t) _ _
      · exact @ok_val (rowsT0 t) _ _
  letI := rowsT0 t
  have C := ctx0T t
  cases hmg : mget t.m k with
  | some p =>
    have hr2 := hsr true (by rw [hmg]; rfl)
    rw [hmg] at hr2
    have ev := gt1 t p
    rw [decide_eq_true (by omega : (0 : Int) ≤ (p : Int)), decide_eq_true (by have := hp p hmg; omega : (p : Int) < (t.n : Int)), Int.toNat_natCast] at ev
    refine piece C.mix C.hX C.hs C.hXO C.hG ev (w0 := w) hI hr2 (fun v hv m' a' w' hd hres hb' => ?_) (fun ex d hd => by cases hd)
    cases hv
    rw [den_val] at hres
    refine ⟨hd, _, hres, ?_, hb'⟩
    unfold S.get
    rw [hmg]
    rfl
  | none =>
    have hr2 := hsr false (by rw [hmg]; rfl)
    rw [hmg] at hr2
    refine piece C.mix C.hX C.hs C.hXO C.hG (gt2 t 0) (w0 := w) hI hr2 (fun v hv m' a' w' hd hres hb' => ?_) (fun ex d hd => by cases hd)
    cases hv
    rw [den_val] at hres
    refine ⟨hd, _, hres, ?_, hb'⟩
    unfold S.get
    rw [hmg]
    rfl
noncomputable def ln : List Code := bodyOf Tryd.f20
noncomputable def ln1 : Array Oper := opsOf (ln.getD 1 .skip)
theorem ln_eq : ln = [ln.getD 0 .skip] ++ [.region 1 ln1 false, .ret] := by kernel_rfl
theorem ln1_eq : ln1.toList = ln1.toList.take 4 ++ [ln1.toList.getD 4 default, ln1.toList.getD 5 default] := by kernel_rfl
theorem ln0 (gb : Nat) : letI := row0
    evK Tryd.prog ext (tab []) 60 8 (seqL [ln.getD 0 .skip]) (⟨argS ([pt gb].map SV.val), fun _ => none, 0⟩) (grab Tryd.prog Tryd.f20 [0] [] 0) = some (Res.cut Ex.normal ⟨[(0, .val (pt gb))], []⟩) := by kernel_rfl
theorem ln1_v (t : Tb) : letI := rowsT0 t
    (reads Tryd.prog 8 (ln1.toList.take 4) (pickT [(0, .xp [0] 0 0)])).map (fun p => ([6].map p)) = some [.val (.map (some t.mb))] := by kernel_rfl
theorem ln1_5 (n : Int) : letI := row0
    evP Tryd.prog (Ev.look (pickT [(7, .val (.int .i64 n))])) (ln1.toList.getD 5 default) = some (.val (.int .i64 n)) := by kernel_rfl
theorem ln2 (n : Int) : letI := row0
    evK Tryd.prog ext (tab []) 60 8 (seqL [.ret]) ((⟨[(2, .val (.int .i64 n))], []⟩ : Cut).st 0) (grab Tryd.prog Tryd.f20 [] [] 0) = some (Res.ret (.val (.int .i64 n))) := by kernel_rfl
theorem mlen_run {o : Oper} {a : Act} {w : World} {x : Operand} {b c : Nat} {m : List Me} (ho : o.op = .call { callee := .builtin .len, args := #[x], argTypes := #[56] }) (hx : a.eval x = .map (some b)) (hb : w.heap[b]? = some (mobj m c)) :
    (execOp a.eval o).run Tryd.prog w = .ok (.value (.int .i64 (m.length : Int))) w := by
  unfold execOp
  simp only [ho, resolve, invoke, builtin, Sem.run_bind, Sem.run_pure, Result.andThen_ok, List.map_toArray, List.map_cons, List.map_nil, hx, run_mlen hb]
theorem Len.calls {B : Nat} {w : World} {t : Tb} (hO : OwnT B w t) : Calls Tryd.prog 20 #[pt t.gb] w fun e w' => e = .returned (.int .i64 (t.m.length : Int)) ∧ Below w.heap.size w w' := by
  refine enter_vals (vs := [pt t.gb]) (N := 8) Tryd.func20 (by kernel_rfl) (by kernel_rfl) (show 1 ≤ 8 by decide) fun a0 h0 => ?_
  show wpL Tryd.prog ln _ _ _
  rw [ln_eq, wpL_app]
  refine pieceZ (ln0 t.gb) h0 (fun v hv => by cases hv) (fun ex c hc m a1 w1 hr => ?_)
  cases hc
  have hb1 := SR.bel hr
  have K1 : Kp 8 [(0, pt t.gb)] a1 := SR.kp hr fun p hp => by
    obtain rfl := List.mem_singleton.1 hp
    exact ⟨rfl, @den_val row0 _ _⟩
  have hO1 := hO.bel hb1
  refine wp_region_list ?_
  rw [ln1_eq]
  refine read_kp (e := rowsT0 t) (us := [.map (some t.mb)]) hO1.xok0 (ln1_v t) K1 (fun q hq => ?_) ?_ (by kernel_rfl) fun a2 K2 => ?_
  · obtain rfl := List.mem_singleton.1 hq
    exact ⟨by rw [den_t]; simp, ok_t t _ _⟩
  · simp only [List.map_cons, List.map_nil, @den_val (rowsT0 t)]
  refine wpList_val (by kernel_rfl) (mlen_run (x := .tmp 6) (by kernel_rfl) (K2.get (d := 6) (by simp)) hO1.map.1) ?_
  have K3 := K2.put (d := 7) (v := .int .i64 (t.m.length : Int)) rfl
  rw [show (ln1.toList.getD 4 default).dst = some 7 by kernel_rfl]
  generalize a2.put (some 7) (.int .i64 (t.m.length : Int)) = a3 at K3 ⊢
  refine one_evL (e := row0) (by kernel_rfl) (xok_0 _) K3 (fun q hq => ?_) (ln1_5 (t.m.length : Int)) (d := 2) (by kernel_rfl) (by kernel_rfl) fun a4 K4 => ?_
  · obtain rfl := List.mem_singleton.1 hq
    exact ⟨by rw [@den_val row0]; simp, @ok_val row0 _ _⟩
  rw [@den_val row0] at K4
  show wpL Tryd.prog [.ret] _ a4 w1
  refine pieceZ (ln2 (t.m.length : Int)) ((K4.sub (us := [(2, .int .i64 (t.m.length : Int))]) (by simp)).sr w1) (fun v hv m' a' w' hd hres hb' => ?_) (fun ex d hd => by cases hd)
  cases hv
  rw [@den_val row0] at hres
  exact ⟨hd, _, hres, rfl, hb1.trans (hb'.mono hb1.size)⟩
noncomputable def nwT : List Code := bodyOf Tryd.f12
noncomputable def nw1 : Array Oper := opsOf (nwT.getD 1 .skip)
theorem nw_eq : nwT = [nwT.getD 0 .skip] ++ [.region 1 nw1 false, .ret] := by kernel_rfl
theorem nw1_eq : nw1.toList = nw1.toList.getD 0 default :: (nw1.toList.drop 1 ++ []) := by kernel_rfl
theorem nw0 : letI := row0
    evK Tryd.prog ext (tab []) 60 4 (seqL [nwT.getD 0 .skip]) (⟨argS ([].map SV.val), fun _ => none, 0⟩) (grab Tryd.prog Tryd.f12 [] [] 0) = some (Res.cut Ex.normal ⟨[], []⟩) := by kernel_rfl
theorem nw1_v (b : Nat) : letI := row0
    evOpsK Tryd.prog ext (callWithK Tryd.prog (tab []) (evK Tryd.prog ext (tab []) 20)) nw1 4 (nw1.toList.drop 1) ((⟨[(1, .val (.map (some b)))], []⟩ : Cut).st 0) (fun st => cutS [0] [0] 1 st) = some ⟨[(0, .ptr 0 0)], [(0, ⟨80, [Value.slice none 0 0, .map (some b), .int .u64 0].map SV.val⟩)]⟩ := by kernel_rfl
theorem nw2 (b : Nat) : letI := row0
    evK Tryd.prog ext (tab []) 60 4 (seqL [.ret]) ((⟨[(0, .val (pt b))], []⟩ : Cut).st 0) (grab Tryd.prog Tryd.f12 [] [] 0) = some (Res.ret (.val (pt b))) := by kernel_rfl
theorem New.calls {w : World} : Calls Tryd.prog 12 #[] w fun e w' => ∃ g mb, e = .returned (pt g) ∧ Below w.heap.size w w' ∧ ∀ E, OwnT w.heap.size w' ⟨g, mb, none, 0, 0, E, 0, [], 0⟩ := by
  refine enter_vals (vs := []) (N := 4) Tryd.func12 (by kernel_rfl) (by kernel_rfl) (show 0 ≤ 4 by decide) fun a0 h0 => ?_
  show wpL Tryd.prog nwT _ _ _
  rw [nw_eq, wpL_app]
  refine pieceZ nw0 h0 (fun v hv => by cases hv) (fun ex c hc m a1 w1 hr => ?_)
  cases hc
  have hb1 := SR.bel hr
  have s1 := hb1.size
  have K1 : Kp 4 [] a1 := SR.kp hr fun p hp => by cases hp
  refine wp_region_list ?_
  rw [nw1_eq]
  have hrun : (execOp a1.eval (nw1.toList.getD 0 default)).run Tryd.prog w1 = .ok (.value (.map (some w1.heap.size))) (w1.alloc (.map #[] 0)) := by
    have ho : (nw1.toList.getD 0 default).op = .makeMap 56 none := by kernel_rfl
    unfold execOp
    simp only [ho, Option.map_none, Sem.run_bind, run_makeMap, Result.andThen_ok, Sem.run_pure]
  refine wpList_plain (by kernel_rfl) fun K hK => ?_
  unfold Oper.wp
  rw [hrun, Oper.upon_value, show (nw1.toList.getD 0 default).dst = some 1 by kernel_rfl]
  have K2 := K1.put (d := 1) (v := .map (some w1.heap.size)) rfl
  generalize a1.put (some 1) (.map (some w1.heap.size)) = a2 at K2 ⊢
  refine hK _ _ ?_
  have hb2 : Below w1.heap.size w1 (w1.alloc (.map #[] 0)) := (Below.refl w1.heap.size w1).alloc (Nat.le_refl _) _
  have hm2 : (w1.alloc (.map #[] 0)).heap[w1.heap.size]? = some (mobj [] 0) := World.alloc_heap_new w1 _
  generalize w1.alloc (.map #[] 0) = w2 at hb2 hm2 ⊢
  letI := row0
  have C := Ap.ctx0
  refine opsPiece C.mix C.hX C.hs C.hXO C.hG (nw1_v w1.heap.size) (w0 := w2) trivial (K2.sr w2) fun m3 a3 w3 hr3 => ?_
  have hb3 := SR.bel hr3
  have ⟨hg3, hw3⟩ := SR.own (b := 0) (ty := 80) hr3 rfl
  have K3 : Kp 4 [(0, pt (m3 0))] a3 := SR.kp hr3 fun p hp => by
    obtain rfl := List.mem_singleton.1 hp
    exact ⟨rfl, den_ptr _ _ _⟩
  show wpL Tryd.prog [.ret] _ a3 w3
  refine pieceZ (nw2 (m3 0)) (K3.sr w3) (fun v hv m' a' w' hd hres hb' => ?_) (fun ex d hd => by cases hd)
  cases hv
  rw [den_val] at hres
  have hb23 := hb3.trans (hb'.mono hb3.size)
  have s2 := hb2.size
  have s3 := hb3.size
  refine ⟨hd, _, hres, _, w1.heap.size, rfl, hb1.trans ((hb2.trans (hb23.mono s2)).mono s1), fun E => ?_⟩
  refine ⟨own_new (l := [Value.slice none 0 0, .map (some w1.heap.size), .int .u64 0]) rfl (by show w.heap.size ≤ m3 0; omega) ?_, ⟨rfl, .inl ⟨rfl, rfl⟩⟩, ?_, s1⟩
  · exact (hb'.block _ (Array.getElem?_eq_some_iff.1 hw3).1).trans hw3
  · exact (hb23.block _ (Array.getElem?_eq_some_iff.1 hm2).1).trans hm2
end Go.Proofs.YtbpdpnoekkkapaaDoor.PDescKinds
end
section
namespace Go.Proofs.YtbpdpnoekkkapaaDoor.PDescKinds
open Go.RowKit Go.Ev Go.Proofs.YtbpdpnoekkkapaaDoorV.PrintLast
set_option maxRecDepth 100000
structure Open (F : Fence) : Prop where
  fn : ∀ f, F.fn f
  depth : F.depth.isSome = false
  calls : ∀ (n : Nat) (P : Program) (f : FuncId) (args : Array Value) (w : World) (R : Ending → World → Prop), Calls P f args w R → CallsIn F n P f args w R
  rows : ∀ (n : Nat) (P : Program) (row : String) (args : Array Value) (w : World) (R : Value → World → Prop), Rows P row args w R → RowsIn F n P row args w R
theorem open_wide : Open Fence.wide := ⟨fun _ => trivial, rfl, fun _ _ _ _ _ _ h => callsIn_wide.2 h, fun _ _ _ _ _ _ h c cs _ => let ⟨v, w', r, s⟩ := h c cs; ⟨v, w', r, stepsIn_wide.2 s⟩⟩
theorem open_round (l : Nat) : Open (Fence.wide.inRound l) := ⟨open_wide.fn, rfl, fun n P f args w R h => open_wide.calls n P f args w R h, fun n P row args w R h => open_wide.rows n P row args w R h⟩
def noDefer (o : Oper) : Bool := match o.op with
  | .defer _ => false
  | _ => true
theorem sem_in {ro : Option Nat} {ρ : Operand → Value} {o : Oper} (h : noDefer o = true) : Oper.semAt ro ρ o = execOp ρ o := by
  cases ro with
  | none => rfl
  | some l => exact Oper.semAt_some l ρ o fun c hc => by rw [noDefer, hc] at h; cases h
theorem oper_in {F : Fence} (hF : Open F) {n : Nat} {P : Program} {o : Oper} {a : Act} {w : World} {next next' : Act → World → Prop} {Q1 Q : Exit → Act → World → Prop} (hd : noDefer o = true) (hn : ∀ a w, next a w → next' a w)
    (hq : ∀ e a w, e ≠ .normal → Q1 e a w → Q e a w) (h : o.wp P a w next Q1) : o.wpIn F n P a w next' Q := by
  refine ⟨fun f _ => hF.fn f, ?_⟩
  rw [sem_in hd]
  unfold Oper.wp at h
  generalize (execOp a.eval o).run P w = r at h
  have hdp : F.depth.isSome = true → 1 ≤ n := fun e => by rw [hF.depth] at e; cases e
  unfold Oper.upon at h
  unfold Oper.uponIn
  split at h
  · exact hn _ _ h
  · exact hn _ _ h
  · exact hn _ _ h
  · refine ⟨hdp, hF.calls _ _ _ _ _ _ (Calls.mono h fun e w' hr => ?_)⟩
    cases e with
    | returned v => exact hn _ _ hr
    | panicked chain => exact hq _ _ _ (by simp) hr
    | outgrown =>
      obtain ⟨a0, w0, h0⟩ := hr
      exact ⟨a0, w0, hq _ _ _ (by simp) h0⟩
  · refine ⟨hdp, hF.rows _ _ _ _ _ _ (Rows.mono h fun v w' hr => hn _ _ hr)⟩
  · exact hq _ _ _ (by simp) h
  · exact h.elim
theorem list_in {F : Fence} (hF : Open F) {n : Nat} {P : Program} {os : Array Oper} {Q : Exit → Act → World → Prop} {K : Act → World → Prop} {rest : List Oper} (hno : ∀ a w, ¬ Q .outgrown a w) : ∀ (l : List Oper) (a : Act) (w : World), l.all noDefer = true →
    wpList P os (fun e a w => match e with | .normal => K a w | e => Q e a w) l a w → (∀ a w, K a w → wpListIn F n P os Q rest a w) → wpListIn F n P os Q (l ++ rest) a w
  | [], a, w, _, h, hk => hk a w h
  | o :: r, a, w, hd, h, hk => by
    simp only [List.all_cons, Bool.and_eq_true] at hd
    show wpListIn F n P os Q (o :: (r ++ rest)) a w
    unfold wpListIn
    unfold wpList at h
    by_cases hw : Region.wanted o (yielded os a.tmps) = true
    · rw [if_pos hw] at h ⊢
      have h := h.resolve_right fun ⟨_, a0, w0, h0⟩ => hno a0 w0 h0
      exact oper_in hF hd.1 (fun a' w' h' => list_in hF hno r a' w' hd.2 h' hk) (fun e a w he h => by cases e <;> first | exact h | exact absurd rfl he) h
    · rw [if_neg hw] at h ⊢
      exact ⟨fun f _ => hF.fn f, list_in hF hno r _ w hd.2 h hk⟩
theorem region_in {F : Fence} (hF : Open F) {n : Nat} {P : Program} {id : Nat} {os : Array Oper} {Q : Exit → Act → World → Prop} {a : Act} {w : World} (hno : ∀ a w, ¬ Q .outgrown a w) (hd : os.toList.all noDefer = true)
    (h : wpList P os (fun e a w => match e with | .normal => Q .normal a w | e => Q e a w) os.toList a w) : (Code.region id os false).wpIn F n P Q a w := by
  refine wpIn_region_list ?_
  rw [← List.append_nil os.toList]
  exact list_in hF hno os.toList a w hd h fun a w h => h
end Go.Proofs.YtbpdpnoekkkapaaDoor.PDescKinds
end
section
namespace Go.Proofs.YtbpdpnoekkkapaaDoor.PDescKinds
open Go.RowKit Go.Ev Go.Proofs.YtbpdpnoekkkapaaDoorV.PrintLast
set_option maxRecDepth 100000
def frE (f : Nat → K × D) (j : Nat) : En := ⟨(f j).1, (f j).2, j + 1, false⟩
def e0 : En := ⟨k0, d0, 0, false⟩
def enAt (f : Nat → K × D) (n j : Nat) : En := bif Nat.blt j n then frE f j else e0
structure Tk where
  gb : Nat
  mb : Nat
  A : Option Addr
  c : Nat
  f : Nat → K × D
  last : Nat
  m : List Me
  cl : Nat
abbrev Tk.tb (x : Tk) (n : Nat) : Tb := ⟨x.gb, x.mb, x.A, n, x.c, frE x.f, x.last, x.m, x.cl⟩
def bxT (b : Nat) : XR := ⟨some ⟨b, 0, none⟩, 1, 1, 1, fun _ => [.xp [0] 0 0]⟩
@[instance_reducible] def rowsW (b : Nat) (x : Tk) (n : Nat) (y : XR) : XEnv := rowsT (x.tb n) (two2 (bxT b) y)
noncomputable def ea : List Code := bodyOf Tryd.f37
noncomputable def eaR : List Code := flat (roundOf ea)
noncomputable def eaB : List Code := flat (inB (eaR.getD 2 .skip))
noncomputable def ea5 : Array Oper := opsOf (eaB.getD 1 .skip)
theorem ea_eq : ea = [ea.getD 0 .skip, ea.getD 1 .skip] ++ [.block 0 (.loop (roundOf ea))] := by kernel_rfl
theorem eaR_eq : eaR = [eaR.getD 0 .skip, eaR.getD 1 .skip] ++ [.block 1 (inB (eaR.getD 2 .skip)), eaR.getD 3 .skip, eaR.getD 4 .skip, eaR.getD 5 .skip] := by kernel_rfl
theorem eaB_eq : eaB = [eaB.getD 0 .skip] ++ [.region 5 ea5 false, .cond (.tmp 29) .ret .skip] := by kernel_rfl
theorem ea5_eq : ea5.toList = ea5.toList.take 7 ++ [ea5.toList.getD 7 default, ea5.toList.getD 8 default] := by kernel_rfl
theorem ea0 (b : Nat) (x : Tk) (yv : Value) : ∀ n, n ≤ 2 → letI := rowsW b x n noXR
    evK Tryd.prog ext (tab []) 100 31 (seqL [ea.getD 0 .skip, ea.getD 1 .skip]) (⟨argS [.val yv, .xp [2] 0 0], fun _ => none, 0⟩) (grab Tryd.prog Tryd.f37 [0, 1, 3, 4, 5] [0] 10) =
    some (Res.cut Ex.normal ⟨[(0, .val yv), (1, .xp [2] 0 0), (3, .val (.int .u64 0)), (4, .ptr 0 0), (5, .val (.bool (Nat.blt 0 n)))], [(0, ⟨84, (enAt x.f n 0).list.map SV.val⟩)]⟩)
  | 0, _ => by kernel_rfl
  | 1, _ => by kernel_rfl
  | 2, _ => by kernel_rfl
theorem ea3 (b : Nat) (x : Tk) (yv : Value) (g : Nat) : ∀ n j, j < n → n ≤ 2 → letI := rowsW b x n (bxR g (frE x.f j).list)
    evK Tryd.prog ext (tab []) 100 31 (seqL [eaR.getD 3 .skip, eaR.getD 4 .skip, eaR.getD 5 .skip]) ((⟨[(0, .val yv), (1, .xp [2] 0 0), (3, .val (.int .u64 ((j + 1 : Nat) : Int))), (4, .xp [3] 0 0)], []⟩ : Cut).st 0) (grab Tryd.prog Tryd.f37 [0, 1, 3, 4, 5] [0] 10) =
    some (Res.cut Ex.normal ⟨[(0, .val yv), (1, .xp [2] 0 0), (3, .val (.int .u64 ((j + 1 : Nat) : Int))), (4, .ptr 0 0), (5, .val (.bool (Nat.blt (j + 1) n)))], [(0, ⟨84, (enAt x.f n (j + 1)).list.map SV.val⟩)]⟩)
  | 1, 0, _, _ => by kernel_rfl
  | 2, 0, _, _ => by kernel_rfl
  | 2, 1, _, _ => by kernel_rfl
  | 0, _, h, _ => absurd h (Nat.not_lt_zero _)
  | 1, j + 1, h, _ => absurd h (by omega)
  | 2, j + 2, h, _ => absurd h (by omega)
  | n + 3, _, _, h => absurd h (by omega)
theorem eaC (a b c d : Value) (q : Bool) : letI := row0
    evK Tryd.prog ext (tab []) 60 31 (seqL [eaR.getD 0 .skip, eaR.getD 1 .skip]) ((⟨[(0, .val a), (1, .val b), (3, .val c), (4, .val d), (5, .val (.bool q))], []⟩ : Cut).st 0) (grab Tryd.prog Tryd.f37 [0, 1, 3, 4] [] 0) =
    bif q then some (Res.cut Ex.normal ⟨[(0, .val a), (1, .val b), (3, .val c), (4, .val d)], []⟩) else some (Res.cut (Ex.exit 0) ⟨[(0, .val a), (1, .val b), (3, .val c), (4, .val d)], []⟩) := by kernel_rfl
@[instance_reducible] def rows1 (y : XR) : XEnv := rowsN (nth [y])
theorem ea1 (g : Nat) (f : Nat → K × D) (j : Nat) (a b c : Value) : letI := rows1 (bxR g (frE f j).list)
    evK Tryd.prog ext (tab []) 60 31 (seqL [eaB.getD 0 .skip]) ((⟨[(0, .val a), (1, .val b), (3, .val c), (4, .xp [0] 0 0)], []⟩ : Cut).st 0) (grab Tryd.prog Tryd.f37 [0, 1, 3, 4] [] 0) =
    some (Res.cut Ex.normal ⟨[(0, .val a), (1, .val b), (3, .val (.int .u64 ((j + 1 : Nat) : Int))), (4, .xp [0] 0 0)], []⟩) := by kernel_rfl
theorem ea2 (g : Nat) (f : Nat → K × D) (j : Nat) (a b c : Value) : letI := rows1 (bxR g (frE f j).list)
    evOpsK Tryd.prog ext (callWithK Tryd.prog (tab []) (evK Tryd.prog ext (tab []) 20)) ea5 31 (ea5.toList.take 7) ((⟨[(0, .val a), (1, .val b), (3, .val c), (4, .xp [0] 0 0)], []⟩ : Cut).st 0) (fun st => cutS [0, 1, 3, 4, 21, 24, 27] [] 0 st) =
    some ⟨[(0, .val a), (1, .val b), (3, .val c), (4, .xp [0] 0 0), (21, .val a), (24, .val (f j).1.agg), (27, .val (f j).2.agg)], []⟩ := by kernel_rfl
theorem ea5_8 (q : Bool) : letI := row0
    evP Tryd.prog (Ev.look (pickT [(28, .val (.bool q))])) (ea5.toList.getD 8 default) = some (.val (.bool (!q))) := by kernel_rfl
def YieldOk (l : Nat) (vs : Array Value) (w : World) (R : Ending → World → Prop) : Prop :=
  ∃ f tmps assign body, (Instr.yield l vs).run Tryd.prog w = .ok (.round l f tmps assign body) w ∧ RoundIn Fence.wide 0 Tryd.prog l f tmps assign body w R
abbrev yv (l : Nat) : Value := .func (.yield l) #[] #[]
theorem yield_run {o : Oper} {a : Act} {w w' : World} {l x : Nat} {y z : Operand} {u v : Value} {r : Next} {ats : Array TypeId} (ho : o.op = .call { callee := .value (.tmp x), args := #[y, z], argTypes := ats }) (hx : a.eval (.tmp x) = yv l) (hy : a.eval y = u) (hz : a.eval z = v)
    (h : (Instr.yield l #[u, v]).run Tryd.prog w = .ok r w') : (execOp a.eval o).run Tryd.prog w = .ok r w' := by
  unfold execOp
  simp only [ho, resolve, hx, hy, hz, Deferred.ofValue, invoke, Sem.run_bind, Sem.run_pure, Result.andThen_ok, List.map_toArray, List.map_cons, List.map_nil, h]
  rw [show (#[] ++ #[u, v] : Array Value) = #[u, v] by simp]
  exact h
structure Rounds (l n : Nat) (f : Nat → K × D) (J : (Nat → Prop) → Nat → World → Prop) : Prop where
  grow : ∀ X j w w', J X j w → Below w.heap.size w w' → J (fun k => X k ∨ (w.heap.size ≤ k ∧ k < w'.heap.size)) j w'
  round : ∀ X j w, J X j w → j < n → YieldOk l #[(f j).1.agg, (f j).2.agg] w fun e w' => e = .returned (.bool true) ∧ J X (j + 1) w' ∧ w.heap.size ≤ w'.heap.size ∧ ∀ k, X k → k < w.heap.size → w'.heap[k]? = w.heap[k]?
theorem denW (b : Nat) (x : Tk) (n : Nat) (y : XR) (m : Nat → Nat) : @SV.den (rowsW b x n y) m (.xp [2] 0 0) = pt b := by
  rw [@den_xp (rowsW b x n y)]
  show Value.pointer (some ((⟨b, 0, none⟩ : Addr).add (0 * 1 + 0))) = _
  rw [Nat.zero_mul, add_none]
theorem okW (b : Nat) (x : Tk) (n : Nat) (y : XR) (mem : Mem) : @SV.ok (rowsW b x n y) mem (.xp [2] 0 0) := (@ok_xp (rowsW b x n y) _ _ _ _).2 Nat.zero_lt_one
theorem denWg (b : Nat) (x : Tk) (n g : Nat) (l : List Value) (m : Nat → Nat) : @SV.den (rowsW b x n (bxR g l)) m (.xp [3] 0 0) = pt g := den_x (x.tb n) _ g 1 l rfl m
theorem okWg (b : Nat) (x : Tk) (n g : Nat) (l : List Value) (mem : Mem) : @SV.ok (rowsW b x n (bxR g l)) mem (.xp [3] 0 0) := ok_x (x.tb n) _ g 1 l rfl mem
theorem bxT_row {w : World} {b : Nat} {x : Tk} {n : Nat} {y : XR} (h : w.heap[b]? = some (.cells #[pt x.gb] 29 (0, 0))) : @XRow (rowsW b x n y) w (bxT b) :=
  xrow_den (l := [.xp [0] 0 0]) (vs := [pt x.gb]) rfl (fun s hs mem => by
    obtain rfl := List.mem_singleton.1 hs
    exact ok_t _ _ _) (fun m => by
    show [@SV.den (rowsW b x n y) m (.xp [0] 0 0)] = _
    rw [den_t]) (Array.getElem?_eq_some_iff.1 h).1 (fun k u hk => by
    rw [add_none, cell_of_row w b _ _ 29 (0, 0) h]
    simpa using hk) (Nat.le_refl _)
theorem xokW {B : Nat} {w : World} {b : Nat} {x : Tk} {n : Nat} {y : XR} (hO : OwnT B w (x.tb n)) (h : w.heap[b]? = some (.cells #[pt x.gb] 29 (0, 0))) (hy : ∀ e : XEnv, @XRow e w y) : @XOk (rowsW b x n y) w := fun r => match r with
  | [] => fun j hj => absurd hj (Nat.not_lt_zero _)
  | _ :: _ :: _ => fun j hj => absurd hj (Nat.not_lt_zero _)
  | [0] => by
    obtain ⟨_, h1, h2⟩ := own_cell (l := (x.tb n).vals) rfl hO.box
    exact xrow_den (l := [.xs [1], .val (.map (some x.mb)), .val (.int .u64 (x.last : Int))]) (vs := (x.tb n).vals) rfl (fun s hs mem => by
      simp only [List.mem_cons, List.not_mem_nil, or_false] at hs
      rcases hs with rfl | rfl | rfl <;> first | exact @ok_val (rowsW b x n y) _ _ | exact @ok_xs (rowsW b x n y) _ _) (fun m => by
      simp only [List.map_cons, List.map_nil, @den_val (rowsW b x n y), @den_xs (rowsW b x n y)]
      rfl) h1 h2 (Nat.le_refl _)
  | [1] => xrow_own (fun j => En.len _) hO.row
  | [2] => bxT_row h
  | [3] => hy _
  | [n + 4] => noX_row _ w
theorem ctxW (b : Nat) (x : Tk) (n : Nat) (y : XR) : @Ctx (rowsW b x n y) Tryd.prog ext (tab []) (fun w => @XOk (rowsW b x n y) w) := by
  letI := rowsW b x n y
  exact ⟨mixed, ext_sound, fun w w' h hb => XOk.below h hb, fun w h => h, tab_sound fun p hp => by cases hp⟩
theorem blt_t {j n : Nat} (h : j < n) : Nat.blt j n = true := by simpa [Nat.blt_eq] using h
theorem blt_f {j n : Nat} (h : n ≤ j) : Nat.blt j n = false := by
  cases hb : Nat.blt j n with
  | false => rfl
  | true => rw [Nat.blt_eq] at hb; omega
theorem ctxN (x : Nat → XR) : @Ctx (rowsN x) Tryd.prog ext (tab []) (fun w => @XOk (rowsN x) w) := by
  letI := rowsN x
  exact ⟨mixed, ext_sound, fun w w' h hb => XOk.below h hb, fun w h => h, tab_sound fun p hp => by cases hp⟩
theorem pieceE (e : XEnv) {G : GFn} {I : World → Prop} (C : @Ctx e Tryd.prog ext G I) {N k : Nat} {l : List Code} {fn : Func} {st : St} {ts bs : List Nat} {next : Nat} {r : Res} {m : Nat → Nat} {a : Act} {w0 w : World} {Q : Exit → Act → World → Prop}
    (h : @evK e _ Tryd.prog ext G k N (seqL l) st (grab Tryd.prog fn ts bs next) = some r) (hI : I w0) (hr : @SR e w0 N m st a w)
    (hret : ∀ v, r = .ret v → ∀ m' a' w', a'.defers = [] → (results fn a'.tmps).run Tryd.prog w' = .ok (@SV.den e m' v) w' → Below w0.heap.size w0 w' → Q .ret a' w')
    (hcut : ∀ ex d, r = .cut ex d → ∀ m' a' w', @SR e w0 N m' (d.st next) a' w' → Q ex.out a' w') : wpL Tryd.prog l Q a w := by
  letI := e
  exact piece C.mix C.hX C.hs C.hXO C.hG h (w0 := w0) hI hr hret hcut
theorem opsE (e : XEnv) {G : GFn} {I : World → Prop} (C : @Ctx e Tryd.prog ext G I) {os : Array Oper} {N k : Nat} {l rest : List Oper} {st : St} {ts bs : List Nat} {next : Nat} {c : Cut} {m : Nat → Nat} {a : Act} {w0 w : World} {Q : Exit → Act → World → Prop}
    (h : @evOpsK e _ Tryd.prog ext (callWithK Tryd.prog G (@evK e _ Tryd.prog ext G k)) os N l st (fun st => cutS ts bs next st) = some c) (hI : I w0) (hr : @SR e w0 N m st a w)
    (hk : ∀ m' a' w', @SR e w0 N m' (c.st next) a' w' → wpList Tryd.prog os Q rest a' w') : wpList Tryd.prog os Q (l ++ rest) a w := by
  letI := e
  exact opsPiece C.mix C.hX C.hs C.hXO C.hG h hI hr hk
theorem epochE (e : XEnv) {N : Nat} {a : Act} {w : World} {ss : List (Nat × SV)} {ts : List (Nat × Value)} (hk : Kp N ts a) (hs : ∀ p ∈ ss, (p.1, @SV.den e (fun _ => 0) p.2) ∈ ts ∧ @SV.ok e (fun _ => none) p.2) : @SR e w N (fun _ => 0) ((Cut.mk ss []).st 0) a w := by
  letI := e
  exact epoch hk.size hk.defers _ _ (fun p hp => hk.vals _ (hs p hp).1) fun p hp => (hs p hp).2
theorem lt' {w : World} {k : Nat} {o : Obj} (e : w.heap[k]? = some o) : k < w.heap.size := (Array.getElem?_eq_some_iff.1 e).1
structure EaAt (B l n b : Nat) (x : Tk) (J : (Nat → Prop) → Nat → World → Prop) (X : Nat → Prop) (j g : Nat) (a : Act) (w : World) : Prop where
  kp : Kp 31 [(0, yv l), (1, pt b), (3, .int .u64 (j : Int)), (4, pt g), (5, .bool (Nat.blt j n))] a
  own : OwnT B w (x.tb n)
  box : w.heap[b]? = some (.cells #[pt x.gb] 29 (0, 0))
  ent : w.heap[g]? = some (.cells (enAt x.f n j).list.toArray 84 (0, 0))
  inv : J X j w
  tx : ∀ k, (x.tb n).blk k → X k
  bx : X b
  gx : X g
theorem OwnT.kept {B : Nat} {w w' : World} {t : Tb} (h : OwnT B w t) (hs : ∀ k, t.blk k → w'.heap[k]? = w.heap[k]?) : OwnT B w' t :=
  ⟨ownsRow_same h.box fun g hg => hs g (.inl (by cases hg; rfl)), ownsRow_same h.row fun g hg => hs g (.inr (.inr hg)), (hs _ (.inr (.inl rfl))).trans h.map.1, h.map.2⟩
section
variable {B l n b : Nat} {x : Tk} {J : (Nat → Prop) → Nat → World → Prop}
set_option maxHeartbeats 1000000 in
theorem Each1.loop (hn : n ≤ 2) (hJ : Rounds l n x.f J) {X0 : Nat → Prop} {w0 : World} {Q : Exit → Act → World → Prop} (hno : ∀ a w, ¬ Q .outgrown a w)
    (hQ : ∀ X a w, a.defers = [] → a.tmps.size = 31 → J X n w → (∀ k, X0 k → w.heap[k]? = w0.heap[k]?) → Q (.exit 0) a w) : ∀ (r j : Nat) (X : Nat → Prop) (g : Nat) (a : Act) (w : World), j + r = n → EaAt B l n b x J X j g a w → (∀ k, X0 k → X k ∧ k < w.heap.size ∧ w.heap[k]? = w0.heap[k]?) →
    Code.rounds Tryd.prog (roundOf ea) Q (r + 1) a w := by
  intro r
  induction r with
  | zero =>
    intro j X g a w hj h hX
    obtain rfl : j = n := by omega
    rw [rounds_succ]
    refine wpL_flat _ ?_
    show wpL Tryd.prog eaR _ _ _
    rw [eaR_eq, wpL_app]
    have hk := h.kp
    rw [blt_f (Nat.le_refl j)] at hk
    refine pieceZ (eaC (yv l) (pt b) (.int .u64 (j : Int)) (pt g) false) (hk.sr w) (fun v hv => by cases hv) (fun ex c hc m1 a1 w1 hr => ?_)
    cases hc
    have K1 : Kp 31 [] a1 := SR.kp hr fun p hp => by cases hp
    have hb := SR.bel hr
    refine hQ _ a1 w1 K1.defers K1.size (hJ.grow _ _ _ _ h.inv hb) fun k hk => (hb.block k (hX k hk).2.1).trans (hX k hk).2.2
  | succ r ih =>
    intro j X g a w hj h hX
    have hjn : j < n := by omega
    rw [rounds_succ]
    refine wpL_flat _ ?_
    show wpL Tryd.prog eaR _ _ _
    rw [eaR_eq, wpL_app]
    have hk := h.kp
    rw [blt_t hjn] at hk
    have hent := h.ent
    rw [show enAt x.f n j = frE x.f j by unfold enAt; rw [blt_t hjn]; rfl] at hent
    refine pieceZ (eaC (yv l) (pt b) (.int .u64 (j : Int)) (pt g) true) (hk.sr w) (fun v hv => by cases hv) (fun ex c hc m1 a1 w1 hr1 => ?_)
    cases hc
    have hb1 := SR.bel hr1
    have K1 : Kp 31 [(0, yv l), (1, pt b), (3, .int .u64 (j : Int)), (4, pt g)] a1 := SR.kp hr1 fun p hp => by
      simp only [List.mem_cons, List.not_mem_nil, or_false] at hp
      rcases hp with rfl | rfl | rfl | rfl <;> exact ⟨rfl, @den_val row0 _ _⟩
    have hent1 : w1.heap[g]? = some (.cells (frE x.f j).list.toArray 84 (0, 0)) := (hb1.block g (Array.getElem?_eq_some_iff.1 hent).1).trans hent
    refine wp_block ?_
    refine wpL_flat _ ?_
    show wpL Tryd.prog eaB _ _ _
    rw [eaB_eq, wpL_app]
    have hX1 : @XOk (rows1 (bxR g (frE x.f j).list)) w1 := xokN fun y hy e => by
      obtain rfl := List.mem_singleton.1 hy
      exact box_heap (t := 84) hent1
    have C := ctxN (nth [bxR g (frE x.f j).list])
    have hss : ∀ (c : Value) (a : Act), Kp 31 [(0, yv l), (1, pt b), (3, c), (4, pt g)] a → ∀ w, @SR (rows1 (bxR g (frE x.f j).list)) w 31 (fun _ => 0) ((Cut.mk [(0, .val (yv l)), (1, .val (pt b)), (3, .val c), (4, .xp [0] 0 0)] []).st 0) a w := fun c a hk w => epochE _ hk fun p hp => by
      simp only [List.mem_cons, List.not_mem_nil, or_false] at hp
      rcases hp with rfl | rfl | rfl | rfl
      · exact ⟨by rw [@den_val (rows1 (bxR g (frE x.f j).list))]; simp, @ok_val (rows1 (bxR g (frE x.f j).list)) _ _⟩
      · exact ⟨by rw [@den_val (rows1 (bxR g (frE x.f j).list))]; simp, @ok_val (rows1 (bxR g (frE x.f j).list)) _ _⟩
      · exact ⟨by rw [@den_val (rows1 (bxR g (frE x.f j).list))]; simp, @ok_val (rows1 (bxR g (frE x.f j).list)) _ _⟩
      · exact ⟨by rw [den_n _ g 0 _ rfl]; simp, ok_n _ g 0 _ rfl _⟩
    refine pieceE _ C (ea1 g x.f j (yv l) (pt b) (.int .u64 (j : Int))) hX1 (hss _ a1 K1 w1) (fun v hv => by cases hv) (fun ex c hc m2 a2 w2 hr2 => ?_)
    cases hc
    have hb2 := SR.bel hr2
    have K2 : Kp 31 [(0, yv l), (1, pt b), (3, .int .u64 ((j + 1 : Nat) : Int)), (4, pt g)] a2 := SR.kp hr2 fun p hp => by
      simp only [List.mem_cons, List.not_mem_nil, or_false] at hp
      rcases hp with rfl | rfl | rfl | rfl
      · exact ⟨rfl, @den_val (rows1 (bxR g (frE x.f j).list)) _ _⟩
      · exact ⟨rfl, @den_val (rows1 (bxR g (frE x.f j).list)) _ _⟩
      · exact ⟨rfl, @den_val (rows1 (bxR g (frE x.f j).list)) _ _⟩
      · exact ⟨rfl, den_n _ g 0 _ rfl _⟩
    have hX2 := @XOk.below (rows1 (bxR g (frE x.f j).list)) _ _ hX1 hb2
    refine (wpIn_wide (n := 0)).1 (wpIn_region_list ?_)
    rw [ea5_eq]
    refine list_in (K := fun a3 w3 => Kp 31 [(0, yv l), (1, pt b), (3, .int .u64 ((j + 1 : Nat) : Int)), (4, pt g), (21, yv l), (24, (x.f j).1.agg), (27, (x.f j).2.agg)] a3 ∧ Below w2.heap.size w2 w3) open_wide (by exact fun a w h => hno a w h) _ a2 w2 (by kernel_rfl) ?_ fun a3 w3 h3 => ?_
    · rw [← List.append_nil (ea5.toList.take 7)]
      refine opsE _ C (ea2 g x.f j (yv l) (pt b) (.int .u64 ((j + 1 : Nat) : Int))) hX2 (hss _ a2 K2 w2) fun m3 a3 w3 hr3 => ?_
      refine ⟨SR.kp hr3 fun p hp => ?_, SR.bel hr3⟩
      simp only [List.mem_cons, List.not_mem_nil, or_false] at hp
      rcases hp with rfl | rfl | rfl | rfl | rfl | rfl | rfl
      · exact ⟨rfl, @den_val (rows1 (bxR g (frE x.f j).list)) _ _⟩
      · exact ⟨rfl, @den_val (rows1 (bxR g (frE x.f j).list)) _ _⟩
      · exact ⟨rfl, @den_val (rows1 (bxR g (frE x.f j).list)) _ _⟩
      · exact ⟨rfl, den_n _ g 0 _ rfl _⟩
      · exact ⟨rfl, @den_val (rows1 (bxR g (frE x.f j).list)) _ _⟩
      · exact ⟨rfl, @den_val (rows1 (bxR g (frE x.f j).list)) _ _⟩
      · exact ⟨rfl, @den_val (rows1 (bxR g (frE x.f j).list)) _ _⟩
    obtain ⟨K3, hb3⟩ := h3
    have hb12 := hb1.trans (hb2.mono hb1.size)
    have hb13 := hb12.trans (hb3.mono hb12.size)
    have hJ3 := hJ.grow _ _ _ _ h.inv hb13
    obtain ⟨fy, ty, sy, by', hy, hround⟩ := hJ.round _ _ _ hJ3 hjn
    refine wpListIn_plain (by kernel_rfl) fun K hK => ⟨fun _ _ => trivial, ?_⟩
    rw [Fence.wide_round, Oper.semAt_none, yield_run (ats := #[34, 40]) (x := 21) (y := .tmp 24) (z := .tmp 27) (by kernel_rfl) (K3.get (by simp)) (K3.get (by simp)) (K3.get (by simp)) hy, Oper.uponIn_round]
    refine ⟨(fun hd => by cases hd), hround.mono fun e w4 he => ?_⟩
    obtain ⟨rfl, hJ4, hs4, hk4⟩ := he
    rw [show (ea5.toList.getD 7 default).dst = some 28 by kernel_rfl]
    have K4 := K3.put (d := 28) (v := .bool true) rfl
    refine hK _ _ ?_
    generalize a3.put (some 28) (.bool true) = a4 at K4 ⊢
    show wpListIn _ _ _ _ _ ([ea5.toList.getD 8 default] ++ []) a4 w4
    refine list_in (K := fun a5 w5 => w5 = w4 ∧ Kp 31 [(29, .bool false), (0, yv l), (1, pt b), (3, .int .u64 ((j + 1 : Nat) : Int)), (4, pt g)] a5) open_wide (by exact fun a w h => hno a w h) _ a4 w4 (by kernel_rfl) ?_ fun a5 w5 h5 => ?_
    · refine one_evL (e := row0) (by kernel_rfl) (xok_0 _) K4 (fun q hq => ?_) (ea5_8 true) (d := 29) (by kernel_rfl) (by kernel_rfl) fun a5 K5 => ?_
      · obtain rfl := List.mem_singleton.1 hq
        exact ⟨by rw [@den_val row0]; simp, @ok_val row0 _ _⟩
      · rw [@den_val row0] at K5
        exact ⟨rfl, K5.sub (by simp)⟩
    obtain ⟨rfl, K5⟩ := h5
    show wpL Tryd.prog [.cond (.tmp 29) .ret .skip] _ a5 w5
    refine wp_cond_false (K5.get (d := 29) (by simp)) (wp_skip ?_)
    show wpL Tryd.prog [eaR.getD 3 .skip, eaR.getD 4 .skip, eaR.getD 5 .skip] _ a5 w5
    have kt : ∀ k, (x.tb n).blk k → w5.heap[k]? = w3.heap[k]? := fun k hk => hk4 k (.inl (h.tx k hk)) ((h.own.bel hb13).blk hk).2
    have s13 := hb13.size
    have hO5 : OwnT B w5 (x.tb n) := (h.own.bel hb13).kept kt
    have lt : ∀ k o, w.heap[k]? = some o → k < w.heap.size := fun k o e => (Array.getElem?_eq_some_iff.1 e).1
    have keep : ∀ k o, X k → w.heap[k]? = some o → w5.heap[k]? = some o := fun k o hx e => (hk4 k (.inl hx) (Nat.lt_of_lt_of_le (lt k o e) s13)).trans ((hb13.block k (lt k o e)).trans e)
    have hbx5 := keep b _ h.bx h.box
    have hent5 := keep g _ h.gx hent
    have hX5 : @XOk (rowsW b x n (bxR g (frE x.f j).list)) w5 := xokW hO5 hbx5 fun e => box_heap (t := 84) hent5
    refine pieceE _ (ctxW b x n _) (ea3 b x (yv l) g n j hjn hn) hX5 (epochE _ (K5.sub (us := [(0, yv l), (1, pt b), (3, .int .u64 ((j + 1 : Nat) : Int)), (4, pt g)]) (by simp)) fun p hp => ?_) (fun v hv => by cases hv) (fun ex c hc m6 a6 w6 hr6 => ?_)
    · simp only [List.mem_cons, List.not_mem_nil, or_false] at hp
      rcases hp with rfl | rfl | rfl | rfl
      · exact ⟨by rw [@den_val (rowsW b x n (bxR g (frE x.f j).list))]; simp, @ok_val (rowsW b x n (bxR g (frE x.f j).list)) _ _⟩
      · exact ⟨by rw [denW]; simp, okW _ _ _ _ _⟩
      · exact ⟨by rw [@den_val (rowsW b x n (bxR g (frE x.f j).list))]; simp, @ok_val (rowsW b x n (bxR g (frE x.f j).list)) _ _⟩
      · exact ⟨by rw [denWg]; simp, okWg _ _ _ _ _ _⟩
    cases hc
    have hb6 := SR.bel hr6
    have ⟨hg6, hw6⟩ := SR.own (b := 0) (l := (enAt x.f n (j + 1)).list) (ty := 84) hr6 rfl
    have K6 : Kp 31 [(0, yv l), (1, pt b), (3, .int .u64 ((j + 1 : Nat) : Int)), (4, pt (m6 0)), (5, .bool (Nat.blt (j + 1) n))] a6 := SR.kp hr6 fun p hp => by
      simp only [List.mem_cons, List.not_mem_nil, or_false] at hp
      rcases hp with rfl | rfl | rfl | rfl | rfl
      · exact ⟨rfl, @den_val (rowsW b x n (bxR g (frE x.f j).list)) _ _⟩
      · exact ⟨rfl, denW _ _ _ _ _⟩
      · exact ⟨rfl, @den_val (rowsW b x n (bxR g (frE x.f j).list)) _ _⟩
      · exact ⟨rfl, @den_ptr (rowsW b x n (bxR g (frE x.f j).list)) _ _ _⟩
      · exact ⟨rfl, @den_val (rowsW b x n (bxR g (frE x.f j).list)) _ _⟩
    have s6 := hb6.size
    have hg6' := (Array.getElem?_eq_some_iff.1 hw6).1
    refine ih (j + 1) _ (m6 0) a6 w6 (by omega) ⟨K6, hO5.bel hb6, (hb6.block b (lt' hbx5)).trans hbx5, hw6, hJ.grow _ _ _ _ hJ4 hb6, fun k hk => .inl (.inl (h.tx k hk)), .inl (.inl h.bx), .inr ⟨hg6, hg6'⟩⟩ fun k hk => ?_
    obtain ⟨h1, h2, h3⟩ := hX k hk
    refine ⟨.inl (.inl h1), by omega, ?_⟩
    rw [hb6.block k (by omega), hk4 k (.inl h1) (by omega), hb13.block k h2]
    exact h3
theorem enterE (e : XEnv) {fid N : Nat} {fn : Func} {args : List SV} {vs : List Value} {R : Ending → World → Prop} {w : World} (hf : Tryd.prog.funcs[fid]? = some fn) (hb : fn.body = some (fn.body.getD .skip)) (hN : fn.ntmps = N) (hle : args.length ≤ N)
    (hok : ∀ y ∈ args, @SV.ok e (fun _ => none) y) (hv : args.map (@SV.den e fun _ => 0) = vs)
    (h : ∀ a, @SR e w N (fun _ => 0) ⟨argS args, fun _ => none, 0⟩ a w → wpL Tryd.prog (bodyOf fn) (bodyPost Tryd.prog fn R) a w) : Calls Tryd.prog fid vs.toArray w R := by
  letI := e
  refine calls_of_wp hf hb ?_
  refine wpL_flat _ ?_
  have hst := start_sound (fn := fn) args hok w (fun _ => 0)
  rw [hv, hN, Nat.add_sub_cancel' hle] at hst
  rw [hN]
  exact h _ hst
theorem res37 (a : Act) (w : World) : (results Tryd.f37 a.tmps).run Tryd.prog w = .ok (.tuple #[]) w := by kernel_rfl
theorem Each1.calls {w : World} {X : Nat → Prop} (hn : n ≤ 2) (hJ : Rounds l n x.f J) (hO : OwnT B w (x.tb n)) (hbx : w.heap[b]? = some (.cells #[pt x.gb] 29 (0, 0))) (h0 : J X 0 w) (ht : ∀ k, (x.tb n).blk k → X k) (hX : X b) :
    Calls Tryd.prog 37 #[yv l, pt b] w fun e w' => e = .returned (.tuple #[]) ∧ (∃ X', J X' n w') ∧ ∀ k, X k → k < w.heap.size → w'.heap[k]? = w.heap[k]? := by
  refine enterE (rowsW b x n noXR) (args := [.val (yv l), .xp [2] 0 0]) (vs := [yv l, pt b]) (N := 31) Tryd.func37 (by kernel_rfl) (by kernel_rfl) (show 2 ≤ 31 by decide) (fun y hy => ?_) ?_ fun a0 hr0 => ?_
  · simp only [List.mem_cons, List.not_mem_nil, or_false] at hy
    rcases hy with rfl | rfl
    · exact @ok_val (rowsW b x n noXR) _ _
    · exact okW _ _ _ _ _
  · simp only [List.map_cons, List.map_nil, @den_val (rowsW b x n noXR), denW]
  show wpL Tryd.prog ea _ _ _
  rw [ea_eq, wpL_app]
  have hI : @XOk (rowsW b x n noXR) w := xokW hO hbx fun e => noX_row e w
  refine pieceE _ (ctxW b x n _) (ea0 b x (yv l) n hn) hI hr0 (fun v hv => by cases hv) (fun ex c hc m1 a1 w1 hr1 => ?_)
  cases hc
  have hb1 := SR.bel hr1
  have ⟨hg1, hw1⟩ := SR.own (b := 0) (l := (enAt x.f n 0).list) (ty := 84) hr1 rfl
  have K1 : Kp 31 [(0, yv l), (1, pt b), (3, .int .u64 ((0 : Nat) : Int)), (4, pt (m1 0)), (5, .bool (Nat.blt 0 n))] a1 := SR.kp hr1 fun p hp => by
    simp only [List.mem_cons, List.not_mem_nil, or_false] at hp
    rcases hp with rfl | rfl | rfl | rfl | rfl
    · exact ⟨rfl, @den_val (rowsW b x n noXR) _ _⟩
    · exact ⟨rfl, denW _ _ _ _ _⟩
    · exact ⟨rfl, @den_val (rowsW b x n noXR) _ _⟩
    · exact ⟨rfl, @den_ptr (rowsW b x n noXR) _ _ _⟩
    · exact ⟨rfl, @den_val (rowsW b x n noXR) _ _⟩
  refine wp_block (wp_loop_rounds (n + 1) ?_)
  have s1 := hb1.size
  refine Each1.loop (B := B) (l := l) (b := b) (x := x) (J := J) (X0 := fun k => X k ∧ k < w.heap.size) (w0 := w) hn hJ (fun a w h => ?_) (fun X' a w' hd hs hj hk => ?_) n 0 (fun k => X k ∨ (w.heap.size ≤ k ∧ k < w1.heap.size)) (m1 0) a1 w1 (by omega) ⟨K1, hO.bel hb1, (hb1.block b (lt' hbx)).trans hbx, hw1, hJ.grow _ _ _ _ h0 hb1, fun k hk => .inl (ht k hk), .inl hX, .inr ⟨hg1, lt' hw1⟩⟩ fun k hk => ?_
  · cases h.1
  · exact ⟨hd, _, res37 a w', rfl, ⟨X', hj⟩, fun k hx hlt => hk k ⟨hx, hlt⟩⟩
  · exact ⟨.inl hk.1, Nat.lt_of_lt_of_le hk.2 s1, hb1.block k hk.2⟩
end
end Go.Proofs.YtbpdpnoekkkapaaDoor.PDescKinds
end
section
namespace Go.Proofs.YtbpdpnoekkkapaaDoor.PDescKinds
open Go.RowKit Go.Ev Go.Proofs.YtbpdpnoekkkapaaDoorV.PrintLast
set_option maxRecDepth 100000
noncomputable def ec : List Code := bodyOf Tryd.f21
theorem ec_eq : ec = [ec.getD 0 .skip, ec.getD 1 .skip] ++ [.ret] := by kernel_rfl
theorem ec0 (gb : Nat) : letI := row0
    evK Tryd.prog ext (tab []) 60 4 (seqL [ec.getD 0 .skip, ec.getD 1 .skip]) (⟨argS ([pt gb].map SV.val), fun _ => none, 0⟩) (grab Tryd.prog Tryd.f21 [2] [0] 1) = some (Res.cut Ex.normal ⟨[(2, .fn 37 [.ptr 0 0])], [(0, ⟨29, [pt gb].map SV.val⟩)]⟩) := by kernel_rfl
abbrev fv (b : Nat) : Value := .func (.func 37) #[] #[pt b]
theorem ec1 (b : Nat) : letI := row0
    evK Tryd.prog ext (tab []) 60 4 (seqL [.ret]) ((⟨[(2, .val (fv b))], []⟩ : Cut).st 0) (grab Tryd.prog Tryd.f21 [] [] 0) = some (Res.ret (.val (fv b))) := by kernel_rfl
theorem Each.calls {w : World} {gb : Nat} : Calls Tryd.prog 21 #[pt gb] w fun e w' => ∃ b, e = .returned (fv b) ∧ Below w.heap.size w w' ∧ w.heap.size ≤ b ∧ w'.heap[b]? = some (.cells #[pt gb] 29 (0, 0)) := by
  refine enter_vals (vs := [pt gb]) (N := 4) Tryd.func21 (by kernel_rfl) (by kernel_rfl) (show 1 ≤ 4 by decide) fun a0 h0 => ?_
  show wpL Tryd.prog ec _ _ _
  rw [ec_eq, wpL_app]
  refine pieceZ (ec0 gb) h0 (fun v hv => by cases hv) (fun ex c hc m a1 w1 hr => ?_)
  cases hc
  have hb1 := SR.bel hr
  have ⟨hg1, hw1⟩ := SR.own (b := 0) (l := [pt gb]) (ty := 29) hr rfl
  have K1 : Kp 4 [(2, fv (m 0))] a1 := SR.kp hr fun p hp => by
    obtain rfl := List.mem_singleton.1 hp
    refine ⟨rfl, ?_⟩
    show @SV.den row0 m (.fn 37 [.ptr 0 0]) = _
    rw [@den_fn row0]
    simp only [List.map_cons, List.map_nil, @den_ptr row0]
  refine pieceZ (ec1 (m 0)) (K1.sr w1) (fun v hv m' a' w' hd hres hb' => ?_) (fun ex d hd => by cases hd)
  cases hv
  rw [@den_val row0] at hres
  exact ⟨hd, _, hres, _, rfl, hb1.trans (hb'.mono hb1.size), hg1, (hb'.block _ (lt' hw1)).trans hw1⟩
def app (ds : List Deferred) (a : Act) : Act := { a with defers := a.defers ++ ds }
theorem app_eval (ds : List Deferred) (a : Act) : (app ds a).eval = a.eval := by funext x; cases x <;> rfl
theorem app_put (ds : List Deferred) (a : Act) (d : Option Nat) (v : Value) : (app ds a).put d v = app ds (a.put d v) := by cases d <;> rfl
theorem oper_ds {P : Program} {o : Oper} {a : Act} {ds : List Deferred} {w : World} {next next' : Act → World → Prop} {Q1 Q : Exit → Act → World → Prop}
    (hn : ∀ a w, next a w → next' (app ds a) w) (hq : ∀ e a w, e ≠ .normal → Q1 e a w → Q e (app ds a) w) (h : o.wp P a w next Q1) : o.wp P (app ds a) w next' Q := by
  unfold Oper.wp at h ⊢
  rw [app_eval]
  generalize (execOp a.eval o).run P w = r at h
  unfold Oper.upon at h ⊢
  split at h
  · rw [app_put]; exact hn _ _ h
  · rw [app_put]; exact hn _ _ h
  · rename_i d w'
    have := hn _ _ h
    rw [← app_put] at this
    exact this
  · refine Calls.mono h fun e w' hr => ?_
    cases e with
    | returned v => show next' ((app ds a).put o.dst v) w'; rw [app_put]; exact hn _ _ hr
    | panicked chain => exact hq _ _ _ (by simp) hr
    | outgrown =>
      obtain ⟨a0, w0, h0⟩ := hr
      exact ⟨_, w0, hq _ _ _ (by simp) h0⟩
  · refine Rows.mono h fun v w' hr => ?_
    rw [app_put]; exact hn _ _ hr
  · exact hq _ _ _ (by simp) h
  · exact h.elim
theorem list_ds {P : Program} {os : Array Oper} {ds : List Deferred} {Q : Exit → Act → World → Prop} : ∀ (l : List Oper) (a : Act) (w : World), wpList P os (fun e a w => Q e (app ds a) w) l a w → wpList P os Q l (app ds a) w
  | [], a, w, h => h
  | o :: r, a, w, h => by
    unfold wpList at h ⊢
    rw [show (app ds a).tmps = a.tmps from rfl]
    by_cases hw : Region.wanted o (yielded os a.tmps) = true
    · rw [if_pos hw] at h ⊢
      rcases h with h | ⟨h1, a0, w0, h0⟩
      · exact .inl (oper_ds (fun a w h => list_ds r a w h) (fun e a w _ h => h) h)
      · refine .inr ⟨?_, _, w0, h0⟩
        unfold Oper.asks at h1 ⊢
        rw [app_eval]
        exact h1
    · rw [if_neg hw] at h ⊢
      rw [app_put]
      exact list_ds r _ w h
theorem region_ds {P : Program} {id : Nat} {os : Array Oper} {ds : List Deferred} {Q : Exit → Act → World → Prop} {a : Act} {w : World} (h : wpList P os (fun e a w => Q e (app ds a) w) os.toList a w) : (Code.region id os false).wp P Q (app ds a) w :=
  wp_region_list (list_ds _ a w h)
noncomputable def po : List Code := bodyOf Tryd.f19
def rfA : Code → Code
  | .rangeFunc _ _ a _ => a
  | c => c
def rfB : Code → Code
  | .rangeFunc _ _ _ b => b
  | c => c
noncomputable def poA : Code := rfA (inB (po.getD 3 .skip))
noncomputable def poB : Code := rfB (inB (po.getD 3 .skip))
noncomputable def po3 : Array Oper := opsOf ((flat poA).getD 0 .skip)
noncomputable def po4 : Array Oper := opsOf ((flat poA).getD 1 .skip)
noncomputable def po5 : Array Oper := opsOf (inB poB)
theorem poA_eq : poA = .seq (.region 3 po3 false) (.region 4 po4 false) := by kernel_rfl
theorem poB_eq : poB = .block 1 (.region 5 po5 false) := by kernel_rfl
theorem po3_v (a d : Value) (k : K) : letI := row0
    evOpsK Tryd.prog ext (callWithK Tryd.prog (tab []) (evK Tryd.prog ext (tab []) 20)) po3 23 po3.toList ((⟨[(3, .val a), (14, .val k.agg), (15, .val d)], []⟩ : Cut).st 0) (fun st => cutS [3, 4, 15] [0] 1 st) = some ⟨[(3, .val a), (4, .ptr 0 0), (15, .val d)], [(0, ⟨34, k.list.map SV.val⟩)]⟩ := by kernel_rfl
theorem po4_v (a b : Value) (d : D) : letI := row0
    evOpsK Tryd.prog ext (callWithK Tryd.prog (tab []) (evK Tryd.prog ext (tab []) 20)) po4 23 po4.toList ((⟨[(3, .val a), (4, .val b), (15, .val d.agg)], []⟩ : Cut).st 0) (fun st => cutS [3, 4, 5] [0] 1 st) = some ⟨[(3, .val a), (4, .val b), (5, .ptr 0 0)], [(0, ⟨40, d.list.map SV.val⟩)]⟩ := by kernel_rfl
def plist (p : K × D) : List Value := [.string p.1.s, .int .i64 p.1.n, .int .i64 p.2.v.k, .bool p.2.v.b, .float .f64 p.2.v.n, .string p.2.v.s, .int .i64 p.2.v.id,
  .int .i64 p.2.g.k, .bool p.2.g.b, .float .f64 p.2.g.n, .string p.2.g.s, .int .i64 p.2.g.id, .int .i64 p.2.t.k, .bool p.2.t.b, .float .f64 p.2.t.n, .string p.2.t.s, .int .i64 p.2.t.id, .int .i64 p.2.w, .int .i64 p.2.e, .int .i64 p.2.c]
theorem plist_len (p : K × D) : (plist p).length = 20 := rfl
theorem plist_one (p : K × D) : ∀ u ∈ plist p, u.oneCell' = true := by
  intro u hu
  simp only [plist, List.mem_cons, List.not_mem_nil, or_false] at hu
  rcases hu with rfl | rfl | rfl | rfl | rfl | rfl | rfl | rfl | rfl | rfl | rfl | rfl | rfl | rfl | rfl | rfl | rfl | rfl | rfl | rfl <;> rfl
theorem po5_eq : po5.toList = po5.toList.take 4 ++ [po5.toList.getD 4 default, po5.toList.getD 5 default, po5.toList.getD 6 default] := by kernel_rfl
def po5_X (ob kb db : Nat) (s : Value) (k : K) (d : D) : List XR := [bxR ob [s], bxR kb k.list, bxR db d.list]
theorem po5_v (ob kb db : Nat) (s : Value) (k : K) (d : D) : letI := rowsN (nth (po5_X ob kb db s k d))
    (reads Tryd.prog 23 (po5.toList.take 4) (pickT [(3, .xp [0] 0 0), (4, .xp [1] 0 0), (5, .xp [2] 0 0)])).map (fun p => ([3, 16, 19].map p)) = some [.xp [0] 0 0, .val s, .val (.agg (plist (k, d)).toArray)] := by kernel_rfl
theorem po5_4 (p : K × D) : letI := row0
    evOp Tryd.prog ext (fun _ _ _ _ => none) (Ev.look (pickT ([(19, Value.agg (plist p).toArray)].map fun p => (p.1, SV.val p.2)))) (fun _ => none) 0 (po5.toList.getD 4 default) = some (.slc 0 0 1 1, .new ⟨54, (plist p).map SV.val⟩) := by kernel_rfl
theorem info54 : ∃ (i : TypeInfo) (z : Value), Tryd.prog.info? 54 = some i ∧ i.zero = some z ∧ i.size = 20 ∧ i.bytes = 192 ∧ z.cells.size = 20 := info_of (by kernel_rfl)
theorem und25 : Tryd.prog.underlying 25 = some (.slice 54) := by kernel_rfl
end Go.Proofs.YtbpdpnoekkkapaaDoor.PDescKinds
end
section
namespace Go.Proofs.YtbpdpnoekkkapaaDoor.PDescKinds
open Go.RowKit Go.Ev Go.Proofs.YtbpdpnoekkkapaaDoorV.PrintLast
set_option maxRecDepth 100000
noncomputable def rc (fn : FuncId) (tm : Array Value) (Db : Nat) (st : LoopState) (pe : Option Code) : Loop := { state := st, pending := pe, fn := fn, tmps := tm, params := #[14, 15], assign := poA, body := poB, defers := Db }
structure PJ (W0 : World) (B l Db ob : Nat) (fn : FuncId) (tm : Array Value) (f : Nat → K × D) (X : Nat → Prop) (j : Nat) (w : World) : Prop where
  lp : w.heap[l]? = some (.loop (rc fn tm Db .ready none))
  df : w.heap[Db]? = some (.deferred (some []))
  out : ∃ A c, w.heap[ob]? = some (.cells #[.slice A j c] 25 (0, 0)) ∧ w.ownsRow B 54 20 (.slice A j c) j ((List.range j).flatMap fun i => plist (f i)) ∧ ∀ g, (Value.slice A j c).ownBlock = some g → ¬ X g
  nx : ¬ X l ∧ ¬ X Db ∧ ¬ X ob
  lt : ∀ k, X k → k < w.heap.size
  base : B ≤ w.heap.size
  io : w.os = W0.os ∧ w.tape = W0.tape ∧ w.output = W0.output
section
variable {W0 : World} {B l Db ob n : Nat} {fn : FuncId} {tm : Array Value} {f : Nat → K × D}
theorem PJ.grow {X : Nat → Prop} {j : Nat} {w w' : World} (h : PJ W0 B l Db ob fn tm f X j w) (hb : Below w.heap.size w w') : PJ W0 B l Db ob fn tm f (fun k => X k ∨ (w.heap.size ≤ k ∧ k < w'.heap.size)) j w' := by
  obtain ⟨A, c, h1, h2, h3⟩ := h.out
  have no : ∀ k o, w.heap[k]? = some o → ¬ X k → ¬ (X k ∨ (w.heap.size ≤ k ∧ k < w'.heap.size)) := fun k o e hn hx => hx.elim hn fun hx => by have := lt' e; omega
  refine ⟨(hb.block _ (lt' h.lp)).trans h.lp, (hb.block _ (lt' h.df)).trans h.df, ⟨A, c, (hb.block _ (lt' h1)).trans h1, own_bel h2 hb, fun g hg hx => ?_⟩, ⟨no _ _ h.lp h.nx.1, no _ _ h.df h.nx.2.1, no _ _ h1 h.nx.2.2⟩, fun k hk => ?_, Nat.le_trans h.base hb.size, ⟨hb.os.trans h.io.1, hb.tape.trans h.io.2.1, hb.output.trans h.io.2.2⟩⟩
  · have := h2.lt g hg
    exact hx.elim (h3 g hg) fun hx => by omega
  · rcases hk with hk | hk
    · exact Nat.lt_of_lt_of_le (h.lt k hk) hb.size
    · exact hk.2
theorem obj_ne {w : World} {k l : Nat} {o o' : Obj} (h : w.heap[k]? = some o) (h' : w.heap[l]? = some o') (hn : o ≠ o') : some l ≠ some k := fun e => by
  cases e
  rw [h] at h'
  cases h'
  exact hn rfl
theorem own_no {w : World} {b1 e1 z1 n1 : Nat} {v1 : Value} {x1 : List Value} (h1 : w.ownsRow b1 e1 z1 v1 n1 x1) {g : Nat} {o : Obj} (hm : w.heap[g]? = some o) (ho : ∀ l, o ≠ .cells l e1 (0, 0)) : v1.ownBlock ≠ some g := fun g1 => by
  rcases h1.2 with ⟨rfl, _⟩ | ⟨g', cap, cur, rfl, _, k1, _⟩
  · cases g1
  · cases g1
    rw [hm] at k1
    cases k1
    exact ho _ rfl
theorem own_one {w : World} {b ty z g : Nat} {l : List Value} (hz : l.length = z) (h : w.ownsRow b ty z (sl1 g) 1 ((List.range 1).flatMap fun _ => l)) : w.heap[g]? = some (.cells l.toArray ty (0, 0)) := by
  rcases h.2 with ⟨e, _⟩ | ⟨g', cap, cur, e, h1, h2, h3, h4, h5, h6⟩
  · cases e
  · cases e
    rw [h2]
    simp only [List.range_one, List.flatMap_cons, List.flatMap_nil, List.append_nil] at h6
    rw [Nat.one_mul] at h5 h6
    have : cur.toList = l := by
      rw [← h6, List.take_of_length_le (by rw [Array.length_toList]; omega)]
    rw [← this]
set_option maxHeartbeats 2000000 in
theorem PJ.round (hs : tm.size = 23) (h3 : tm.getD 3 undef = pt ob) {X : Nat → Prop} {j : Nat} {w : World} (h : PJ W0 B l Db ob fn tm f X j w) (hj : j < 1000) :
    YieldOk l #[(f j).1.agg, (f j).2.agg] w fun e w' => e = .returned (.bool true) ∧ PJ W0 B l Db ob fn tm f X (j + 1) w' ∧ w.heap.size ≤ w'.heap.size ∧ ∀ k, X k → k < w.heap.size → w'.heap[k]? = w.heap[k]? := by
  refine ⟨_, _, _, _, run_yield (args := #[(f j).1.agg, (f j).2.agg]) h.lp rfl, roundIn_of_wpIn trivial ?_⟩
  have K0 : Kp 23 [(3, pt ob), (14, (f j).1.agg), (15, (f j).2.agg)] { tmps := ((rc fn tm Db .ready none).params.zip #[(f j).1.agg, (f j).2.agg]).foldl (fun tmps (t, a) => tmps.setIfInBounds t a) (rc fn tm Db .ready none).tmps, defers := [] } := by
    have e : ((rc fn tm Db .ready none).params.zip #[(f j).1.agg, (f j).2.agg]).foldl (fun tmps (t, a) => tmps.setIfInBounds t a) (rc fn tm Db .ready none).tmps = (tm.setIfInBounds 14 (f j).1.agg).setIfInBounds 15 (f j).2.agg := by
      simp [rc]
    refine ⟨by rw [e]; simp [hs], rfl, fun p hp => ?_⟩
    rw [e]
    simp only [List.mem_cons, List.not_mem_nil, or_false] at hp
    rcases hp with rfl | rfl | rfl
    · rw [← h3]
      simp [Array.getD_eq_getD_getElem?, Array.getElem?_setIfInBounds]
    · simp [Array.getD_eq_getD_getElem?, Array.getElem?_setIfInBounds, hs]
    · simp [Array.getD_eq_getD_getElem?, Array.getElem?_setIfInBounds, hs]
  generalize ({ tmps := ((rc fn tm Db .ready none).params.zip #[(f j).1.agg, (f j).2.agg]).foldl (fun tmps (t, a) => tmps.setIfInBounds t a) (rc fn tm Db .ready none).tmps, defers := [] } : Act) = a0 at K0 ⊢
  show poA.wpIn _ _ _ _ _ _
  rw [poA_eq]
  refine wpIn_seq (region_in (open_round l) (by exact fun a w h => h) (by kernel_rfl) ?_)
  rw [← List.append_nil po3.toList]
  refine opsE row0 Ap.ctx0 (po3_v (pt ob) (f j).2.agg (f j).1) trivial (K0.sr w) fun m1 a1 w1 hr1 => ?_
  have hb1 := SR.bel hr1
  have ⟨hg1, hw1⟩ := SR.own (b := 0) (l := (f j).1.list) (ty := 34) hr1 rfl
  have K1 : Kp 23 [(3, pt ob), (4, pt (m1 0)), (15, (f j).2.agg)] a1 := SR.kp hr1 fun p hp => by
    simp only [List.mem_cons, List.not_mem_nil, or_false] at hp
    rcases hp with rfl | rfl | rfl
    · exact ⟨rfl, @den_val row0 _ _⟩
    · exact ⟨rfl, @den_ptr row0 _ _ _⟩
    · exact ⟨rfl, @den_val row0 _ _⟩
  generalize m1 0 = kb at hg1 hw1 K1
  refine region_in (open_round l) (by exact fun a w h => h) (by kernel_rfl) ?_
  rw [← List.append_nil po4.toList]
  refine opsE row0 Ap.ctx0 (po4_v (pt ob) (pt kb) (f j).2) trivial (K1.sr w1) fun m2 a2 w2 hr2 => ?_
  have hb2 := SR.bel hr2
  have ⟨hg2, hw2⟩ := SR.own (b := 0) (l := (f j).2.list) (ty := 40) hr2 rfl
  have K2 : Kp 23 [(3, pt ob), (4, pt kb), (5, pt (m2 0))] a2 := SR.kp hr2 fun p hp => by
    simp only [List.mem_cons, List.not_mem_nil, or_false] at hp
    rcases hp with rfl | rfl | rfl
    · exact ⟨rfl, @den_val row0 _ _⟩
    · exact ⟨rfl, @den_val row0 _ _⟩
    · exact ⟨rfl, @den_ptr row0 _ _ _⟩
  generalize m2 0 = db at hg2 hw2 K2
  have hb12 := hb1.trans (hb2.mono hb1.size)
  have hkb2 := (hb2.block kb (lt' hw1)).trans hw1
  obtain ⟨A, c, ho1, ho2, ho3⟩ := h.out
  have hl2 := (hb12.block l (lt' h.lp)).trans h.lp
  refine ⟨_, run_beginRound hl2 rfl, ?_⟩
  have hgl : w2.grownBy (w2.putObj l (.loop { rc fn tm Db .ready none with state := .busy })) (some l) := grownBy_putObj' w2 l _
  have hl3 : (w2.putObj l (.loop { rc fn tm Db .ready none with state := .busy })).heap[l]? = some (.loop { rc fn tm Db .ready none with state := .busy }) := World.putObj_heap_same (lt' hl2)
  generalize w2.putObj l (.loop { rc fn tm Db .ready none with state := .busy }) = w3 at hgl hl3 ⊢
  have s12 := hb12.size
  have s3 := hgl.size
  have hob3 := grown_cells ((hb12.block ob (lt' ho1)).trans ho1) hgl (obj_ne ((hb12.block ob (lt' ho1)).trans ho1) hl2 (by simp))
  have hkb3 := grown_cells hkb2 hgl (obj_ne hkb2 hl2 (by simp))
  have hdb3 := grown_cells hw2 hgl (obj_ne hw2 hl2 (by simp))
  have hdf2 := (hb12.block Db (lt' h.df)).trans h.df
  have hdf3 := grown_cells hdf2 hgl (obj_ne hdf2 hl2 (by simp))
  have hrow2 := own_bel ho2 hb12
  have hrow3 := grown_row hrow2 hgl fun g hg e => own_no hrow2 hl2 (fun _ => by simp) (hg.trans e.symm)
  show poB.wpIn _ _ _ _ _ _
  rw [poB_eq]
  refine wpIn_block (region_in (open_round l) (by exact fun a w h => h) (by kernel_rfl) ?_)
  rw [po5_eq]
  have hX3 : @XOk (rowsN (nth (po5_X ob kb db (.slice A j c) (f j).1 (f j).2))) w3 := xokN fun y hy e => by
    simp only [po5_X, List.mem_cons, List.not_mem_nil, or_false] at hy
    rcases hy with rfl | rfl | rfl
    · exact box_heap (t := 25) hob3
    · exact box_heap (t := 34) hkb3
    · exact box_heap (t := 40) hdb3
  refine read_kp (e := rowsN (nth (po5_X ob kb db (.slice A j c) (f j).1 (f j).2))) (us := [pt ob, .slice A j c, .agg (plist (f j)).toArray]) hX3 (po5_v ob kb db (.slice A j c) (f j).1 (f j).2) K2 (fun p hp => ?_) ?_ (by kernel_rfl) fun a3 K3 => ?_
  · simp only [List.mem_cons, List.not_mem_nil, or_false] at hp
    rcases hp with rfl | rfl | rfl
    · exact ⟨by rw [den_n _ ob 0 _ rfl]; simp, ok_n _ ob 0 _ rfl _⟩
    · exact ⟨by rw [den_n _ kb 1 _ rfl]; simp, ok_n _ kb 1 _ rfl _⟩
    · exact ⟨by rw [den_n _ db 2 _ rfl]; simp, ok_n _ db 2 _ rfl _⟩
  · simp only [List.map_cons, List.map_nil, @den_val (rowsN (nth (po5_X ob kb db (.slice A j c) (f j).1 (f j).2)))]
    rw [den_n _ ob 0 _ rfl]
  have K3 : Kp 23 [(3, pt ob), (16, .slice A j c), (19, .agg (plist (f j)).toArray)] a3 := K3
  refine wpList_plain (by kernel_rfl) fun K hK => ?_
  refine build1 (RP.ar_none (us := [(19, .agg (plist (f j)).toArray)]) K3 (by simp) w3) (po5_4 (f j)) fun g w4 b4 hg4 hw4 => hK _ _ ?_
  rw [show (po5.toList.getD 4 default).dst = some 20 by kernel_rfl]
  have K4 := K3.put (d := 20) (v := .slice (some ⟨g, 0, none⟩) 1 1) rfl
  generalize a3.put (some 20) (.slice (some ⟨g, 0, none⟩) 1 1) = a4 at K4 ⊢
  clear K hK
  refine wpList_plain (by kernel_rfl) fun K hK => ?_
  obtain ⟨i54, z54, q1, q2, q3, q4, q5⟩ := info54
  have hM : maxLen = 9223372036854775807 := by decide +kernel
  have hrow4 := own_bel hrow3 b4
  have s4 := b4.size
  have hbase := h.base
  refine wp_append_fresh (.tmp 16) (.tmp 20) 25 (by kernel_rfl) B 54 i54 z54 20 192 und25 q1 q2 q3 q4 q5 (by decide) (.slice A j c) j _ (K4.get (by simp)) hrow4 ⟨g, 0, none⟩ 1 1 (plist (f j)) (K4.get (by simp)) rfl (fun i u hu => ?_) (plist_one _) (by omega) (by omega) (by omega) fun u w5 hown hgr hfr => hK _ _ ?_
  · rw [add_none, cell_of_row w4 g _ _ 54 (0, 0) hw4]
    simpa using hu
  clear K hK
  rw [show (po5.toList.getD 5 default).dst = some 21 by kernel_rfl]
  have hu := (own_slice hown).1
  generalize slA u = A' at hu
  generalize slC u = c' at hu
  subst hu
  have K5 := K4.put (d := 21) (v := .slice A' (j + 1) c') rfl
  generalize a4.put (some 21) (.slice A' (j + 1) c') = a5 at K5 ⊢
  have hob4 := (b4.block ob (lt' hob3)).trans hob3
  have hob5 := grown_cells hob4 hgr (own_nt hrow4 hob4 (by decide))
  have hbox5 : w5.ownsRow 0 25 1 (sl1 ob) 1 ((List.range 1).flatMap fun _ => [Value.slice A j c]) := own_new rfl (Nat.zero_le _) hob5
  obtain ⟨w6, hst, hbox6, hg6⟩ := box_put (ty := 25) (x := .slice A' (j + 1) c') (o := 0) (P := Tryd.prog) rfl hbox5 (by kernel_rfl) (show 0 + 1 ≤ 1 by decide) (fun y hy => by
    have hy : y ∈ [Value.slice A' (j + 1) c'] := hy
    simp only [List.mem_singleton] at hy
    subst hy; rfl)
  refine wpList_store (t := 25) (x := .tmp 3) (y := .tmp 21) (by kernel_rfl) (by kernel_rfl) (by kernel_rfl) (K5.get (d := 3) (by simp)) (K5.get (d := 21) (by simp)) hst ?_
  have hl4 := (b4.block l (lt' hl3)).trans hl3
  have hl5 := grown_cells hl4 hgr (own_no hrow4 hl4 fun _ => by simp)
  have hl6 := grown_cells hl5 hg6 (obj_ne hl5 hob5 (by simp))
  have hdf4 := (b4.block Db (lt' hdf3)).trans hdf3
  have hdf5 := grown_cells hdf4 hgr (own_no hrow4 hdf4 fun _ => by simp)
  have hdf6 := grown_cells hdf5 hg6 (obj_ne hdf5 hob5 (by simp))
  refine ⟨_, _, run_endRound none hl6, rfl, ?_⟩
  have hgl7 : w6.grownBy (w6.putObj l (.loop (rc fn tm Db .ready none))) (some l) := grownBy_putObj' w6 l _
  have hl7 : (w6.putObj l (.loop (rc fn tm Db .ready none))).heap[l]? = some (.loop (rc fn tm Db .ready none)) := World.putObj_heap_same (lt' hl6)
  show PJ W0 B l Db ob fn tm f X (j + 1) (w6.putObj l (.loop (rc fn tm Db .ready none))) ∧ w.heap.size ≤ (w6.putObj l (.loop (rc fn tm Db .ready none))).heap.size ∧ ∀ k, X k → k < w.heap.size → (w6.putObj l (.loop (rc fn tm Db .ready none))).heap[k]? = w.heap[k]?
  generalize w6.putObj l (.loop (rc fn tm Db .ready none)) = w7 at hgl7 hl7 ⊢
  have hob6 := own_one (l := [Value.slice A' (j + 1) c']) rfl hbox6
  have hown6 := grown_row hown hg6 fun g hg e => own_nt hown hob5 (by decide) (hg.trans e.symm)
  have hown7 := grown_row hown6 hgl7 fun g hg e => own_no hown6 hl6 (fun _ => by simp) (hg.trans e.symm)
  have s5 := hgr.size
  have s6 := hg6.size
  have s7 := hgl7.size
  refine ⟨⟨hl7, grown_cells hdf6 hgl7 (obj_ne hdf6 hl6 (by simp)), ⟨A', c', grown_cells hob6 hgl7 (obj_ne hob6 hl6 (by simp)), ?_, fun g' hg' hx => ?_⟩, h.nx, fun k hk => by have := h.lt k hk; omega, by omega, ⟨?_, ?_, ?_⟩⟩, by omega, fun k hk hlt => ?_⟩
  · rw [List.range_succ, List.flatMap_append]
    simpa using hown7
  · rcases hfr with e | ⟨g'', e1, e2⟩
    · exact ho3 g' (e ▸ hg') hx
    · have : some g'' = some g' := e1.symm.trans hg'
      cases this
      have := h.lt g' hx
      omega
  · rw [hgl7.os, hg6.os, hgr.os, b4.os, hgl.os, hb12.os]; exact h.io.1
  · rw [hgl7.tape, hg6.tape, hgr.tape, b4.tape, hgl.tape, hb12.tape]; exact h.io.2.1
  · rw [hgl7.output, hg6.output, hgr.output, b4.output, hgl.output, hb12.output]; exact h.io.2.2
  · rw [hgl7.block k (by omega) (fun e => h.nx.1 (by cases e; exact hk)), hg6.block k (by omega) (fun e => h.nx.2.2 (by cases e; exact hk)), hgr.block k (by omega) (fun e => ho3 k e.symm hk), b4.block k (by omega), hgl.block k (by omega) (fun e => h.nx.1 (by cases e; exact hk)), hb12.block k hlt]
end
end Go.Proofs.YtbpdpnoekkkapaaDoor.PDescKinds
end
section
namespace Go.Proofs.YtbpdpnoekkkapaaDoor.PDescKinds
open Go.RowKit Go.Ev Go.Proofs.YtbpdpnoekkkapaaDoorV.PrintLast
set_option maxRecDepth 100000
theorem enterM {fid N : Nat} {fn : Func} {vs : List Value} {R : Ending → World → Prop} {w : World} (hf : Tryd.prog.funcs[fid]? = some fn) (hb : fn.body = some (fn.body.getD .skip)) (hN : fn.ntmps = N) (hle : vs.length ≤ N)
    (h : ∀ a, @SR row0 w N (fun _ => 0) ⟨argS (vs.map SV.val), fun _ => none, 0⟩ a w → wpL Tryd.prog (bodyOf fn) (bodyPostM Fence.wide 0 Tryd.prog fn R) a w) : Calls Tryd.prog fid vs.toArray w R := by
  refine (callsIn_wide (n := 0)).1 (callsIn_of_wp_marks hf hb trivial (wpIn_wide.2 ?_))
  refine wpL_flat _ ?_
  have hst := @start_sound row0 fn (vs.map SV.val) (fun y hy => by
    obtain ⟨v, _, rfl⟩ := List.mem_map.1 hy
    exact @ok_val row0 _ _) w (fun _ => 0)
  rw [List.map_map, show (@SV.den row0 (fun _ => 0) ∘ SV.val) = _root_.id from funext fun v => @den_val row0 _ v, List.map_id, List.length_map, hN, Nat.add_sub_cancel' hle] at hst
  rw [hN]
  exact h _ hst
noncomputable def po1 : Array Oper := opsOf (po.getD 1 .skip)
noncomputable def po2 : Array Oper := opsOf (po.getD 2 .skip)
noncomputable def po6 : Array Oper := opsOf (po.getD 4 .skip)
theorem po_eq2 : po = [po.getD 0 .skip] ++ [.region 1 po1 false, .region 2 po2 false, .block 0 (.rangeFunc (.tmp 13) #[14, 15] poA poB), .region 6 po6 false, .ret] := by kernel_rfl
theorem po1_eq : po1.toList = po1.toList.take 4 ++ [po1.toList.getD 4 default, po1.toList.getD 5 default] ++ po1.toList.drop 6 := by kernel_rfl
theorem po0_v (gb : Nat) : letI := row0
    evK Tryd.prog ext (tab []) 60 23 (seqL [po.getD 0 .skip]) (⟨argS ([pt gb].map SV.val), fun _ => none, 0⟩) (grab Tryd.prog Tryd.f19 [0] [] 0) = some (Res.cut Ex.normal ⟨[(0, .val (pt gb))], []⟩) := by kernel_rfl
theorem po1_v (t : Tb) : letI := rowsT0 t
    (reads Tryd.prog 23 (po1.toList.take 4) (pickT [(0, .xp [0] 0 0)])).map (fun p => ([0, 9].map p)) = some [.xp [0] 0 0, .val (.map (some t.mb))] := by kernel_rfl
theorem po1_6 (a : Value) (A : Option Addr) (c : Nat) : letI := row0
    evOpsK Tryd.prog ext (callWithK Tryd.prog (tab []) (evK Tryd.prog ext (tab []) 20)) po1 23 (po1.toList.drop 6) ((⟨[(0, .val a), (11, .val (.slice A 0 c))], []⟩ : Cut).st 0) (fun st => cutS [0, 3] [0] 1 st) = some ⟨[(0, .val a), (3, .ptr 0 0)], [(0, ⟨25, [Value.slice A 0 c].map SV.val⟩)]⟩ := by kernel_rfl
theorem po2_eq : po2.toList = [po2.toList.getD 0 default, po2.toList.getD 1 default] := by kernel_rfl
theorem po2_0 (a : Value) : letI := row0
    evP Tryd.prog (Ev.look (pickT [(0, .val a)])) (po2.toList.getD 0 default) = some (.val a) := by kernel_rfl
theorem po6_v (ob : Nat) (s : Value) : letI := rowsN (nth [bxR ob [s]])
    (reads Tryd.prog 23 po6.toList (pickT [(3, .xp [0] 0 0)])).map (fun p => ([2].map p)) = some [.val s] := by kernel_rfl
theorem res19 (a : Act) (w : World) : (results Tryd.f19 a.tmps).run Tryd.prog w = .ok (a.tmps.getD 2 undef) w := by kernel_rfl
structure PropsR (base : Nat) (w : World) (n : Nat) (f : Nat → K × D) (A : Option Addr) (c : Nat) : Prop where
  row : w.ownsRow base 54 20 (.slice A n c) n ((List.range n).flatMap fun i => plist (f i))
theorem Props.calls {B n : Nat} {x : Tk} {w : World} (hn : n ≤ 2) (hO : OwnT B w (x.tb n)) (hm : x.m.length ≤ 1000) :
    Calls Tryd.prog 19 #[pt x.gb] w fun e w' => ∃ A c, e = .returned (.slice A n c) ∧ Below w.heap.size w w' ∧ PropsR w.heap.size w' n x.f A c := by
  refine enterM (vs := [pt x.gb]) (N := 23) Tryd.func19 (by kernel_rfl) (by kernel_rfl) (show 1 ≤ 23 by decide) fun a0 h0 => ?_
  show wpL Tryd.prog po _ _ _
  rw [po_eq2, wpL_app]
  refine pieceZ (po0_v x.gb) h0 (fun v hv => by cases hv) (fun ex c hc m a1 w1 hr => ?_)
  cases hc
  have hb1 := SR.bel hr
  have K1 : Kp 23 [(0, pt x.gb)] a1 := SR.kp hr fun p hp => by
    obtain rfl := List.mem_singleton.1 hp
    exact ⟨rfl, @den_val row0 _ _⟩
  have hO1 := hO.bel hb1
  refine wp_region_list ?_
  rw [po1_eq, List.append_assoc]
  refine read_kp (e := rowsT0 (x.tb n)) (us := [pt x.gb, .map (some x.mb)]) hO1.xok0 (po1_v (x.tb n)) K1 (fun q hq => ?_) ?_ (by kernel_rfl) fun a2 K2 => ?_
  · obtain rfl := List.mem_singleton.1 hq
    exact ⟨by rw [den_t]; simp, ok_t _ _ _⟩
  · simp only [List.map_cons, List.map_nil, @den_val (rowsT0 (x.tb n)), den_t]
  refine wpList_val (by kernel_rfl) (mlen_run (x := .tmp 9) (by kernel_rfl) (K2.get (d := 9) (by simp)) hO1.map.1) ?_
  rw [show (po1.toList.getD 4 default).dst = some 10 by kernel_rfl]
  have K3 := K2.put (d := 10) (v := .int .i64 (x.m.length : Int)) rfl
  generalize a2.put (some 10) (.int .i64 (x.m.length : Int)) = a3 at K3 ⊢
  obtain ⟨i54, z54, q1, q2, q3, q4, q5⟩ := info54
  have hM : maxLen = 9223372036854775807 := by decide +kernel
  have s1 := hb1.size
  obtain ⟨w4, hrun, hown4, hg4⟩ := run_makeSlice_owned w1 w.heap.size 25 54 i54 z54 20 und25 q1 q2 q3 .i64 .i64 x.m.length (by omega) (by rw [q4]; omega) (by omega) s1
  refine wpList_plain (by kernel_rfl) fun K hK => ?_
  have hx : (execOp a3.eval (po1.toList.getD 5 default)).run Tryd.prog w1 = .ok (.value (.slice (some ⟨w1.heap.size, 0, none⟩) 0 x.m.length)) w4 := by
    have ho : (po1.toList.getD 5 default).op = .makeSlice 25 (.const (.int .i64 0)) (.tmp 10) := by kernel_rfl
    have h10 : a3.eval (.tmp 10) = .int .i64 (x.m.length : Int) := K3.get (by simp)
    have hc : a3.eval (.const (.int .i64 0)) = .int .i64 0 := rfl
    unfold execOp
    simp only [ho, h10, hc, Sem.run_bind, hrun, Result.andThen_ok, Sem.run_pure]
  unfold Oper.wp
  rw [hx, Oper.upon_value, show (po1.toList.getD 5 default).dst = some 11 by kernel_rfl]
  have K4 := K3.put (d := 11) (v := .slice (some ⟨w1.heap.size, 0, none⟩) 0 x.m.length) rfl
  generalize a3.put (some 11) (.slice (some ⟨w1.heap.size, 0, none⟩) 0 x.m.length) = a4 at K4 ⊢
  refine hK _ _ ?_
  clear hK K
  have hb4 : Below w1.heap.size w1 w4 := ⟨hg4.os, hg4.tape, hg4.output, hg4.size, fun k hk => hg4.block k hk (by simp)⟩
  show wpList _ _ _ (po1.toList.drop 6) a4 w4
  rw [← List.append_nil (po1.toList.drop 6)]
  refine opsE row0 Ap.ctx0 (po1_6 (pt x.gb) (some ⟨w1.heap.size, 0, none⟩) x.m.length) trivial ((K4.sub (us := [(0, pt x.gb), (11, .slice (some ⟨w1.heap.size, 0, none⟩) 0 x.m.length)]) (by simp)).sr w4) fun m5 a5 w5 hr5 => ?_
  have hb5 := SR.bel hr5
  have ⟨hg5, hw5⟩ := SR.own (b := 0) (l := [Value.slice (some ⟨w1.heap.size, 0, none⟩) 0 x.m.length]) (ty := 25) hr5 rfl
  have K5 : Kp 23 [(0, pt x.gb), (3, pt (m5 0))] a5 := SR.kp hr5 fun p hp => by
    simp only [List.mem_cons, List.not_mem_nil, or_false] at hp
    rcases hp with rfl | rfl
    · exact ⟨rfl, @den_val row0 _ _⟩
    · exact ⟨rfl, @den_ptr row0 _ _ _⟩
  generalize m5 0 = ob at hg5 hw5 K5
  have hown5 := own_bel hown4 hb5
  have hb15 := hb4.trans (hb5.mono hb4.size)
  have hO5 := hO1.bel hb15
  have s5 := hb15.size
  refine wp_region_list ?_
  rw [po2_eq]
  refine one_evL (e := row0) (by kernel_rfl) (xok_0 _) K5 (fun q hq => ?_) (po2_0 (pt x.gb)) (d := 12) (by kernel_rfl) (by kernel_rfl) fun a6 K6 => ?_
  · obtain rfl := List.mem_singleton.1 hq
    exact ⟨by rw [@den_val row0]; simp, @ok_val row0 _ _⟩
  rw [@den_val row0] at K6
  refine wpList_plain (by kernel_rfl) fun K hK => ?_
  refine call_op (f := 21) (ats := #[29]) (xs := #[.tmp 12]) (vs := #[pt x.gb]) (by kernel_rfl) (by kernel_rfl) (by
    have : a6.eval (.tmp 12) = pt x.gb := K6.get (by simp)
    simp [this]) Each.calls (fun e w' he => by obtain ⟨b, rfl, _⟩ := he; exact ⟨_, rfl⟩) fun v w7 he => hK _ _ ?_
  obtain ⟨b, hv, hb7, hgb, hw7⟩ := he
  cases hv
  clear hK K
  rw [show (po2.toList.getD 1 default).dst = some 13 by kernel_rfl]
  have K7 := K6.put (d := 13) (v := fv b) rfl
  generalize a6.put (some 13) (fv b) = a7 at K7 ⊢
  have hO7 := hO5.bel hb7
  have s7 := hb7.size
  have hw57 := (hb7.block ob (lt' hw5)).trans hw5
  have hown7 := own_bel hown5 hb7
  have hb17 := hb15.trans (hb7.mono hb15.size)
  have hb07 := hb1.trans (hb17.mono hb1.size)
  refine wp_block ((wpIn_wide (n := 1)).1 (wpIn_rangeFunc fun fn _ => ?_))
  obtain ⟨w8, hW8⟩ : ∃ W, (w7.alloc (.deferred (some []))).alloc (.loop (rc fn a7.tmps w7.heap.size .ready none)) = W := ⟨_, rfl⟩
  have hlp8 : w8.heap[w7.heap.size + 1]? = some (.loop (rc fn a7.tmps w7.heap.size .ready none)) := by
    rw [← hW8]
    have := World.alloc_heap_new (w7.alloc (.deferred (some []))) (.loop (rc fn a7.tmps w7.heap.size .ready none))
    rwa [World.size_alloc] at this
  have hdf8 : w8.heap[w7.heap.size]? = some (.deferred (some [])) := by
    rw [← hW8]
    exact (Below.heap_alloc _ _ _ (by simp)).trans (World.alloc_heap_new w7 _)
  have hb8 : Below w7.heap.size w7 w8 := by
    rw [← hW8]
    exact ((Below.refl w7.heap.size w7).alloc (Nat.le_refl _) _).alloc (by simp) _
  have s8 : w8.heap.size = w7.heap.size + 2 := by
    rw [← hW8]
    simp
  refine ⟨w7.heap.size + 1, [{ target := .collected w7.heap.size, args := #[] }], w8, { target := .fn (.func 37) #[pt b], args := #[yv (w7.heap.size + 1)] }, w8, 37,
    #[yv (w7.heap.size + 1), pt b], w8, ?_, ?_, fun _ _ => trivial, ?_, fun h => (by cases h), callsIn_wide.2 ?_⟩
  · rw [← hW8]
    exact run_enterLoop_outer _ _ _ _ _
  · have h13 : a7.eval (.tmp 13) = fv b := K7.get (by simp)
    simp only [resolve, h13]
    simp [go_sem]
  · have : enters Tryd.prog 37 = true := by kernel_rfl
    exact run_enters this _ _
  have hO8 := hO7.bel hb8
  have h57 := lt' hw5
  have s4 := hb4.size
  have s41 := (hown5.lt _ rfl).2
  have hJ8 : PJ w8 w.heap.size (w7.heap.size + 1) w7.heap.size ob fn a7.tmps x.f (fun k => k < w7.heap.size ∧ k ≠ ob ∧ k ≠ w1.heap.size) 0 w8 := by
    refine ⟨hlp8, hdf8, ⟨some ⟨w1.heap.size, 0, none⟩, x.m.length, (hb8.block ob (lt' hw57)).trans hw57, own_bel hown7 hb8, fun g hg => ?_⟩, ⟨fun hx => ?_, fun hx => ?_, fun hx => ?_⟩, fun k hk => ?_, ?_, rfl, rfl, rfl⟩
    · cases hg
      exact fun hx => hx.2.2 rfl
    · omega
    · omega
    · exact hx.2.1 rfl
    · omega
    · omega
  have h3 : a7.tmps.getD 3 undef = pt ob := K7.vals (3, _) (by simp)
  refine Calls.mono (Each1.calls (B := B) (J := PJ w8 w.heap.size (w7.heap.size + 1) w7.heap.size ob fn a7.tmps x.f) hn ⟨fun X j w w' h hb => h.grow hb, fun X j w h hj => h.round K7.size h3 (by omega)⟩ hO8 ((hb8.block b (lt' hw7)).trans hw7) hJ8 (fun k hk => by
    have h1 := (hO1.blk hk).2
    refine ⟨by omega, by omega, by omega⟩) ⟨lt' hw7, by omega, by omega⟩) fun e w9 he => ?_
  obtain ⟨rfl, ⟨X', hJ9⟩, hk9⟩ := he
  obtain ⟨A, c, ho9, hr9, _⟩ := hJ9.out
  refine ⟨_, _, run_endLoop hJ9.lp (by simp [rc]), ?_⟩
  have hg10 : w9.grownBy (w9.putObj (w7.heap.size + 1) (.loop { rc fn a7.tmps w7.heap.size .ready none with state := .exhausted })) (some (w7.heap.size + 1)) := grownBy_putObj' w9 _ _
  show Exit.inBlock 0 _ .normal _ (w9.putObj (w7.heap.size + 1) (.loop { rc fn a7.tmps w7.heap.size .ready none with state := .exhausted }))
  generalize w9.putObj (w7.heap.size + 1) (.loop { rc fn a7.tmps w7.heap.size .ready none with state := .exhausted }) = w10 at hg10 ⊢
  have ho10 := grown_cells ho9 hg10 (obj_ne ho9 hJ9.lp (by simp))
  have hdf10 := grown_cells hJ9.df hg10 (obj_ne hJ9.df hJ9.lp (by simp))
  have hr10 := grown_row hr9 hg10 fun g hg e => own_no hr9 hJ9.lp (fun _ => by simp) (hg.trans e.symm)
  rw [show ({ a7 with defers := [{ target := .collected w7.heap.size, args := #[] }] ++ a7.defers } : Act) = app [{ target := .collected w7.heap.size, args := #[] }] a7 by unfold app; rw [K7.defers]; rfl]
  show wpL Tryd.prog [.region 6 po6 false, .ret] _ _ w10
  refine region_ds ?_
  rw [← List.append_nil po6.toList]
  refine read_kp (e := rowsN (nth [bxR ob [Value.slice A n c]])) (us := [.slice A n c]) (xokN fun y hy e => by
    obtain rfl := List.mem_singleton.1 hy
    exact box_heap (t := 25) ho10) (po6_v ob (.slice A n c)) K7 (fun p hp => ?_) ?_ (by kernel_rfl) fun a11 K11 => ?_
  · obtain rfl := List.mem_singleton.1 hp
    exact ⟨by rw [den_n _ ob 0 _ rfl]; simp, ok_n _ ob 0 _ rfl _⟩
  · simp only [List.map_cons, List.map_nil, @den_val (rowsN (nth [bxR ob [Value.slice A n c]]))]
  show wpL Tryd.prog [.ret] _ _ w10
  refine wp_ret ?_
  show LeavesInM Fence.wide 0 Tryd.prog Tryd.f19 a11.tmps _ (app [{ target := .collected w7.heap.size, args := #[] }] a11).defers .returning w10
  rw [show (app [{ target := .collected w7.heap.size, args := #[] }] a11).defers = [{ target := .collected w7.heap.size, args := #[] }] by unfold app; rw [K11.defers]; rfl]
  have hg11 : w10.grownBy (w10.putObj w7.heap.size (.deferred none)) (some w7.heap.size) := grownBy_putObj' w10 _ _
  have hrun11 := run_takeDeferred (P := Tryd.prog) hdf10
  generalize w10.putObj w7.heap.size (.deferred none) = w11 at hg11 hrun11
  have s9 := hg10.size
  refine ⟨by simp, .inl ⟨w7.heap.size, w11, rfl, hrun11, _, res19 _ _, A, c, ?_, ⟨?_, ?_, ?_, ?_, fun k hk => ?_⟩, ⟨grown_row hr10 hg11 fun g hg e => own_no hr10 hdf10 (fun _ => by simp) (hg.trans e.symm)⟩⟩⟩
  · rw [K11.vals (2, .slice A n c) (by simp)]
  · rw [hg11.os, hg10.os, hJ9.io.1, hb8.os]; exact hb07.os
  · rw [hg11.tape, hg10.tape, hJ9.io.2.1, hb8.tape]; exact hb07.tape
  · rw [hg11.output, hg10.output, hJ9.io.2.2, hb8.output]; exact hb07.output
  · have := hg11.size
    have := hJ9.base
    omega
  · have e9 := hk9 k ⟨by omega, by omega, by omega⟩ (by omega)
    have := lt' hJ9.df
    rw [hg11.block k (by omega) (fun e => by cases e; omega), hg10.block k (by omega) (fun e => by cases e; omega), e9, hb8.block k (by omega)]
    exact hb07.block k hk
end Go.Proofs.YtbpdpnoekkkapaaDoor.PDescKinds
end
section
namespace Go.Proofs.YtbpdpnoekkkapaaDoor.PDescKinds
open Go.RowKit Go.Proofs.YtbpdpnoekkkapaaDoorW.PrintWords Go.Proofs.YtbpdpnoekkkapaaDoorW.PrintLast Go.Proofs.YtbpdpnoekkkapaaDoorW.PrintMore
namespace S
def dl : List UInt8 → Nat → Option Nat
  | [], n => some n
  | c :: r, n => if 48 ≤ c.toNat ∧ c.toNat ≤ 57 then dl r (10 * n + (c.toNat - 48)) else none
def dig0 (l : List UInt8) : Nat × Bool := match dl l 0 with
  | some n => if n ≤ 4294967294 then (n, true) else (0, false)
  | none => (0, false)
def digBad (s : ByteArray) : Bool := decide (s.size = 0) || (decide (16 < s.size) || (decide ((s.data.toList.getD 0 0).toNat = 48) && !decide (s.size = 1)))
def dig (s : ByteArray) : Nat × Bool := bif digBad s then (0, false) else dig0 s.data.toList
end S
set_option maxHeartbeats 32000000 in
set_option maxRecDepth 100000 in
theorem digits.walk (s : ByteArray) (h0 : 0 < s.size) (h1 : s.size ≤ 16) (hb : (bt s 0 = 48 → s.size = 1)) (w : World) :
    Calls Tryd.prog 72 #[.string s, .int .u64 4294967294] w fun e w' => e = .returned (.tuple #[.int .u64 ((S.dig0 s.data.toList).1 : Int), .bool (S.dig0 s.data.toList).2]) ∧ w' = Lib.bytesWorld w 5 s := by
  have hcv := Lib.run_convert_string_bytes (P := Tryd.prog) w 9 130 5 s (u := .string) Tryd.underlying9 Tryd.underlying130 Tryd.underlying5
  have hB : ∀ j, j < s.size → (Lib.bytesWorld w 5 s).cell? ⟨w.heap.size, j, none⟩ = some (.int .u8 (s.data.toList.getD j 0).toNat) := fun j hj => Lib.bytesWorld_cell w 5 s j hj
  obtain ⟨W1, hW1⟩ : ∃ W1, W1 = Lib.bytesWorld w 5 s := ⟨_, rfl⟩
  rw [← hW1] at hcv hB ⊢
  clear hW1
  have hemp : (s.toList == ([] : List UInt8)) = false := by
    rw [Lib.toList_data, beq_eq_false_iff_ne]
    intro e
    have : s.data.toList.length = 0 := by rw [e]; rfl
    rw [Array.length_toList] at this
    have : s.size = 0 := this
    omega
  have h16 : decide (16 < (s.size : Int)) = false := decide_eq_false (by omega)
  have q6 : (0 < s.size) = True := eq_true h0
  have hx6 : ∀ h : 0 < s.size, ((s[0]'h).toNat : Int) = bt s 0 := bt_at s 0
  have qi6 : (0 < (s.size : Int)) = True := eq_true (by omega)
  obtain ⟨bs, hL⟩ : ∃ bs, bs = s.data.toList := ⟨_, rfl⟩
  have hLn : bs.length = s.size := by rw [hL, Array.length_toList]; rfl
  rw [← hL] at hB ⊢
  go_enter Tryd.func72, Tryd.ntmps72
  go_upto_region 1 with (fail)
  go_cut [24] (fun v24 wc => v24 = .bool false ∧ wc = w)
  case first =>
    by_cases c7 : bt s 0 = 48
    · have c7b0 : (bt s 0 == 48) = true := beq_iff_eq.mpr c7
      have hs1 := hb c7
      have hone : (s.toList == ([48] : List UInt8)) = true := by
        have hl : bs.length = 1 := by omega
        obtain ⟨c, hc⟩ := List.length_eq_one_iff.1 hl
        have := hx6 h0
        have hg : s[0]'h0 = c := by
          have h1 : s[0]'h0 = s.data.toList[0]'(by rw [Array.length_toList]; exact h0) := rfl
          rw [h1]
          have : s.data.toList = [c] := by rw [← hL]; exact hc
          simp [this]
        rw [Lib.toList_data, beq_iff_eq, ← hL, hc]
        have h48 : c.toNat = 48 := by rw [hg] at this; omega
        have : c = 48 := UInt8.toNat_inj.1 (by rw [h48]; rfl)
        rw [this]
      clear hL
      go_wp2
      go_meet
      case rel => exact ⟨by first | rfl | (simp [hone]; done), rfl⟩
    · have c7b0 : (bt s 0 == 48) = false := beq_eq_false_iff_ne.mpr c7
      clear hL
      go_wp2
      go_meet
      case rel => exact ⟨by first | rfl | (simp; done), rfl⟩
  case rest =>
    clear hL
    obtain ⟨rfl, rfl⟩ := hcut
    go_wp2
    go_loop [6, 28] (fun vn vi => ∃ (k acc : Nat) (a : Int), vn = .int .u64 a ∧ vi = .int .i64 k ∧ k ≤ s.size ∧ Hid (a = (acc : Int) ∧ acc < 10 ^ k ∧ S.dl bs 0 = S.dl (bs.drop k) acc))
      (fun _ vi => s.size - (intOf vi).toNat)
    case atStart => exact ⟨0, 0, 0, rfl, rfl, by omega, rfl, by decide, rfl⟩
    case round =>
      obtain ⟨k, acc, a, rfl, rfl, hk, hh⟩ := hrel
      obtain ⟨ha, hacc, hdec⟩ := hh.out
      clear hh
      have a0 : 0 ≤ a := by omega
      have a1 : a < 10000000000000000 := by
        have : 10 ^ k ≤ 10 ^ 16 := Nat.pow_le_pow_right (by decide) (by omega)
        omega
      by_cases hkn : k < s.size
      · have hc := hB k hkn
        have hdrop : bs.drop k = bs[k]'(by omega) :: bs.drop (k + 1) := List.drop_eq_getElem_cons (by omega)
        have hget : bs.getD k 0 = bs[k]'(by omega) := by simp [List.getD, List.getElem?_eq_getElem (show k < bs.length by omega)]
        rw [hdrop] at hdec
        rw [hget] at hc
        generalize bs[k]'(by omega) = c at hc hdec
        have hc256 : c.toNat < 256 := c.toNat_lt
        clear hB hdrop hget
        by_cases hdig : 48 ≤ c.toNat ∧ c.toNat ≤ 57
        · obtain ⟨hd0, hd1⟩ := hdig
          have hF : S.dl (c :: bs.drop (k + 1)) acc = S.dl (bs.drop (k + 1)) (10 * acc + (c.toNat - 48)) := by simp [S.dl, hd0, hd1]
          have HN : Hid (10 * a + ((c.toNat : Int) - 48) = ((10 * acc + (c.toNat - 48) : Nat) : Int) ∧ 10 * acc + (c.toNat - 48) < 10 ^ (k + 1) ∧ S.dl bs 0 = S.dl (bs.drop (k + 1)) (10 * acc + (c.toNat - 48))) := Lib.hid ⟨by omega, by rw [Nat.pow_succ]; omega, hdec.trans hF⟩
          clear hF hdec hacc ha
          go_wp2
          refine ⟨⟨k + 1, 10 * acc + (c.toNat - 48), 10 * a + ((c.toNat : Int) - 48), (by first | rfl | (congr 1; omega)), (by first | rfl | (congr 1; omega)), by omega, HN⟩, by simp [intOf]; omega⟩
        · have hF : S.dl (c :: bs.drop (k + 1)) acc = none := by simp [S.dl, hdig]
          rw [hF] at hdec
          have HN : Hid (S.dig0 bs = (0, false)) := Lib.hid (by unfold S.dig0; rw [hdec])
          clear hF hdec hacc ha
          by_cases hlo : c.toNat < 48
          · clear hdig
            go_wp2
            go_ret2
            exact ⟨by rw [HN.out]; rfl, rfl⟩
          · have hhi : 57 < c.toNat := by omega
            clear hdig
            go_wp2
            go_ret2
            exact ⟨by rw [HN.out]; rfl, rfl⟩
      · have hkk : k = s.size := by omega
        subst hkk
        have hF : S.dl (bs.drop s.size) acc = some acc := by rw [List.drop_eq_nil_of_le (by omega)]; rfl
        rw [hF] at hdec
        by_cases hm : acc ≤ 4294967294
        · have HN : Hid (S.dig0 bs = (acc, true)) := Lib.hid (by unfold S.dig0; rw [hdec]; simp [hm])
          have hm' : ¬ (4294967294 < a) := by omega
          clear hF hdec hacc
          subst ha
          go_wp2
          go_ret2
          exact ⟨by rw [HN.out]; rfl, rfl⟩
        · have HN : Hid (S.dig0 bs = (0, false)) := Lib.hid (by unfold S.dig0; rw [hdec]; simp [hm])
          have hm' : 4294967294 < a := by omega
          clear hF hdec hacc
          subst ha
          go_wp2
          go_ret2
          exact ⟨by rw [HN.out]; rfl, rfl⟩
theorem bytesWorld_below (w : World) (e : TypeId) (s : ByteArray) : Below w.heap.size w (Lib.bytesWorld w e s) :=
  ⟨rfl, rfl, rfl, by rw [Lib.bytesWorld_size]; omega, fun j hj => Lib.bytesWorld_at_old w e s j hj⟩
end Go.Proofs.YtbpdpnoekkkapaaDoor.PDescKinds
end
section
namespace Go.Proofs.YtbpdpnoekkkapaaDoor.PDescKinds
open Go.RowKit Go.Ev Go.Proofs.YtbpdpnoekkkapaaDoorW.PrintWords Go.Proofs.YtbpdpnoekkkapaaDoorW.PrintLast Go.Proofs.YtbpdpnoekkkapaaDoorW.PrintMore
theorem bt_head (s : ByteArray) (h0 : 0 < s.size) : bt s 0 = ((s.data.toList.getD 0 0).toNat : Int) := by
  have hx6 : ((s[0]'h0).toNat : Int) = bt s 0 := bt_at s 0 h0
  rw [← hx6]
  have h1 : s[0]'h0 = s.data.toList[0]'(by rw [Array.length_toList]; exact h0) := rfl
  rw [h1, List.getD_eq_getElem?_getD, List.getElem?_eq_getElem (by rw [Array.length_toList]; exact h0)]
  rfl
set_option maxHeartbeats 32000000 in
set_option maxRecDepth 100000 in
theorem digits.bad0 (s : ByteArray) (h0 : s.size = 0) (w : World) :
    Calls Tryd.prog 72 #[.string s, .int .u64 4294967294] w fun e w' => e = .returned (.tuple #[.int .u64 0, .bool false]) ∧ w' = w := by
  have hemp : (s.toList == ([] : List UInt8)) = true := by
    rw [Lib.toList_data, beq_iff_eq]
    apply List.eq_nil_of_length_eq_zero
    rw [Array.length_toList]
    exact h0
  go_enter Tryd.func72, Tryd.ntmps72
  go_wp2
  go_ret2
  exact ⟨rfl, rfl⟩
theorem not_emp (s : ByteArray) (h0 : 0 < s.size) : (s.toList == ([] : List UInt8)) = false := by
  rw [Lib.toList_data, beq_eq_false_iff_ne]
  intro e
  have : s.data.toList.length = 0 := by rw [e]; rfl
  rw [Array.length_toList] at this
  have : s.size = 0 := this
  omega
set_option maxHeartbeats 32000000 in
set_option maxRecDepth 100000 in
theorem digits.bad16 (s : ByteArray) (h0 : 16 < s.size) (w : World) :
    Calls Tryd.prog 72 #[.string s, .int .u64 4294967294] w fun e w' => e = .returned (.tuple #[.int .u64 0, .bool false]) ∧ w' = w := by
  have hemp := not_emp s (by omega)
  have h16 : decide (16 < (s.size : Int)) = true := decide_eq_true (by omega)
  go_enter Tryd.func72, Tryd.ntmps72
  go_wp2
  go_ret2
  exact ⟨rfl, rfl⟩
set_option maxHeartbeats 32000000 in
set_option maxRecDepth 100000 in
theorem digits.badZ (s : ByteArray) (h0 : 1 < s.size) (h1 : s.size ≤ 16) (c7 : bt s 0 = 48) (w : World) :
    Calls Tryd.prog 72 #[.string s, .int .u64 4294967294] w fun e w' => e = .returned (.tuple #[.int .u64 0, .bool false]) ∧ w' = w := by
  have hemp := not_emp s (by omega)
  have h16 : decide (16 < (s.size : Int)) = false := decide_eq_false (by omega)
  have q6 : (0 < s.size) = True := eq_true (by omega)
  have hx6 : ∀ h : 0 < s.size, ((s[0]'h).toNat : Int) = bt s 0 := bt_at s 0
  have qi6 : (0 < (s.size : Int)) = True := eq_true (by omega)
  have c7b0 : (bt s 0 == 48) = true := beq_iff_eq.mpr c7
  have hone : (s.toList == ([48] : List UInt8)) = false := by
    rw [Lib.toList_data, beq_eq_false_iff_ne]
    intro e
    have : s.data.toList.length = 1 := by rw [e]; rfl
    rw [Array.length_toList] at this
    have : s.size = 1 := this
    omega
  go_enter Tryd.func72, Tryd.ntmps72
  go_wp2
  go_ret2
  exact ⟨rfl, rfl⟩
theorem digits.calls (s : ByteArray) (w : World) : Calls Tryd.prog 72 #[.string s, .int .u64 4294967294] w fun e w' => e = .returned (.tuple #[.int .u64 ((S.dig s).1 : Int), .bool (S.dig s).2]) ∧ Below w.heap.size w w' := by
  have bad : ∀ (h : S.digBad s = true), (Calls Tryd.prog 72 #[.string s, .int .u64 4294967294] w fun e w' => e = .returned (.tuple #[.int .u64 0, .bool false]) ∧ w' = w) → Calls Tryd.prog 72 #[.string s, .int .u64 4294967294] w fun e w' => e = .returned (.tuple #[.int .u64 ((S.dig s).1 : Int), .bool (S.dig s).2]) ∧ Below w.heap.size w w' := fun h hc => by
    refine hc.mono fun e w' he => ?_
    obtain ⟨rfl, rfl⟩ := he
    refine ⟨?_, Below.refl _ _⟩
    unfold S.dig
    rw [h]
    rfl
  by_cases h0 : s.size = 0
  · exact bad (by unfold S.digBad; simp [h0]) (digits.bad0 s h0 w)
  by_cases h16 : 16 < s.size
  · exact bad (by unfold S.digBad; simp [h16]) (digits.bad16 s h16 w)
  have hb := bt_head s (by omega)
  by_cases hz : bt s 0 = 48 ∧ 1 < s.size
  · refine bad ?_ (digits.badZ s hz.2 (by omega) hz.1 w)
    unfold S.digBad
    have : (s.data.toList.getD 0 0).toNat = 48 := by rw [hb] at hz; omega
    rw [decide_eq_true this, decide_eq_false (by omega : ¬ s.size = 1)]
    simp only [Bool.not_false, Bool.and_self, Bool.or_true]
  · refine (digits.walk s (by omega) (by omega) (fun h => Classical.byContradiction fun h1 => hz ⟨h, by omega⟩) w).mono fun e w' he => ?_
    obtain ⟨rfl, rfl⟩ := he
    refine ⟨?_, bytesWorld_below w 5 s⟩
    unfold S.dig
    have : S.digBad s = false := by
      unfold S.digBad
      have : ¬ ((s.data.toList.getD 0 0).toNat = 48 ∧ s.size ≠ 1) := fun h => hz ⟨by rw [hb, h.1]; rfl, by omega⟩
      simp only [Bool.or_eq_false_iff, decide_eq_false_iff_not, Bool.and_eq_false_iff, Bool.not_eq_false']
      refine ⟨h0, h16, ?_⟩
      by_cases h1 : (s.data.toList.getD 0 0).toNat = 48
      · exact .inr (decide_eq_true (Classical.byContradiction fun h2 => this ⟨h1, h2⟩))
      · exact .inl h1
    rw [this]
    rfl
def onSU (g : ByteArray → DT Value) : List Value → Option (DT Value)
  | [.string s, .int .u64 4294967294] => some (g s)
  | _ => none
theorem onSU_eq {g : ByteArray → DT Value} {l : List Value} {t : DT Value} (h : onSU g l = some t) : ∃ s, l = [.string s, .int .u64 4294967294] ∧ t = g s := by
  unfold onSU at h
  split at h
  · simp only [Option.some.injEq] at h; exact ⟨_, rfl, h.symm⟩
  · cases h
def TDig (s : ByteArray) : DT Value := .leaf (.tuple #[.int .u64 ((S.dig s).1 : Int), .bool (S.dig s).2])
theorem ent_dig : E (72, onSU TDig) := fun args t v h hv w hI => by
  obtain ⟨s, rfl, rfl⟩ := onSU_eq h
  cases hv
  exact digits.calls s w
end Go.Proofs.YtbpdpnoekkkapaaDoor.PDescKinds
end
section
namespace Go.Proofs.YtbpdpnoekkkapaaDoor.PDescKinds
open Go.RowKit Go.Ev Go.Proofs.YtbpdpnoekkkapaaDoorV.PrintLast
set_option maxRecDepth 100000
def onKK (g : K → K → DT Value) : List Value → Option (DT Value)
  | [x, y] => match getK x with
    | some a => match getK y with
      | some b => some (g a b)
      | none => none
    | none => none
  | _ => none
theorem onKK_eq {g : K → K → DT Value} {l : List Value} {t : DT Value} (h : onKK g l = some t) : ∃ a b, l = [a.agg, b.agg] ∧ t = g a b := by
  unfold onKK at h
  split at h
  · split at h
    · rename_i v hv
      split at h
      · rename_i u hu
        simp only [Option.some.injEq] at h
        exact ⟨v, u, by rw [getK_agg hv, getK_agg hu], h.symm⟩
      · cases h
    · cases h
  · cases h
namespace S
def ix (k : K) : Int := IntKind.u32.wrap ((dig k.s).1 : Int)
def cmp (a b : K) : Int := bif a.n != 0 then (bif b.n != 0 then 0 else 1) else bif (dig a.s).2 then (bif b.n != 0 then -1 else bif (dig b.s).2 then (bif decide (ix a < ix b) then -1 else bif decide (ix a > ix b) then 1 else 0) else -1) else (bif b.n != 0 then -1 else bif (dig b.s).2 then 1 else 0)
end S
def TCmp (a b : K) : DT Value := .leaf (.int .i64 (S.cmp a b))
theorem bne_self_f (a : Int) : (a != a) = false := by simp
theorem ev42 (a b : K) : evFn Tryd.prog ext (tab [(72, onSU TDig)]) 60 42 [a.agg, b.agg] = some (.int .i64 (S.cmp a b)) := by
  have h : evFn Tryd.prog ext (tab [(72, onSU TDig)]) 60 42 [a.agg, b.agg] =
    (bif a.n != 0 then 
     (bif b.n != 0 then some (Value.int IntKind.i64 0) else 
      (bif (S.dig b.s).snd then 
       (bif S.ix b != S.ix b then some (Value.int IntKind.i64 1) else 
        (bif decide (0 < S.ix b) then some (Value.int IntKind.i64 1) else some (Value.int IntKind.i64 1))) else some (Value.int IntKind.i64 1))) else 
     (bif (S.dig a.s).snd then 
      (bif b.n != 0 then 
       (bif S.ix a != S.ix a then some (Value.int IntKind.i64 (-1)) else 
        (bif decide (S.ix a > 0) then some (Value.int IntKind.i64 (-1)) else some (Value.int IntKind.i64 (-1)))) else 
       (bif (S.dig b.s).snd then 
        (bif S.ix a != S.ix a then 
         (bif S.ix b != S.ix b then some (Value.int IntKind.i64 0) else some (Value.int IntKind.i64 (-1))) else 
         (bif S.ix b != S.ix b then some (Value.int IntKind.i64 1) else 
          (bif decide (S.ix a < S.ix b) then some (Value.int IntKind.i64 (-1)) else 
           (bif decide (S.ix a > S.ix b) then some (Value.int IntKind.i64 1) else some (Value.int IntKind.i64 0))))) else 
        (bif S.ix a != S.ix a then some (Value.int IntKind.i64 (-1)) else 
         (bif decide (S.ix a > 0) then some (Value.int IntKind.i64 (-1)) else some (Value.int IntKind.i64 (-1)))))) else 
      (bif b.n != 0 then some (Value.int IntKind.i64 (-1)) else 
       (bif (S.dig b.s).snd then 
        (bif S.ix b != S.ix b then some (Value.int IntKind.i64 1) else 
         (bif decide (0 < S.ix b) then some (Value.int IntKind.i64 1) else some (Value.int IntKind.i64 1))) else some (Value.int IntKind.i64 0))))) := by kernel_rfl
  rw [h]
  unfold S.cmp
  rw [bne_self_f, bne_self_f]
  cases a.n != 0 <;> cases b.n != 0 <;> cases (S.dig a.s).2 <;> cases (S.dig b.s).2 <;> cases decide (S.ix a < S.ix b) <;> cases decide (S.ix a > S.ix b) <;> cases decide (0 < S.ix b) <;> cases decide (S.ix a > 0) <;> rfl
theorem ent_cmp : E (42, onKK TCmp) := byEv (entries_cons ent_dig entries_nil) 60 fun args t h => by
  obtain ⟨a, b, rfl, rfl⟩ := onKK_eq h
  exact ev42 a b
abbrev AK : Tab := [(33, onK TC), (42, onKK TCmp)]
theorem entsAK : ∀ p ∈ AK, E p := entries_cons ent_chk (entries_cons ent_cmp entries_nil)
noncomputable def cl : List Code := bodyOf Tryd.f40
noncomputable def cl3 : Array Oper := opsOf (cl.getD 3 .skip)
theorem cl_eq : cl = [cl.getD 0 .skip, cl.getD 1 .skip, cl.getD 2 .skip] ++ [.region 3 cl3 false, .ret] := by kernel_rfl
theorem cl3_eq : cl3.toList = cl3.toList.take 2 ++ [cl3.toList.getD 2 default, cl3.toList.getD 3 default] := by kernel_rfl
theorem cl0 (ad : Addr) (n c : Nat) : letI := row0
    evK Tryd.prog ext (tab []) 60 8 (seqL [cl.getD 0 .skip, cl.getD 1 .skip, cl.getD 2 .skip]) (⟨argS ([.slice (some ad) n c].map SV.val), fun _ => none, 0⟩) (grab Tryd.prog Tryd.f40 [0] [] 0) = some (Res.cut Ex.normal ⟨[(0, .val (.slice (some ad) n c))], []⟩) := by kernel_rfl
theorem cl1 (ad : Addr) (n c : Nat) : letI := row0
    evOpsK Tryd.prog ext (callWithK Tryd.prog (tab []) (evK Tryd.prog ext (tab []) 20)) cl3 8 (cl3.toList.take 2) ((⟨[(0, .val (.slice (some ad) n c))], []⟩ : Cut).st 0) (fun st => cutS [5, 6] [0] 1 st) = some ⟨[(5, .slc 0 0 0 0), (6, .val (.slice (some ad) n c))], [(0, ⟨34, [].map SV.val⟩)]⟩ := by kernel_rfl
theorem cl3_3 (v : Value) : letI := row0
    evP Tryd.prog (Ev.look (pickT [(7, .val v)])) (cl3.toList.getD 3 default) = some (.val v) := by kernel_rfl
theorem cl2 (v : Value) : letI := row0
    evK Tryd.prog ext (tab []) 60 8 (seqL [.ret]) ((⟨[(2, .val v)], []⟩ : Cut).st 0) (grab Tryd.prog Tryd.f40 [] [] 0) = some (Res.ret (.val v)) := by kernel_rfl
theorem infoK : ∃ (i : TypeInfo) (z : Value), Tryd.prog.info? 34 = some i ∧ i.zero = some z ∧ i.size = 2 ∧ i.bytes = 24 ∧ z.cells.size = 2 := info_of (by kernel_rfl)
theorem und49 : Tryd.prog.underlying 49 = some (.slice 34) := by kernel_rfl
theorem K.len (k : K) : k.list.length = 2 := rfl
theorem K.one (k : K) : ∀ u ∈ k.list, u.oneCell' = true := by
  intro u hu
  simp only [K.list, List.mem_cons, List.not_mem_nil, or_false] at hu
  rcases hu with rfl | rfl <;> rfl
theorem own_empty {w : World} {B g ty z : Nat} (hg : B ≤ g) (h : w.heap[g]? = some (.cells #[] ty (0, 0))) : w.ownsRow B ty z (.slice (some ⟨g, 0, none⟩) 0 0) 0 [] :=
  ⟨by simp, .inr ⟨g, 0, #[], rfl, hg, h, Nat.le_refl _, by omega, by simp, by simp⟩⟩
theorem CloneK.calls {b n c : Nat} {A : Option Addr} {f : Nat → K} {w : World} (h : w.ownsRow b 34 2 (.slice A n c) n ((List.range n).flatMap fun i => (f i).list)) (h1 : 1 ≤ n) (h2 : n ≤ 1000) :
    Calls Tryd.prog 40 #[.slice A n c] w fun e w' => ∃ A' c', e = .returned (.slice A' n c') ∧ Below w.heap.size w w' ∧ w'.ownsRow w.heap.size 34 2 (.slice A' n c') n ((List.range n).flatMap fun i => (f i).list) := by
  rcases row_slice h with ⟨_, e, _⟩ | ⟨g, rfl, hg1, hg2⟩
  · omega
  refine enter_vals (vs := [.slice (some ⟨g, 0, none⟩) n c]) (N := 8) Tryd.func40 (by kernel_rfl) (by kernel_rfl) (show 1 ≤ 8 by decide) fun a0 h0 => ?_
  show wpL Tryd.prog cl _ _ _
  rw [cl_eq, wpL_app]
  refine pieceZ (cl0 ⟨g, 0, none⟩ n c) h0 (fun v hv => by cases hv) (fun ex c' hc m a1 w1 hr => ?_)
  cases hc
  have hb1 := SR.bel hr
  have K1 : Kp 8 [(0, .slice (some ⟨g, 0, none⟩) n c)] a1 := SR.kp hr fun p hp => by
    obtain rfl := List.mem_singleton.1 hp
    exact ⟨rfl, @den_val row0 _ _⟩
  refine wp_region_list ?_
  rw [cl3_eq]
  refine opsE row0 Ap.ctx0 (cl1 ⟨g, 0, none⟩ n c) trivial (K1.sr w1) fun m2 a2 w2 hr2 => ?_
  have hb2 := SR.bel hr2
  have ⟨hg2', hw2⟩ := SR.own (b := 0) (l := []) (ty := 34) hr2 rfl
  have K2 : Kp 8 [(5, .slice (some ⟨m2 0, 0, none⟩) 0 0), (6, .slice (some ⟨g, 0, none⟩) n c)] a2 := SR.kp hr2 fun p hp => by
    simp only [List.mem_cons, List.not_mem_nil, or_false] at hp
    rcases hp with rfl | rfl
    · exact ⟨rfl, @den_slc row0 _ _ _ _ _⟩
    · exact ⟨rfl, @den_val row0 _ _⟩
  have hb12 := hb1.trans (hb2.mono hb1.size)
  have s1 := hb1.size
  have s2 := hb2.size
  have h2' := own_bel h hb12
  obtain ⟨i34, z34, q1, q2, q3, q4, q5⟩ := infoK
  have hM : maxLen = 9223372036854775807 := by decide +kernel
  refine wpList_plain (by kernel_rfl) fun KK hK => ?_
  refine wp_append_fresh (.tmp 5) (.tmp 6) 49 (by kernel_rfl) w.heap.size 34 i34 z34 2 24 und49 q1 q2 q3 q4 q5 (by decide) (.slice (some ⟨m2 0, 0, none⟩) 0 0) 0 [] (K2.get (by simp)) (own_empty (by omega) hw2) ⟨g, 0, none⟩ n c ((List.range n).flatMap fun i => (f i).list) (K2.get (by simp)) (flat_len (fun i => K.len _) n) (fun j u hu => ?_) (fun u hu => ?_) (by omega) (by omega) (by omega) fun u w3 hown hgr hfr => hK _ _ ?_
  · exact h2'.cells (g := g) rfl _ _ hu
  · obtain ⟨i, _, hi⟩ := List.mem_flatMap.1 hu
    exact K.one _ u hi
  clear KK hK
  rw [show (cl3.toList.getD 2 default).dst = some 7 by kernel_rfl]
  rw [Nat.zero_add, List.nil_append] at hown
  have hu := (own_slice hown).1
  generalize slA u = A' at hu
  generalize slC u = c'' at hu
  subst hu
  have K3 := K2.put (d := 7) (v := .slice A' n c'') rfl
  generalize a2.put (some 7) (.slice A' n c'') = a3 at K3 ⊢
  have hb3 : Below w.heap.size w w3 := hb12.trans (below_grown (g := m2 0) (by omega) hgr (by omega))
  refine one_evL (e := row0) (by kernel_rfl) (xok_0 _) K3 (fun q hq => ?_) (cl3_3 (.slice A' n c'')) (d := 2) (by kernel_rfl) (by kernel_rfl) fun a4 K4 => ?_
  · obtain rfl := List.mem_singleton.1 hq
    exact ⟨by rw [@den_val row0]; simp, @ok_val row0 _ _⟩
  rw [@den_val row0] at K4
  show wpL Tryd.prog [.ret] _ a4 w3
  refine pieceZ (cl2 (.slice A' n c'')) ((K4.sub (us := [(2, .slice A' n c'')]) (by simp)).sr w3) (fun v hv m' a' w' hd hres hb' => ?_) (fun ex d hd => by cases hd)
  cases hv
  rw [@den_val row0] at hres
  exact ⟨hd, _, hres, A', c'', rfl, hb3.trans (hb'.mono hb3.size), own_bel hown hb'⟩
end Go.Proofs.YtbpdpnoekkkapaaDoor.PDescKinds
end
