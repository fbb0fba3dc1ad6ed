/- InvariantBroken, plain: what the program answers of two moments is what the document says. -/
import Derived.Test.YtaojjpdlfnphiaaDoorN3
set_option linter.unusedSimpArgs false
set_option linter.unusedVariables false
set_option linter.unusedSectionVars false
namespace Go.Proofs.YtaojjpdlfnphiaaDoor.PDescKinds
open Go.RowKit Go.Ev FloatEq
namespace R
theorem big_eq {a : Nat} (h : a < 18446744073709551616) : big a = decide (infR < rung a) := by
  have e : IntKind.u64.wrap (↑(BitVec.ofInt IntKind.u64.bits (a : Int) &&& ~~~BitVec.ofInt IntKind.u64.bits 9223372036854775808).toNat : Int) = ((a &&& (18446744073709551615 - 9223372036854775808) : Nat) : Int) := by
    have := u64_andNot (a : Int) 9223372036854775808 (by omega) (by omega) (by omega) (by omega)
    exact this
  unfold big
  rw [e, show 18446744073709551615 - 9223372036854775808 = 2 ^ 63 - 1 by decide, Nat.and_two_pow_sub_one_eq_mod]
  refine decide_eq_decide.2 ?_
  unfold infR rung
  omega
theorem bits_eq {a b : Nat} (ha : a < 18446744073709551616) (hb : b < 18446744073709551616) : (a = b) ↔ (sgn a = sgn b ∧ rung a = rung b) := by
  unfold sgn rung
  constructor
  · rintro rfl; exact ⟨rfl, rfl⟩
  · rintro ⟨h1, h2⟩
    have e1 : a / 9223372036854775808 % 2 = b / 9223372036854775808 % 2 := by
      have k1 : a / 9223372036854775808 % 2 = 0 ∨ a / 9223372036854775808 % 2 = 1 := by omega
      have k2 : b / 9223372036854775808 % 2 = 0 ∨ b / 9223372036854775808 % 2 = 1 := by omega
      rcases k1 with k1 | k1 <;> rcases k2 with k2 | k2 <;> rw [k1, k2] at h1 <;> first | (rw [k1, k2]; done) | (exact absurd h1 (by decide))
    omega
theorem nan_big {a : Nat} (h : a < 18446744073709551616) : S.nan a = big a := by
  rw [big_eq h, ← nan_iff]
  rfl
theorem ieq (a b : Nat) : (((a : Nat) : Int) == ((b : Nat) : Int)) = decide (a = b) := by
  by_cases h : a = b
  · subst h; simp
  · have : ¬ (a : Int) = b := by omega
    simp [h, this]
theorem num_eq {a b : Nat} (ha : a < 18446744073709551616) (hb : b < 18446744073709551616) : S.numSame a b = num2 a b := by
  unfold S.numSame num2
  rw [nan_big ha, nan_big hb, ieq, big_eq ha, big_eq hb]
  by_cases h : infR < rung a <;> by_cases h2 : infR < rung b
  · simp [h, h2]
  · have : ¬ a = b := by rintro rfl; exact h2 h
    simp [h, h2, this]
  · have : ¬ a = b := by rintro rfl; exact h h2
    simp [h, h2, this]
  · simp only [decide_eq_false h, decide_eq_false h2, Bool.or_self, cond_false, Bool.and_self, Bool.false_or]
    rw [neg_sgn, neg_sgn]
    by_cases hs : sgn a = sgn b
    · have hf : S.feq a b = decide (rung a = rung b) := feq_same h h2 hs
      rw [hf]
      by_cases hr : rung a = rung b
      · have : a = b := (bits_eq ha hb).2 ⟨hs, hr⟩
        subst this; simp
      · have : ¬ a = b := fun e => hr ((bits_eq ha hb).1 e).2
        simp [hr, this]
    · have : ¬ a = b := fun e => hs ((bits_eq ha hb).1 e).1
      have hs' : (sgn a == sgn b) = false := by simpa using hs
      rw [hs']
      simp [this]
end R
/-! Moments whose numbers are numbers -/
def WfMo (m : Mo) : Prop := ∀ j, (m.g j).p.wf ∧ ∀ i, ((m.g j).g i).d.wf
theorem eqV_eq {a b : V} (ha : a.wf) (hb : b.wf) : S.eqC a b = R.eqR a b := by
  unfold S.eqC R.eqR
  rw [R.num_eq ha hb]
theorem eqD_eq {a b : D} (ha : a.wf) (hb : b.wf) : S.alikeC a b = R.eqDR a b := by
  unfold S.alikeC R.eqDR
  rw [eqV_eq ha.1 hb.1, eqV_eq ha.2.1 hb.2.1, eqV_eq ha.2.2 hb.2.2]
theorem eqR_symm (a b : V) : R.eqR a b = R.eqR b a := by
  unfold R.eqR R.num2
  rw [Bool.beq_comm (a := a.k), Bool.beq_comm (a := a.b), Bool.beq_comm (a := a.s.toList), Bool.beq_comm (a := a.id), Bool.and_comm (R.big a.n), Bool.beq_comm (a := (a.n : Int))]
theorem num2_refl (a : Nat) : R.num2 a a = true := by unfold R.num2; simp
theorem eqR_refl (a : V) : R.eqR a a = true := by unfold R.eqR; simp [num2_refl]
theorem eqDR_refl (a : D) : R.eqDR a a = true := by unfold R.eqDR; simp [eqR_refl]
theorem bytes_refl (a : ByteArray) : (a == a) = true := by
  cases a with | mk d =>
  show ByteArray.beq ⟨d⟩ ⟨d⟩ = true
  unfold ByteArray.beq
  simp
theorem keq_refl (a : K) : S.keq a a = true := by
  unfold S.keq
  rw [bytes_refl]
  simp
/-- A search of which but the finding counts. -/
theorem seek_bool {α : Type} (q : Nat → Bool) (x : α) (n : Nat) : seek (fun i => bif q i then some x else none) n 0 = bif decide (S.idx q n ≥ 0) then some x else none := by
  by_cases h : S.idx q n ≥ 0
  · obtain ⟨j, _, h2, h3⟩ := S.idx_some h
    rw [decide_eq_true h]
    cases hs : seek (fun i => bif q i then some x else none) n 0 with
    | none =>
      have := (S.seek_none n 0).1 hs j (Nat.zero_le _) (by omega)
      rw [h3] at this
      cases this
    | some v =>
      obtain ⟨k, _, _, h4⟩ := S.seek_some n 0 hs
      cases hq : q k with
      | false => rw [hq] at h4; cases h4
      | true => rw [hq] at h4; cases h4; rfl
  · rw [decide_eq_false h]
    have := S.idx_none (p := q) (n := n) (by omega)
    refine (S.seek_none n 0).2 fun j _ hj => ?_
    rw [this j (by omega)]
    rfl
theorem seek_map {α β : Type} (f : α → β) (p : Nat → Option α) : ∀ k i, seek (fun i => (p i).map f) k i = (seek p k i).map f
  | 0, _ => rfl
  | k + 1, i => by
    simp only [seek]
    cases p i with
    | some u => rfl
    | none => exact seek_map f p k (i + 1)
theorem lost_eq {b a : Sh} (hb : ∀ i, (b.g i).d.wf) (ha : ∀ i, (a.g i).d.wf) : R.rule2 b a = bif S.lost b a then some 6 else none := by
  have e : R.rule2 b a = (seek (fun i => bif (b.g i).d.c != 1 || S.find b (b.g i).k != (i : Int) then none else
      bif decide (S.find a (b.g i).k < 0) then some true else
      bif S.okK (b.g i).d (a.g (S.find a (b.g i).k).toNat).d then (bif S.keeps (b.g i).d (a.g (S.find a (b.g i).k).toNat).d then none else some true) else some true) b.n 0).map fun _ => 6 := by
    unfold R.rule2
    rw [← seek_map]
    refine S.seek_congr _ _ fun i _ _ => ?_
    rw [Bool.or_comm]
    cases ((b.g i).d.c != 1 || S.find b (b.g i).k != (i : Int)) with
    | true => rfl
    | false =>
      simp only [cond_false]
      cases decide (S.find a (b.g i).k < 0) with
      | true => rfl
      | false =>
        simp only [cond_false]
        have w1 := hb i
        have w2 := ha (S.find a (b.g i).k).toNat
        rw [R.okK_eq w1 w2]
        cases ho : S.okK (b.g i).d (a.g (S.find a (b.g i).k).toNat).d with
        | false => rfl
        | true =>
          simp only [cond_true]
          rw [R.keeps_eq w1 w2 ho]
          cases R.keeps (b.g i).d (a.g (S.find a (b.g i).k).toNat).d <;> rfl
  rw [e]
  unfold S.lost
  cases hs : seek _ b.n 0 with
  | none => rfl
  | some u =>
    obtain ⟨j, _, _, h3⟩ := S.seek_some b.n 0 hs
    have hu : u = true := by
      revert h3
      cases ((b.g j).d.c != 1 || S.find b (b.g j).k != (j : Int)) <;> cases decide (S.find a (b.g j).k < 0) <;> cases S.okK (b.g j).d (a.g (S.find a (b.g j).k).toNat).d <;> cases S.keeps (b.g j).d (a.g (S.find a (b.g j).k).toNat).d <;>
        simp only [cond_true, cond_false] <;> intro h <;> cases h <;> rfl
    subst hu
    rfl
theorem rule_eq {b a : Sh} (hb : b.p.wf) (ha : a.p.wf) (hbd : ∀ i, (b.g i).d.wf) (had : ∀ i, (a.g i).d.wf) : R.rule b a = (S.ruleO b a).getD 0 := by
  unfold R.rule S.ruleO
  rw [lost_eq hbd had, seek_bool (fun i => decide (S.find b (a.g i).k < 0)) (5 : Int) a.n, eqV_eq ha hb, eqR_symm a.p b.p, bne_comm (a := a.cl)]
  have hf : S.idx (fun i => decide (S.find b (a.g i).k < 0)) a.n = S.freshAt b a := rfl
  rw [hf]
  cases b.cl != a.cl <;> cases b.x <;> cases a.x <;> cases R.eqR b.p a.p <;> cases decide (S.freshAt b a ≥ 0) <;> cases S.lost b a <;> rfl
theorem ruleO_ne {b a : Sh} {r : Int} (h : S.ruleO b a = some r) : (r != 0) = true := by
  revert h
  unfold S.ruleO
  cases a.cl != b.cl <;> cases !b.x && a.x <;> cases !b.x && !S.eqC a.p b.p <;> cases !b.x && decide (S.freshAt b a ≥ 0) <;> cases S.lost b a <;> simp only [cond_true, cond_false] <;> intro h <;> cases h <;> rfl
theorem broken_eq {b a : Mo} (hb : WfMo b) (ha : WfMo a) : S.brokenO b a = R.broken b a := by
  unfold S.brokenO R.broken
  congr 1
  refine S.seek_congr _ _ fun i _ _ => ?_
  cases decide ((i : Int) ≥ (a.n : Int)) with
  | true => rfl
  | false =>
    simp only [cond_false]
    rw [rule_eq (hb i).1 (ha i).1 (hb i).2 (ha i).2]
    cases hr : S.ruleO (b.g i) (a.g i) with
    | none => rfl
    | some r =>
      simp only [Option.map_some, Option.getD_some, ruleO_ne hr, cond_true]
theorem sameSh_eq {a b : Sh} (ha : a.p.wf) (hb : b.p.wf) (had : ∀ i, (a.g i).d.wf) (hbd : ∀ i, (b.g i).d.wf) : S.sameSh a b = R.sameSh a b := by
  unfold S.sameSh R.sameSh S.sameP
  rw [eqV_eq ha hb]
  have e : seek (fun i => bif S.keq (a.g i).k (b.g i).k && S.alikeC (a.g i).d (b.g i).d then none else some false) a.n 0 = seek (fun i => bif !S.keq (a.g i).k (b.g i).k || !R.eqDR (a.g i).d (b.g i).d then some false else none) a.n 0 := by
    refine S.seek_congr _ _ fun i _ _ => ?_
    rw [eqD_eq (had i) (hbd i)]
    cases S.keq (a.g i).k (b.g i).k <;> cases R.eqDR (a.g i).d (b.g i).d <;> rfl
  rw [e]
  have h1 : (a.cl != b.cl) = !(a.cl == b.cl) := rfl
  rw [h1]
  cases a.cl == b.cl <;> cases R.eqR a.p b.p <;> cases a.x == b.x <;> cases (a.n : Int) != (b.n : Int) <;> simp
theorem same_eq {a b : Mo} (ha : WfMo a) (hb : WfMo b) : S.sameC a b = R.sameM a b := by
  unfold S.sameC R.sameM
  have e : seek (fun i => bif S.sameSh (a.g i) (b.g i) then none else some false) a.n 0 = seek (fun i => bif !R.sameSh (a.g i) (b.g i) then some false else none) a.n 0 := by
    refine S.seek_congr _ _ fun i _ _ => ?_
    rw [sameSh_eq (ha i).1 (hb i).1 (ha i).2 (hb i).2]
    cases R.sameSh (a.g i) (b.g i) <;> rfl
  rw [e]
theorem sealed_eq (s : Sh) : S.sealedC s = R.sealed s := by
  unfold S.sealedC R.sealed
  rw [seek_bool (fun i => (s.g i).d.c != 1) false s.n]
  have : S.idx (fun i => (s.g i).d.c != 1) s.n = S.confAt s := rfl
  rw [this]
  cases s.x <;> cases decide (S.confAt s ≥ 0) <;> rfl
theorem frozen_eq (s : Sh) : S.frozenC s = R.frozen s := by
  unfold S.frozenC R.frozen
  rw [seek_bool (fun i => !S.there (s.g i).d.g && (!S.there (s.g i).d.t && (s.g i).d.w != 1)) false s.n, sealed_eq]
  have : S.idx (fun i => !S.there (s.g i).d.g && (!S.there (s.g i).d.t && (s.g i).d.w != 1)) s.n = S.thawAt s := by
    unfold S.thawAt
    refine S.idx_congr fun i _ => ?_
    unfold S.there
    simp only [bne, Bool.not_not]
  rw [this]
  cases R.sealed s <;> cases decide (S.thawAt s ≥ 0) <;> rfl
theorem sameSh_refl (s : Sh) : R.sameSh s s = true := by
  unfold R.sameSh
  have e : seek (fun i => bif !S.keq (s.g i).k (s.g i).k || !R.eqDR (s.g i).d (s.g i).d then some false else none) s.n 0 = none := by
    refine (S.seek_none _ _).2 fun j _ _ => ?_
    rw [keq_refl, eqDR_refl]
    rfl
  rw [e, eqR_refl]
  simp
theorem sameM_refl (m : Mo) : R.sameM m m = true := by
  unfold R.sameM
  have e : seek (fun i => bif !R.sameSh (m.g i) (m.g i) then some false else none) m.n 0 = none := by
    refine (S.seek_none _ _).2 fun j _ _ => ?_
    rw [sameSh_refl]
    rfl
  rw [e]
  simp
theorem plain {m0 m1 m2 m3 : Mo} (w0 : WfMo m0) (w1 : WfMo m1) (t2 : Twin m2 m0) (t3 : Twin m3 m1) : Brk.Plain m0 m1 m2 m3 := by
  obtain ⟨A2, n2, c2, g2⟩ := m2
  obtain ⟨A3, n3, c3, g3⟩ := m3
  obtain ⟨h2, f2, e2⟩ := t2
  obtain ⟨h3, f3, e3⟩ := t3
  simp only at h2 e2 h3 e3
  subst h2 e2 h3 e3
  exact ⟨broken_eq (b := m0) (a := m1) w0 w1, same_eq (a := m0) (b := m1) w0 w1, fun i _ => sealed_eq (m0.g i), fun i _ => frozen_eq (m0.g i), sameM_refl m0, sameM_refl m1⟩
end Go.Proofs.YtaojjpdlfnphiaaDoor.PDescKinds

/-! #### part BC -/
set_option linter.unusedSimpArgs false
set_option linter.unusedVariables false
set_option linter.unusedSectionVars false
namespace Go.Proofs.YtaojjpdlfnphiaaDoor.PDescKinds
open Go.ChangeShapes Go.WideShapes Go.ChangeAt Go.RowKit
section
variable {H : Type}
theorem bulk_pos (d : DataW H) : 1 ≤ Rows.uptoBulk d := by
  cases d with
  | lit l => cases l <;> simp [Rows.uptoBulk]
  | _ => simp [Rows.uptoBulk]
theorem bulk_mem {d : DataW H} : ∀ {l : List (DataW H)}, d ∈ l → Rows.uptoBulk d ≤ Rows.uptoBulkAll l
  | x :: r, h => by
    simp only [Rows.uptoBulkAll]
    rcases List.mem_cons.1 h with rfl | h
    · omega
    · have := bulk_mem h
      omega
theorem bulk_len : ∀ (l : List (DataW H)), l.length ≤ Rows.uptoBulkAll l
  | [] => Nat.zero_le _
  | x :: r => by
    simp only [Rows.uptoBulkAll, List.length_cons]
    have := bulk_len r
    have := bulk_pos x
    omega
end
theorem cells58 : Tryd.prog.cellsOf 58 = 1 := by kernel_rfl
theorem cells60 : Tryd.prog.cellsOf 60 = 8 := by kernel_rfl
theorem cells64 : Tryd.prog.cellsOf 64 = 2 := by kernel_rfl
theorem cells66 : Tryd.prog.cellsOf 66 = 20 := by kernel_rfl
def Pr0 : Pr := ⟨⟨⟨#[]⟩, 0⟩, S.D0⟩
theorem wf0 : S.D0.wf := ⟨by show 0 < _; omega, by show 0 < _; omega, by show 0 < _; omega⟩
section
variable {H : Type} {enc : TypeId × Value → H} {w : World} {base : Nat} {spare : Nat → Bool} {held : Bool} {fuel : Nat} {cs : List Value} {x : DataW H × List MemPlace}
set_option maxRecDepth 100000 in
theorem read_K (h : DataW.trod enc Tryd.prog w base spare held fuel 64 cs = some x) : ∃ k : K, cs = [.string k.s, .int .i64 k.n] := by
  obtain ⟨xs, n, _, _, hl, hn, hf⟩ := DataW.trod_struct Tryd.underlying64 h
  rw [cells64] at hl
  match cs, hl, xs, hn with
  | [c0, c1], _, [y0, y1], _ =>
    have h0 := hf 0 ⟨"Str", 9, 0, false, "", "", 0⟩ rfl
    have h1 := hf 1 ⟨"Sym", 3, 1, false, "", "", 16⟩ rfl
    simp only [cells3, cells9, List.drop_succ_cons, List.drop_zero, List.take_succ_cons, List.take_zero] at h0 h1
    obtain ⟨v0, e0, _⟩ := read_string Tryd.underlying9 h0
    obtain ⟨v1, e1⟩ := read_int Tryd.underlying3 h1
    cases e0; cases e1
    exact ⟨⟨v0, v1⟩, rfl⟩
set_option maxRecDepth 100000 in
theorem read_Pr (h : DataW.trod enc Tryd.prog w base spare held fuel 66 cs = some x) : ∃ q : Pr, cs = q.list ∧ q.d.wf := by
  obtain ⟨xs, n, _, _, hl, hn, hf⟩ := DataW.trod_struct Tryd.underlying66 h
  rw [cells66] at hl
  match cs, hl, xs, hn with
  | c0 :: c1 :: r, hl, [y0, y1], _ =>
    have h0 := hf 0 ⟨"Key", 64, 0, false, "", "", 0⟩ rfl
    have h1 := hf 1 ⟨"Desc", 27, 2, false, "", "", 24⟩ rfl
    simp only [cells64, cells27, List.drop_succ_cons, List.drop_zero, List.take_succ_cons, List.take_zero] at h0 h1
    have hr : r.length = 18 := by simpa using hl
    rw [List.take_of_length_le (by omega)] at h1
    obtain ⟨k, e0⟩ := read_K h0
    obtain ⟨d, e1, w1⟩ := read_D h1
    cases e0; subst e1
    exact ⟨⟨k, d⟩, rfl, w1⟩
/-- The properties of a shape, as the world has them. -/
def RawPs (w : World) (A : Option Addr) (n : Nat) (g : Nat → Pr) : Prop := ∀ i, i < n → ∃ a, A = some a ∧ a.block < w.heap.size ∧ ∀ t v, (g i).list[t]? = some v → w.cell? (a.add (i * 20 + t)) = some v
set_option maxRecDepth 100000 in
theorem read_Ps (h : DataW.trod enc Tryd.prog w base spare held fuel 58 cs = some x) :
    ∃ (A : Option Addr) (n c : Nat) (g : Nat → Pr), cs = [.slice A n c] ∧ n ≤ Rows.uptoBulk x.1 ∧ (A = none → n = 0 ∧ c = 0) ∧ RawPs w A n g ∧ ∀ i, (g i).d.wf := by
  rcases DataW.trod_slice Tryd.underlying58 h with ⟨rfl, _⟩ | ⟨a', len, cap, elems, rest, n, rfl, rfl, rfl, hb, hlc, hcm, hel, hall, _, _⟩
  · exact ⟨none, 0, 0, fun _ => Pr0, rfl, Nat.zero_le _, fun _ => ⟨rfl, rfl⟩, fun i hi => absurd hi (Nat.not_lt_zero _), fun _ => wf0⟩
  · have key : ∀ j, ∃ z : Pr, z.d.wf ∧ (j < len → a'.block < w.heap.size ∧ ∀ k v, z.list[k]? = some v → w.cell? (a'.add (j * 20 + k)) = some v) := by
      intro j
      by_cases hj : j < len
      · have h1 := hall j hj
        have hj' : j < elems.length := by rw [hel]; exact hj
        obtain ⟨e, he⟩ : ∃ e, elems[j]? = some e := ⟨elems[j]'hj', List.getElem?_eq_getElem hj'⟩
        rw [he, cells66] at h1
        obtain ⟨cs, hcs, htr⟩ := Option.bind_eq_some_iff.1 h1
        obtain ⟨z, rfl, hz⟩ := read_Pr htr
        refine ⟨z, hz, fun _ => ⟨add_block a' (j * 20) ▸ World.cells?_block hcs (Nat.zero_lt_succ 19), fun k v hk => ?_⟩⟩
        obtain ⟨_, hl, hce⟩ := World.cells?_some hcs
        have hk20 : k < 20 := by
          rw [← hl]
          exact (List.getElem?_eq_some_iff.1 hk).1
        have := hce k hk20
        rw [hk, Go.Ev.add_add] at this
        exact this
      · exact ⟨Pr0, wf0, fun h => absurd h hj⟩
    obtain ⟨g, hg⟩ := Classical.axiomOfChoice key
    refine ⟨some a', len, cap, g, rfl, ?_, fun h => (by cases h), fun i hi => ?_, fun i => (hg i).1⟩
    · simp only [Rows.uptoBulk]
      have := bulk_len (elems.map (·.1))
      rw [List.length_map, hel] at this
      omega
    · obtain ⟨hbl, hgc⟩ := (hg i).2 hi
      exact ⟨a', rfl, hbl, hgc⟩
/-- A shape as the world has it. -/
structure RawSh (w : World) (s : Sh) : Prop where
  nils : s.A = none → s.n = 0 ∧ s.c = 0
  row : RawPs w s.A s.n s.g
  wfp : s.p.wf
  wfd : ∀ i, (s.g i).d.wf
set_option maxRecDepth 100000 in
theorem read_Sh (h : DataW.trod enc Tryd.prog w base spare held fuel 60 cs = some x) : ∃ s : Sh, cs = shVals s s.row ∧ s.n ≤ Rows.uptoBulk x.1 ∧ RawSh w s := by
  obtain ⟨xs, n, _, hx, hl, hn, hf⟩ := DataW.trod_struct Tryd.underlying60 h
  rw [cells60] at hl
  match cs, hl, xs, hn with
  | [c0, c1, c2, c3, c4, c5, c6, c7], _, [y0, y1, y2, y3], _ =>
    have h0 := hf 0 ⟨"Class", 3, 0, false, "", "", 0⟩ rfl
    have h1 := hf 1 ⟨"Proto", 24, 1, false, "", "", 8⟩ rfl
    have h2 := hf 2 ⟨"Extensible", 4, 6, false, "", "", 56⟩ rfl
    have h3 := hf 3 ⟨"Props", 58, 7, false, "", "", 64⟩ rfl
    simp only [cells3, cells4, cells24, cells58, List.drop_succ_cons, List.drop_zero, List.take_succ_cons, List.take_zero] at h0 h1 h2 h3
    obtain ⟨v0, e0⟩ := read_int Tryd.underlying3 h0
    obtain ⟨v1, e1, w1⟩ := read_V h1
    obtain ⟨v2, e2⟩ := read_bool Tryd.underlying4 h2
    obtain ⟨A, m, c, g, e3, hb, hnil, hrow, hwf⟩ := read_Ps (x := y3) h3
    unfold V.list at e1
    cases e0; cases e1; cases e2; cases e3
    refine ⟨⟨v0, v1, v2, A, m, c, g⟩, rfl, ?_, hnil, hrow, w1, hwf⟩
    subst hx
    simp only [Rows.uptoBulk, List.map_cons, List.map_nil, Rows.uptoBulkAll]
    omega
theorem rawSh0 : RawSh w Sh0 := ⟨fun _ => ⟨rfl, rfl⟩, fun i hi => absurd hi (Nat.not_lt_zero _), by show 0 < _; omega, fun _ => wf0⟩
set_option maxRecDepth 100000 in
/-- A moment that came in. -/
theorem open_M {v : Value} {base' : Nat} {d : DataW H} {p : List MemPlace} (hv : Value.okWide Tryd.prog w .any base' 51 v) (h : DataW.Trod enc Tryd.prog w base spare held 51 v d p) (hs : Rows.uptoBulk d ≤ 1048576) :
    ∃ m : Mo, v = .slice m.A m.n m.c ∧ RawMo w m ∧ Small m ∧ WfMo m := by
  obtain ⟨a, len, cap, rfl⟩ := okWide_slice Tryd.underlying51 hv
  obtain ⟨f, hf⟩ := h
  rcases DataW.trod_slice Tryd.underlying51 hf with ⟨hc, _⟩ | ⟨a', len', cap', elems, rest, n, rfl, hc, hd, hb, hlc, hcm, hel, hall, _, _⟩
  · simp only [Value.cells, List.cons.injEq, Value.slice.injEq, and_true] at hc
    obtain ⟨rfl, rfl, rfl⟩ := hc
    exact ⟨Mo0, rfl, raw0 w, small0, fun j => ⟨rawSh0 (w := w).wfp, fun _ => wf0⟩⟩
  · simp only [Value.cells, List.cons.injEq, Value.slice.injEq, and_true] at hc
    obtain ⟨rfl, rfl, rfl⟩ := hc
    have hd1 : d = .slice (elems.map (·.1)) (rest.map (·.1)) := congrArg Prod.fst hd
    have hbulk : Rows.uptoBulkAll (elems.map (·.1)) ≤ 1048576 := by
      rw [hd1] at hs
      simp only [Rows.uptoBulk] at hs
      omega
    have key : ∀ j, ∃ z : Sh, (RawSh w z ∧ z.n ≤ 1048576) ∧ (j < len → a'.block < w.heap.size ∧ ∀ k v, (shVals z z.row)[k]? = some v → w.cell? (a'.add (j * 8 + k)) = some v) := by
      intro j
      by_cases hj : j < len
      · have h1 := hall j hj
        have hj' : j < elems.length := by rw [hel]; exact hj
        obtain ⟨e, he⟩ : ∃ e, elems[j]? = some e := ⟨elems[j]'hj', List.getElem?_eq_getElem hj'⟩
        rw [he, cells60] at h1
        obtain ⟨cs, hcs, htr⟩ := Option.bind_eq_some_iff.1 h1
        obtain ⟨z, rfl, hzn, hz⟩ := read_Sh htr
        have hm : Rows.uptoBulk e.1 ≤ Rows.uptoBulkAll (elems.map (·.1)) := bulk_mem (List.mem_map.2 ⟨e, List.mem_of_getElem? he, rfl⟩)
        refine ⟨z, ⟨hz, by omega⟩, fun _ => ⟨add_block a' (j * 8) ▸ World.cells?_block hcs (Nat.zero_lt_succ 7), fun k v hk => ?_⟩⟩
        obtain ⟨_, hl, hce⟩ := World.cells?_some hcs
        have hk8 : k < 8 := by
          rw [← hl]
          exact (List.getElem?_eq_some_iff.1 hk).1
        have := hce k hk8
        rw [hk, Go.Ev.add_add] at this
        exact this
      · exact ⟨Sh0, ⟨rawSh0, by decide⟩, fun h => absurd h hj⟩
    obtain ⟨g, hg⟩ := Classical.axiomOfChoice key
    refine ⟨⟨some a', len, cap, g⟩, rfl, ⟨fun j => (hg j).1.1.nils, fun j hj => ?_, fun j i hi => (hg j).1.1.row i hi⟩, ⟨?_, fun j => (hg j).1.2⟩, fun j => ⟨(hg j).1.1.wfp, (hg j).1.1.wfd⟩⟩
    · obtain ⟨hbl, hgc⟩ := (hg j).2 hj
      exact ⟨a', rfl, hbl, hgc⟩
    · have := bulk_len (elems.map (·.1))
      rw [List.length_map, hel] at this
      show len ≤ _
      omega
end
end Go.Proofs.YtaojjpdlfnphiaaDoor.PDescKinds

