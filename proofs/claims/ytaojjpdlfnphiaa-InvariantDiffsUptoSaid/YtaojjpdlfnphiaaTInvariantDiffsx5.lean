-- Printed by a program of this session over the translation; Lean checks it.
import Derived.Test.YtaojjpdlfnphiaaTInvariantDiffsx0
import Derived.Test.YtaojjpdlfnphiaaTInvariantDiffsx1
import Derived.Maps.OwnOps
import Derived.Maps.Views
import Derived.DeepKeys4
import Derived.Carry
import Derived.LoopTactic
import Derived.Outline
namespace Go.Proofs.Ytaojjpdlfnphiaa.PInvariantDiffs
open Go.RowKit Go.Proofs.YtaojjpdlfnphiaaW.PrintWords Go.Proofs.YtaojjpdlfnphiaaW.PrintLast Go.Proofs.YtaojjpdlfnphiaaW.PrintMore
attribute [local go_sem] max2_int min2_int max_two min_two max_three min_three max_four min_four   -- for this text's walks alone
set_option linter.unusedVariables false
set_option linter.unusedSimpArgs false

attribute [local go_sem high] eqA30
/-! ### invariant_twice: function 21 -/
section
open Go.Maps
theorem invariant_twice.und30 : Try.prog.underlying 30 = some (.struct #[{ name := "Str", type := 9, offset := 0, embedded := false, tag := "", pkgPath := "", byteOffset := 0 }, { name := "Sym", type := 3, offset := 1, embedded := false, tag := "", pkgPath := "", byteOffset := 16 }]) := Try.underlying30
theorem invariant_twice.law30 : Keyed Try.prog 30 := Keyed.of_law (deep_law_laid (m := 3) (by kernel_rfl) (by decide) (of_decide_eq_true (by kernel_rfl)) (by kernel_rfl) (by rw [Try.underlying30]))
def invariant_twice.wfKey (a : ByteArray) (b : Int) : Bool := decide (a.size ≤ maxLen) && (Lit.int .i64 b).wf
theorem invariant_twice.keyOf30 (a : ByteArray) (b : Int) (hab : invariant_twice.wfKey a b = true) : ∃ l, keyOf Try.prog 30 (.agg #[.string a, .int .i64 b]) = some l := by
 simp only [invariant_twice.wfKey, Bool.and_eq_true, decide_eq_true_eq] at hab
 obtain ⟨ha, hb⟩ := hab
 unfold keyOf
 rw [invariant_twice.und30]
 have h1 : Try.prog.keyType 30 = true := by kernel_rfl
 have hc : Try.prog.cellsOf 30 = 2 := by kernel_rfl
 have hc9 : Try.prog.cellsOf 9 = 1 := by kernel_rfl
 have hc3 : Try.prog.cellsOf 3 = 1 := by kernel_rfl
 have h2 : Value.formed Try.prog 30 (.agg #[.string a, .int .i64 b]) = true := by
  unfold Value.formed
  rw [invariant_twice.und30]
  simp [hc]
 simp only [h1, h2, Bool.and_self, if_true]
 obtain ⟨n, hn⟩ : ∃ n, Try.prog.types.size = n + 1 := ⟨Try.prog.types.size - 1, by kernel_rfl⟩
 have h3 : (Try.prog.keyLits (Try.prog.types.size + 1) 30 (Value.agg #[.string a, .int .i64 b]).cells.toList) = some [.string a.data.toList, .int .i64 b] := by
  rw [hn, show (Value.agg #[Value.string a, Value.int .i64 b]).cells.toList = [Value.string a, Value.int .i64 b] from rfl]
  have e9 : ∀ cs, cs = [Value.string a] → Try.prog.keyLits (n + 1) 9 cs = some [.string a.data.toList] := by
   rintro _ rfl
   unfold Program.keyLits
   rw [Try.underlying9]
   simp [ha]
  have e3 : ∀ cs, cs = [Value.int .i64 b] → Try.prog.keyLits (n + 1) 3 cs = some [.int .i64 b] := by
   rintro _ rfl
   unfold Program.keyLits
   rw [Try.underlying3]
   simp [hb]
  unfold Program.keyLits
  rw [invariant_twice.und30]
  simp only []
  rw [if_pos ⟨by rw [hc]; rfl, by simp⟩]
  simp [List.mapM_cons, hc9, hc3, e9, e3]
 rw [h3]
 exact ⟨_, rfl⟩
abbrev invariant_twice.KeyT := ByteArray × Int
def invariant_twice.keySeen (seen : List invariant_twice.KeyT) (a : ByteArray) (b : Int) : Bool := seen.any fun q => q.1.toList == a.toList && (q.2 == b)
theorem invariant_twice.bytes_ext {a b : ByteArray} (h : (a.toList == b.toList) = true) : a = b := by
 have h2 : a.toList = b.toList := by simpa using h
 rw [ByteArray.toList_eq, ByteArray.toList_eq] at h2
 obtain ⟨⟨x⟩⟩ := a
 obtain ⟨⟨y⟩⟩ := b
 simpa using h2
/-- What the map says while the keys of 'seen' have been put. -/
def invariant_twice.Says (D : DataW Unit) (seen : List invariant_twice.KeyT) : Prop := IsMap D ∧ ∀ a b kl, keyOf Try.prog 30 (.agg #[.string a, .int .i64 b]) = some kl → D.atKey kl (.lit (.int .i64 0)) = .lit (.int .i64 (if invariant_twice.keySeen seen a b = true then 1 else 0))
theorem invariant_twice.Says.nil : invariant_twice.Says (.map []) [] := ⟨isMap_empty, fun a b kl _ => rfl⟩
theorem invariant_twice.Says.put {D : DataW Unit} {seen : List invariant_twice.KeyT} (h : invariant_twice.Says D seen) {a : ByteArray} {b : Int} {kl : Lit} (hk : keyOf Try.prog 30 (.agg #[.string a, .int .i64 b]) = some kl) : invariant_twice.Says (D.put kl (.lit (.int .i64 1))) ((a, b) :: seen) := by
 refine ⟨h.1.put _ _, fun a' b' kl' hk' => ?_⟩
 by_cases e : kl' = kl
 ·subst e
  have e2 := invariant_twice.law30.inj hk hk'
  injection e2 with e2
  have e3 : a = a' ∧ b = b' := by simpa using e2
  obtain ⟨rfl, rfl⟩ := e3
  rw [atKey_put_same h.1 (invariant_twice.law30.key hk)]
  simp [invariant_twice.keySeen]
 ·rw [atKey_put_other e, h.2 a' b' kl' hk']
  have : invariant_twice.keySeen ((a, b) :: seen) a' b' = invariant_twice.keySeen seen a' b' := by
   unfold invariant_twice.keySeen
   rw [List.any_cons]
   have hne : (a.toList == a'.toList && (b == b')) = false := by
    rw [Bool.eq_false_iff]
    intro hh
    simp only [Bool.and_eq_true] at hh
    have ha := invariant_twice.bytes_ext hh.1
    have hb : b = b' := by simpa using hh.2
    subst ha hb
    rw [hk] at hk'
    exact e (Option.some.inj hk').symm
   simp only [hne, Bool.false_or]
  rw [this]
/-- Is a key among those ahead of it? -/
def invariant_twice.twiceIn (seen : List invariant_twice.KeyT) : List S55 → Bool
 | [] => false
 | p :: r => if invariant_twice.keySeen seen p.f0.f0 p.f0.f1 = true then true else invariant_twice.twiceIn ((p.f0.f0, p.f0.f1) :: seen) r
def invariant_twice.keysBefore (l : List S55) : List invariant_twice.KeyT := (l.map fun p => (p.f0.f0, p.f0.f1)).reverse
theorem invariant_twice.keysBefore_step {l : List S55} {n : Nat} (hn : n < l.length) : invariant_twice.keysBefore (l.take (n + 1)) = ((rd_T55 l n).f0.f0, (rd_T55 l n).f0.f1) :: invariant_twice.keysBefore (l.take n) := by
 have e : rd_T55 l n = l[n] := by simp [rd_T55, hn]
 unfold invariant_twice.keysBefore
 rw [List.take_succ_eq_append_getElem hn, List.map_append, List.reverse_append, e]
 rfl
theorem invariant_twice.twiceIn_step {l : List S55} {n : Nat} (hn : n < l.length) (h : invariant_twice.twiceIn (invariant_twice.keysBefore (l.take n)) (l.drop n) = invariant_twice.twiceIn [] l) :
  invariant_twice.twiceIn [] l = if invariant_twice.keySeen (invariant_twice.keysBefore (l.take n)) (rd_T55 l n).f0.f0 (rd_T55 l n).f0.f1 = true then true else invariant_twice.twiceIn (invariant_twice.keysBefore (l.take (n + 1))) (l.drop (n + 1)) := by
 have e : rd_T55 l n = l[n] := by simp [rd_T55, hn]
 rw [← h, List.drop_eq_getElem_cons hn, invariant_twice.twiceIn, e]
 have : invariant_twice.keysBefore (l.take (n + 1)) = (l[n].f0.f0, l[n].f0.f1) :: invariant_twice.keysBefore (l.take n) := by
  unfold invariant_twice.keysBefore
  rw [List.take_succ_eq_append_getElem hn, List.map_append, List.reverse_append]
  rfl
 rw [this]
def invariant_twice.propsOk (l : List S55) : Bool := decide (l.length < maxLen) && l.all fun p => invariant_twice.wfKey p.f0.f0 p.f0.f1
def invariant_twice.f (l0 : List S52) : Option Bool := if (decide (l0.length ≤ maxLen) && l0.all fun s => invariant_twice.propsOk s.f3) = true then some (l0.any fun s => invariant_twice.twiceIn [] s.f3) else none
theorem invariant_twice.zeroE (w : World) : (zeroValue 3).run Try.prog w = .ok (.int .i64 0) w := by kernel_rfl
set_option maxHeartbeats 1000000 in
set_option maxRecDepth 100000 in
theorem invariant_twice.calls (A0 : Option Addr) (c0 : Nat) (l0 : List S52) (r : Bool) (w : World) (hr0 : Kd.C k52 w A0 l0.length l0) (hc0 : l0.length ≤ c0) (h : invariant_twice.f l0 = some r) :
  Calls Try.prog 21 #[.slice A0 l0.length c0] w fun e w' => e = .returned (.bool r) ∧ Below w.heap.size w w' := by
 unfold invariant_twice.f at h
 by_cases hok : (decide (l0.length ≤ maxLen) && l0.all fun s => invariant_twice.propsOk s.f3) = true
 case neg => rw [if_neg hok] at h; cases h
 rw [if_pos hok] at h; obtain rfl := Option.some.inj h; clear h hc0; simp only [Bool.and_eq_true, decide_eq_true_eq, List.all_eq_true, maxLen] at hok; obtain ⟨hlen, hok⟩ := hok; replace hlen := of_decide_eq_true hlen
 replace hlen : l0.length ≤ 9223372036854775807 := by omega
 have HLEN := Aside0.mk hlen; have HOK := Aside0.mk hok; have HR := Aside0.mk hr0; clear hr0 hok; have hmm := @run_makeMap Try.prog
 go_enter Try.func21, Try.ntmps21
 go_wp2
 go_loopw [10] (fun i wr => ∃ n : Nat, n ≤ l0.length ∧ i = .int .i64 n ∧ Aside0 (∀ s ∈ l0.take n, invariant_twice.twiceIn [] s.f3 = false) ∧ Aside0 (Below w.heap.size w wr)) (fun i _ => l0.length - (intOf i).toNat)
 case atStart => exact ⟨0, by omega, rfl, ⟨by simp⟩, ⟨Below.refl _ _⟩⟩
 case round =>
  obtain ⟨n, hn, rfl, HN, HB⟩ := hrel
  by_cases hlt : n < l0.length
  ·obtain ⟨ad, A7, c7, e, hW, hl7, hi7⟩ := ats_T52 HR.out n (by omega) (by omega)
   cases e
   replace hW := cells_below HB.out hW
   have hi : ((n : Nat) : Int).toNat = n := by omega
   rw [hi] at hW; clear hi hl7; have HI7 := Aside0.mk (Kd.C_below hi7 HB.out)
   have hrd : rd_T52 l0 (n : Int) = l0[n] := by simp [rd_T52, hlt]
   obtain ⟨hll, hkk⟩ : (l0[n]).f3.length < maxLen ∧ ∀ p ∈ (l0[n]).f3, invariant_twice.wfKey p.f0.f0 p.f0.f1 = true := by
    have := HOK.out l0[n] (List.getElem_mem hlt)
    simpa [invariant_twice.propsOk] using this
   have HK7 := Aside0.mk hkk; have HS := Aside0.mk hrd; simp only [maxLen] at hll; clear hi7 hkk; rw [hrd] at hW HI7; generalize hs : l0[n] = s at hW HI7 HK7 hll; have HE := Aside0.mk hs; clear hs hrd; have HW := Aside0.mk hW; clear hW
   obtain ⟨wo, rfl⟩ : ∃ wo : World, wo = wr := ⟨_, rfl⟩
   go_wp2_with (first | ((with_reducible refine gate_dst (N := 13) rfl ?_); refine load_cells_event ?hg (N := 13) ?hd (ty := 52) (x := ?lx) (b := ?lb) (cs := ?lc) ?ho ?hc ?hx (n := 8) ?hn ?hi Try.underlying52 ?_; (case ho => rfl); (case hd => rfl); (case hg => rfl); (case hc => exact HW.out); (case hx => first | rfl | (go_simp; done)); (case hn => rfl); (case hi => kernel_rfl)) | fail)
   go_loopw [18] (fun i wr => ∃ m : Nat, m ≤ s.f3.length ∧ i = .int .i64 m ∧ Aside0 (∃ D, wr.ownsMap Try.prog 30 (plainElem Try.prog 3) (wo.heap.size + 1) m D ∧ invariant_twice.Says D (invariant_twice.keysBefore (s.f3.take m))) ∧ Aside0 (invariant_twice.twiceIn (invariant_twice.keysBefore (s.f3.take m)) (s.f3.drop m) = invariant_twice.twiceIn [] s.f3) ∧ Aside0 (Below wo.heap.size wo wr)) (fun i _ => s.f3.length - (intOf i).toNat)
   case atStart =>
    refine ⟨0, by omega, rfl, ⟨.map [], ?_, invariant_twice.Says.nil⟩, ⟨rfl⟩, ⟨below_alloc (below_alloc (Below.refl _ _) _) _⟩⟩; have h_ := World.ownsMap_made (H := Unit) (wo.alloc (Obj.cells #[Value.int IntKind.i64 s.f0, Value.int IntKind.i64 s.f1.f0, Value.bool s.f1.f1, Value.float FloatKind.f64 s.f1.f2, Value.string s.f1.f3, Value.int IntKind.i64 s.f1.f4, Value.bool s.f2, Value.slice A7 s.f3.length c7] 52)) Try.prog 30 (plainElem Try.prog 3)
    simpa using h_
   case round =>
    obtain ⟨m, hm, rfl, HD, HT, HB2⟩ := hrel
    by_cases hmt : m < s.f3.length
    ·obtain ⟨ad2, e2, hW2⟩ := ats_T55 (Kd.C_below HI7.out HB2.out) m (by omega) (by omega)
     cases e2
     have hi2 : ((m : Nat) : Int).toNat = m := by omega
     rw [hi2] at hW2; clear hi2; have HW2 := Aside0.mk hW2; obtain ⟨D, hown, hsays⟩ := HD.out
     have hwf : invariant_twice.wfKey (rd_T55 s.f3 m).f0.f0 (rd_T55 s.f3 m).f0.f1 = true := by
      have e_ : rd_T55 s.f3 (m : Int) = s.f3[m] := by simp [rd_T55, hmt]
      rw [e_]; exact HK7.out _ (List.getElem_mem hmt)
     obtain ⟨kl, hkl⟩ := invariant_twice.keyOf30 _ _ hwf; have HAT := Aside0.mk (hsays.2 _ _ _ hkl); have HSP := Aside0.mk (invariant_twice.Says.put hsays hkl); have HTS := Aside0.mk (invariant_twice.twiceIn_step hmt HT.out); have HKL := Aside0.mk hkl; have HOW := Aside0.mk hown; clear hW2 hown hsays hwf hkl HD HT
     cases hks : invariant_twice.keySeen (invariant_twice.keysBefore (s.f3.take m)) (rd_T55 s.f3 m).f0.f0 (rd_T55 s.f3 m).f0.f1
     ·have HKS := Aside0.mk hks; clear hks
      go_wp2_with (first
      | ((with_reducible refine gate_dst (N := 21) rfl ?_); refine load_cells_event ?hg (N := 21) ?hd (ty := 55) (x := ?lx2) (b := ?lb2) (cs := ?lc2) ?ho ?hc ?hx (n := 20) ?hn ?hi Try.underlying55 ?_; (case ho => rfl); (case hd => rfl); (case hg => rfl); (case hc => exact HW2.out); (case hx => first | rfl | (go_simp; done)); (case hn => rfl); (case hi => kernel_rfl))
      | ((with_reducible refine gate_dst (N := 7) rfl ?_); refine allocstore_event ?hg (N := 7) ?hd (zs := z55A) (cs := #[.string (rd_T55 s.f3 m).f0.f0, .int .i64 (rd_T55 s.f3 m).f0.f1, .int .i64 (rd_T55 s.f3 m).f1.f0.f0, .bool (rd_T55 s.f3 m).f1.f0.f1, .float .f64 (rd_T55 s.f3 m).f1.f0.f2, .string (rd_T55 s.f3 m).f1.f0.f3, .int .i64 (rd_T55 s.f3 m).f1.f0.f4, .int .i64 (rd_T55 s.f3 m).f1.f1.f0, .bool (rd_T55 s.f3 m).f1.f1.f1, .float .f64 (rd_T55 s.f3 m).f1.f1.f2, .string (rd_T55 s.f3 m).f1.f1.f3, .int .i64 (rd_T55 s.f3 m).f1.f1.f4, .int .i64 (rd_T55 s.f3 m).f1.f2.f0, .bool (rd_T55 s.f3 m).f1.f2.f1, .float .f64 (rd_T55 s.f3 m).f1.f2.f2, .string (rd_T55 s.f3 m).f1.f2.f3, .int .i64 (rd_T55 s.f3 m).f1.f2.f4, .int .i64 (rd_T55 s.f3 m).f1.f3, .int .i64 (rd_T55 s.f3 m).f1.f4, .int .i64 (rd_T55 s.f3 m).f1.f5]) (t := 55) (x := .tmp 21) ?hr ?hg2 ?hd2 ?ho ?hN ?hx (n := 20) ?hi ?hn ?hz ?h1 ?_; (case hd => rfl); (case hg => rfl); (case hg2 => rfl); (case hd2 => rfl); (case ho => rfl); (case hN => first | (simp; done) | (simp [Act.put]; done) | (go_simp; done)); (case hx => intro _; rfl); (case hi => kernel_rfl); (case hn => rfl); (case hz => rfl); (case h1 => simp [c35A, c55A, c52A, c33A, c28A, Value.oneCell']; done); (case hr => first | (go_simp; done) | (go_simp; rfl)); intro gb hg w1 hbox hb; have HBX := Aside0.mk hbox; have HOW1 := Aside0.mk (HOW.out.kept (grown_of_below hb none) (by simp)); have HB3 := Aside0.mk (below_then HB2.out HB2.out.size hb); clear hbox hb hg HOW HB2)
      | ((with_reducible refine gate_dst (N := 24) rfl ?_); refine load_cells_event ?hg (N := 24) ?hd (ty := 30) (x := ?lx3) (b := ⟨gb, 0, none⟩) (cs := [.string (rd_T55 s.f3 m).f0.f0, .int .i64 (rd_T55 s.f3 m).f0.f1]) ?ho ?hc ?hx (n := 2) ?hn ?hi Try.underlying30 ?_; (case ho => rfl); (case hd => rfl); (case hg => rfl); (case hc => refine blk_cells (arr := #[.string (rd_T55 s.f3 m).f0.f0, .int .i64 (rd_T55 s.f3 m).f0.f1, .int .i64 (rd_T55 s.f3 m).f1.f0.f0, .bool (rd_T55 s.f3 m).f1.f0.f1, .float .f64 (rd_T55 s.f3 m).f1.f0.f2, .string (rd_T55 s.f3 m).f1.f0.f3, .int .i64 (rd_T55 s.f3 m).f1.f0.f4, .int .i64 (rd_T55 s.f3 m).f1.f1.f0, .bool (rd_T55 s.f3 m).f1.f1.f1, .float .f64 (rd_T55 s.f3 m).f1.f1.f2, .string (rd_T55 s.f3 m).f1.f1.f3, .int .i64 (rd_T55 s.f3 m).f1.f1.f4, .int .i64 (rd_T55 s.f3 m).f1.f2.f0, .bool (rd_T55 s.f3 m).f1.f2.f1, .float .f64 (rd_T55 s.f3 m).f1.f2.f2, .string (rd_T55 s.f3 m).f1.f2.f3, .int .i64 (rd_T55 s.f3 m).f1.f2.f4, .int .i64 (rd_T55 s.f3 m).f1.f3, .int .i64 (rd_T55 s.f3 m).f1.f4, .int .i64 (rd_T55 s.f3 m).f1.f5]) (t := 55) (fr := (0, 0)) (off := 0) (n := 2) ?_ rfl; exact HBX.out); (case hx => first | rfl | (go_simp; done)); (case hn => rfl); (case hi => kernel_rfl))
      | (at_lookup; refine wpList_lookup_own_int _ rfl _ _ 68 rfl 30 3 .i64 invariant_twice.law30 Try.underlying68 Try.underlying3 (invariant_twice.zeroE _) (wo.heap.size + 1) m D rfl HOW1.out _ _ rfl HKL.out ?_; intro c hat hwc; obtain rfl : (0 : Int) = c := (by have h_ := HAT.out.symm.trans hat; simpa [HKS.out] using h_); clear hat hwc)
      | ((with_reducible refine gate_dst (N := 29) rfl ?_); refine load_cells_event ?hg (N := 29) ?hd (ty := 30) (x := ?lx4) (b := ⟨gb, 0, none⟩) (cs := [.string (rd_T55 s.f3 m).f0.f0, .int .i64 (rd_T55 s.f3 m).f0.f1]) ?ho ?hc ?hx (n := 2) ?hn ?hi Try.underlying30 ?_; (case ho => rfl); (case hd => rfl); (case hg => rfl); (case hc => refine blk_cells (arr := #[.string (rd_T55 s.f3 m).f0.f0, .int .i64 (rd_T55 s.f3 m).f0.f1, .int .i64 (rd_T55 s.f3 m).f1.f0.f0, .bool (rd_T55 s.f3 m).f1.f0.f1, .float .f64 (rd_T55 s.f3 m).f1.f0.f2, .string (rd_T55 s.f3 m).f1.f0.f3, .int .i64 (rd_T55 s.f3 m).f1.f0.f4, .int .i64 (rd_T55 s.f3 m).f1.f1.f0, .bool (rd_T55 s.f3 m).f1.f1.f1, .float .f64 (rd_T55 s.f3 m).f1.f1.f2, .string (rd_T55 s.f3 m).f1.f1.f3, .int .i64 (rd_T55 s.f3 m).f1.f1.f4, .int .i64 (rd_T55 s.f3 m).f1.f2.f0, .bool (rd_T55 s.f3 m).f1.f2.f1, .float .f64 (rd_T55 s.f3 m).f1.f2.f2, .string (rd_T55 s.f3 m).f1.f2.f3, .int .i64 (rd_T55 s.f3 m).f1.f2.f4, .int .i64 (rd_T55 s.f3 m).f1.f3, .int .i64 (rd_T55 s.f3 m).f1.f4, .int .i64 (rd_T55 s.f3 m).f1.f5]) (t := 55) (fr := (0, 0)) (off := 0) (n := 2) ?_ rfl; exact HBX.out); (case hx => first | rfl | (go_simp; done)); (case hn => rfl); (case hi => kernel_rfl))
      | (at_mapUpdate; refine wpList_mapUpdate_own _ rfl _ _ _ 68 rfl 30 3 invariant_twice.law30 Try.underlying68 _ (wo.heap.size + 1) m _ rfl HOW1.out (by unfold maxLen; omega) _ _ _ rfl rfl HKL.out _ [] (plainElem_int Try.underlying3 (by decide)) ?_; intro w2 hown2 hgrow2; have HOW2 := Aside0.mk hown2; have HB4 := Aside0.mk (HB3.out.grown hgrow2 HB3.out.size (fun k hk => by cases hk; omega)); clear hown2 hgrow2)
      | fail)
      go_roundw
      case rel =>
       refine ⟨m + 1, by omega, by go_num, ⟨_, HOW2.out, ?_⟩, ⟨?_⟩, HB4⟩
       ·have e_ : invariant_twice.keysBefore (s.f3.take (m + 1)) = ((rd_T55 s.f3 m).f0.f0, (rd_T55 s.f3 m).f0.f1) :: invariant_twice.keysBefore (s.f3.take m) := invariant_twice.keysBefore_step hmt; rw [e_]; exact HSP.out
       ·have h_ := HTS.out; rw [HKS.out] at h_
        simpa using h_.symm
      case measure => simp [intOf]; omega
     ·have HKS := Aside0.mk hks; clear hks
      go_wp2_with (first
      | ((with_reducible refine gate_dst (N := 21) rfl ?_); refine load_cells_event ?hg (N := 21) ?hd (ty := 55) (x := ?lx2) (b := ?lb2) (cs := ?lc2) ?ho ?hc ?hx (n := 20) ?hn ?hi Try.underlying55 ?_; (case ho => rfl); (case hd => rfl); (case hg => rfl); (case hc => exact HW2.out); (case hx => first | rfl | (go_simp; done)); (case hn => rfl); (case hi => kernel_rfl))
      | ((with_reducible refine gate_dst (N := 7) rfl ?_); refine allocstore_event ?hg (N := 7) ?hd (zs := z55A) (cs := #[.string (rd_T55 s.f3 m).f0.f0, .int .i64 (rd_T55 s.f3 m).f0.f1, .int .i64 (rd_T55 s.f3 m).f1.f0.f0, .bool (rd_T55 s.f3 m).f1.f0.f1, .float .f64 (rd_T55 s.f3 m).f1.f0.f2, .string (rd_T55 s.f3 m).f1.f0.f3, .int .i64 (rd_T55 s.f3 m).f1.f0.f4, .int .i64 (rd_T55 s.f3 m).f1.f1.f0, .bool (rd_T55 s.f3 m).f1.f1.f1, .float .f64 (rd_T55 s.f3 m).f1.f1.f2, .string (rd_T55 s.f3 m).f1.f1.f3, .int .i64 (rd_T55 s.f3 m).f1.f1.f4, .int .i64 (rd_T55 s.f3 m).f1.f2.f0, .bool (rd_T55 s.f3 m).f1.f2.f1, .float .f64 (rd_T55 s.f3 m).f1.f2.f2, .string (rd_T55 s.f3 m).f1.f2.f3, .int .i64 (rd_T55 s.f3 m).f1.f2.f4, .int .i64 (rd_T55 s.f3 m).f1.f3, .int .i64 (rd_T55 s.f3 m).f1.f4, .int .i64 (rd_T55 s.f3 m).f1.f5]) (t := 55) (x := .tmp 21) ?hr ?hg2 ?hd2 ?ho ?hN ?hx (n := 20) ?hi ?hn ?hz ?h1 ?_; (case hd => rfl); (case hg => rfl); (case hg2 => rfl); (case hd2 => rfl); (case ho => rfl); (case hN => first | (simp; done) | (simp [Act.put]; done) | (go_simp; done)); (case hx => intro _; rfl); (case hi => kernel_rfl); (case hn => rfl); (case hz => rfl); (case h1 => simp [c35A, c55A, c52A, c33A, c28A, Value.oneCell']; done); (case hr => first | (go_simp; done) | (go_simp; rfl)); intro gb hg w1 hbox hb; have HBX := Aside0.mk hbox; have HOW1 := Aside0.mk (HOW.out.kept (grown_of_below hb none) (by simp)); have HB3 := Aside0.mk (below_then HB2.out HB2.out.size hb); clear hbox hb hg HOW HB2)
      | ((with_reducible refine gate_dst (N := 24) rfl ?_); refine load_cells_event ?hg (N := 24) ?hd (ty := 30) (x := ?lx3) (b := ⟨gb, 0, none⟩) (cs := [.string (rd_T55 s.f3 m).f0.f0, .int .i64 (rd_T55 s.f3 m).f0.f1]) ?ho ?hc ?hx (n := 2) ?hn ?hi Try.underlying30 ?_; (case ho => rfl); (case hd => rfl); (case hg => rfl); (case hc => refine blk_cells (arr := #[.string (rd_T55 s.f3 m).f0.f0, .int .i64 (rd_T55 s.f3 m).f0.f1, .int .i64 (rd_T55 s.f3 m).f1.f0.f0, .bool (rd_T55 s.f3 m).f1.f0.f1, .float .f64 (rd_T55 s.f3 m).f1.f0.f2, .string (rd_T55 s.f3 m).f1.f0.f3, .int .i64 (rd_T55 s.f3 m).f1.f0.f4, .int .i64 (rd_T55 s.f3 m).f1.f1.f0, .bool (rd_T55 s.f3 m).f1.f1.f1, .float .f64 (rd_T55 s.f3 m).f1.f1.f2, .string (rd_T55 s.f3 m).f1.f1.f3, .int .i64 (rd_T55 s.f3 m).f1.f1.f4, .int .i64 (rd_T55 s.f3 m).f1.f2.f0, .bool (rd_T55 s.f3 m).f1.f2.f1, .float .f64 (rd_T55 s.f3 m).f1.f2.f2, .string (rd_T55 s.f3 m).f1.f2.f3, .int .i64 (rd_T55 s.f3 m).f1.f2.f4, .int .i64 (rd_T55 s.f3 m).f1.f3, .int .i64 (rd_T55 s.f3 m).f1.f4, .int .i64 (rd_T55 s.f3 m).f1.f5]) (t := 55) (fr := (0, 0)) (off := 0) (n := 2) ?_ rfl; exact HBX.out); (case hx => first | rfl | (go_simp; done)); (case hn => rfl); (case hi => kernel_rfl))
      | (at_lookup; refine wpList_lookup_own_int _ rfl _ _ 68 rfl 30 3 .i64 invariant_twice.law30 Try.underlying68 Try.underlying3 (invariant_twice.zeroE _) (wo.heap.size + 1) m D rfl HOW1.out _ _ rfl HKL.out ?_; intro c hat hwc; obtain rfl : (1 : Int) = c := (by have h_ := HAT.out.symm.trans hat; simpa [HKS.out] using h_); clear hat hwc)
      | ((with_reducible refine gate_dst (N := 29) rfl ?_); refine load_cells_event ?hg (N := 29) ?hd (ty := 30) (x := ?lx4) (b := ⟨gb, 0, none⟩) (cs := [.string (rd_T55 s.f3 m).f0.f0, .int .i64 (rd_T55 s.f3 m).f0.f1]) ?ho ?hc ?hx (n := 2) ?hn ?hi Try.underlying30 ?_; (case ho => rfl); (case hd => rfl); (case hg => rfl); (case hc => refine blk_cells (arr := #[.string (rd_T55 s.f3 m).f0.f0, .int .i64 (rd_T55 s.f3 m).f0.f1, .int .i64 (rd_T55 s.f3 m).f1.f0.f0, .bool (rd_T55 s.f3 m).f1.f0.f1, .float .f64 (rd_T55 s.f3 m).f1.f0.f2, .string (rd_T55 s.f3 m).f1.f0.f3, .int .i64 (rd_T55 s.f3 m).f1.f0.f4, .int .i64 (rd_T55 s.f3 m).f1.f1.f0, .bool (rd_T55 s.f3 m).f1.f1.f1, .float .f64 (rd_T55 s.f3 m).f1.f1.f2, .string (rd_T55 s.f3 m).f1.f1.f3, .int .i64 (rd_T55 s.f3 m).f1.f1.f4, .int .i64 (rd_T55 s.f3 m).f1.f2.f0, .bool (rd_T55 s.f3 m).f1.f2.f1, .float .f64 (rd_T55 s.f3 m).f1.f2.f2, .string (rd_T55 s.f3 m).f1.f2.f3, .int .i64 (rd_T55 s.f3 m).f1.f2.f4, .int .i64 (rd_T55 s.f3 m).f1.f3, .int .i64 (rd_T55 s.f3 m).f1.f4, .int .i64 (rd_T55 s.f3 m).f1.f5]) (t := 55) (fr := (0, 0)) (off := 0) (n := 2) ?_ rfl; exact HBX.out); (case hx => first | rfl | (go_simp; done)); (case hn => rfl); (case hi => kernel_rfl))
      | (at_mapUpdate; refine wpList_mapUpdate_own _ rfl _ _ _ 68 rfl 30 3 invariant_twice.law30 Try.underlying68 _ (wo.heap.size + 1) m _ rfl HOW1.out (by unfold maxLen; omega) _ _ _ rfl rfl HKL.out _ [] (plainElem_int Try.underlying3 (by decide)) ?_; intro w2 hown2 hgrow2; have HOW2 := Aside0.mk hown2; have HB4 := Aside0.mk (HB3.out.grown hgrow2 HB3.out.size (fun k hk => by cases hk; omega)); clear hown2 hgrow2)
      | fail)
      go_ret
      refine ⟨?_, below_then HB.out HB.out.size HB3.out⟩; have h_ := HTS.out; rw [HKS.out] at h_
      have h2 : (l0.any fun s => invariant_twice.twiceIn [] s.f3) = true := by
       rw [List.any_eq_true]; exact ⟨s, HE.out ▸ List.getElem_mem hlt, by simpa using h_⟩
      rw [h2]; rfl
    ·have hml : m = s.f3.length := by omega
     have HT2 := Aside0.mk (show invariant_twice.twiceIn [] s.f3 = false by
      rw [← HT.out, hml, List.drop_length]; rfl)
     have HB5 := Aside0.mk (below_then HB.out HB.out.size HB2.out); clear hml HD HT
     go_wp2
     go_roundw
     case rel =>
      have hl_ := HLEN.out; refine ⟨n + 1, by omega, by go_num, ⟨?_⟩, HB5⟩; intro p hp; rw [List.take_succ_eq_append_getElem hlt, List.mem_append] at hp
      rcases hp with hp | hp
      ·exact HN.out p hp
      ·rw [HE.out] at hp
       simp at hp
       subst hp; exact HT2.out
     case measure =>
      have hl_ := HLEN.out
      simp [intOf]; omega
  ·have hnl : n = l0.length := by omega
   have HF := Aside0.mk (show (l0.any fun s => invariant_twice.twiceIn [] s.f3) = false by
    rw [List.any_eq_false]; intro p hp; have := HN.out p (by rw [hnl, List.take_length]; exact hp)
    simp [this])
   clear hnl
   go_wp2
   go_ret
   exact ⟨by rw [HF.out]; rfl, HB.out⟩
end

-- NOT PRINTED: function 31 (api_Prop)

/-! ### invariant_find: function 25 -/
def invariant_find.cells (p : S55) : List Value := [.string p.f0.f0, .int .i64 p.f0.f1, .int .i64 p.f1.f0.f0, .bool p.f1.f0.f1, .float .f64 p.f1.f0.f2, .string p.f1.f0.f3, .int .i64 p.f1.f0.f4, .int .i64 p.f1.f1.f0, .bool p.f1.f1.f1, .float .f64 p.f1.f1.f2, .string p.f1.f1.f3, .int .i64 p.f1.f1.f4, .int .i64 p.f1.f2.f0, .bool p.f1.f2.f1, .float .f64 p.f1.f2.f2, .string p.f1.f2.f3, .int .i64 p.f1.f2.f4, .int .i64 p.f1.f3, .int .i64 p.f1.f4, .int .i64 p.f1.f5]
def invariant_find.idxOf (pr : S55 → Bool) (l : List S55) : Int := match l.findIdx? pr with | some i => (i : Int) | none => -1
theorem invariant_find.idxOf_none {pr : S55 → Bool} {l : List S55} (h : ∀ p ∈ l, pr p = false) : invariant_find.idxOf pr l = -1 := by
 unfold invariant_find.idxOf
 rw [List.findIdx?_eq_none_iff.2 h]
theorem invariant_find.idxOf_some {pr : S55 → Bool} {l : List S55} {n : Nat} (hn : n < l.length) (h : ∀ p ∈ l.take n, pr p = false) (hp : pr (rd_T55 l n) = true) : invariant_find.idxOf pr l = n := by
 unfold invariant_find.idxOf
 have e : rd_T55 l n = l[n] := by simp [rd_T55, hn]
 rw [e] at hp
 have : l.findIdx? pr = some n := by
  rw [List.findIdx?_eq_some_iff_getElem]
  refine ⟨hn, hp, fun j hj => ?_⟩
  have := h l[j] (by rw [List.mem_take_iff_getElem]; exact ⟨j, by omega, rfl⟩)
  simp [this]
 rw [this]
theorem invariant_find.take_add_false {pr : S55 → Bool} {l : List S55} {n : Nat} (hn : n < l.length) (h : ∀ p ∈ l.take n, pr p = false) (hp : pr (rd_T55 l n) = false) : ∀ p ∈ l.take (n + 1), pr p = false := by
 have e : rd_T55 l n = l[n] := by simp [rd_T55, hn]
 rw [e] at hp
 intro p hm
 rw [List.take_succ_eq_append_getElem hn, List.mem_append] at hm
 rcases hm with hm | hm
 ·exact h p hm
 ·simp at hm; subst hm; exact hp
set_option maxHeartbeats 400000 in
set_option maxRecDepth 100000 in
theorem invariant_find.idx (F : FuncId) (cap : Array Value) (pr : S55 → Bool) (A : Option Addr) (c : Nat) (l : List S55) (w : World) (hr : Kd.C k55 w A l.length l) (hc : l.length ≤ 9223372036854775807)
  (hF : ∀ args W, (callFunc F args).run Try.prog W = .ok (.enter F args) W)
  (hcl : ∀ p w1, Below w.heap.size w w1 → Calls Try.prog F (#[.agg (invariant_find.cells p).toArray] ++ cap) w1 (fun e w2 => e = .returned (.bool (pr p)) ∧ Below w1.heap.size w1 w2)) :
  Calls Try.prog 31 #[.slice A l.length c, .func (.func F) #[] cap] w fun e w' => e = .returned (.int .i64 (invariant_find.idxOf pr l)) ∧ Below w.heap.size w w' := by
 have HCL := Aside0.mk hcl
 have HR := Aside0.mk hr
 clear hcl hr
 go_enter Try.func31, Try.ntmps31
 go_wp2
 go_loopw [8] (fun i wr => ∃ n : Nat, n ≤ l.length ∧ i = .int .i64 n ∧ Aside0 (∀ p ∈ l.take n, pr p = false) ∧ Aside0 (Below w.heap.size w wr)) (fun i _ => l.length - (intOf i).toNat)
 case atStart => exact ⟨0, by omega, rfl, ⟨by simp⟩, ⟨Below.refl _ _⟩⟩
 case round =>
  obtain ⟨n, hn, rfl, HN, HB⟩ := hrel
  by_cases hlt : n < l.length
  ·obtain ⟨ad, e, hW⟩ := ats_T55 HR.out n (by omega) (by omega)
   cases e
   replace hW := cells_below HB.out hW
   have hi : ((n : Nat) : Int).toNat = n := by omega
   rw [hi] at hW
   clear hi
   have HW := Aside0.mk hW
   clear hW
   go_wp2_with (first | ((with_reducible refine gate_dst (N := 15) rfl ?_); refine load_cells_event ?hg (N := 15) ?hd (ty := 55) (x := ?lx) (b := ?lb) (cs := ?lc) ?ho ?hc ?hx (n := 20) ?hn ?hi Try.underlying55 ?_; (case ho => rfl); (case hd => rfl); (case hg => rfl); (case hc => exact HW.out); (case hx => first | rfl | (go_simp; done)); (case hn => rfl); (case hi => kernel_rfl)) | fail)
   refine (HCL.out (rd_T55 l n) _ HB.out).mono ?_
   rintro e w2 ⟨rfl, hb2⟩
   have HB2 := Aside0.mk (below_then HB.out (HB.out.size) hb2)
   clear hb2 HB
   cases hp : pr (rd_T55 l n)
   ·have HN2 := Aside0.mk (invariant_find.take_add_false hlt HN.out hp)
    clear hp
    go_wp2
    go_roundw
    case rel => exact ⟨n + 1, by omega, by go_num, HN2, HB2⟩
    case measure => simp [intOf]; omega
   ·have HP := Aside0.mk (invariant_find.idxOf_some hlt HN.out hp)
    clear hp
    go_wp2
    go_ret
    exact ⟨by rw [HP.out]; rfl, HB2.out⟩
  ·have hnl : n = l.length := by omega
   have HP := Aside0.mk (invariant_find.idxOf_none (pr := pr) (l := l) (fun p hp => HN.out p (by rw [hnl, List.take_length]; exact hp)))
   clear hnl
   go_wp2
   go_ret
   exact ⟨by rw [HP.out]; rfl, HB.out⟩

theorem invariant_find.run_enter {P : Program} {f : FuncId} {fn : Func} (hf : P.funcs[f]? = some fn) (hb : fn.body.isNone = false) (hname : (fn.name == "runtime.NumGoroutine") = false) (args : Array Value) (w : World) :
  (callFunc f args).run P w = .ok (.enter f args) w := by
 have h1 : fn.name ≠ "runtime.NumGoroutine" := by simpa using hname
 obtain ⟨b, h2⟩ : ∃ b, fn.body = some b := by cases h : fn.body with
  | none => rw [h] at hb; cases hb
  | some b => exact ⟨b, rfl⟩
 simp [callFunc, hf, h1, h2]
set_option maxHeartbeats 400000 in
set_option maxRecDepth 100000 in
theorem invariant_find.clos (p : S55) (kb : Nat) (a : ByteArray) (b : Int) (w : World) (hk : w.heap[kb]? = some (.cells #[.string a, .int .i64 b] 30 (0, 0))) :
  Calls Try.prog 32 (#[.agg (invariant_find.cells p).toArray] ++ #[.pointer (some ⟨kb, 0, none⟩)]) w fun e w' => e = .returned (.bool (p.f0.f0.toList == a.toList && (p.f0.f1 == b))) ∧ Below w.heap.size w w' := by
 have h0 : w.cell? ⟨kb, 0, none⟩ = some (.string a) := by simp [World.cell?, hk]
 have h1 : w.cell? ⟨kb, 1, none⟩ = some (.int .i64 b) := by simp [World.cell?, hk]
 have hlt : kb < w.heap.size := (Array.getElem?_eq_some_iff.1 hk).1
 clear hk
 have huK := Try.underlying30
 simp only [invariant_find.cells, List.append_toArray, List.cons_append, List.nil_append]
 go_enter Try.func32, Try.ntmps32
 go_wp2
 go_ret
 exact ⟨rfl, below_alloc (Below.refl _ _) _⟩
def invariant_find.keyIs (a : ByteArray) (b : Int) (p : S55) : Bool := p.f0.f0.toList == a.toList && (p.f0.f1 == b)
def invariant_find.f (a0_0 : Int) (a0_1 : Int) (a0_2 : Bool) (a0_3 : Nat) (a0_4 : ByteArray) (a0_5 : Int) (a0_6 : Bool) (l0_7 : List S55) (a1_0 : ByteArray) (a1_1 : Int) : Option Int := if l0_7.length ≤ 9223372036854775807 then some (invariant_find.idxOf (invariant_find.keyIs a1_0 a1_1) l0_7) else none
set_option maxHeartbeats 400000 in
set_option maxRecDepth 100000 in
theorem invariant_find.calls (a0_0 : Int) (a0_1 : Int) (a0_2 : Bool) (a0_3 : Nat) (a0_4 : ByteArray) (a0_5 : Int) (a0_6 : Bool) (A0_7 : Option Addr) (c0_7 : Nat) (l0_7 : List S55) (a1_0 : ByteArray) (a1_1 : Int) (r : Int) (w : World) (hr0_7 : Kd.C k55 w A0_7 l0_7.length l0_7) (hc0_7 : l0_7.length ≤ c0_7)
  (h : invariant_find.f a0_0 a0_1 a0_2 a0_3 a0_4 a0_5 a0_6 l0_7 a1_0 a1_1 = some r) :
  Calls Try.prog 25 #[.agg #[.int .i64 a0_0, .int .i64 a0_1, .bool a0_2, .float .f64 a0_3, .string a0_4, .int .i64 a0_5, .bool a0_6, .slice A0_7 l0_7.length c0_7], .agg #[.string a1_0, .int .i64 a1_1]] w fun e w' => e = .returned (.int .i64 r) ∧ Below w.heap.size w w' := by
 unfold invariant_find.f at h
 by_cases hl : l0_7.length ≤ 9223372036854775807
 ·rw [if_pos hl] at h; obtain rfl := Option.some.inj h; clear h hc0_7; have HR := Aside0.mk hr0_7; clear hr0_7
  go_enter Try.func25, Try.ntmps25
  go_wp2_with fail
  refine (invariant_find.idx 32 _ (invariant_find.keyIs a1_0 a1_1) _ _ _ _ ?_ hl (fun args W => invariant_find.run_enter Try.func32 (by kernel_rfl) (by kernel_rfl) args W) ?_).mono ?_
  ·exact Kd.C_below HR.out (below_alloc (below_alloc (Below.refl _ _) _) _)
  ·intro p w1 hb; refine invariant_find.clos p _ a1_0 a1_1 w1 ?_; rw [hb.block _ (by simp)]; exact heap_alloc2_new _ _ _
  ·rintro e w2 ⟨rfl, hb⟩
   have HB := Aside0.mk (below_then (below_alloc (below_alloc (Below.refl w.heap.size w) _) _) (by simp; omega) hb); clear hb
   go_wp2
   go_ret
   exact ⟨rfl, HB.out⟩
 ·rw [if_neg hl] at h
  cases h

/-! ### math_IsNaN: function 37 -/
def math_IsNaN.f (a0 : Nat) : Option (Bool) := some (fne a0 a0)
set_option maxHeartbeats 8000000 in
set_option maxRecDepth 100000 in
theorem math_IsNaN.calls (a0 : Nat) (r : Bool) (w : World) (h : math_IsNaN.f a0 = some r) :
  Calls Try.prog 37 #[.float .f64 a0] w fun e w' => e = .returned (.bool r) ∧ Drawn0 w w' := by
 have H : (some (fne a0 a0)) = some r := h; clear h; obtain rfl := Option.some.inj H
 go_enter Try.func37, Try.ntmps37
 go_wp2
 go_ret
 exact ⟨by first | rfl | (simp; done) | (simp [*]; done), by repeat (first | exact Drawn0.refl _ | apply Drawn0.step)⟩

/-! ### math_Signbit: function 38 -/
def math_Signbit.f (a0 : Nat) : Option (Bool) := some (decide ((wrap64 (((a0 : Nat) : Int))) < 0))
set_option maxHeartbeats 8000000 in
set_option maxRecDepth 100000 in
theorem math_Signbit.calls (a0 : Nat) (r : Bool) (w : World) (h : math_Signbit.f a0 = some r) :
  Calls Try.prog 38 #[.float .f64 a0] w fun e w' => e = .returned (.bool r) ∧ Drawn0 w w' := by
 have hfb := fun (b : Nat) (W : World) => run_f64bits (P := Try.prog) (f := 34) Try.func34 (by kernel_rfl) (by kernel_rfl) (by kernel_rfl) rfl b W
 have H : (some (decide ((wrap64 (((a0 : Nat) : Int))) < 0))) = some r := h; clear h; obtain rfl := Option.some.inj H
 go_enter Try.func38, Try.ntmps38
 go_wp2
 go_ret
 exact ⟨by first | rfl | (simp; done) | (simp [*]; done), by repeat (first | exact Drawn0.refl _ | apply Drawn0.step)⟩

/-! ### number_Same: function 35 -/
def number_Same.j0 : Nat → Nat → Nat → Bool → Option (Bool)
 | 0, _, _, _ => none
 | k + 1, x0, x1, x10 => if x10 = true then ((math_IsNaN.f x0).bind fun t249 => (if t249 = true then ((math_IsNaN.f x1).bind fun t250 => (some t250)) else (some false))) else (if (feq x0 x1) = true then ((math_Signbit.f x0).bind fun t251 => ((math_Signbit.f x1).bind fun t252 => (some (t251 == t252)))) else (some false))
def number_Same.f (k : Nat) (a0 : Nat) (a1 : Nat) : Option (Bool) := (math_IsNaN.f a0).bind fun t247 => (if t247 = true then (number_Same.j0 k a0 a1 true) else ((math_IsNaN.f a1).bind fun t248 => (number_Same.j0 k a0 a1 t248)))
theorem number_Same.mono_l : ∀ k, (∀ y0 y1 y2, LeO (number_Same.j0 k y0 y1 y2) (number_Same.j0 (k + 1) y0 y1 y2))
 | 0 => fun _ _ _ r h => by simp [number_Same.j0] at h
 | k + 1 => by
  have ih0 := number_Same.mono_l k
  ·intro y0 y1 y2
   unfold number_Same.j0
   repeat' first
   | (with_reducible exact ih0 _ _ _)
   | (with_reducible exact LeO.refl _)
   | (with_reducible exact LeO.none _)
   | (with_reducible refine LeO.ite ?_ ?_)
   | (with_reducible refine LeO.bind ?_ (fun _ => ?_))
   | exact ih0 _ _ _
   | exact LeO.none _
   | refine LeO.ite ?_ ?_
   | refine LeO.bind ?_ (fun _ => ?_)
theorem number_Same.mono : ∀ a0 a1 k, LeO (number_Same.f k a0 a1) (number_Same.f (k + 1) a0 a1) := by
 intro a0 a1 k
 have ih0 := number_Same.mono_l k
 unfold number_Same.f
 repeat' first
   | (with_reducible exact ih0 _ _ _)
   | (with_reducible exact LeO.refl _)
   | (with_reducible exact LeO.none _)
   | (with_reducible refine LeO.ite ?_ ?_)
   | (with_reducible refine LeO.bind ?_ (fun _ => ?_))
   | exact ih0 _ _ _
   | exact LeO.none _
   | refine LeO.ite ?_ ?_
   | refine LeO.bind ?_ (fun _ => ?_)
set_option maxHeartbeats 8000000 in
set_option maxRecDepth 100000 in
theorem number_Same.calls (k : Nat) (a0 : Nat) (a1 : Nat) (r : Bool) (w : World) (h : number_Same.f k a0 a1 = some r) :
  Calls Try.prog 35 #[.float .f64 a0, .float .f64 a1] w fun e w' => e = .returned (.bool r) ∧ Drawn0 w w' := by
 have H : ((math_IsNaN.f a0).bind fun t247 => (if t247 = true then (number_Same.j0 k a0 a1 true) else ((math_IsNaN.f a1).bind fun t248 => (number_Same.j0 k a0 a1 t248)))) = some r := h; clear h; have HC3 := Aside0.mk H; clear H
 go_enter Try.func35, Try.ntmps35
 go_upto_region 1 with (fail)
 go_cut [10] (fun v10 wc => ∃ (kq : Nat) (x10_2 : Bool), v10 = .bool x10_2 ∧ Aside0 (number_Same.j0 kq a0 a1 x10_2 = some r) ∧ Aside0 (kq ≤ k) ∧ Drawn0 w wc)
 case first =>
  have H := HC3.out; clear HC3; replace H := Option.bind_eq_some_iff.mp H; obtain ⟨t247, A40, H⟩ := H; replace H : (if t247 = true then (number_Same.j0 k a0 a1 true) else ((math_IsNaN.f a1).bind fun t248 => (number_Same.j0 k a0 a1 t248))) = some r := H; have A4 := Aside0.mk A40; clear A40
  by_cases c5 : t247 = true
  ·subst c5
   have H1 : (number_Same.j0 k a0 a1 true) = some r := by rw [if_pos rfl] at H; exact H
   clear H; have H := H1; clear H1; have H' := Aside0.mk H; clear H
   go_wp2_with (first | ((with_reducible refine gate_callee (f := 37) rfl ?_); refine goesL_ (some 6) rfl rfl Try.func37 (by kernel_rfl) rfl #[.float .f64 a0] rfl (by (try simp only [List.map_toArray, List.map_cons, List.map_nil]); first | done | rfl | (simp only [List.length_drop, List.length_take]; rfl)) ?_; (with_reducible refine (math_IsNaN.calls a0 true _ A4.out).mono ?_); rintro e w' ⟨rfl, ⟨nd, rfl⟩⟩; refine ⟨_, rfl, ?_⟩))
   go_meet
   case rel => exact ⟨_, (true), (by first | rfl | (simp; done) | (simp [*]; done)), H', ⟨by first | omega | exact Nat.le_refl _⟩, by repeat (first | exact Drawn0.refl _ | apply Drawn0.step)⟩
  ·replace c5 := Bool.eq_false_iff.mpr c5; subst c5
   have H1 : ((math_IsNaN.f a1).bind fun t248 => (number_Same.j0 k a0 a1 t248)) = some r := by rw [if_neg (show ¬ (false = true) by decide)] at H; exact H
   clear H; have H := H1; clear H1; replace H := Option.bind_eq_some_iff.mp H; obtain ⟨t248, A60, H⟩ := H; replace H : (number_Same.j0 k a0 a1 t248) = some r := H; have A6 := Aside0.mk A60; clear A60; have H' := Aside0.mk H; clear H
   go_wp2_with (first | ((with_reducible refine gate_callee (f := 37) rfl ?_); refine goesL_ (some 6) rfl rfl Try.func37 (by kernel_rfl) rfl #[.float .f64 a0] rfl (by (try simp only [List.map_toArray, List.map_cons, List.map_nil]); first | done | rfl | (simp only [List.length_drop, List.length_take]; rfl)) ?_; (with_reducible refine (math_IsNaN.calls a0 false _ A4.out).mono ?_); rintro e w' ⟨rfl, ⟨nd, rfl⟩⟩; refine ⟨_, rfl, ?_⟩) | (go_at_call 37; (with_reducible refine (math_IsNaN.calls a1 t248 _ A6.out).mono ?_); rintro e w' ⟨rfl, ⟨nd, rfl⟩⟩))
   go_meet
   case rel => exact ⟨_, (t248), (by first | rfl | (simp; done) | (simp [*]; done)), H', ⟨by first | omega | exact Nat.le_refl _⟩, by repeat (first | exact Drawn0.refl _ | apply Drawn0.step)⟩
 case rest =>
  clear HC3; (try clear p2); (try clear c3); (try clear c5); obtain ⟨kq, x10_2, rfl, HA, HJ2, ⟨mc2, rfl⟩⟩ := hcut
  cases kq with
  | zero => exact absurd HA.out (by simp [number_Same.j0])
  | succ kj2 =>
   have H := HA.out; clear HA; simp only [number_Same.j0] at H
   by_cases c7 : x10_2 = true
   ·subst c7
    have H1 : ((math_IsNaN.f a0).bind fun t249 => (if t249 = true then ((math_IsNaN.f a1).bind fun t250 => (some t250)) else (some false))) = some r := by rw [if_pos rfl] at H; exact H
    clear H; have H := H1; clear H1; replace H := Option.bind_eq_some_iff.mp H; obtain ⟨t249, A80, H⟩ := H; replace H : (if t249 = true then ((math_IsNaN.f a1).bind fun t250 => (some t250)) else (some false)) = some r := H; have A8 := Aside0.mk A80; clear A80
    by_cases c9 : t249 = true
    ·subst c9
     have H1 : ((math_IsNaN.f a1).bind fun t250 => (some t250)) = some r := by rw [if_pos rfl] at H; exact H
     clear H; have H := H1; clear H1; replace H := Option.bind_eq_some_iff.mp H; obtain ⟨t250, A100, H⟩ := H; replace H : (some t250) = some r := H; have A10 := Aside0.mk A100; clear A100; obtain rfl := Option.some.inj H
     go_wp2_with (first | ((with_reducible refine gate_callee (f := 37) rfl ?_); refine goesL_ (some 12) rfl rfl Try.func37 (by kernel_rfl) rfl #[.float .f64 a0] rfl (by (try simp only [List.map_toArray, List.map_cons, List.map_nil]); first | done | rfl | (simp only [List.length_drop, List.length_take]; rfl)) ?_; (with_reducible refine (math_IsNaN.calls a0 true _ A8.out).mono ?_); rintro e w' ⟨rfl, ⟨nd, rfl⟩⟩; refine ⟨_, rfl, ?_⟩) | (go_at_call 37; (with_reducible refine (math_IsNaN.calls a1 t250 _ A10.out).mono ?_); rintro e w' ⟨rfl, ⟨nd, rfl⟩⟩))
     go_ret
     exact ⟨by first | rfl | (simp; done) | (simp [*]; done), by repeat (first | exact Drawn0.refl _ | apply Drawn0.step)⟩
    ·replace c9 := Bool.eq_false_iff.mpr c9; subst c9
     have H1 : (some false) = some r := by rw [if_neg (show ¬ (false = true) by decide)] at H; exact H
     clear H; have H := H1; clear H1; obtain rfl := Option.some.inj H
     go_wp2_with (first | ((with_reducible refine gate_callee (f := 37) rfl ?_); refine goesL_ (some 12) rfl rfl Try.func37 (by kernel_rfl) rfl #[.float .f64 a0] rfl (by (try simp only [List.map_toArray, List.map_cons, List.map_nil]); first | done | rfl | (simp only [List.length_drop, List.length_take]; rfl)) ?_; (with_reducible refine (math_IsNaN.calls a0 false _ A8.out).mono ?_); rintro e w' ⟨rfl, ⟨nd, rfl⟩⟩; refine ⟨_, rfl, ?_⟩))
     go_ret
     exact ⟨by first | rfl | (simp; done) | (simp [*]; done), by repeat (first | exact Drawn0.refl _ | apply Drawn0.step)⟩
   ·replace c7 := Bool.eq_false_iff.mpr c7; subst c7
    have H1 : (if (feq a0 a1) = true then ((math_Signbit.f a0).bind fun t251 => ((math_Signbit.f a1).bind fun t252 => (some (t251 == t252)))) else (some false)) = some r := by rw [if_neg (show ¬ (false = true) by decide)] at H; exact H
    clear H; have H := H1; clear H1
    by_cases c11 : (feq a0 a1) = true
    ·rw [if_pos c11] at H; have c11b0 : (feq a0 a1) = true := c11; clear c11; replace H := Option.bind_eq_some_iff.mp H; obtain ⟨t251, A120, H⟩ := H; replace H : ((math_Signbit.f a1).bind fun t252 => (some (t251 == t252))) = some r := H; have A12 := Aside0.mk A120; clear A120; replace H := Option.bind_eq_some_iff.mp H; obtain ⟨t252, A130, H⟩ := H; replace H : (some (t251 == t252)) = some r := H; have A13 := Aside0.mk A130; clear A130; obtain rfl := Option.some.inj H
     go_wp2_with (first | (go_at_call 38; (with_reducible refine (math_Signbit.calls a0 t251 _ A12.out).mono ?_); rintro e w' ⟨rfl, ⟨nd, rfl⟩⟩) | (go_at_call 38; (with_reducible refine (math_Signbit.calls a1 t252 _ A13.out).mono ?_); rintro e w' ⟨rfl, ⟨nd, rfl⟩⟩))
     go_ret
     exact ⟨by first | rfl | (simp; done) | (simp [*]; done), by repeat (first | exact Drawn0.refl _ | apply Drawn0.step)⟩
    ·rw [if_neg c11] at H
     have c11b0 : (feq a0 a1) = false := by first | exact Bool.eq_false_iff.mpr c11 | simpa using c11
     clear c11; obtain rfl := Option.some.inj H
     go_wp2
     go_ret
     exact ⟨by first | rfl | (simp; done) | (simp [*]; done), by repeat (first | exact Drawn0.refl _ | apply Drawn0.step)⟩

/-! ### invariant_same: function 28 -/
def invariant_same.f (k : Nat) (a0_0 : Int) (a0_1 : Bool) (a0_2 : Nat) (a0_3 : ByteArray) (a0_4 : Int) (a1_0 : Int) (a1_1 : Bool) (a1_2 : Nat) (a1_3 : ByteArray) (a1_4 : Int) : Option (Bool) := if a0_0 = a1_0 then (if (a0_1 == a1_1) = true then (if a0_3.toList = a1_3.toList then (if a0_4 = a1_4 then ((number_Same.f k a0_2 a1_2).bind fun t255 => (some t255)) else (some false)) else (some false)) else (some false)) else (some false)
theorem invariant_same.mono : ∀ a0 a1 a2 a3 a4 a5 a6 a7 a8 a9 k, LeO (invariant_same.f k a0 a1 a2 a3 a4 a5 a6 a7 a8 a9) (invariant_same.f (k + 1) a0 a1 a2 a3 a4 a5 a6 a7 a8 a9) := by
 intro a0 a1 a2 a3 a4 a5 a6 a7 a8 a9 k
 unfold invariant_same.f
 repeat' first
   | (with_reducible exact number_Same.mono _ _ _)
   | (with_reducible exact LeO.refl _)
   | (with_reducible exact LeO.none _)
   | (with_reducible refine LeO.ite ?_ ?_)
   | (with_reducible refine LeO.bind ?_ (fun _ => ?_))
   | exact number_Same.mono _ _ _
   | exact LeO.none _
   | refine LeO.ite ?_ ?_
   | refine LeO.bind ?_ (fun _ => ?_)
set_option maxHeartbeats 8000000 in
set_option maxRecDepth 100000 in
theorem invariant_same.calls (k : Nat) (a0_0 : Int) (a0_1 : Bool) (a0_2 : Nat) (a0_3 : ByteArray) (a0_4 : Int) (a1_0 : Int) (a1_1 : Bool) (a1_2 : Nat) (a1_3 : ByteArray) (a1_4 : Int) (r : Bool) (w : World) (h : invariant_same.f k a0_0 a0_1 a0_2 a0_3 a0_4 a1_0 a1_1 a1_2 a1_3 a1_4 = some r) :
  Calls Try.prog 28 #[.agg #[.int .i64 a0_0, .bool a0_1, .float .f64 a0_2, .string a0_3, .int .i64 a0_4], .agg #[.int .i64 a1_0, .bool a1_1, .float .f64 a1_2, .string a1_3, .int .i64 a1_4]] w fun e w' => e = .returned (.bool r) ∧ Below w.heap.size w w' := by
 have hu28 := Try.underlying28; have HB := Aside0.mk (Below.refl w.heap.size w); have H : (if a0_0 = a1_0 then (if (a0_1 == a1_1) = true then (if a0_3.toList = a1_3.toList then (if a0_4 = a1_4 then ((number_Same.f k a0_2 a1_2).bind fun t255 => (some t255)) else (some false)) else (some false)) else (some false)) else (some false)) = some r := h; clear h
 by_cases c3 : a0_0 = a1_0
 ·rw [if_pos c3] at H; have c3b0 : (a0_0 == a1_0) = true := beq_iff_eq.mpr c3; have c3b1 : (a0_0 != a1_0) = false := bne_eq_false_iff_eq.mpr c3; clear c3
  by_cases c4 : (a0_1 == a1_1) = true
  ·rw [if_pos c4] at H; have c4b0 : (a0_1 == a1_1) = true := c4
   (try (have c4b1 : decide (a0_1 = a1_1) = true := by simpa using c4))
   (try (have c4b2 : (a0_1 == a1_1) = true := by first | exact (Bool.not_eq_false' _).mp c4b0 | simpa using c4))
   clear c4
   by_cases c5 : a0_3.toList = a1_3.toList
   ·rw [if_pos c5] at H; have c5b0 : (a0_3.toList == a1_3.toList) = true := beq_iff_eq.mpr c5; have c5b1 : (a0_3.toList != a1_3.toList) = false := bne_eq_false_iff_eq.mpr c5; clear c5
    by_cases c6 : a0_4 = a1_4
    ·rw [if_pos c6] at H; have c6b0 : (a0_4 == a1_4) = true := beq_iff_eq.mpr c6; have c6b1 : (a0_4 != a1_4) = false := bne_eq_false_iff_eq.mpr c6; clear c6; replace H := Option.bind_eq_some_iff.mp H; obtain ⟨t255, A70, H⟩ := H; replace H : (some t255) = some r := H; have A7 := Aside0.mk A70; clear A70; obtain rfl := Option.some.inj H
     go_enter Try.func28, Try.ntmps28
     go_wp2_with (first | ((with_reducible refine gate_dst (N := 2) rfl ?_); refine box_event ?hg (N := 2) ?hd (cs := #[.int .i64 a0_0, .bool a0_1, .float .f64 a0_2, .string a0_3, .int .i64 a0_4]) (t := 28) ?hr ?_; (case hd => rfl); (case hg => rfl); (case hr => first | (go_simp; done) | (go_simp; rfl)); intro gb253 hg w8 hbox hb; have n0_ := Aside0.mk (bel_s HB.out hb); have n1_ := Aside0.mk (hbox); have n2_ := Aside0.mk ((by rw [hg]; exact (bel_z HB.out) : w.heap.size ≤ gb253)); have n3_ := Aside0.mk ((by rw [hg]; exact (bel_z HB.out) : w.heap.size ≤ gb253)); clear HB; have HB := n0_; have BK253 := n1_; have GW253 := n2_; have GE253 := n3_; clear n0_ n1_ n2_ n3_; clear hb hbox hg) | ((with_reducible refine gate_dst (N := 3) rfl ?_); refine box_event ?hg (N := 3) ?hd (cs := #[.int .i64 a1_0, .bool a1_1, .float .f64 a1_2, .string a1_3, .int .i64 a1_4]) (t := 28) ?hr ?_; (case hd => rfl); (case hg => rfl); (case hr => first | (go_simp; done) | (go_simp; rfl)); intro gb254 hg w9 hbox hb; have n0_ := Aside0.mk (blk_b BK253.out hb); have n1_ := Aside0.mk (bel_s HB.out hb); have n2_ := Aside0.mk (hbox); have n3_ := Aside0.mk ((by rw [hg]; exact (bel_z HB.out) : w.heap.size ≤ gb254)); have n4_ := Aside0.mk ((by rw [hg]; exact (bel_z HB.out) : w.heap.size ≤ gb254)); have n5_ := Aside0.mk ((by rw [hg]; exact Nat.ne_of_lt (blk_l BK253.out) : gb253 ≠ gb254)); have n6_ := Aside0.mk ((by rw [hg]; exact Nat.ne_of_gt (blk_l BK253.out) : gb254 ≠ gb253)); clear BK253; clear HB; have BK253 := n0_; have HB := n1_; have BK254 := n2_; have GW254 := n3_; have GE254 := n4_; have NB253_254 := n5_; have NB254_253 := n6_; clear n0_ n1_ n2_ n3_ n4_ n5_ n6_; clear hb hbox hg; have hnb10 := NB253_254.out; have hnc10 := NB254_253.out; have hcz11_0 : w9.cell? ⟨gb253, 0, none⟩ = some (.int .i64 a0_0) := (blk_cell BK253.out 0).trans rfl; have hcz12_0 : w9.cell? ⟨gb254, 0, none⟩ = some (.int .i64 a1_0) := (blk_cell BK254.out 0).trans rfl; have hcz11_1 : w9.cell? ⟨gb253, 1, none⟩ = some (.bool a0_1) := (blk_cell BK253.out 1).trans rfl; have hcz12_1 : w9.cell? ⟨gb254, 1, none⟩ = some (.bool a1_1) := (blk_cell BK254.out 1).trans rfl; have hcz11_3 : w9.cell? ⟨gb253, 3, none⟩ = some (.string a0_3) := (blk_cell BK253.out 3).trans rfl; have hcz12_3 : w9.cell? ⟨gb254, 3, none⟩ = some (.string a1_3) := (blk_cell BK254.out 3).trans rfl; have hcz11_4 : w9.cell? ⟨gb253, 4, none⟩ = some (.int .i64 a0_4) := (blk_cell BK253.out 4).trans rfl; have hcz12_4 : w9.cell? ⟨gb254, 4, none⟩ = some (.int .i64 a1_4) := (blk_cell BK254.out 4).trans rfl; have hcz11_2 : w9.cell? ⟨gb253, 2, none⟩ = some (.float .f64 a0_2) := (blk_cell BK253.out 2).trans rfl; have hcz12_2 : w9.cell? ⟨gb254, 2, none⟩ = some (.float .f64 a1_2) := (blk_cell BK254.out 2).trans rfl) | (go_at_call 35; (with_reducible refine (number_Same.calls k a0_2 a1_2 t255 _ A7.out).mono ?_); rintro e w' ⟨rfl, ⟨nd, rfl⟩⟩))
     go_ret
     exact ⟨by first | rfl | (simp [errW_none, errW_some] <;> rfl) | (simp [*, errW_none, errW_some] <;> rfl), by repeat (first | (with_reducible first | exact HB.out | apply below_alloc | apply pw_below_drewN | apply below_drew1 | refine below_set ?_ GE253.out | refine below_set ?_ GE254.out) | exact HB.out)⟩
    ·rw [if_neg c6] at H; have c6b0 : (a0_4 == a1_4) = false := beq_eq_false_iff_ne.mpr c6; have c6b1 : (a0_4 != a1_4) = true := bne_iff_ne.mpr c6; obtain rfl := Option.some.inj H
     go_enter Try.func28, Try.ntmps28
     go_wp2_with (first | ((with_reducible refine gate_dst (N := 2) rfl ?_); refine box_event ?hg (N := 2) ?hd (cs := #[.int .i64 a0_0, .bool a0_1, .float .f64 a0_2, .string a0_3, .int .i64 a0_4]) (t := 28) ?hr ?_; (case hd => rfl); (case hg => rfl); (case hr => first | (go_simp; done) | (go_simp; rfl)); intro gb253 hg w13 hbox hb; have n0_ := Aside0.mk (bel_s HB.out hb); have n1_ := Aside0.mk (hbox); have n2_ := Aside0.mk ((by rw [hg]; exact (bel_z HB.out) : w.heap.size ≤ gb253)); have n3_ := Aside0.mk ((by rw [hg]; exact (bel_z HB.out) : w.heap.size ≤ gb253)); clear HB; have HB := n0_; have BK253 := n1_; have GW253 := n2_; have GE253 := n3_; clear n0_ n1_ n2_ n3_; clear hb hbox hg) | ((with_reducible refine gate_dst (N := 3) rfl ?_); refine box_event ?hg (N := 3) ?hd (cs := #[.int .i64 a1_0, .bool a1_1, .float .f64 a1_2, .string a1_3, .int .i64 a1_4]) (t := 28) ?hr ?_; (case hd => rfl); (case hg => rfl); (case hr => first | (go_simp; done) | (go_simp; rfl)); intro gb254 hg w14 hbox hb; have n0_ := Aside0.mk (blk_b BK253.out hb); have n1_ := Aside0.mk (bel_s HB.out hb); have n2_ := Aside0.mk (hbox); have n3_ := Aside0.mk ((by rw [hg]; exact (bel_z HB.out) : w.heap.size ≤ gb254)); have n4_ := Aside0.mk ((by rw [hg]; exact (bel_z HB.out) : w.heap.size ≤ gb254)); have n5_ := Aside0.mk ((by rw [hg]; exact Nat.ne_of_lt (blk_l BK253.out) : gb253 ≠ gb254)); have n6_ := Aside0.mk ((by rw [hg]; exact Nat.ne_of_gt (blk_l BK253.out) : gb254 ≠ gb253)); clear BK253; clear HB; have BK253 := n0_; have HB := n1_; have BK254 := n2_; have GW254 := n3_; have GE254 := n4_; have NB253_254 := n5_; have NB254_253 := n6_; clear n0_ n1_ n2_ n3_ n4_ n5_ n6_; clear hb hbox hg; have hnb15 := NB253_254.out; have hnc15 := NB254_253.out; have hcz16_0 : w14.cell? ⟨gb253, 0, none⟩ = some (.int .i64 a0_0) := (blk_cell BK253.out 0).trans rfl; have hcz17_0 : w14.cell? ⟨gb254, 0, none⟩ = some (.int .i64 a1_0) := (blk_cell BK254.out 0).trans rfl; have hcz16_1 : w14.cell? ⟨gb253, 1, none⟩ = some (.bool a0_1) := (blk_cell BK253.out 1).trans rfl; have hcz17_1 : w14.cell? ⟨gb254, 1, none⟩ = some (.bool a1_1) := (blk_cell BK254.out 1).trans rfl; have hcz16_3 : w14.cell? ⟨gb253, 3, none⟩ = some (.string a0_3) := (blk_cell BK253.out 3).trans rfl; have hcz17_3 : w14.cell? ⟨gb254, 3, none⟩ = some (.string a1_3) := (blk_cell BK254.out 3).trans rfl; have hcz16_4 : w14.cell? ⟨gb253, 4, none⟩ = some (.int .i64 a0_4) := (blk_cell BK253.out 4).trans rfl; have hcz17_4 : w14.cell? ⟨gb254, 4, none⟩ = some (.int .i64 a1_4) := (blk_cell BK254.out 4).trans rfl))
     go_ret
     exact ⟨by first | rfl | (simp [errW_none, errW_some] <;> rfl) | (simp [*, errW_none, errW_some] <;> rfl), by repeat (first | (with_reducible first | exact HB.out | apply below_alloc | apply pw_below_drewN | apply below_drew1 | refine below_set ?_ GE253.out | refine below_set ?_ GE254.out) | exact HB.out)⟩
   ·rw [if_neg c5] at H; have c5b0 : (a0_3.toList == a1_3.toList) = false := beq_eq_false_iff_ne.mpr c5; have c5b1 : (a0_3.toList != a1_3.toList) = true := bne_iff_ne.mpr c5; obtain rfl := Option.some.inj H
    go_enter Try.func28, Try.ntmps28
    go_wp2_with (first | ((with_reducible refine gate_dst (N := 2) rfl ?_); refine box_event ?hg (N := 2) ?hd (cs := #[.int .i64 a0_0, .bool a0_1, .float .f64 a0_2, .string a0_3, .int .i64 a0_4]) (t := 28) ?hr ?_; (case hd => rfl); (case hg => rfl); (case hr => first | (go_simp; done) | (go_simp; rfl)); intro gb253 hg w18 hbox hb; have n0_ := Aside0.mk (bel_s HB.out hb); have n1_ := Aside0.mk (hbox); have n2_ := Aside0.mk ((by rw [hg]; exact (bel_z HB.out) : w.heap.size ≤ gb253)); have n3_ := Aside0.mk ((by rw [hg]; exact (bel_z HB.out) : w.heap.size ≤ gb253)); clear HB; have HB := n0_; have BK253 := n1_; have GW253 := n2_; have GE253 := n3_; clear n0_ n1_ n2_ n3_; clear hb hbox hg) | ((with_reducible refine gate_dst (N := 3) rfl ?_); refine box_event ?hg (N := 3) ?hd (cs := #[.int .i64 a1_0, .bool a1_1, .float .f64 a1_2, .string a1_3, .int .i64 a1_4]) (t := 28) ?hr ?_; (case hd => rfl); (case hg => rfl); (case hr => first | (go_simp; done) | (go_simp; rfl)); intro gb254 hg w19 hbox hb; have n0_ := Aside0.mk (blk_b BK253.out hb); have n1_ := Aside0.mk (bel_s HB.out hb); have n2_ := Aside0.mk (hbox); have n3_ := Aside0.mk ((by rw [hg]; exact (bel_z HB.out) : w.heap.size ≤ gb254)); have n4_ := Aside0.mk ((by rw [hg]; exact (bel_z HB.out) : w.heap.size ≤ gb254)); have n5_ := Aside0.mk ((by rw [hg]; exact Nat.ne_of_lt (blk_l BK253.out) : gb253 ≠ gb254)); have n6_ := Aside0.mk ((by rw [hg]; exact Nat.ne_of_gt (blk_l BK253.out) : gb254 ≠ gb253)); clear BK253; clear HB; have BK253 := n0_; have HB := n1_; have BK254 := n2_; have GW254 := n3_; have GE254 := n4_; have NB253_254 := n5_; have NB254_253 := n6_; clear n0_ n1_ n2_ n3_ n4_ n5_ n6_; clear hb hbox hg; have hnb20 := NB253_254.out; have hnc20 := NB254_253.out; have hcz21_0 : w19.cell? ⟨gb253, 0, none⟩ = some (.int .i64 a0_0) := (blk_cell BK253.out 0).trans rfl; have hcz22_0 : w19.cell? ⟨gb254, 0, none⟩ = some (.int .i64 a1_0) := (blk_cell BK254.out 0).trans rfl; have hcz21_1 : w19.cell? ⟨gb253, 1, none⟩ = some (.bool a0_1) := (blk_cell BK253.out 1).trans rfl; have hcz22_1 : w19.cell? ⟨gb254, 1, none⟩ = some (.bool a1_1) := (blk_cell BK254.out 1).trans rfl; have hcz21_3 : w19.cell? ⟨gb253, 3, none⟩ = some (.string a0_3) := (blk_cell BK253.out 3).trans rfl; have hcz22_3 : w19.cell? ⟨gb254, 3, none⟩ = some (.string a1_3) := (blk_cell BK254.out 3).trans rfl))
    go_ret
    exact ⟨by first | rfl | (simp [errW_none, errW_some] <;> rfl) | (simp [*, errW_none, errW_some] <;> rfl), by repeat (first | (with_reducible first | exact HB.out | apply below_alloc | apply pw_below_drewN | apply below_drew1 | refine below_set ?_ GE253.out | refine below_set ?_ GE254.out) | exact HB.out)⟩
  ·rw [if_neg c4] at H
   have c4b0 : (a0_1 == a1_1) = false := by first | exact Bool.eq_false_iff.mpr c4 | simpa using c4
   (try (have c4b1 : decide (a0_1 = a1_1) = false := by simpa using c4))
   (try (have c4b2 : (a0_1 == a1_1) = false := by first | exact (Bool.not_eq_true' _).mp c4b0 | simpa using c4))
   (try (have c4b3 : ¬ (a0_1 = a1_1) := by simpa using c4))
   clear c4; obtain rfl := Option.some.inj H
   go_enter Try.func28, Try.ntmps28
   go_wp2_with (first | ((with_reducible refine gate_dst (N := 2) rfl ?_); refine box_event ?hg (N := 2) ?hd (cs := #[.int .i64 a0_0, .bool a0_1, .float .f64 a0_2, .string a0_3, .int .i64 a0_4]) (t := 28) ?hr ?_; (case hd => rfl); (case hg => rfl); (case hr => first | (go_simp; done) | (go_simp; rfl)); intro gb253 hg w23 hbox hb; have n0_ := Aside0.mk (bel_s HB.out hb); have n1_ := Aside0.mk (hbox); have n2_ := Aside0.mk ((by rw [hg]; exact (bel_z HB.out) : w.heap.size ≤ gb253)); have n3_ := Aside0.mk ((by rw [hg]; exact (bel_z HB.out) : w.heap.size ≤ gb253)); clear HB; have HB := n0_; have BK253 := n1_; have GW253 := n2_; have GE253 := n3_; clear n0_ n1_ n2_ n3_; clear hb hbox hg) | ((with_reducible refine gate_dst (N := 3) rfl ?_); refine box_event ?hg (N := 3) ?hd (cs := #[.int .i64 a1_0, .bool a1_1, .float .f64 a1_2, .string a1_3, .int .i64 a1_4]) (t := 28) ?hr ?_; (case hd => rfl); (case hg => rfl); (case hr => first | (go_simp; done) | (go_simp; rfl)); intro gb254 hg w24 hbox hb; have n0_ := Aside0.mk (blk_b BK253.out hb); have n1_ := Aside0.mk (bel_s HB.out hb); have n2_ := Aside0.mk (hbox); have n3_ := Aside0.mk ((by rw [hg]; exact (bel_z HB.out) : w.heap.size ≤ gb254)); have n4_ := Aside0.mk ((by rw [hg]; exact (bel_z HB.out) : w.heap.size ≤ gb254)); have n5_ := Aside0.mk ((by rw [hg]; exact Nat.ne_of_lt (blk_l BK253.out) : gb253 ≠ gb254)); have n6_ := Aside0.mk ((by rw [hg]; exact Nat.ne_of_gt (blk_l BK253.out) : gb254 ≠ gb253)); clear BK253; clear HB; have BK253 := n0_; have HB := n1_; have BK254 := n2_; have GW254 := n3_; have GE254 := n4_; have NB253_254 := n5_; have NB254_253 := n6_; clear n0_ n1_ n2_ n3_ n4_ n5_ n6_; clear hb hbox hg; have hnb25 := NB253_254.out; have hnc25 := NB254_253.out; have hcz26_0 : w24.cell? ⟨gb253, 0, none⟩ = some (.int .i64 a0_0) := (blk_cell BK253.out 0).trans rfl; have hcz27_0 : w24.cell? ⟨gb254, 0, none⟩ = some (.int .i64 a1_0) := (blk_cell BK254.out 0).trans rfl; have hcz26_1 : w24.cell? ⟨gb253, 1, none⟩ = some (.bool a0_1) := (blk_cell BK253.out 1).trans rfl; have hcz27_1 : w24.cell? ⟨gb254, 1, none⟩ = some (.bool a1_1) := (blk_cell BK254.out 1).trans rfl))
   go_ret
   exact ⟨by first | rfl | (simp [errW_none, errW_some] <;> rfl) | (simp [*, errW_none, errW_some] <;> rfl), by repeat (first | (with_reducible first | exact HB.out | apply below_alloc | apply pw_below_drewN | apply below_drew1 | refine below_set ?_ GE253.out | refine below_set ?_ GE254.out) | exact HB.out)⟩
 ·rw [if_neg c3] at H; have c3b0 : (a0_0 == a1_0) = false := beq_eq_false_iff_ne.mpr c3; have c3b1 : (a0_0 != a1_0) = true := bne_iff_ne.mpr c3; obtain rfl := Option.some.inj H
  go_enter Try.func28, Try.ntmps28
  go_wp2_with (first | ((with_reducible refine gate_dst (N := 2) rfl ?_); refine box_event ?hg (N := 2) ?hd (cs := #[.int .i64 a0_0, .bool a0_1, .float .f64 a0_2, .string a0_3, .int .i64 a0_4]) (t := 28) ?hr ?_; (case hd => rfl); (case hg => rfl); (case hr => first | (go_simp; done) | (go_simp; rfl)); intro gb253 hg w28 hbox hb; have n0_ := Aside0.mk (bel_s HB.out hb); have n1_ := Aside0.mk (hbox); have n2_ := Aside0.mk ((by rw [hg]; exact (bel_z HB.out) : w.heap.size ≤ gb253)); have n3_ := Aside0.mk ((by rw [hg]; exact (bel_z HB.out) : w.heap.size ≤ gb253)); clear HB; have HB := n0_; have BK253 := n1_; have GW253 := n2_; have GE253 := n3_; clear n0_ n1_ n2_ n3_; clear hb hbox hg) | ((with_reducible refine gate_dst (N := 3) rfl ?_); refine box_event ?hg (N := 3) ?hd (cs := #[.int .i64 a1_0, .bool a1_1, .float .f64 a1_2, .string a1_3, .int .i64 a1_4]) (t := 28) ?hr ?_; (case hd => rfl); (case hg => rfl); (case hr => first | (go_simp; done) | (go_simp; rfl)); intro gb254 hg w29 hbox hb; have n0_ := Aside0.mk (blk_b BK253.out hb); have n1_ := Aside0.mk (bel_s HB.out hb); have n2_ := Aside0.mk (hbox); have n3_ := Aside0.mk ((by rw [hg]; exact (bel_z HB.out) : w.heap.size ≤ gb254)); have n4_ := Aside0.mk ((by rw [hg]; exact (bel_z HB.out) : w.heap.size ≤ gb254)); have n5_ := Aside0.mk ((by rw [hg]; exact Nat.ne_of_lt (blk_l BK253.out) : gb253 ≠ gb254)); have n6_ := Aside0.mk ((by rw [hg]; exact Nat.ne_of_gt (blk_l BK253.out) : gb254 ≠ gb253)); clear BK253; clear HB; have BK253 := n0_; have HB := n1_; have BK254 := n2_; have GW254 := n3_; have GE254 := n4_; have NB253_254 := n5_; have NB254_253 := n6_; clear n0_ n1_ n2_ n3_ n4_ n5_ n6_; clear hb hbox hg; have hnb30 := NB253_254.out; have hnc30 := NB254_253.out; have hcz31_0 : w29.cell? ⟨gb253, 0, none⟩ = some (.int .i64 a0_0) := (blk_cell BK253.out 0).trans rfl; have hcz32_0 : w29.cell? ⟨gb254, 0, none⟩ = some (.int .i64 a1_0) := (blk_cell BK254.out 0).trans rfl))
  go_ret
  exact ⟨by first | rfl | (simp [errW_none, errW_some] <;> rfl) | (simp [*, errW_none, errW_some] <;> rfl), by repeat (first | (with_reducible first | exact HB.out | apply below_alloc | apply pw_below_drewN | apply below_drew1 | refine below_set ?_ GE253.out | refine below_set ?_ GE254.out) | exact HB.out)⟩

/-! ### invariant_kept: function 29 -/
def invariant_kept.l0 : Nat → Int → List (S55) → Int → Int → Int → Int → Bool → Nat → ByteArray → Int → Bool → List (S55) → Int → Int → Bool → Nat → ByteArray → Int → Bool → List (S55) → Option (Int)
 | 0, _, _, _, _, _, _, _, _, _, _, _, _, _, _, _, _, _, _, _, _ => none
 | k + 1, x5, x10, x11, x12, x257000, x257001, x257002, x257003, x257004, x257005, x257006, x257007, x258000, x258001, x258002, x258003, x258004, x258005, x258006, x258007 => if x12 < x11 then (if 0 ≤ x12 then (if x12 < (x10.length : Int) then ((invariant_find.f x257000 x257001 x257002 x257003 x257004 x257005 x257006 x257007 ((rd_T55 x10 x12).f0.f0) ((rd_T55 x10 x12).f0.f1)).bind fun t260 => (if t260 ≤ x5 then (some x12) else (invariant_kept.l0 k t260 x10 x11 (wrap64 (x12 + 1)) x257000 x257001 x257002 x257003 x257004 x257005 x257006 x257007 x258000 x258001 x258002 x258003 x258004 x258005 x258006 x258007))) else (none)) else (none)) else (some (x258007.length : Int))
def invariant_kept.f (k : Nat) (a0_0 : Int) (a0_1 : Int) (a0_2 : Bool) (a0_3 : Nat) (a0_4 : ByteArray) (a0_5 : Int) (a0_6 : Bool) (l0_7 : List (S55)) (a1_0 : Int) (a1_1 : Int) (a1_2 : Bool) (a1_3 : Nat) (a1_4 : ByteArray) (a1_5 : Int) (a1_6 : Bool) (l1_7 : List (S55)) : Option (Int) := invariant_kept.l0 k (-1) l1_7 (l1_7.length : Int) 0 a0_0 a0_1 a0_2 a0_3 a0_4 a0_5 a0_6 l0_7 a1_0 a1_1 a1_2 a1_3 a1_4 a1_5 a1_6 l1_7
theorem invariant_kept.mono_l : ∀ k, (∀ y0 y1 y2 y3 y4 y5 y6 y7 y8 y9 y10 y11 y12 y13 y14 y15 y16 y17 y18 y19, LeO (invariant_kept.l0 k y0 y1 y2 y3 y4 y5 y6 y7 y8 y9 y10 y11 y12 y13 y14 y15 y16 y17 y18 y19) (invariant_kept.l0 (k + 1) y0 y1 y2 y3 y4 y5 y6 y7 y8 y9 y10 y11 y12 y13 y14 y15 y16 y17 y18 y19))
 | 0 => fun _ _ _ _ _ _ _ _ _ _ _ _ _ _ _ _ _ _ _ _ r h => by simp [invariant_kept.l0] at h
 | k + 1 => by
  have ih0 := invariant_kept.mono_l k
  ·intro y0 y1 y2 y3 y4 y5 y6 y7 y8 y9 y10 y11 y12 y13 y14 y15 y16 y17 y18 y19
   unfold invariant_kept.l0
   repeat' first
   | (with_reducible exact ih0 _ _ _ _ _ _ _ _ _ _ _ _ _ _ _ _ _ _ _ _)
   | (with_reducible exact LeO.refl _)
   | (with_reducible exact LeO.none _)
   | (with_reducible refine LeO.ite ?_ ?_)
   | (with_reducible refine LeO.bind ?_ (fun _ => ?_))
   | exact ih0 _ _ _ _ _ _ _ _ _ _ _ _ _ _ _ _ _ _ _ _
   | exact LeO.none _
   | refine LeO.ite ?_ ?_
   | refine LeO.bind ?_ (fun _ => ?_)
theorem invariant_kept.mono : ∀ a0 a1 a2 a3 a4 a5 a6 a7 a8 a9 a10 a11 a12 a13 a14 a15 k, LeO (invariant_kept.f k a0 a1 a2 a3 a4 a5 a6 a7 a8 a9 a10 a11 a12 a13 a14 a15) (invariant_kept.f (k + 1) a0 a1 a2 a3 a4 a5 a6 a7 a8 a9 a10 a11 a12 a13 a14 a15) := by
 intro a0 a1 a2 a3 a4 a5 a6 a7 a8 a9 a10 a11 a12 a13 a14 a15 k
 have ih0 := invariant_kept.mono_l k
 unfold invariant_kept.f
 repeat' first
   | (with_reducible exact ih0 _ _ _ _ _ _ _ _ _ _ _ _ _ _ _ _ _ _ _ _)
   | (with_reducible exact LeO.refl _)
   | (with_reducible exact LeO.none _)
   | (with_reducible refine LeO.ite ?_ ?_)
   | (with_reducible refine LeO.bind ?_ (fun _ => ?_))
   | exact ih0 _ _ _ _ _ _ _ _ _ _ _ _ _ _ _ _ _ _ _ _
   | exact LeO.none _
   | refine LeO.ite ?_ ?_
   | refine LeO.bind ?_ (fun _ => ?_)
set_option maxHeartbeats 8000000 in
set_option maxRecDepth 100000 in
theorem invariant_kept.calls (k : Nat) (a0_0 : Int) (a0_1 : Int) (a0_2 : Bool) (a0_3 : Nat) (a0_4 : ByteArray) (a0_5 : Int) (a0_6 : Bool) (A0_7 : Option Addr) (c0_7 : Nat) (l0_7 : List (S55)) (a1_0 : Int) (a1_1 : Int) (a1_2 : Bool) (a1_3 : Nat) (a1_4 : ByteArray) (a1_5 : Int) (a1_6 : Bool) (A1_7 : Option Addr) (c1_7 : Nat) (l1_7 : List (S55)) (r : Int) (w : World) (hr0_7 : Kd.C k55 w A0_7 l0_7.length l0_7) (hc0_7 : l0_7.length ≤ c0_7) (hr1_7 : Kd.C k55 w A1_7 l1_7.length l1_7) (hc1_7 : l1_7.length ≤ c1_7) (h : invariant_kept.f k a0_0 a0_1 a0_2 a0_3 a0_4 a0_5 a0_6 l0_7 a1_0 a1_1 a1_2 a1_3 a1_4 a1_5 a1_6 l1_7 = some r) :
  Calls Try.prog 29 #[.agg #[.int .i64 a0_0, .int .i64 a0_1, .bool a0_2, .float .f64 a0_3, .string a0_4, .int .i64 a0_5, .bool a0_6, .slice A0_7 l0_7.length c0_7], .agg #[.int .i64 a1_0, .int .i64 a1_1, .bool a1_2, .float .f64 a1_3, .string a1_4, .int .i64 a1_5, .bool a1_6, .slice A1_7 l1_7.length c1_7]] w fun e w' => e = .returned (.int .i64 r) ∧ Below w.heap.size w w' := by
 have hu52 := Try.underlying52; have hu55 := Try.underlying55; have hu30 := Try.underlying30; have HR0_7 := Aside0.mk hr0_7; have HC0_7 := Aside0.mk hc0_7; clear hr0_7 hc0_7; have HR1_7 := Aside0.mk hr1_7; have HC1_7 := Aside0.mk hc1_7; clear hr1_7 hc1_7; have HB := Aside0.mk (Below.refl w.heap.size w); have H : (invariant_kept.l0 k (-1) l1_7 (l1_7.length : Int) 0 a0_0 a0_1 a0_2 a0_3 a0_4 a0_5 a0_6 l0_7 a1_0 a1_1 a1_2 a1_3 a1_4 a1_5 a1_6 l1_7) = some r := h; clear h; have H' := Aside0.mk H; clear H
 go_enter Try.func29, Try.ntmps29
 go_wp2_with (first | ((with_reducible refine gate_dst (N := 2) rfl ?_); refine box_event ?hg (N := 2) ?hd (cs := #[.int .i64 a0_0, .int .i64 a0_1, .bool a0_2, .float .f64 a0_3, .string a0_4, .int .i64 a0_5, .bool a0_6, .slice A0_7 l0_7.length c0_7]) (t := 52) ?hr ?_; (case hd => rfl); (case hg => rfl); (case hr => first | (go_simp; done) | (go_simp; rfl)); intro gb256 hg w3 hbox hb; have n0_ := Aside0.mk (bel_s HB.out hb); have n1_ := Aside0.mk (hbox); have n2_ := Aside0.mk ((by rw [hg]; exact (bel_z HB.out) : w.heap.size ≤ gb256)); have n3_ := Aside0.mk ((by rw [hg]; exact (bel_z HB.out) : w.heap.size ≤ gb256)); clear HB; have HB := n0_; have BK256 := n1_; have GW256 := n2_; have GE256 := n3_; clear n0_ n1_ n2_ n3_; clear hb hbox hg) | ((with_reducible refine gate_dst (N := 3) rfl ?_); refine box_event ?hg (N := 3) ?hd (cs := #[.int .i64 a1_0, .int .i64 a1_1, .bool a1_2, .float .f64 a1_3, .string a1_4, .int .i64 a1_5, .bool a1_6, .slice A1_7 l1_7.length c1_7]) (t := 52) ?hr ?_; (case hd => rfl); (case hg => rfl); (case hr => first | (go_simp; done) | (go_simp; rfl)); intro gb257 hg w4 hbox hb; have n0_ := Aside0.mk (blk_b BK256.out hb); have n1_ := Aside0.mk (bel_s HB.out hb); have n2_ := Aside0.mk (hbox); have n3_ := Aside0.mk ((by rw [hg]; exact (bel_z HB.out) : w.heap.size ≤ gb257)); have n4_ := Aside0.mk ((by rw [hg]; exact (bel_z HB.out) : w.heap.size ≤ gb257)); have n5_ := Aside0.mk ((by rw [hg]; exact Nat.ne_of_lt (blk_l BK256.out) : gb256 ≠ gb257)); have n6_ := Aside0.mk ((by rw [hg]; exact Nat.ne_of_gt (blk_l BK256.out) : gb257 ≠ gb256)); clear BK256; clear HB; have BK256 := n0_; have HB := n1_; have BK257 := n2_; have GW257 := n3_; have GE257 := n4_; have NB256_257 := n5_; have NB257_256 := n6_; clear n0_ n1_ n2_ n3_ n4_ n5_ n6_; clear hb hbox hg; have hnb5 := NB257_256.out; have hnc5 := NB256_257.out; have hcz6_7 : w4.cell? ⟨gb257, 7, none⟩ = some (.slice A1_7 l1_7.length c1_7) := (blk_cell BK257.out 7).trans rfl))
 go_loopg [5, 12] k (fun kq v5 v12 w' => ∃ (x5_1 : Int) (x12_1 : Int), v5 = .int .i64 x5_1 ∧ v12 = .int .i64 x12_1 ∧ Aside0 (invariant_kept.l0 kq x5_1 l1_7 (l1_7.length : Int) x12_1 a0_0 a0_1 a0_2 a0_3 a0_4 a0_5 a0_6 l0_7 a1_0 a1_1 a1_2 a1_3 a1_4 a1_5 a1_6 l1_7 = some r) ∧ Aside0 (kq ≤ k) ∧ Aside0 (w'.heap[gb256]? = some (.cells #[.int .i64 a0_0, .int .i64 a0_1, .bool a0_2, .float .f64 a0_3, .string a0_4, .int .i64 a0_5, .bool a0_6, (.slice A0_7 l0_7.length c0_7)] 52 (0, 0))) ∧ Aside0 (w'.heap[gb257]? = some (.cells #[.int .i64 a1_0, .int .i64 a1_1, .bool a1_2, .float .f64 a1_3, .string a1_4, .int .i64 a1_5, .bool a1_6, (.slice A1_7 l1_7.length c1_7)] 52 (0, 0))) ∧ Aside0 (Below w.heap.size w w'))
 case atStart => exact ⟨((-1)), (0), (by first | rfl | (simp; done) | (simp [*]; done)), (by first | rfl | (simp; done) | (simp [*]; done)), H', ⟨Nat.le_refl _⟩, ⟨by (with_reducible repeat (first | refine blk_drewN ?_ _ | refine blk_drew ?_ | refine blk_alloc ?_ _)); exact BK256.out⟩, ⟨by (with_reducible repeat (first | refine blk_drewN ?_ _ | refine blk_drew ?_ | refine blk_alloc ?_ _)); exact BK257.out⟩, ⟨by repeat (first | (with_reducible first | exact HB.out | apply below_alloc | apply pw_below_drewN | apply below_drew1 | refine below_set ?_ GE256.out | refine below_set ?_ GE257.out) | exact HB.out)⟩⟩
 case round =>
  clear H'; (try clear c1); (try clear c2); (try clear p2); (try clear c5); (try clear hcz6_7); obtain ⟨x5_1, x12_1, rfl, rfl, HA, HK1, BK256, BK257, HB⟩ := hrel
  cases gk with
  | zero => exact absurd HA.out (by simp [invariant_kept.l0])
  | succ k1 =>
   have H := HA.out; clear HA; simp only [invariant_kept.l0] at H
   by_cases c7 : x12_1 < (l1_7.length : Int)
   ·rw [if_pos c7] at H; have c7b0 : decide (x12_1 < (l1_7.length : Int)) = true := decide_eq_true c7; clear c7
    by_cases c8 : 0 ≤ x12_1
    ·rw [if_pos c8] at H; have c8b0 : decide (0 ≤ x12_1) = true := decide_eq_true c8; clear c8
     by_cases c9 : x12_1 < (l1_7.length : Int)
     ·rw [if_pos c9] at H; have c9b0 : decide (x12_1 < (l1_7.length : Int)) = true := decide_eq_true c9; clear c9; replace H := Option.bind_eq_some_iff.mp H; obtain ⟨t260, A100, H⟩ := H; replace H : (if t260 ≤ x5_1 then (some x12_1) else (invariant_kept.l0 k1 t260 l1_7 (l1_7.length : Int) (wrap64 (x12_1 + 1)) a0_0 a0_1 a0_2 a0_3 a0_4 a0_5 a0_6 l0_7 a1_0 a1_1 a1_2 a1_3 a1_4 a1_5 a1_6 l1_7)) = some r := H; have A10 := Aside0.mk A100; clear A100
      by_cases c11 : t260 ≤ x5_1
      ·rw [if_pos c11] at H; have c11b0 : decide (t260 ≤ x5_1) = true := decide_eq_true c11; clear c11; obtain rfl := Option.some.inj H; have p258 : 0 ≤ (x12_1 : Int) := of_decide_eq_true (by first | (with_reducible assumption) | assumption); have q258 : x12_1 < (l1_7.length : Int) := of_decide_eq_true (by first | (with_reducible assumption) | assumption); obtain ⟨ad258, e258, hW258⟩ := ats_T55 HR1_7.out x12_1 p258 q258
       cases e258
       replace hW258 := cells_below HB.out hW258; have HW258 := Aside0.mk hW258; clear hW258; replace p258 := eq_true p258; replace q258 := eq_true q258
       go_wp2_with (first | ((with_reducible refine gate_dst (N := 16) rfl ?_); (try (refine gate_guard (by rfl) ?_; dsimp only)); refine load_cells_event ?hg (N := 16) ?hd (ty := 55) (x := ?lx261) (b := ?lb262) (cs := ?lc263) ?ho ?hc ?hx (n := 20) ?hn ?hi Try.underlying55 ?_; (case ho => rfl); (case hd => rfl); (case hg => rfl); (case hc => first | exact HW258.out | (intro j_ u_ hj_; have h_ := HW258.out j_ u_ hj_; simpa only [add_plain, add_at] using h_)); (case hx => first | rfl | (go_simp; done)); (case hn => rfl); (case hi => kernel_rfl)) | ((with_reducible refine gate_dst (N := 7) rfl ?_); refine allocstore_event1 ?hg (N := 7) ?hd (zs := z55A) (cs := (c55A (rd_T55 l1_7 x12_1))) (t := 55) (x := .tmp 16) (y := ?ly264) (v := (.int .i64 x12_1)) (M := 6) ?hr ?hgm ?hom ?hdm ?hMN ?hv ?hg2 ?hd2 ?ho ?hN ?hx (n := 20) ?hi ?hn ?hz ?h1 ?_; (case hd => rfl); (case hg => rfl); (case hgm => rfl); (case hom => first | (refine Or.inl ?_; rfl) | (refine Or.inr ?_; rfl)); (case hdm => rfl); (case hMN => decide); (case hv => intro _; rfl); (case hg2 => rfl); (case hd2 => rfl); (case ho => rfl); (case hN => first | (simp; done) | (simp [Act.put]; done) | (go_simp; done)); (case hx => intro _; rfl); (case hi => kernel_rfl); (case hn => rfl); (case hz => rfl); (case h1 => simp [c35A, c55A, c52A, c33A, c28A, Value.oneCell']; done); (case hr => first | (go_simp; done) | (go_simp; rfl)); intro gb259 hg w12 hbox hb; have n0_ := Aside0.mk (blk_b BK256.out hb); have n1_ := Aside0.mk (blk_b BK257.out hb); have n2_ := Aside0.mk (bel_s HB.out hb); have n3_ := Aside0.mk (hbox); have n4_ := Aside0.mk ((by rw [hg]; exact (bel_z HB.out) : w.heap.size ≤ gb259)); have n5_ := Aside0.mk ((by rw [hg]; exact (bel_z HB.out) : w.heap.size ≤ gb259)); have n6_ := Aside0.mk ((by rw [hg]; exact Nat.ne_of_lt (blk_l BK256.out) : gb256 ≠ gb259)); have n7_ := Aside0.mk ((by rw [hg]; exact Nat.ne_of_gt (blk_l BK256.out) : gb259 ≠ gb256)); have n8_ := Aside0.mk ((by rw [hg]; exact Nat.ne_of_lt (blk_l BK257.out) : gb257 ≠ gb259)); have n9_ := Aside0.mk ((by rw [hg]; exact Nat.ne_of_gt (blk_l BK257.out) : gb259 ≠ gb257)); clear BK256; clear BK257; clear HB; have BK256 := n0_; have BK257 := n1_; have HB := n2_; have BK259 := n3_; have GW259 := n4_; have GE259 := n5_; have NB256_259 := n6_; have NB259_256 := n7_; have NB257_259 := n8_; have NB259_257 := n9_; clear n0_ n1_ n2_ n3_ n4_ n5_ n6_ n7_ n8_ n9_; clear hb hbox hg; have hnb13 := NB256_257.out; have hnc13 := NB257_256.out; have hnb14 := NB256_259.out; have hnc14 := NB259_256.out; have hnb15 := NB259_257.out; have hnc15 := NB257_259.out) | ((with_reducible refine gate_dst (N := 17) rfl ?_); (try (refine gate_guard (by rfl) ?_; dsimp only)); refine load_cells_event ?hg (N := 17) ?hd (ty := 52) (x := ?lx265) (b := ⟨gb256, 0, none⟩) (cs := [.int .i64 a0_0, .int .i64 a0_1, .bool a0_2, .float .f64 a0_3, .string a0_4, .int .i64 a0_5, .bool a0_6, .slice A0_7 l0_7.length c0_7]) ?ho ?hc ?hx (n := 8) ?hn ?hi Try.underlying52 ?_; (case ho => rfl); (case hd => rfl); (case hg => rfl); (case hc => exact blk_c 0 8 BK256.out rfl); (case hx => first | rfl | (go_simp; done)); (case hn => rfl); (case hi => kernel_rfl)) | ((with_reducible refine gate_dst (N := 19) rfl ?_); (try (refine gate_guard (by rfl) ?_; dsimp only)); refine load_cells_event ?hg (N := 19) ?hd (ty := 30) (x := ?lx266) (b := ⟨gb259, 0, none⟩) (cs := [.string ((rd_T55 l1_7 x12_1).f0.f0), .int .i64 ((rd_T55 l1_7 x12_1).f0.f1)]) ?ho ?hc ?hx (n := 2) ?hn ?hi Try.underlying30 ?_; (case ho => rfl); (case hd => rfl); (case hg => rfl); (case hc => exact blk_c 0 2 BK259.out rfl); (case hx => first | rfl | (go_simp; done)); (case hn => rfl); (case hi => kernel_rfl)) | ((with_reducible refine gate_callee (f := 25) rfl ?_); refine goesL_ (some 20) rfl rfl Try.func25 (by kernel_rfl) rfl #[.agg #[.int .i64 a0_0, .int .i64 a0_1, .bool a0_2, .float .f64 a0_3, .string a0_4, .int .i64 a0_5, .bool a0_6, .slice A0_7 l0_7.length c0_7], .agg #[.string ((rd_T55 l1_7 x12_1).f0.f0), .int .i64 ((rd_T55 l1_7 x12_1).f0.f1)]] rfl (by (try simp only [List.map_toArray, List.map_cons, List.map_nil]); first | done | rfl | (simp only [List.length_drop, List.length_take]; rfl)) ?_; (with_reducible refine (invariant_find.calls a0_0 a0_1 a0_2 a0_3 a0_4 a0_5 a0_6 _ _ l0_7 ((rd_T55 l1_7 x12_1).f0.f0) ((rd_T55 l1_7 x12_1).f0.f1) t260 _ ?side1 ?side2 A10.out).mono ?_); (case side1 => repeat (first | exact (Kd.C_below HR0_7.out HB.out) | (with_reducible refine Kd.C_alloc ?_ _) | (with_reducible refine Kd.C_drewN ?_ _) | (with_reducible refine Kd.C_drew ?_))); (case side2 => exact HC0_7.out); rintro e w16 ⟨rfl, hb⟩; refine ⟨_, rfl, ?_⟩; replace BK256 := Aside0.mk (blk_b BK256.out hb); replace BK257 := Aside0.mk (blk_b BK257.out hb); replace BK259 := Aside0.mk (blk_b BK259.out hb); replace HB := Aside0.mk (bel_s HB.out hb); (try clear hb); (try clear hb2); (try clear hk); (try clear hi)))
       go_ret
       exact ⟨by first | rfl | (simp [errW_none, errW_some] <;> rfl) | (simp [*, errW_none, errW_some] <;> rfl), by repeat (first | (with_reducible first | exact HB.out | apply below_alloc | apply pw_below_drewN | apply below_drew1 | refine below_set ?_ GE256.out | refine below_set ?_ GE257.out | refine below_set ?_ GE259.out) | exact HB.out)⟩
      ·rw [if_neg c11] at H; have c11b0 : decide (t260 ≤ x5_1) = false := decide_eq_false c11; clear c11; have H' := Aside0.mk H; clear H; have p258 : 0 ≤ (x12_1 : Int) := of_decide_eq_true (by first | (with_reducible assumption) | assumption); have q258 : x12_1 < (l1_7.length : Int) := of_decide_eq_true (by first | (with_reducible assumption) | assumption); obtain ⟨ad258, e258, hW258⟩ := ats_T55 HR1_7.out x12_1 p258 q258
       cases e258
       replace hW258 := cells_below HB.out hW258; have HW258 := Aside0.mk hW258; clear hW258; replace p258 := eq_true p258; replace q258 := eq_true q258
       go_wp2_with (first | ((with_reducible refine gate_dst (N := 16) rfl ?_); (try (refine gate_guard (by rfl) ?_; dsimp only)); refine load_cells_event ?hg (N := 16) ?hd (ty := 55) (x := ?lx267) (b := ?lb268) (cs := ?lc269) ?ho ?hc ?hx (n := 20) ?hn ?hi Try.underlying55 ?_; (case ho => rfl); (case hd => rfl); (case hg => rfl); (case hc => first | exact HW258.out | (intro j_ u_ hj_; have h_ := HW258.out j_ u_ hj_; simpa only [add_plain, add_at] using h_)); (case hx => first | rfl | (go_simp; done)); (case hn => rfl); (case hi => kernel_rfl)) | ((with_reducible refine gate_dst (N := 7) rfl ?_); refine allocstore_event1 ?hg (N := 7) ?hd (zs := z55A) (cs := (c55A (rd_T55 l1_7 x12_1))) (t := 55) (x := .tmp 16) (y := ?ly270) (v := (.int .i64 x12_1)) (M := 6) ?hr ?hgm ?hom ?hdm ?hMN ?hv ?hg2 ?hd2 ?ho ?hN ?hx (n := 20) ?hi ?hn ?hz ?h1 ?_; (case hd => rfl); (case hg => rfl); (case hgm => rfl); (case hom => first | (refine Or.inl ?_; rfl) | (refine Or.inr ?_; rfl)); (case hdm => rfl); (case hMN => decide); (case hv => intro _; rfl); (case hg2 => rfl); (case hd2 => rfl); (case ho => rfl); (case hN => first | (simp; done) | (simp [Act.put]; done) | (go_simp; done)); (case hx => intro _; rfl); (case hi => kernel_rfl); (case hn => rfl); (case hz => rfl); (case h1 => simp [c35A, c55A, c52A, c33A, c28A, Value.oneCell']; done); (case hr => first | (go_simp; done) | (go_simp; rfl)); intro gb259 hg w17 hbox hb; have n0_ := Aside0.mk (blk_b BK256.out hb); have n1_ := Aside0.mk (blk_b BK257.out hb); have n2_ := Aside0.mk (bel_s HB.out hb); have n3_ := Aside0.mk (hbox); have n4_ := Aside0.mk ((by rw [hg]; exact (bel_z HB.out) : w.heap.size ≤ gb259)); have n5_ := Aside0.mk ((by rw [hg]; exact (bel_z HB.out) : w.heap.size ≤ gb259)); have n6_ := Aside0.mk ((by rw [hg]; exact Nat.ne_of_lt (blk_l BK256.out) : gb256 ≠ gb259)); have n7_ := Aside0.mk ((by rw [hg]; exact Nat.ne_of_gt (blk_l BK256.out) : gb259 ≠ gb256)); have n8_ := Aside0.mk ((by rw [hg]; exact Nat.ne_of_lt (blk_l BK257.out) : gb257 ≠ gb259)); have n9_ := Aside0.mk ((by rw [hg]; exact Nat.ne_of_gt (blk_l BK257.out) : gb259 ≠ gb257)); clear BK256; clear BK257; clear HB; have BK256 := n0_; have BK257 := n1_; have HB := n2_; have BK259 := n3_; have GW259 := n4_; have GE259 := n5_; have NB256_259 := n6_; have NB259_256 := n7_; have NB257_259 := n8_; have NB259_257 := n9_; clear n0_ n1_ n2_ n3_ n4_ n5_ n6_ n7_ n8_ n9_; clear hb hbox hg; have hnb18 := NB256_257.out; have hnc18 := NB257_256.out; have hnb19 := NB256_259.out; have hnc19 := NB259_256.out; have hnb20 := NB259_257.out; have hnc20 := NB257_259.out) | ((with_reducible refine gate_dst (N := 17) rfl ?_); (try (refine gate_guard (by rfl) ?_; dsimp only)); refine load_cells_event ?hg (N := 17) ?hd (ty := 52) (x := ?lx271) (b := ⟨gb256, 0, none⟩) (cs := [.int .i64 a0_0, .int .i64 a0_1, .bool a0_2, .float .f64 a0_3, .string a0_4, .int .i64 a0_5, .bool a0_6, .slice A0_7 l0_7.length c0_7]) ?ho ?hc ?hx (n := 8) ?hn ?hi Try.underlying52 ?_; (case ho => rfl); (case hd => rfl); (case hg => rfl); (case hc => exact blk_c 0 8 BK256.out rfl); (case hx => first | rfl | (go_simp; done)); (case hn => rfl); (case hi => kernel_rfl)) | ((with_reducible refine gate_dst (N := 19) rfl ?_); (try (refine gate_guard (by rfl) ?_; dsimp only)); refine load_cells_event ?hg (N := 19) ?hd (ty := 30) (x := ?lx272) (b := ⟨gb259, 0, none⟩) (cs := [.string ((rd_T55 l1_7 x12_1).f0.f0), .int .i64 ((rd_T55 l1_7 x12_1).f0.f1)]) ?ho ?hc ?hx (n := 2) ?hn ?hi Try.underlying30 ?_; (case ho => rfl); (case hd => rfl); (case hg => rfl); (case hc => exact blk_c 0 2 BK259.out rfl); (case hx => first | rfl | (go_simp; done)); (case hn => rfl); (case hi => kernel_rfl)) | ((with_reducible refine gate_callee (f := 25) rfl ?_); refine goesL_ (some 20) rfl rfl Try.func25 (by kernel_rfl) rfl #[.agg #[.int .i64 a0_0, .int .i64 a0_1, .bool a0_2, .float .f64 a0_3, .string a0_4, .int .i64 a0_5, .bool a0_6, .slice A0_7 l0_7.length c0_7], .agg #[.string ((rd_T55 l1_7 x12_1).f0.f0), .int .i64 ((rd_T55 l1_7 x12_1).f0.f1)]] rfl (by (try simp only [List.map_toArray, List.map_cons, List.map_nil]); first | done | rfl | (simp only [List.length_drop, List.length_take]; rfl)) ?_; (with_reducible refine (invariant_find.calls a0_0 a0_1 a0_2 a0_3 a0_4 a0_5 a0_6 _ _ l0_7 ((rd_T55 l1_7 x12_1).f0.f0) ((rd_T55 l1_7 x12_1).f0.f1) t260 _ ?side1 ?side2 A10.out).mono ?_); (case side1 => repeat (first | exact (Kd.C_below HR0_7.out HB.out) | (with_reducible refine Kd.C_alloc ?_ _) | (with_reducible refine Kd.C_drewN ?_ _) | (with_reducible refine Kd.C_drew ?_))); (case side2 => exact HC0_7.out); rintro e w21 ⟨rfl, hb⟩; refine ⟨_, rfl, ?_⟩; replace BK256 := Aside0.mk (blk_b BK256.out hb); replace BK257 := Aside0.mk (blk_b BK257.out hb); replace BK259 := Aside0.mk (blk_b BK259.out hb); replace HB := Aside0.mk (bel_s HB.out hb); (try clear hb); (try clear hb2); (try clear hk); (try clear hi)))
       go_roundg k1
       case measure => have := HK1.out; omega
       case rel => exact ⟨(t260), (wrap64 (x12_1 + 1)), (by first | rfl | (simp; done) | (simp [*]; done)), (by first | rfl | (simp; done) | (simp [*]; done)), H', ⟨by have := HK1.out; omega⟩, ⟨by (with_reducible repeat (first | refine blk_drewN ?_ _ | refine blk_drew ?_ | refine blk_alloc ?_ _)); exact BK256.out⟩, ⟨by (with_reducible repeat (first | refine blk_drewN ?_ _ | refine blk_drew ?_ | refine blk_alloc ?_ _)); exact BK257.out⟩, ⟨by repeat (first | (with_reducible first | exact HB.out | apply below_alloc | apply pw_below_drewN | apply below_drew1 | refine below_set ?_ GE256.out | refine below_set ?_ GE257.out | refine below_set ?_ GE259.out) | exact HB.out)⟩⟩
     ·rw [if_neg c9] at H; exact absurd H (by simp)
    ·rw [if_neg c8] at H; exact absurd H (by simp)
   ·rw [if_neg c7] at H; have c7b0 : decide (x12_1 < (l1_7.length : Int)) = false := decide_eq_false c7; clear c7; obtain rfl := Option.some.inj H; have hnb22 := NB257_256.out; have hnc22 := NB256_257.out; have hcz23_7 : wr.cell? ⟨gb257, 7, none⟩ = some (.slice A1_7 l1_7.length c1_7) := (blk_cell BK257.out 7).trans rfl
    go_wp2
    go_ret
    exact ⟨by first | rfl | (simp [errW_none, errW_some] <;> rfl) | (simp [*, errW_none, errW_some] <;> rfl), by repeat (first | (with_reducible first | exact HB.out | apply below_alloc | apply pw_below_drewN | apply below_drew1 | refine below_set ?_ GE256.out | refine below_set ?_ GE257.out) | exact HB.out)⟩

end Go.Proofs.Ytaojjpdlfnphiaa.PInvariantDiffs
