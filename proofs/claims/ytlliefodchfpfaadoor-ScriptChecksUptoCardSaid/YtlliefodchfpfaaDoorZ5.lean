/- Parts of the proof, joined (5). -/
import Derived.Test.YtlliefodchfpfaaDoorCards
import Derived.Test.YtlliefodchfpfaaDoorTie
import Derived.WalkKit
import Derived.ProofKit
import Derived.OpenShut
import Derived.Deep.DeepHandedRow
import Derived.Lib.LaidTab
import Derived.Lib.LaidIn
import Derived.Lib.LaidU8T
import Derived.Test.YtlliefodchfpfaaDoorZ4
section
/- cameolaw28.Copy: the steps. -/
set_option linter.unusedSimpArgs false
set_option linter.unusedVariables false
set_option linter.unusedSectionVars false
namespace Go.Proofs.YtlliefodchfpfaaDoor.PDescKinds
open Go.RowKit Go.Ev Go.Proofs.YtlliefodchfpfaaDoorV.PrintLast
set_option maxRecDepth 100000
theorem t_c8 (v1 v2 v3 : Value) (i : Nat) : letI := row0
    evK Tryd.prog ext TZ 80 58 (seqL (preOf cq)) ((⟨[(1, .val v1), (2, .val v2), (3, .val v3), (4, .val (.int .i64 (i : Int)))], []⟩ : Cut).st 0) (grab Tryd.prog Tryd.f7 [1, 2, 3, 5] [] 0) =
    some (.cut .normal ⟨[(1, .val v1), (2, .val v2), (3, .val v3), (5, .val (.int .i64 ((0 : Nat) : Int)))], []⟩) := by kernel_rfl
theorem t_c2 (x : Sc) (ad : Nat → Ad) (k : Bx) (v2 : Value) (i : Nat) : letI := rowsP x ad k
    evK Tryd.prog ext TZ 80 58 (seqL (cqr.take 2)) ((⟨LP 5 v2 i, []⟩ : Cut).st 0) (grab Tryd.prog Tryd.f7 [1, 2, 3, 5] [] 0) =
    bif decide ((i : Int) < (x.sn : Int)) then some (.cut .normal ⟨LP 5 v2 i, []⟩) else some (.cut (.exit 2) ⟨LP 5 v2 i, []⟩) := by kernel_rfl
theorem t_c2e (v1 v2 v3 : Value) (i : Nat) : letI := row0
    evK Tryd.prog ext TZ 80 58 (seqL (cqr.drop 3)) ((⟨[(1, .val v1), (2, .val v2), (3, .val v3), (5, .val (.int .i64 (i : Int)))], []⟩ : Cut).st 0) (grab Tryd.prog Tryd.f7 [1, 2, 3, 5] [] 0) =
    some (.cut .normal ⟨[(1, .val v1), (2, .val v2), (3, .val v3), (5, .val (.int .i64 (IntKind.i64.wrap ((i : Int) + 1))))], []⟩) := by kernel_rfl
theorem cq_eq : cq = preOf cq ++ (.block 2 (.loop (roundOf cq)) :: postOf cq) := by kernel_rfl
theorem cqr_eq : cqr = cqr.take 2 ++ (.block 3 (inB (cqr.getD 2 .skip)) :: cqr.drop 3) := by kernel_rfl
theorem cqb_eq : cqb = cqb.take 1 ++ (.region 12 cq12 false :: .region 13 cq13 false :: [.region 14 cq14 false]) := by kernel_rfl
theorem t_c11 (x : Sc) (ad : Nat → Ad) (k : Bx) (v2 : Value) (i : Nat) : letI := rowsP x ad k
    evK Tryd.prog ext TZ 80 58 (seqL (cqb.take 1)) ((⟨LP 5 v2 i, []⟩ : Cut).st 0) (grab Tryd.prog Tryd.f7 [1, 2, 3, 5, 6] [0] 1) =
    bif decide (0 ≤ (i : Int)) && decide ((i : Int) < (x.sn : Int)) then some (.cut .normal ⟨[(1, .xp [0] 0 0), (2, .val v2), (3, .xp [1] 0 0), (5, .val (.int .i64 (i : Int))), (6, .ptr 0 0)], [(0, ⟨33, (x.st i).sv [0, 1, i, 0] [0, 1, i, 1]⟩)]⟩) else none := by kernel_rfl
abbrev LP6 (v2 : Value) (i : Nat) : List (Nat × SV) := [(1, .xp [0] 0 0), (2, .val v2), (3, .xp [1] 0 0), (5, .val (.int .i64 (i : Int))), (6, .xp [2] 0 0)]
abbrev kp6 (b1 b2 b3 i b6 : Nat) : List (Nat × Value) := [(1, pt b1), (2, pt b2), (3, pt b3), (5, .int .i64 (i : Int)), (6, pt b6)]
theorem t_c14 (x : Sc) (ad : Nat → Ad) (k : Bx) (v2 : Value) (i : Nat) : letI := rowsP x ad k
    evOpsK Tryd.prog ext (callWithK Tryd.prog TZ (evK Tryd.prog ext TZ 80)) cq14 58 (cq14.toList.take 4) ((⟨LP6 v2 i, []⟩ : Cut).st 0) (fun st => cutS [1, 2, 3, 5, 52, 54] [0] 1 st) =
    some ⟨[(1, .xp [0] 0 0), (2, .val v2), (3, .xp [1] 0 0), (5, .val (.int .i64 (i : Int))), (52, .val k.vS), (54, .slc 0 0 1 1)], [(0, ⟨33, (k.s.cv k.vL k.vM).map SV.val⟩)]⟩ := by kernel_rfl
theorem cq14_eq : cq14.toList = cq14.toList.take 4 ++ (cq14.toList.getD 4 default :: ([cq14.toList.getD 5 default] ++ [cq14.toList.getD 6 default])) := by kernel_rfl
theorem t_14f (g : Addr) : letI := row0
    (reads Tryd.prog 58 [cq14.toList.getD 5 default] (pickT [(3, .val (.pointer (some g)))])).map (fun t => [56].map t) = some [.val (.pointer (some (g.add 4)))] := by kernel_rfl
/-- A step's box, as_ a row. -/
@[instance_reducible] def rowB6 (b6 : Nat) (l : List Value) : XEnv := ⟨fun r => match r with
  | [] => ⟨some ⟨b6, 0, none⟩, (l.map SV.val).length, 1, 1, fun _ => l.map SV.val⟩
  | _ :: _ => ⟨none, 0, 0, 0, fun _ => []⟩⟩
theorem den_b6 (b6 : Nat) (l : List Value) (m : Nat → Nat) : @SV.den (rowB6 b6 l) m (.xp [] 0 0) = pt b6 := by
  rw [@den_xp (rowB6 b6 l)]
  show Value.pointer (some ((⟨b6, 0, none⟩ : Addr).add (0 * (l.map SV.val).length + 0))) = _
  rw [Nat.zero_mul, add_none]
theorem Stp.cv_len (s : Stp) (l q : Value) : (s.cv l q).length = 37 := rfl
theorem ptr_add (b k : Nat) : (⟨b, 0, none⟩ : Addr).add k = ⟨b, k, none⟩ := by rw [add_none, Nat.zero_add]
section
variable {a : Act} {w w' W : World} {Q : Exit → Act → World → Prop} {b1 b2 b3 b6 i : Nat}
theorem own_new {B g t z : Nat} {l : List Value} (hz : l.length = z) (hg : B ≤ g) (h : w.heap[g]? = some (.cells l.toArray t (0, 0))) : w.ownsRow B t z (sl1 g) 1 ((List.range 1).flatMap fun _ => l) := by
  have hM : maxLen = 9223372036854775807 := by decide +kernel
  refine ⟨by simp [hz], .inr ⟨g, 1, l.toArray, rfl, hg, h, Nat.le_refl _, by omega, by simp [hz], ?_⟩⟩
  simp only [List.range_one, List.flatMap_cons, List.flatMap_nil, List.append_nil]
  rw [Nat.one_mul, ← hz]
  exact List.take_length
theorem xok_b6 {B : Nat} {l : List Value} (hz : l.length = 37) (h : w.ownsRow B 33 37 (sl1 b6) 1 ((List.range 1).flatMap fun _ => l)) : @XOk (rowB6 b6 l) w := fun r => match r with
  | [] => xrow_val (own_cell hz h).1 (own_cell hz h).2 _
  | _ :: _ => fun j hj => absurd hj (Nat.not_lt_zero _)
end
theorem cq12_eq : cq12.toList = cq12.toList.getD 0 default :: (((cq12.toList.drop 1).take 2) ++ (cq12.toList.getD 3 default :: ([cq12.toList.getD 4 default] ++ [cq12.toList.getD 5 default]))) := by kernel_rfl
theorem t_12n : letI := row0
    evOp Tryd.prog ext (fun _ _ _ _ => none) (Ev.look (pickT [])) (fun _ => none) 0 (cq12.toList.getD 0 default) = some (.slc 0 0 0 0, .new ⟨3, []⟩) := by kernel_rfl
theorem t_12r (b6 : Nat) (s : Stp) (l q : Value) : letI := rowB6 b6 (s.cv l q)
    (reads Tryd.prog 58 ((cq12.toList.drop 1).take 2) (pickT [(6, .xp [] 0 0)])).map (fun t => [43].map t) = some [.val l] := by kernel_rfl
theorem t_12f (g : Addr) : letI := row0
    (reads Tryd.prog 58 [cq12.toList.getD 4 default] (pickT [(6, .val (.pointer (some g)))])).map (fun t => [45].map t) = some [.val (.pointer (some (g.add 33)))] := by kernel_rfl
section
variable {a : Act} {w w' W : World} {Q : Exit → Act → World → Prop} {b1 b2 b3 b6 i : Nat}
set_option maxHeartbeats 2000000 in
theorem cq12_reg {B n cc : Nat} {A : Option Addr} {s : Stp} {vO : Value} {news : List Value} (hB : B ≤ w.heap.size) (hbox : w.ownsRow B 33 37 (sl1 b6) 1 ((List.range 1).flatMap fun _ => s.cv (.slice A n cc) vO)) (hk : Kp 58 (kp6 b1 b2 b3 i b6) a)
    (hnil : A = none → n = 0 ∧ cc = 0) (hn : n ≤ 1048576) (hl : news.length = n * 1) (h1 : ∀ u ∈ news, u.oneCell' = true) (hnews : ∀ w', Below w.heap.size w w' → ∀ ad, A = some ad → ∀ j u, news[j]? = some u → w'.cell? (ad.add j) = some u)
    (hQ : ∀ A' c' a' w', Kp 58 (kp6 b1 b2 b3 i b6) a' → w'.ownsRow w.heap.size 3 1 (.slice A' n c') n news → w'.ownsRow B 33 37 (sl1 b6) 1 ((List.range 1).flatMap fun _ => s.cv (.slice A' n c') vO) → Below B w w' → FrT 0 [33] w w' → Q .normal a' w') : (Code.region 12 cq12 false).wp Tryd.prog Q a w := by
  refine wp_region_list ?_
  rw [cq12_eq]
  refine wpList_plain (by kernel_rfl) fun K hK => ?_
  refine build0 (RP.ar_none (us := []) hk (by simp) w) t_12n fun g w2 bw2 hg hw2 => ?_
  rw [show (cq12.toList.getD 0 default).dst = some 41 by kernel_rfl]
  refine hK _ _ ?_
  have K2 := hk.put (d := 41) (v := .slice (some ⟨g, 0, none⟩) 0 0) rfl
  generalize a.put (some 41) (.slice (some ⟨g, 0, none⟩) 0 0) = a2 at K2 ⊢
  have hbox2 := own_bel hbox bw2
  have har2 : @AR (rowB6 b6 (s.cv (.slice A n cc) vO)) 58 (fun _ => 0) (pickT [(6, .xp [] 0 0)]) (fun _ => none) a2 := by
    letI := rowB6 b6 (s.cv (.slice A n cc) vO)
    refine K2.ar w2 fun p hp => ?_
    obtain rfl := List.mem_singleton.1 hp
    exact ⟨by rw [den_b6]; simp, ok_xp.2 Nat.zero_lt_one⟩
  refine @wpList_readsF (rowB6 b6 (s.cv (.slice A n cc) vO)) _ _ (fun _ => 0) _ _ _ _ _ _ _ a2 w2 [1, 2, 3, 5, 6, 41] (xok_b6 rfl hbox2) (t_12r b6 s _ _) (by kernel_rfl) har2 fun a3 t3 har3 e3 hk3 => ?_
  simp only [List.map_cons, List.map_nil, List.cons.injEq, and_true] at e3
  have K3 : Kp 58 ((43, .slice A n cc) :: (41, .slice (some ⟨g, 0, none⟩) 0 0) :: kp6 b1 b2 b3 i b6) a3 := by
    refine ⟨@AR.size (rowB6 b6 _) _ _ _ _ _ har3, @AR.defers (rowB6 b6 _) _ _ _ _ _ har3, fun p hp => ?_⟩
    rcases List.mem_cons.1 hp with rfl | hp
    · exact @ar_eval (rowB6 b6 _) _ _ _ _ _ har3 _ _ e3
    · refine (hk3 p.1 ?_).trans (K2.vals p hp)
      simp only [List.mem_cons, List.not_mem_nil, or_false] at hp
      rcases hp with rfl | rfl | rfl | rfl | rfl | rfl <;> simp
  refine wpList_plain (by kernel_rfl) fun K' hK' => ?_
  have own0 : w2.ownsRow w.heap.size 3 1 (.slice (some ⟨g, 0, none⟩) 0 0) 0 [] := ⟨rfl, .inr ⟨g, 0, #[], rfl, hg, hw2, Nat.le_refl _, Nat.zero_le _, rfl, rfl⟩⟩
  refine wp_append_row (.tmp 41) (.tmp 43) 30 (by kernel_rfl) w.heap.size 3 1 8 (by kernel_rfl) (by kernel_rfl) (by decide) _ 0 [] (K3.get (by simp)) own0 A n cc news (K3.get (by simp)) hnil hl (hnews w2 bw2) h1 (by omega) (by decide) bw2.size fun u w3 hown hgr => ?_
  rw [Nat.zero_add, List.nil_append] at hown
  have bw3 : Below w.heap.size w w3 := bw2.trans (below_grown bw2.size hgr hg)
  rw [show (cq12.toList.getD 3 default).dst = some 44 by kernel_rfl]
  refine hK' _ _ ?_
  obtain ⟨eu, _⟩ := own_slice hown
  have K4 := K3.put (d := 44) (v := u) rfl
  generalize a3.put (some 44) u = a4 at K4 ⊢
  rw [eu] at K4 hown
  generalize slA u = A' at K4 hown
  generalize slC u = c' at K4 hown
  refine @wpList_readsF row0 _ _ (fun _ => 0) _ _ _ _ _ _ _ a4 w3 [1, 2, 3, 5, 6, 44] (xok_0 w3) (t_12f ⟨b6, 0, none⟩) (by kernel_rfl) (RP.ar_none (us := [(6, pt b6)]) K4 (by simp) w3) fun a5 t5 har5 e5 hk5 => ?_
  simp only [List.map_cons, List.map_nil, List.cons.injEq, and_true] at e5
  have hbox3 := own_bel hbox bw3
  obtain ⟨w4, hst, hbox4, hg4⟩ := own_splice (P := Tryd.prog) (ty := 30) (t := 0) (o := 33) (x := .slice A' n c') hbox3 (fun _ => rfl) (by omega) (by kernel_rfl) (show 33 + 1 ≤ 37 by decide) (fun y hy => by
    obtain rfl : y = .slice A' n c' := by simpa [Value.cells] using hy
    rfl)
  have x45 : a5.eval (.tmp 45) = .pointer (some ⟨b6, 33, none⟩) := by
    have := @ar_eval row0 _ _ _ _ _ har5 _ _ e5
    rw [ptr_add] at this
    exact this
  have x44 : a5.eval (.tmp 44) = .slice A' n c' := (hk5 44 (by simp)).trans (K4.vals (44, _) (by simp))
  have f4 : FrT B [33] w3 w4 := FrT.own hbox3 (Nat.le_refl _) hg4
  refine wpList_store (t := 30) (x := .tmp 45) (y := .tmp 44) (by kernel_rfl) (by kernel_rfl) (by kernel_rfl) x45 x44 hst ?_
  refine hQ A' c' a5 w4 ⟨@AR.size row0 _ _ _ _ _ har5, @AR.defers row0 _ _ _ _ _ har5, fun p hp => ?_⟩ (f4.row hown (by simp)) hbox4 ((bw3.mono hB).trans (f4.below (Nat.le_trans hB bw3.size))) ((FrT.of (B := 0) (T := [33]) bw3).trans (f4.mono (Nat.zero_le _) (fun _ h => h)))
  refine (hk5 p.1 ?_).trans (K4.vals p ?_)
  · simp only [List.mem_cons, List.not_mem_nil, or_false] at hp
    rcases hp with rfl | rfl | rfl | rfl | rfl <;> simp
  · exact List.mem_cons_of_mem _ (List.mem_cons_of_mem _ (List.mem_cons_of_mem _ hp))
end
theorem cq13_eq : cq13.toList = cq13.toList.getD 0 default :: (((cq13.toList.drop 1).take 2) ++ (cq13.toList.getD 3 default :: ([cq13.toList.getD 4 default] ++ [cq13.toList.getD 5 default]))) := by kernel_rfl
theorem t_13n : letI := row0
    evOp Tryd.prog ext (fun _ _ _ _ => none) (Ev.look (pickT [])) (fun _ => none) 0 (cq13.toList.getD 0 default) = some (.slc 0 0 0 0, .new ⟨9, []⟩) := by kernel_rfl
theorem t_13r (b6 : Nat) (s : Stp) (l q : Value) : letI := rowB6 b6 (s.cv l q)
    (reads Tryd.prog 58 ((cq13.toList.drop 1).take 2) (pickT [(6, .xp [] 0 0)])).map (fun t => [48].map t) = some [.val q] := by kernel_rfl
theorem t_13f (g : Addr) : letI := row0
    (reads Tryd.prog 58 [cq13.toList.getD 4 default] (pickT [(6, .val (.pointer (some g)))])).map (fun t => [50].map t) = some [.val (.pointer (some (g.add 35)))] := by kernel_rfl
section
variable {a : Act} {w w' W : World} {Q : Exit → Act → World → Prop} {b1 b2 b3 b6 i : Nat}
set_option maxHeartbeats 2000000 in
theorem cq13_reg {B n cc : Nat} {A : Option Addr} {s : Stp} {vO : Value} {news : List Value} (hB : B ≤ w.heap.size) (hbox : w.ownsRow B 33 37 (sl1 b6) 1 ((List.range 1).flatMap fun _ => s.cv vO (.slice A n cc))) (hk : Kp 58 (kp6 b1 b2 b3 i b6) a)
    (hnil : A = none → n = 0 ∧ cc = 0) (hn : n ≤ 1048576) (hl : news.length = n * 1) (h1 : ∀ u ∈ news, u.oneCell' = true) (hnews : ∀ w', Below w.heap.size w w' → ∀ ad, A = some ad → ∀ j u, news[j]? = some u → w'.cell? (ad.add j) = some u)
    (hQ : ∀ A' c' a' w', Kp 58 (kp6 b1 b2 b3 i b6) a' → w'.ownsRow w.heap.size 9 1 (.slice A' n c') n news → w'.ownsRow B 33 37 (sl1 b6) 1 ((List.range 1).flatMap fun _ => s.cv vO (.slice A' n c')) → Below B w w' → FrT 0 [33] w w' → Q .normal a' w') : (Code.region 13 cq13 false).wp Tryd.prog Q a w := by
  refine wp_region_list ?_
  rw [cq13_eq]
  refine wpList_plain (by kernel_rfl) fun K hK => ?_
  refine build0 (RP.ar_none (us := []) hk (by simp) w) t_13n fun g w2 bw2 hg hw2 => ?_
  rw [show (cq13.toList.getD 0 default).dst = some 46 by kernel_rfl]
  refine hK _ _ ?_
  have K2 := hk.put (d := 46) (v := .slice (some ⟨g, 0, none⟩) 0 0) rfl
  generalize a.put (some 46) (.slice (some ⟨g, 0, none⟩) 0 0) = a2 at K2 ⊢
  have hbox2 := own_bel hbox bw2
  have har2 : @AR (rowB6 b6 (s.cv vO (.slice A n cc))) 58 (fun _ => 0) (pickT [(6, .xp [] 0 0)]) (fun _ => none) a2 := by
    letI := rowB6 b6 (s.cv vO (.slice A n cc))
    refine K2.ar w2 fun p hp => ?_
    obtain rfl := List.mem_singleton.1 hp
    exact ⟨by rw [den_b6]; simp, ok_xp.2 Nat.zero_lt_one⟩
  refine @wpList_readsF (rowB6 b6 (s.cv vO (.slice A n cc))) _ _ (fun _ => 0) _ _ _ _ _ _ _ a2 w2 [1, 2, 3, 5, 6, 46] (xok_b6 rfl hbox2) (t_13r b6 s _ _) (by kernel_rfl) har2 fun a3 t3 har3 e3 hk3 => ?_
  simp only [List.map_cons, List.map_nil, List.cons.injEq, and_true] at e3
  have K3 : Kp 58 ((48, .slice A n cc) :: (46, .slice (some ⟨g, 0, none⟩) 0 0) :: kp6 b1 b2 b3 i b6) a3 := by
    refine ⟨@AR.size (rowB6 b6 _) _ _ _ _ _ har3, @AR.defers (rowB6 b6 _) _ _ _ _ _ har3, fun p hp => ?_⟩
    rcases List.mem_cons.1 hp with rfl | hp
    · exact @ar_eval (rowB6 b6 _) _ _ _ _ _ har3 _ _ e3
    · refine (hk3 p.1 ?_).trans (K2.vals p hp)
      simp only [List.mem_cons, List.not_mem_nil, or_false] at hp
      rcases hp with rfl | rfl | rfl | rfl | rfl | rfl <;> simp
  refine wpList_plain (by kernel_rfl) fun K' hK' => ?_
  have own0 : w2.ownsRow w.heap.size 9 1 (.slice (some ⟨g, 0, none⟩) 0 0) 0 [] := ⟨rfl, .inr ⟨g, 0, #[], rfl, hg, hw2, Nat.le_refl _, Nat.zero_le _, rfl, rfl⟩⟩
  refine wp_append_row (.tmp 46) (.tmp 48) 31 (by kernel_rfl) w.heap.size 9 1 16 (by kernel_rfl) (by kernel_rfl) (by decide) _ 0 [] (K3.get (by simp)) own0 A n cc news (K3.get (by simp)) hnil hl (hnews w2 bw2) h1 (by omega) (by decide) bw2.size fun u w3 hown hgr => ?_
  rw [Nat.zero_add, List.nil_append] at hown
  have bw3 : Below w.heap.size w w3 := bw2.trans (below_grown bw2.size hgr hg)
  rw [show (cq13.toList.getD 3 default).dst = some 49 by kernel_rfl]
  refine hK' _ _ ?_
  obtain ⟨eu, _⟩ := own_slice hown
  have K4 := K3.put (d := 49) (v := u) rfl
  generalize a3.put (some 49) u = a4 at K4 ⊢
  rw [eu] at K4 hown
  generalize slA u = A' at K4 hown
  generalize slC u = c' at K4 hown
  refine @wpList_readsF row0 _ _ (fun _ => 0) _ _ _ _ _ _ _ a4 w3 [1, 2, 3, 5, 6, 49] (xok_0 w3) (t_13f ⟨b6, 0, none⟩) (by kernel_rfl) (RP.ar_none (us := [(6, pt b6)]) K4 (by simp) w3) fun a5 t5 har5 e5 hk5 => ?_
  simp only [List.map_cons, List.map_nil, List.cons.injEq, and_true] at e5
  have hbox3 := own_bel hbox bw3
  obtain ⟨w4, hst, hbox4, hg4⟩ := own_splice (P := Tryd.prog) (ty := 31) (t := 0) (o := 35) (x := .slice A' n c') hbox3 (fun _ => rfl) (by omega) (by kernel_rfl) (show 35 + 1 ≤ 37 by decide) (fun y hy => by
    obtain rfl : y = .slice A' n c' := by simpa [Value.cells] using hy
    rfl)
  have x45 : a5.eval (.tmp 50) = .pointer (some ⟨b6, 35, none⟩) := by
    have := @ar_eval row0 _ _ _ _ _ har5 _ _ e5
    rw [ptr_add] at this
    exact this
  have x44 : a5.eval (.tmp 49) = .slice A' n c' := (hk5 49 (by simp)).trans (K4.vals (49, _) (by simp))
  have f4 : FrT B [33] w3 w4 := FrT.own hbox3 (Nat.le_refl _) hg4
  refine wpList_store (t := 31) (x := .tmp 50) (y := .tmp 49) (by kernel_rfl) (by kernel_rfl) (by kernel_rfl) x45 x44 hst ?_
  refine hQ A' c' a5 w4 ⟨@AR.size row0 _ _ _ _ _ har5, @AR.defers row0 _ _ _ _ _ har5, fun p hp => ?_⟩ (f4.row hown (by simp)) hbox4 ((bw3.mono hB).trans (f4.below (Nat.le_trans hB bw3.size))) ((FrT.of (B := 0) (T := [33]) bw3).trans (f4.mono (Nat.zero_le _) (fun _ h => h)))
  refine (hk5 p.1 ?_).trans (K4.vals p ?_)
  · simp only [List.mem_cons, List.not_mem_nil, or_false] at hp
    rcases hp with rfl | rfl | rfl | rfl | rfl <;> simp
  · exact List.mem_cons_of_mem _ (List.mem_cons_of_mem _ (List.mem_cons_of_mem _ hp))
end
/-- A step more. -/
def Ad.step (c : Ad) (i : Nat) (A : Option Addr) (n : Nat) (L : Option Addr) (lc : Nat) (M : Option Addr) (mc : Nat) : Ad := { c with sA := A, sc := n, lA := fput c.lA i L, lc := fput c.lc i lc, mA := fput c.mA i M, mc := fput c.mc i mc }
abbrev bx6 (x : Sc) (ad : Nat → Ad) (b1 b3 b6 : Nat) (c : Ad) (i j : Nat) (vL vM : Value) : Bx := ⟨b1, b3, b6, 1, .slice c.bA i c.bc, .slice c.sA j c.sc, vL, vM, x.st j⟩
theorem cv_one (s : Stp) (l q : Value) (hl : l.oneCell' = true) (hq : q.oneCell' = true) : ∀ u ∈ s.cv l q, u.oneCell' = true := by
  intro u hu
  simp only [Stp.cv, List.mem_cons, List.not_mem_nil, or_false] at hu
  rcases hu with rfl | rfl | rfl | rfl | rfl | rfl | rfl | rfl | rfl | rfl | rfl | rfl | rfl | rfl | rfl | rfl | rfl | rfl | rfl | rfl | rfl | rfl | rfl | rfl | rfl | rfl | rfl | rfl | rfl | rfl | rfl | rfl | rfl | rfl | rfl | rfl | rfl <;> first | rfl | exact hl | exact hq
section
variable {x : Sc} {ad : Nat → Ad} {a : Act} {w w' W : World} {Q : Exit → Act → World → Prop} {b1 b2 b3 b6 : Nat} {c : Ad} {i j : Nat}
theorem CS.xok6 {B : Nat} {vL vM : Value} (h : CS W x ad b1 b2 b3 c i j w) (hX : @XOk (rowsS x ad) W) (hb : w.ownsRow B 33 37 (sl1 b6) 1 ((List.range 1).flatMap fun _ => (x.st j).cv vL vM)) : @XOk (rowsP x ad (bx6 x ad b1 b3 b6 c i j vL vM)) w := by
  refine xok_P (@XOk.below (rowsS x ad) _ _ hX h.below) fun n => ?_
  match n with
  | 0 =>
    obtain ⟨h1, h2⟩ := own_cell (l := scV x _ _) rfl h.x1
    exact xrow_den (fun s hs mem => @scC_ok (rowsP x ad _) x 0 mem s hs) (fun m => scC_den x ad _ m) h1 h2 (Nat.le_refl _)
  | 1 =>
    obtain ⟨h1, h2⟩ := own_cell (l := scV x _ _) rfl h.y3
    exact xrow_val (l := scV x (.slice c.bA i c.bc) (.slice c.sA j c.sc)) h1 h2 _
  | n + 2 =>
    obtain ⟨h1, h2⟩ := own_cell (l := (x.st j).cv vL vM) rfl hb
    exact xrow_val (l := (x.st j).cv vL vM) h1 h2 _
theorem den_p2 (x : Sc) (ad : Nat → Ad) (k : Bx) (m : Nat → Nat) : @SV.den (rowsP x ad k) m (.xp [2] 0 0) = pt k.b6 := by
  rw [@den_xp (rowsP x ad k)]
  show Value.pointer (some ((⟨k.b6, 0, none⟩ : Addr).add (0 * 37 + 0))) = _
  rw [Nat.zero_mul, add_none]
theorem ints_news {w : World} (h : @XOk (rowsS x ad) w) (i : Nat) : ∀ g : Addr, (ad 0).lA i = some g → ∀ j u, ((List.range (x.ln i)).flatMap fun t => [Value.int .i64 (x.lg i t)])[j]? = some u → w.cell? (g.add j) = some u :=
  row_news (e := rowsS x ad) (r := ⟨(ad 0).lA i, 1, x.ln i, (ad 0).lc i, fun j => [.val (.int .i64 (x.lg i j))]⟩) (h [0, 1, i, 0]) (fun j _ m => by simp only [List.map_cons, List.map_nil, @den_val (rowsS x ad)]) (fun j => rfl)
theorem txts_news {w : World} (h : @XOk (rowsS x ad) w) (i : Nat) : ∀ g : Addr, (ad 0).mA i = some g → ∀ j u, ((List.range (x.mn i)).flatMap fun t => [Value.string (x.mg i t)])[j]? = some u → w.cell? (g.add j) = some u :=
  row_news (e := rowsS x ad) (r := ⟨(ad 0).mA i, 1, x.mn i, (ad 0).mc i, fun j => [.val (.string (x.mg i j))]⟩) (h [0, 1, i, 1]) (fun j _ m => by simp only [List.map_cons, List.map_nil, @den_val (rowsS x ad)]) (fun j => rfl)
theorem sv_den (x : Sc) (ad : Nat → Ad) (k : Bx) (i : Nat) (m : Nat → Nat) : ((x.st i).sv [0, 1, i, 0] [0, 1, i, 1]).map (@SV.den (rowsP x ad k) m) = (x.st i).cv (.slice ((ad 0).lA i) (x.ln i) ((ad 0).lc i)) (.slice ((ad 0).mA i) (x.mn i) ((ad 0).mc i)) := by
  unfold Stp.sv
  simp only [List.map_cons, List.map_nil, @den_val (rowsP x ad k), @den_xs (rowsP x ad k)]
  rfl
set_option maxHeartbeats 2000000 in
theorem cq14_reg {A' A'' : Option Addr} {c' c'' B : Nat} (hX : @XOk (rowsS x ad) W) (hF : Few x (ad 0)) (hC : CS W x ad b1 b2 b3 c i j w) (hj : j < x.sn) (hbox : w.ownsRow B 33 37 (sl1 b6) 1 ((List.range 1).flatMap fun _ => (x.st j).cv (.slice A' (x.ln j) c') (.slice A'' (x.mn j) c'')))
    (hL : w.ownsRow W.heap.size 3 1 (.slice A' (x.ln j) c') (x.ln j) ((List.range (x.ln j)).flatMap fun u => [.int .i64 (x.lg j u)])) (hM : w.ownsRow W.heap.size 9 1 (.slice A'' (x.mn j) c'') (x.mn j) ((List.range (x.mn j)).flatMap fun u => [.string (x.mg j u)]))
    (hk : Kp 58 (kp6 b1 b2 b3 j b6) a) (hQ : ∀ c' a' w', Kp 58 (kpL 5 b1 b2 b3 j) a' → CS W x ad b1 b2 b3 c' i (j + 1) w' → Q .normal a' w') : (Code.region 14 cq14 false).wp Tryd.prog Q a w := by
  let k : Bx := bx6 x ad b1 b3 b6 c i j (.slice A' (x.ln j) c') (.slice A'' (x.mn j) c'')
  letI := rowsP x ad k
  have C := ctxP x ad k
  refine wp_region_list ?_
  rw [cq14_eq]
  have hsr : @SR (rowsP x ad k) w 58 (fun _ => 0) ((⟨LP6 (pt b2) j, []⟩ : Cut).st 0) a w := by
    letI := rowsP x ad k
    refine epoch hk.size hk.defers _ _ (fun p hp => ?_) (fun p hp => ?_)
    · simp only [List.mem_cons, List.not_mem_nil, or_false] at hp
      rcases hp with rfl | rfl | rfl | rfl | rfl
      · rw [den_p0]; exact hk.vals (1, pt b1) (by simp)
      · rw [den_val]; exact hk.vals (2, pt b2) (by simp)
      · rw [den_p1]; exact hk.vals (3, pt b3) (by simp)
      · rw [den_val]; exact hk.vals (5, .int .i64 (j : Int)) (by simp)
      · rw [den_p2]; exact hk.vals (6, pt b6) (by simp)
    · simp only [List.mem_cons, List.not_mem_nil, or_false] at hp
      rcases hp with rfl | rfl | rfl | rfl | rfl <;> first | exact ok_val _ _ | exact ok_xp.2 Nat.zero_lt_one
  refine opsPiece C.mix C.hX C.hs C.hXO C.hG (t_c14 x ad k (pt b2) j) (w0 := w) (hC.xok6 hX hbox) hsr fun m2 a2 w2 hr2 => ?_
  have K2 : Kp 58 [(1, pt b1), (2, pt b2), (3, pt b3), (5, .int .i64 (j : Int)), (52, .slice c.sA j c.sc), (54, .slice (some ⟨m2 0, 0, none⟩) 1 1)] a2 := SR.kp hr2 fun p hp => by
    simp only [List.mem_cons, List.not_mem_nil, or_false] at hp
    rcases hp with rfl | rfl | rfl | rfl | rfl | rfl
    · exact ⟨rfl, den_p0 x ad k _⟩
    · exact ⟨rfl, @den_val (rowsP x ad k) _ _⟩
    · exact ⟨rfl, den_p1 x ad k _⟩
    · exact ⟨rfl, @den_val (rowsP x ad k) _ _⟩
    · exact ⟨rfl, @den_val (rowsP x ad k) _ _⟩
    · exact ⟨rfl, @den_slc (rowsP x ad k) _ _ _ _ _⟩
  have b2' := SR.bel hr2
  obtain ⟨g1, g2⟩ := SR.own (b := 0) (l := (x.st j).cv (.slice A' (x.ln j) c') (.slice A'' (x.mn j) c'')) (ty := 33) hr2 rfl
  have hC2 := hC.then b2'
  have hL2 := own_bel hL b2'
  have hM2 := own_bel hM b2'
  refine wpList_plain (by kernel_rfl) fun K hK => ?_
  refine wp_append_row (.tmp 52) (.tmp 54) 36 (by kernel_rfl) W.heap.size 33 37 376 (by kernel_rfl) (by kernel_rfl) (by decide) _ j _ (K2.get (by simp)) hC2.stp (some ⟨m2 0, 0, none⟩) 1 1 ((x.st j).cv (.slice A' (x.ln j) c') (.slice A'' (x.mn j) c'')) (K2.get (by simp)) (fun h => by cases h) rfl
    (fun ga hga q u hu => by
      cases hga
      rw [add_none, cell_of_row w2 (m2 0) _ _ 33 (0, 0) g2]
      simpa using hu) (cv_one _ _ _ rfl rfl) (by have := hF.s; omega) (by decide) hC2.below.size fun u w3 hown hgr => ?_
  have f3 : FrT W.heap.size [33] w2 w3 := FrT.own hC2.stp (Nat.le_refl _) hgr
  rw [show (cq14.toList.getD 4 default).dst = some 55 by kernel_rfl]
  refine hK _ _ ?_
  obtain ⟨eu, _⟩ := own_slice hown
  have K3 := K2.put (d := 55) (v := u) rfl
  generalize a2.put (some 55) u = a3 at K3 ⊢
  rw [eu] at K3 hown
  generalize slA u = A3 at K3 hown
  generalize slC u = c3 at K3 hown
  refine @wpList_readsF row0 _ _ (fun _ => 0) _ _ _ _ _ _ _ a3 w3 [1, 2, 3, 5, 55] (xok_0 w3) (t_14f ⟨b3, 0, none⟩) (by kernel_rfl) (RP.ar_none (us := [(3, pt b3)]) K3 (by simp) w3) fun a4 t4 har4 e4 hk4 => ?_
  simp only [List.map_cons, List.map_nil, List.cons.injEq, and_true] at e4
  have hy3 := f3.row hC2.y3 (by simp)
  obtain ⟨w4, hst, hy4, hg4⟩ := own_splice (P := Tryd.prog) (ty := 36) (t := 0) (o := 4) (x := .slice A3 (j + 1) c3) hy3 (fun _ => rfl) (by omega) (by kernel_rfl) (show 4 + 1 ≤ 5 by decide) (fun y hy => by
    obtain rfl : y = .slice A3 (j + 1) c3 := by simpa [Value.cells] using hy
    rfl)
  have x56 : a4.eval (.tmp 56) = .pointer (some ⟨b3, 4, none⟩) := by
    have := @ar_eval row0 _ _ _ _ _ har4 _ _ e4
    rw [ptr_add] at this
    exact this
  have x55 : a4.eval (.tmp 55) = .slice A3 (j + 1) c3 := (hk4 55 (by simp)).trans (K3.vals (55, _) (by simp))
  refine wpList_store (t := 36) (x := .tmp 56) (y := .tmp 55) (by kernel_rfl) (by kernel_rfl) (by kernel_rfl) x56 x55 hst ?_
  have f4 : FrT W.heap.size [38] w3 w4 := FrT.own hy3 (Nat.le_refl _) hg4
  have f24 : FrT W.heap.size [33, 38] w2 w4 := (f3.mono (Nat.le_refl _) (by simp)).trans (f4.mono (Nat.le_refl _) (by simp))
  have hx3 := f3.row hC2.x1 (by simp)
  refine hQ (c.step j A3 c3 A' c' A'' c'') a4 w4 ⟨@AR.size row0 _ _ _ _ _ har4, @AR.defers row0 _ _ _ _ _ har4, fun p hp => ?_⟩ ⟨hC2.below.trans (f24.below hC2.below.size), ?_, hy4, ⟨?_, hC2.r2.2⟩, hC2.n1, hC2.n2, f24.row hC2.bod (by simp), fun t ht => f24.row (hC2.ops t ht) (by simp), ?_, fun t ht => ?_, fun t ht => ?_⟩
  · simp only [List.mem_cons, List.not_mem_nil, or_false] at hp
    rcases hp with rfl | rfl | rfl | rfl
    · exact (hk4 1 (by simp)).trans (K3.vals (1, _) (by simp))
    · exact (hk4 2 (by simp)).trans (K3.vals (2, _) (by simp))
    · exact (hk4 3 (by simp)).trans (K3.vals (3, _) (by simp))
    · exact (hk4 5 (by simp)).trans (K3.vals (5, _) (by simp))
  · refine ownsRow_same hx3 fun g hg => ?_
    cases hg
    obtain ⟨h1, _⟩ := own_cell (l := scV x _ _) rfl hx3
    exact hg4.block _ h1 fun e => hC2.n1 (by cases e; rfl)
  · have h3 := keep_block f3 hC2.r2.1 (by simp)
    rw [hg4.block b2 (Array.getElem?_eq_some_iff.1 h3).1 (fun e => hC2.n2 (by cases e; rfl))]
    exact h3
  · have := f4.row hown (by simp)
    show w4.ownsRow W.heap.size 33 37 (.slice A3 (j + 1) c3) (j + 1) ((List.range (j + 1)).flatMap fun t => (x.st t).cv (.slice (fput c.lA j A' t) (x.ln t) (fput c.lc j c' t)) (.slice (fput c.mA j A'' t) (x.mn t) (fput c.mc j c'' t)))
    rw [List.range_succ, List.flatMap_append, flat_congr j (g := fun t => (x.st t).cv (.slice (c.lA t) (x.ln t) (c.lc t)) (.slice (c.mA t) (x.mn t) (c.mc t))) fun q hq => by simp only [fput]; rw [if_neg (by omega), if_neg (by omega), if_neg (by omega), if_neg (by omega)]]
    simp only [List.flatMap_cons, List.flatMap_nil, List.append_nil, fput, if_true]
    exact this
  · show w4.ownsRow W.heap.size 3 1 (.slice (fput c.lA j A' t) (x.ln t) (fput c.lc j c' t)) (x.ln t) _
    unfold fput
    by_cases hti : t = j
    · subst hti
      rw [if_pos rfl, if_pos rfl]
      exact f24.row hL2 (by simp)
    · rw [if_neg hti, if_neg hti]
      exact f24.row (hC2.ints t (by omega)) (by simp)
  · show w4.ownsRow W.heap.size 9 1 (.slice (fput c.mA j A'' t) (x.mn t) (fput c.mc j c'' t)) (x.mn t) _
    unfold fput
    by_cases hti : t = j
    · subst hti
      rw [if_pos rfl, if_pos rfl]
      exact f24.row hM2 (by simp)
    · rw [if_neg hti, if_neg hti]
      exact f24.row (hC2.txts t (by omega)) (by simp)
set_option maxHeartbeats 2000000 in
/-- A round. -/
theorem cqb_round (hX : @XOk (rowsS x ad) W) (hF : Few x (ad 0)) (hC : CS W x ad b1 b2 b3 c i j w) (hj : j < x.sn) (hk : Kp 58 (kpL 5 b1 b2 b3 j) a) (hQ : ∀ c' a' w', Kp 58 (kpL 5 b1 b2 b3 j) a' → CS W x ad b1 b2 b3 c' i (j + 1) w' → Q .normal a' w') : wpL Tryd.prog cqb Q a w := by
  let k : Bx := bxk x ad b1 b3 c i j
  letI := rowsP x ad k
  have C := ctxP x ad k
  rw [cqb_eq, wpL_app]
  have ev := t_c11 x ad k (pt b2) j
  rw [decide_eq_true (by omega : (0 : Int) ≤ (j : Int)), decide_eq_true (by omega : (j : Int) < (x.sn : Int))] at ev
  refine piece C.mix C.hX C.hs C.hXO C.hG ev (w0 := w) (hC.xok hX) (kp_sr5 (x := x) (ad := ad) (k := k) hk w) (fun v hv => by cases hv) (fun ex d hd m a1 w1 hr => ?_)
  cases hd
  have b1' := SR.bel hr
  have hC1 := hC.then b1'
  obtain ⟨hb6, hh, _⟩ := (@SR.mr (rowsP x ad k) _ _ _ _ _ _ hr).blk 0 ⟨33, (x.st j).sv [0, 1, j, 0] [0, 1, j, 1]⟩ rfl
  have hh' : w1.heap[m 0]? = some (.cells ((x.st j).cv (.slice ((ad 0).lA j) (x.ln j) ((ad 0).lc j)) (.slice ((ad 0).mA j) (x.mn j) ((ad 0).mc j))).toArray 33 (0, 0)) := by
    rw [hh, sv_den]
  have hbox1 := own_new (B := w.heap.size) (z := 37) rfl hb6 hh'
  have K1 : Kp 58 (kp6 b1 b2 b3 j (m 0)) a1 := SR.kp hr fun p hp => by
    simp only [List.mem_cons, List.not_mem_nil, or_false] at hp
    rcases hp with rfl | rfl | rfl | rfl | rfl
    · exact ⟨rfl, den_p0 x ad k _⟩
    · exact ⟨rfl, @den_val (rowsP x ad k) _ _⟩
    · exact ⟨rfl, den_p1 x ad k _⟩
    · exact ⟨rfl, @den_val (rowsP x ad k) _ _⟩
    · exact ⟨rfl, @den_ptr (rowsP x ad k) _ _ _⟩
  have hXb : ∀ w', Below W.heap.size W w' → @XOk (rowsS x ad) w' := fun w' h => @XOk.below (rowsS x ad) _ _ hX h
  show (Code.region 12 cq12 false).wp Tryd.prog _ a1 w1
  refine cq12_reg b1'.size hbox1 K1 (hF.nl j) (hF.l j) (flat_len (f := fun t => [Value.int .i64 (x.lg j t)]) (fun t => rfl) (x.ln j)) (fun u hu => by
    obtain ⟨t, _, hu⟩ := List.mem_flatMap.1 hu
    obtain rfl := List.mem_singleton.1 hu
    rfl) (fun w' hb ga hga q u hu => ints_news (hXb w' (hC1.below.trans (hb.mono hC1.below.size))) j ga hga q u hu) fun A' c' a2 w2 K2 hL hbox2 bw2 f2 => ?_
  show (Code.region 13 cq13 false).wp Tryd.prog _ a2 w2
  have hb12 : Below w.heap.size w w2 := b1'.trans bw2
  refine cq13_reg hb12.size hbox2 K2 (hF.nm j) (hF.m j) (flat_len (f := fun t => [Value.string (x.mg j t)]) (fun t => rfl) (x.mn j)) (fun u hu => by
    obtain ⟨t, _, hu⟩ := List.mem_flatMap.1 hu
    obtain rfl := List.mem_singleton.1 hu
    rfl) (fun w' hb ga hga q u hu => txts_news (hXb w' ((hC.below.trans (hb12.mono hC.below.size)).trans (hb.mono (Nat.le_trans hC.below.size hb12.size)))) j ga hga q u hu) fun A'' c'' a3 w3 K3 hM hbox3 bw3 f3 => ?_
  have hb13 : Below w.heap.size w w3 := hb12.trans bw3
  show wpL Tryd.prog [.region 14 cq14 false] _ a3 w3
  rw [wpL_one]
  refine cq14_reg hX hF (hC.then hb13) hj hbox3 (own_base (f3.row hL (by simp)) (Nat.le_trans hC.below.size b1'.size)) (own_base hM (Nat.le_trans hC.below.size hb12.size)) K3 hQ
/-- The second loop. -/
theorem copy2 (hX : @XOk (rowsS x ad) W) (hF : Few x (ad 0)) (hQ : ∀ c a w, Kp 58 (kpL 5 b1 b2 b3 x.sn) a → CS W x ad b1 b2 b3 c i x.sn w → wpL Tryd.prog (postOf cq) Q a w) :
    ∀ (k j : Nat) (c : Ad) (a : Act) (w : World), Kp 58 (kpL 5 b1 b2 b3 j) a → CS W x ad b1 b2 b3 c i j w → j ≤ x.sn → x.sn - j < k →
      Code.rounds Tryd.prog (roundOf cq) (Exit.inBlock 2 (Exit.then (wpL Tryd.prog (postOf cq) Q) Q)) k a w := by
  intro k
  induction k with
  | zero => intro j c a w _ _ _ h; omega
  | succ k ih =>
    intro j c a w hk hC hj h2
    rw [rounds_succ]
    refine wpL_flat _ ?_
    show wpL Tryd.prog cqr _ a w
    have C := ctxP x ad (bxk x ad b1 b3 c i j)
    rw [cqr_eq, wpL_app]
    have ev := t_c2 x ad (bxk x ad b1 b3 c i j) (pt b2) j
    by_cases hjn : j < x.sn
    · rw [decide_eq_true (by omega : (j : Int) < (x.sn : Int))] at ev
      letI := rowsP x ad (bxk x ad b1 b3 c i j)
      refine piece C.mix C.hX C.hs C.hXO C.hG ev (w0 := w) (hC.xok hX) (kp_sr5 (x := x) (ad := ad) (k := bxk x ad b1 b3 c i j) hk w) (fun v hv => by cases hv) (fun ex d hd m a1 w1 hr => ?_)
      cases hd
      have K1 : Kp 58 (kpL 5 b1 b2 b3 j) a1 := sr_kp5 (x := x) (ad := ad) (k := bxk x ad b1 b3 c i j) hr
      have hC1 := hC.then hr.mr.below
      show (Code.block 3 (inB (cqr.getD 2 .skip))).wp Tryd.prog _ a1 w1
      refine wp_block ?_
      refine wpL_flat _ ?_
      show wpL Tryd.prog cqb _ a1 w1
      refine cqb_round hX hF hC1 hjn K1 fun c' a2 w2 K2 hC2 => ?_
      show wpL Tryd.prog (cqr.drop 3) _ a2 w2
      have ev2 := t_c2e (pt b1) (pt b2) (pt b3) j
      rw [wrb hjn hF.fits.s] at ev2
      refine pieceZ ev2 (K2.sr w2) (fun v hv => by cases hv) (fun ex d hd m3 a3 w3 hr3 => ?_)
      cases hd
      refine ih (j + 1) c' a3 w3 (SR.kp hr3 fun p hp => ?_) (hC2.then (@MR.below row0 _ _ _ _ (@SR.mr row0 _ _ _ _ _ _ hr3))) hjn (by omega)
      simp only [List.mem_cons, List.not_mem_nil, or_false] at hp
      rcases hp with rfl | rfl | rfl | rfl <;> exact ⟨rfl, @den_val row0 _ _⟩
    · obtain rfl : j = x.sn := by omega
      rw [decide_eq_false (by omega : ¬(x.sn : Int) < (x.sn : Int))] at ev
      letI := rowsP x ad (bxk x ad b1 b3 c i x.sn)
      refine piece C.mix C.hX C.hs C.hXO C.hG ev (w0 := w) (hC.xok hX) (kp_sr5 (x := x) (ad := ad) (k := bxk x ad b1 b3 c i x.sn) hk w) (fun v hv => by cases hv) (fun ex d hd m a1 w1 hr => ?_)
      cases hd
      exact hQ c a1 w1 (sr_kp5 (x := x) (ad := ad) (k := bxk x ad b1 b3 c i x.sn) hr) (hC.then hr.mr.below)
end
end Go.Proofs.YtlliefodchfpfaaDoor.PDescKinds
end
section
/- cameolaw28.Copy, cameolaw28.ScriptChecks: they run. -/
set_option linter.unusedSimpArgs false
set_option linter.unusedVariables false
set_option linter.unusedSectionVars false
namespace Go.Proofs.YtlliefodchfpfaaDoor.PDescKinds
open Go.RowKit Go.Ev Go.Proofs.YtlliefodchfpfaaDoorV.PrintLast
set_option maxRecDepth 100000
theorem t_c0 (x : Sc) (ad : Nat → Ad) : letI := rowsS x ad
    evK Tryd.prog ext TZ 80 58 (seqL (preOf cp)) (⟨argS [scA x 0], fun _ => none, 0⟩) (grab Tryd.prog Tryd.f7 [1, 2, 3, 4] [0, 1, 2] 3) =
    some (.cut .normal ⟨[(1, .ptr 0 0), (2, .ptr 1 0), (3, .ptr 2 0), (4, .val (.int .i64 ((0 : Nat) : Int)))], [(0, ⟨38, scC x 0⟩), (1, ⟨38, [.val (.int .i64 0), .val (.int .i64 0), .val (.int .i64 0), .val (.slice none 0 0), .val (.slice none 0 0)]⟩), (2, ⟨38, [.val (.int .i64 x.cap), .val (.int .i64 x.fuel), .val (.int .i64 x.dep), .val (.slice none 0 0), .val (.slice none 0 0)]⟩)]⟩) := by kernel_rfl
noncomputable def cz : Array Oper := opsOf ((postOf cq).getD 0 .skip)
theorem cz_eq : postOf cq = .region 15 cz false :: (postOf cq).drop 1 := by kernel_rfl
theorem cz_ops : cz.toList = [cz.toList.getD 0 default] ++ [cz.toList.getD 1 default] := by kernel_rfl
theorem t_z0 (b : Nat) (x : Sc) (A A' : Option Addr) (n c n' c' : Nat) : letI := rowB6 b (scV x (.slice A n c) (.slice A' n' c'))
    (reads Tryd.prog 58 [cz.toList.getD 0 default] (pickT [(3, .xp [] 0 0)])).map (fun t => [57].map t) = some [.val (.agg (scV x (.slice A n c) (.slice A' n' c')).toArray)] := by kernel_rfl
theorem t_z1 (x : Sc) (A A' : Option Addr) (n c n' c' : Nat) : letI := row0
    resS Tryd.prog Tryd.f7 ((⟨[(2, .ptr 0 0)], [(0, ⟨38, (scV x (.slice A n c) (.slice A' n' c')).map SV.val⟩)]⟩ : Cut).st 1) = some (.val (.agg (scV x (.slice A n c) (.slice A' n' c')).toArray)) := by kernel_rfl
theorem cz_ret : (postOf cq).drop 1 = [.ret] := by kernel_rfl
theorem own_cells {w : World} {B e z g : Nat} {l : List Value} (hz : l.length = z) (h : w.ownsRow B e z (sl1 g) 1 ((List.range 1).flatMap fun _ => l)) : w.heap[g]? = some (.cells l.toArray e (0, 0)) ∧ B ≤ g := by
  rcases h.2 with ⟨e, _⟩ | ⟨g', cap, cur, e, h1, h2, h3, h4, h5, h6⟩
  · cases e
  · cases e
    refine ⟨?_, h1⟩
    rw [h2]
    have : cur.toList = l := by
      simp only [List.range_one, List.flatMap_cons, List.flatMap_nil, List.append_nil] at h6
      rw [← h6]
      exact (List.take_of_length_le (by rw [Array.length_toList]; omega)).symm
    rw [← this]
/-- The script that came in, and its copy. -/
abbrev two (a c : Ad) : Nat → Ad := fun k => match k with
  | 0 => a
  | _ => c
theorem rowsS_all {p : XR → Prop} (x : Sc) (ad : Nat → Ad) (hb : ∀ k, p (ad k).bx) (h0 : ∀ k, p ⟨(ad k).bA, 1, x.bn, (ad k).bc, fun i => [.xs [k, 0, i]]⟩) (h1 : ∀ k, p ⟨(ad k).sA, 37, x.sn, (ad k).sc, fun i => (x.st i).sv [k, 1, i, 0] [k, 1, i, 1]⟩)
    (h2 : ∀ k i, p ⟨(ad k).oA i, 32, x.bl i, (ad k).oc i, fun j => (x.op i j).list.map SV.val⟩) (h3 : ∀ k i, p ⟨(ad k).lA i, 1, x.ln i, (ad k).lc i, fun j => [.val (.int .i64 (x.lg i j))]⟩) (h4 : ∀ k i, p ⟨(ad k).mA i, 1, x.mn i, (ad k).mc i, fun j => [.val (.string (x.mg i j))]⟩)
    (hn : p ⟨none, 0, 0, 0, fun _ => []⟩) : ∀ r, p ((rowsS x ad).env r) := by
  intro r
  delta rowsS
  dsimp only
  split
  · exact hb _
  · exact h0 _
  · exact h1 _
  · exact h2 _ _
  · exact h3 _ _
  · exact h4 _ _
  · exact hn
theorem xrow_ownS {e : XEnv} {w : World} {b z n c : Nat} {ty : TypeId} {A : Option Addr} {f : Nat → List Value} {g : Nat → List SV} (hz : ∀ t, (f t).length = z) (h : w.ownsRow b ty z (.slice A n c) n ((List.range n).flatMap f))
    (hg : ∀ j m, (g j).map (@SV.den e m) = f j) (hok : ∀ j, ∀ s ∈ g j, ∀ mem, @SV.ok e mem s) : @XRow e w ⟨A, z, n, c, g⟩ := by
  intro j hj
  have hj : j < n := hj
  rcases row_slice h with ⟨_, e, _⟩ | ⟨g', rfl, h1, h2⟩
  · omega
  · refine ⟨?_, hok j, ⟨g', 0, none⟩, rfl, h2, fun k s hk m => ?_⟩
    · rw [← hz j, ← hg j fun _ => 0, List.length_map]
    · have hk : (g j)[k]? = some s := hk
      refine own_at hz h hj k _ ?_
      rw [← hg j m, List.getElem?_map, hk]
      rfl
theorem xrow_zero {e : XEnv} {w : World} {r : XR} (h : r.n = 0) : @XRow e w r := fun j hj => by omega
section
variable {x : Sc} {ad : Nat → Ad} {a : Act} {w w' W : World} {Q : Exit → Act → World → Prop} {b1 b2 b3 b6 : Nat} {c : Ad} {i j : Nat}
theorem val_map (e : XEnv) (l : List Value) (m : Nat → Nat) : (l.map SV.val).map (@SV.den e m) = l := by
  rw [List.map_map]
  exact (List.map_congr_left fun v _ => @den_val e m v).trans (List.map_id _)
theorem val_ok (e : XEnv) (l : List Value) : ∀ s ∈ l.map SV.val, ∀ mem, @SV.ok e mem s := fun s hs mem => by
  obtain ⟨v, _, rfl⟩ := List.mem_map.1 hs
  exact @ok_val e _ _
/-- Both stand. -/
theorem two_ok {B : Nat} {q : XR} (hF : Few x (ad 0)) (hX : @XOk (rowsS x ad) w) (hq : ∀ e : XEnv, e = rowsS x (two { ad 0 with bx := q } c) → @XRow e w q) (hc : c.bx = ⟨none, 0, 0, 0, fun _ => []⟩)
    (bod : w.ownsRow B 56 1 (.slice c.bA x.bn c.bc) x.bn ((List.range x.bn).flatMap fun t => [.slice (c.oA t) (x.bl t) (c.oc t)]))
    (ops : ∀ t, t < x.bn → w.ownsRow B 82 32 (.slice (c.oA t) (x.bl t) (c.oc t)) (x.bl t) ((List.range (x.bl t)).flatMap fun u => (x.op t u).list))
    (stp : w.ownsRow B 33 37 (.slice c.sA x.sn c.sc) x.sn ((List.range x.sn).flatMap fun t => (x.st t).cv (.slice (c.lA t) (x.ln t) (c.lc t)) (.slice (c.mA t) (x.mn t) (c.mc t))))
    (ints : ∀ t, t < x.sn → w.ownsRow B 3 1 (.slice (c.lA t) (x.ln t) (c.lc t)) (x.ln t) ((List.range (x.ln t)).flatMap fun u => [.int .i64 (x.lg t u)]))
    (txts : ∀ t, t < x.sn → w.ownsRow B 9 1 (.slice (c.mA t) (x.mn t) (c.mc t)) (x.mn t) ((List.range (x.mn t)).flatMap fun u => [.string (x.mg t u)])) : @XOk (rowsS x (two { ad 0 with bx := q } c)) w := by
  have key : ∀ e : XEnv, e = rowsS x (two { ad 0 with bx := q } c) → ∀ r, @XRow e w ((rowsS x (two { ad 0 with bx := q } c)).env r) := by
    intro e he
    have hpl : ∀ s, plainS s → (∀ mem, @SV.ok e mem s) := fun s hs mem => by
      rcases hs with ⟨v, rfl⟩ | ⟨_, _, _, rfl⟩
      · exact @ok_val e _ _
      · exact @ok_xs e _ _
    have hsv : ∀ (y : Stp) (r q : List Nat) (m : Nat → Nat), (y.sv r q).map (@SV.den e m) = y.cv (.slice (e.env r).A (e.env r).n (e.env r).c) (.slice (e.env q).A (e.env q).n (e.env q).c) := fun y r q m => by
      unfold Stp.sv
      simp only [List.map_cons, List.map_nil, @den_val e, @den_xs e]
      rfl
    have hsok : ∀ (y : Stp) (k i : Nat), ∀ s ∈ y.sv [k, 1, i, 0] [k, 1, i, 1], ∀ mem, @SV.ok e mem s := fun y k i s hs => hpl s (by
      simp only [Stp.sv, List.mem_cons, List.not_mem_nil, or_false] at hs
      rcases hs with rfl | rfl | rfl | rfl | rfl | rfl | rfl | rfl | rfl | rfl | rfl | rfl | rfl | rfl | rfl | rfl | rfl | rfl | rfl | rfl | rfl | rfl | rfl | rfl | rfl | rfl | rfl | rfl | rfl | rfl | rfl | rfl | rfl | rfl | rfl | rfl | rfl <;> first | exact .inl ⟨_, rfl⟩ | exact .inr ⟨_, _, _, rfl⟩)
    have hval : ∀ l : List Value, ∀ s ∈ l.map SV.val, ∀ mem, @SV.ok e mem s := val_ok e
    have mv : ∀ r : List Nat, (∀ j s, s ∈ ((rowsS x ad).env r).g j → (∀ m, @SV.den e m s = @SV.den (rowsS x ad) m s) ∧ ∀ mem, @SV.ok e mem s) → @XRow e w ((rowsS x ad).env r) := fun r h => xrow_move (hX r) fun j _ s hs => h j s hs
    have dv : ∀ (v : Value) (m : Nat → Nat), @SV.den e m (.val v) = @SV.den (rowsS x ad) m (.val v) := fun v m => by rw [@den_val e, @den_val (rowsS x ad)]
    have dx : ∀ (r : List Nat), e.env r = (rowsS x ad).env r → ∀ m : Nat → Nat, @SV.den e m (.xs r) = @SV.den (rowsS x ad) m (.xs r) := fun r h m => by rw [@den_xs e, @den_xs (rowsS x ad)]; show Value.slice (e.env r).A (e.env r).n (e.env r).c = _; rw [h]
    refine rowsS_all (p := fun r => @XRow e w r) x _ (fun k => ?_) (fun k => ?_) (fun k => ?_) (fun k i => ?_) (fun k i => ?_) (fun k i => ?_) (xrow_zero rfl)
    · cases k with
      | zero => exact hq e he
      | succ k =>
        show @XRow e w c.bx
        rw [hc]
        exact xrow_zero rfl
    · cases k with
      | zero =>
        exact mv [0, 0] fun j s hs => by
          obtain rfl := List.mem_singleton.1 hs
          exact ⟨dx _ (by rw [he]; rfl), hpl _ (.inr ⟨_, _, _, rfl⟩)⟩
      | succ k =>
        exact xrow_ownS (fun t => rfl) bod (fun j m => by
          simp only [List.map_cons, List.map_nil, @den_xs e]
          rw [he]
          rfl) (fun j s hs => by
          obtain rfl := List.mem_singleton.1 hs
          exact hpl _ (.inr ⟨_, _, _, rfl⟩))
    · cases k with
      | zero =>
        exact mv [0, 1] fun j s hs => by
          have hs' : s ∈ (x.st j).sv [0, 1, j, 0] [0, 1, j, 1] := hs
          refine ⟨fun m => ?_, hsok _ 0 j s hs'⟩
          simp only [Stp.sv, List.mem_cons, List.not_mem_nil, or_false] at hs'
          rcases hs' with rfl | rfl | rfl | rfl | rfl | rfl | rfl | rfl | rfl | rfl | rfl | rfl | rfl | rfl | rfl | rfl | rfl | rfl | rfl | rfl | rfl | rfl | rfl | rfl | rfl | rfl | rfl | rfl | rfl | rfl | rfl | rfl | rfl | rfl | rfl | rfl | rfl <;> first | exact dv _ m | exact dx _ (by rw [he]; rfl) m
      | succ k =>
        exact xrow_ownS (fun t => Stp.cv_len _ _ _) stp (fun j m => by
          rw [hsv, he]
          rfl) (fun j => hsok _ (k + 1) j)
    · cases k with
      | zero =>
        exact mv [0, 0, i] fun j s hs => by
          obtain ⟨v, _, rfl⟩ := List.mem_map.1 hs
          exact ⟨dv v, fun mem => @ok_val e _ _⟩
      | succ k =>
        by_cases hi : i < x.bn
        · exact xrow_ownS (fun t => opr_len _) (ops i hi) (fun j m => val_map e _ m) (fun j => hval _)
        · exact xrow_zero (hF.zo i (by omega))
    · cases k with
      | zero =>
        exact mv [0, 1, i, 0] fun j s hs => by
          obtain rfl := List.mem_singleton.1 hs
          exact ⟨dv _, fun mem => @ok_val e _ _⟩
      | succ k =>
        by_cases hi : i < x.sn
        · exact xrow_ownS (fun t => rfl) (ints i hi) (fun j m => by simp only [List.map_cons, List.map_nil, @den_val e]) (fun j s hs mem => by
            obtain rfl := List.mem_singleton.1 hs
            exact @ok_val e _ _)
        · exact xrow_zero (hF.zl i (by omega))
    · cases k with
      | zero =>
        exact mv [0, 1, i, 1] fun j s hs => by
          obtain rfl := List.mem_singleton.1 hs
          exact ⟨dv _, fun mem => @ok_val e _ _⟩
      | succ k =>
        by_cases hi : i < x.sn
        · exact xrow_ownS (fun t => rfl) (txts i hi) (fun j m => by simp only [List.map_cons, List.map_nil, @den_val e]) (fun j s hs mem => by
            obtain rfl := List.mem_singleton.1 hs
            exact @ok_val e _ _)
        · exact xrow_zero (hF.zm i (by omega))
  exact key _ rfl
/-- What Copy leaves. -/
structure Copied (W : World) (x : Sc) (c : Ad) (w : World) : Prop where
  below : Below W.heap.size W w
  bod : w.ownsRow W.heap.size 56 1 (.slice c.bA x.bn c.bc) x.bn ((List.range x.bn).flatMap fun t => [.slice (c.oA t) (x.bl t) (c.oc t)])
  ops : ∀ t, t < x.bn → w.ownsRow W.heap.size 82 32 (.slice (c.oA t) (x.bl t) (c.oc t)) (x.bl t) ((List.range (x.bl t)).flatMap fun u => (x.op t u).list)
  stp : w.ownsRow W.heap.size 33 37 (.slice c.sA x.sn c.sc) x.sn ((List.range x.sn).flatMap fun t => (x.st t).cv (.slice (c.lA t) (x.ln t) (c.lc t)) (.slice (c.mA t) (x.mn t) (c.mc t)))
  ints : ∀ t, t < x.sn → w.ownsRow W.heap.size 3 1 (.slice (c.lA t) (x.ln t) (c.lc t)) (x.ln t) ((List.range (x.ln t)).flatMap fun u => [.int .i64 (x.lg t u)])
  txts : ∀ t, t < x.sn → w.ownsRow W.heap.size 9 1 (.slice (c.mA t) (x.mn t) (c.mc t)) (x.mn t) ((List.range (x.mn t)).flatMap fun u => [.string (x.mg t u)])
def CopyOut (W : World) (x : Sc) : Ending → World → Prop := fun e w' => ∃ c : Ad, e = .returned (.agg (scV x (.slice c.bA x.bn c.bc) (.slice c.sA x.sn c.sc)).toArray) ∧ Copied W x c w'
theorem Copied.of (hC : CS W x ad b1 b2 b3 c x.bn x.sn w) {T : List Nat} (hf : FrT W.heap.size T w w') (hT : 56 ∉ T ∧ 82 ∉ T ∧ 33 ∉ T ∧ 3 ∉ T ∧ 9 ∉ T) : Copied W x c w' :=
  ⟨hC.below.trans (hf.below hC.below.size), hf.row hC.bod hT.1, fun t ht => hf.row (hC.ops t ht) hT.2.1, hf.row hC.stp hT.2.2.1, fun t ht => hf.row (hC.ints t ht) hT.2.2.2.1, fun t ht => hf.row (hC.txts t ht) hT.2.2.2.2⟩
theorem xok_b {B t z g : Nat} {l : List Value} (hz : l.length = z) (h : w.ownsRow B t z (sl1 g) 1 ((List.range 1).flatMap fun _ => l)) : @XOk (rowB6 g l) w := fun r => match r with
  | [] => xrow_val (own_cell hz h).1 (own_cell hz h).2 _
  | _ :: _ => fun j hj => absurd hj (Nat.not_lt_zero _)
set_option maxHeartbeats 2000000 in
/-- The copy is handed back. -/
theorem copy_end (hk : Kp 58 (kpL 5 b1 b2 b3 x.sn) a) (hC : CS W x ad b1 b2 b3 c x.bn x.sn w) : wpL Tryd.prog (postOf cq) (bodyPost Tryd.prog Tryd.f7 (CopyOut W x)) a w := by
  rw [cz_eq]
  show (Code.region 15 cz false).wp Tryd.prog _ a w
  refine wp_region_list ?_
  rw [cz_ops]
  let l := scV x (.slice c.bA x.bn c.bc) (.slice c.sA x.sn c.sc)
  have hr2 := own_new (B := W.heap.size) (l := [.int .i64 0, .int .i64 0, .int .i64 0, .slice none 0 0, .slice none 0 0]) (z := 5) rfl hC.r2.2 hC.r2.1
  have har : @AR (rowB6 b3 l) 58 (fun _ => 0) (pickT [(3, .xp [] 0 0)]) (fun _ => none) a := by
    letI := rowB6 b3 l
    refine hk.ar w fun p hp => ?_
    obtain rfl := List.mem_singleton.1 hp
    exact ⟨by rw [den_b6]; simp, ok_xp.2 Nat.zero_lt_one⟩
  refine @wpList_readsF (rowB6 b3 l) _ _ (fun _ => 0) _ _ _ _ _ _ _ a w [2] (xok_b (z := 5) rfl hC.y3) (t_z0 b3 x _ _ _ _ _ _) (by kernel_rfl) har fun a2 t2 har2 e2 hk2 => ?_
  simp only [List.map_cons, List.map_nil, List.cons.injEq, and_true] at e2
  have x57 : a2.eval (.tmp 57) = .agg l.toArray := @ar_eval (rowB6 b3 l) _ _ _ _ _ har2 _ _ e2
  have x2 : a2.eval (.tmp 2) = .pointer (some ⟨b2, 0 * 5 + 0, none⟩) := (hk2 2 (by simp)).trans (hk.vals (2, pt b2) (by simp))
  obtain ⟨w3, hst, hr3, hg3⟩ := own_splice (P := Tryd.prog) (ty := 38) (t := 0) (o := 0) (x := .agg l.toArray) hr2 (fun _ => rfl) (by omega) (by kernel_rfl) (show 0 + 5 ≤ 5 by decide) (fun y hy => by
    have hy' : y ∈ l := hy
    simp only [l, scV, List.mem_cons, List.not_mem_nil, or_false] at hy'
    rcases hy' with rfl | rfl | rfl | rfl | rfl <;> rfl)
  have hr3' : w3.ownsRow W.heap.size 38 5 (sl1 b2) 1 ((List.range 1).flatMap fun _ => l) := hr3
  refine wpList_store (t := 38) (x := .tmp 2) (y := .tmp 57) (by kernel_rfl) (by kernel_rfl) (by kernel_rfl) x2 x57 hst ?_
  have f3 : FrT W.heap.size [38] w w3 := FrT.own hr2 (Nat.le_refl _) hg3
  show wpL Tryd.prog ((postOf cq).drop 1) _ a2 w3
  rw [cz_ret]
  obtain ⟨h2, hB⟩ := own_cells (z := 5) rfl hr3'
  have hsr : @SR row0 W 58 (fun _ => b2) ((⟨[(2, .ptr 0 0)], [(0, ⟨38, l.map SV.val⟩)]⟩ : Cut).st 1) a2 w3 := by
    letI := row0
    refine epochB (hC.below.trans (f3.below hC.below.size)) (@AR.size (rowB6 b3 l) _ _ _ _ _ har2) (@AR.defers (rowB6 b3 l) _ _ _ _ _ har2) _ _ _ (fun p hp => ?_) (fun p hp => ?_) (fun b k hb => ?_) (fun b b' k1 k2 h1 h2 h3 => ?_) (fun b hb => ?_)
    · obtain rfl := List.mem_singleton.1 hp
      rw [den_ptr]
      exact x2
    · obtain rfl := List.mem_singleton.1 hp
      exact ok_ptr.2 (by rfl)
    · match b, hb with
      | 0, hb =>
        cases hb
        refine ⟨hB, ?_, fun s hs => val_ok row0 l s hs _⟩
        rw [val_map]
        exact h2
      | b + 1, hb => cases hb
    · match b, b', h1, h2 with
      | 0, 0, _, _ => rfl
      | _ + 1, _, h1, _ => cases h1
      | 0, _ + 1, _, h2 => cases h2
    · match b, hb with
      | b + 1, _ => rfl
  have hres : (results Tryd.f7 a2.tmps).run Tryd.prog w3 = .ok (@SV.den row0 (fun _ => b2) (.val (.agg l.toArray))) w3 := by
    letI := row0
    exact (res_sound hsr (t_z1 x _ _ _ _ _ _)).1
  rw [@den_val row0] at hres
  rw [wpL_one]
  exact wp_ret ⟨@AR.defers (rowB6 b3 l) _ _ _ _ _ har2, _, hres, c, rfl, Copied.of hC f3 (by simp)⟩
abbrev ad0 : Ad := { bA := none, bc := 0, oA := fun _ => none, oc := fun _ => 0, sA := none, sc := 0, lA := fun _ => none, lc := fun _ => 0, mA := fun _ => none, mc := fun _ => 0 }
set_option maxHeartbeats 2000000 in
theorem Copy.calls (hX : @XOk (rowsS x ad) W) (hF : Few x (ad 0)) : Calls Tryd.prog 7 #[.agg (scV x (.slice (ad 0).bA x.bn (ad 0).bc) (.slice (ad 0).sA x.sn (ad 0).sc)).toArray] W (CopyOut W x) := by
  letI := rowsS x ad
  have C : Ctx Tryd.prog ext (tab []) (fun w => @XOk (rowsS x ad) w) := ⟨mixed, ext_sound, fun w w' h hb => @XOk.below (rowsS x ad) _ _ h hb, fun w h => h, tab_sound entries_nil⟩
  refine calls_of_wp Tryd.func7 (c := Tryd.f7.body.getD .skip) (by kernel_rfl) ?_
  refine wpL_flat _ ?_
  show wpL Tryd.prog cp _ _ _
  rw [cp_eq, wpL_app]
  have hst := start_sound (fn := Tryd.f7) [scA x 0] (scA_ok x 0 _) W (fun _ => 0)
  have hm : ∀ m : Nat → Nat, (scC x 0).map (SV.den m) = scV x (.slice (ad 0).bA x.bn (ad 0).bc) (.slice (ad 0).sA x.sn (ad 0).sc) := fun m => by
    simp only [List.map_cons, List.map_nil, den_val, den_xs]
    rfl
  simp only [List.map_cons, List.map_nil, den_arr] at hst
  refine piece C.mix C.hX C.hs C.hXO C.hG (t_c0 x ad) (w0 := W) hX hst (fun v hv => by cases hv) (fun ex d hd m a1 w1 hr => ?_)
  cases hd
  obtain ⟨p0, p1, _⟩ := hr.mr.blk 0 _ rfl
  obtain ⟨q0, q1⟩ := SR.own (b := 1) (l := [.int .i64 0, .int .i64 0, .int .i64 0, .slice none 0 0, .slice none 0 0]) (ty := 38) hr rfl
  obtain ⟨r0, r1⟩ := SR.own (b := 2) (l := scV x (.slice none 0 0) (.slice none 0 0)) (ty := 38) hr rfl
  have p1' : w1.heap[m 0]? = some (.cells (scV x (.slice (ad 0).bA x.bn (ad 0).bc) (.slice (ad 0).sA x.sn (ad 0).sc)).toArray 38 (0, 0)) := by
    rw [p1]
    show some (Obj.cells ((scC x 0).map (SV.den m)).toArray 38 (0, 0)) = _
    rw [hm m]
  have hC : CS W x ad (m 0) (m 1) (m 2) ad0 0 0 w1 := ⟨hr.mr.below, own_new (z := 5) rfl p0 p1', own_new (z := 5) rfl r0 r1, ⟨q1, q0⟩, fun e => absurd (hr.mr.inj 0 2 _ _ rfl rfl e) (by decide), fun e => absurd (hr.mr.inj 1 2 _ _ rfl rfl e) (by decide),
    ⟨rfl, .inl ⟨rfl, rfl⟩⟩, fun t ht => absurd ht (Nat.not_lt_zero _), ⟨rfl, .inl ⟨rfl, rfl⟩⟩, fun t ht => absurd ht (Nat.not_lt_zero _), fun t ht => absurd ht (Nat.not_lt_zero _)⟩
  have K1 : Kp 58 (kpL 4 (m 0) (m 1) (m 2) 0) a1 := SR.kp hr fun p hp => by
    simp only [List.mem_cons, List.not_mem_nil, or_false] at hp
    rcases hp with rfl | rfl | rfl | rfl
    · exact ⟨rfl, den_ptr _ _ _⟩
    · exact ⟨rfl, den_ptr _ _ _⟩
    · exact ⟨rfl, den_ptr _ _ _⟩
    · exact ⟨rfl, den_val _ _⟩
  show (Code.block 0 (.loop (roundOf cp))).wp Tryd.prog _ a1 w1
  refine wp_block (wp_loop_rounds (x.bn + 1) ?_)
  refine copy1 hX hF (fun c a w hk hC => ?_) (x.bn + 1) 0 ad0 a1 w1 K1 hC (Nat.zero_le _) (by omega)
  rw [cq_eq, wpL_app]
  refine pieceZ (t_c8 _ _ _ _) (hk.sr w) (fun v hv => by cases hv) (fun ex d hd m2 a2 w2 hr2 => ?_)
  cases hd
  have K2 : Kp 58 (kpL 5 (m 0) (m 1) (m 2) 0) a2 := SR.kp hr2 fun p hp => by
    simp only [List.mem_cons, List.not_mem_nil, or_false] at hp
    rcases hp with rfl | rfl | rfl | rfl <;> exact ⟨rfl, @den_val row0 _ _⟩
  have hC2 := hC.then (@MR.below row0 _ _ _ _ (@SR.mr row0 _ _ _ _ _ _ hr2))
  show (Code.block 2 (.loop (roundOf cq))).wp Tryd.prog _ a2 w2
  refine wp_block (wp_loop_rounds (x.sn + 1) ?_)
  exact copy2 hX hF (fun c a w hk hC => copy_end hk hC) (x.sn + 1) 0 c a2 w2 K2 hC2 (Nat.zero_le _) (by omega)
end
end Go.Proofs.YtlliefodchfpfaaDoor.PDescKinds
end
section
/- cameolaw28.ScriptChecks answers true. -/
set_option linter.unusedSimpArgs false
set_option linter.unusedVariables false
set_option linter.unusedSectionVars false
namespace Go.Proofs.YtlliefodchfpfaaDoor.PDescKinds
open Go.RowKit Go.Ev Go.Proofs.YtlliefodchfpfaaDoorV.PrintLast
set_option maxRecDepth 100000
noncomputable abbrev lc : List Code := bodyOf Tryd.f4
noncomputable abbrev lo : Array Oper := opsOf (lc.getD 1 .skip)
theorem lc_eq : lc = lc.take 1 ++ (.region 1 lo false :: lc.drop 2) := by kernel_rfl
theorem lo_eq : lo.toList = lo.toList.take 1 ++ (lo.toList.getD 1 default :: (lo.toList.drop 2 ++ [])) := by kernel_rfl
theorem t_l0 (x : Sc) (ad : Nat → Ad) : letI := rowsS x ad
    evK Tryd.prog ext TZ 80 34 (seqL (lc.take 1)) (⟨argS [scA x 0], fun _ => none, 0⟩) (grab Tryd.prog Tryd.f4 [1, 2] [0] 1) = some (.cut .normal ⟨[(1, .ptr 0 0), (2, .val (.bool false))], [(0, ⟨38, scC x 0⟩)]⟩) := by kernel_rfl
theorem t_l1 (x : Sc) (ad : Nat → Ad) : letI := rowsS x ad
    evOpsK Tryd.prog ext (callWithK Tryd.prog TZ (evK Tryd.prog ext TZ 80)) lo 34 (lo.toList.take 1) ((⟨[(1, .ptr 0 0), (2, .val (.bool false))], [(0, ⟨38, scC x 0⟩)]⟩ : Cut).st 1) (fun st => cutS [1, 2, 8] [0] 1 st) =
    some ⟨[(1, .ptr 0 0), (2, .val (.bool false)), (8, scA x 0)], [(0, ⟨38, scC x 0⟩)]⟩ := by kernel_rfl
theorem t_l1b (x : Sc) (ad : Nat → Ad) : letI := rowsS x ad
    evOpsK Tryd.prog ext (callWithK Tryd.prog TZ (evK Tryd.prog ext TZ 80)) lo 34 (lo.toList.drop 2) ((⟨[(1, .xp [0] 0 0), (2, .val (.bool false)), (9, scA x 1)], []⟩ : Cut).st 0) (fun st => cutS [1, 2, 3] [0] 1 st) =
    some ⟨[(1, .xp [0] 0 0), (2, .val (.bool false)), (3, .ptr 0 0)], [(0, ⟨38, scC x 1⟩)]⟩ := by kernel_rfl
abbrev bxR (x : Sc) (b : Nat) : XR := ⟨some ⟨b, 0, none⟩, 5, 1, 1, fun _ => scC x 0⟩
theorem t_l2 (x : Sc) (a c : Ad) (b : Nat) : letI := rowsS x (two { a with bx := bxR x b } c)
    evK Tryd.prog ext (tab2 A1L2 (SLt x)) 80 34 (seqL (lc.drop 2)) ((⟨[(1, .xp [0] 0 0), (2, .val (.bool false)), (3, .ptr 0 0)], [(0, ⟨38, scC x 1⟩)]⟩ : Cut).st 1) (grab Tryd.prog Tryd.f4 [] [] 0) =
    (bif decide (x.cap = x.cap) && (decide (x.fuel = x.fuel) && (decide (x.dep = x.dep) && Nat.beq 1 1)) then
     (bif decide (x.cap = x.cap) && (decide (x.fuel = x.fuel) && (decide (x.dep = x.dep) && Nat.beq 0 0)) then
      (bif (S.chk x).fst == (R.chk x).fst then
       (bif (S.chk x).snd == (R.chk x).snd then
        (bif decide (x.cap = x.cap) && (decide (x.fuel = x.fuel) && (decide (x.dep = x.dep) && (Nat.beq 1 1 && (decide (x.cap = x.cap) && (decide (x.fuel = x.fuel) && (decide (x.dep = x.dep) && Nat.beq 0 0)))))) then some (Res.ret (SV.val (Value.bool true))) else none) else some (Res.ret (SV.val (Value.bool false)))) else some (Res.ret (SV.val (Value.bool false)))) else none) else none) := by kernel_rfl
theorem t_l2' (x : Sc) (a c : Ad) (b : Nat) (h : R.chk x = S.chk x) : letI := rowsS x (two { a with bx := bxR x b } c)
    evK Tryd.prog ext (tab2 A1L2 (SLt x)) 80 34 (seqL (lc.drop 2)) ((⟨[(1, .xp [0] 0 0), (2, .val (.bool false)), (3, .ptr 0 0)], [(0, ⟨38, scC x 1⟩)]⟩ : Cut).st 1) (grab Tryd.prog Tryd.f4 [] [] 0) = some (Res.ret (SV.val (Value.bool true))) :=
  (t_l2 x a c b).trans (by rw [h]; simp only [decide_true, beq_self_eq_true, Bool.and_self, cond_true, show Nat.beq 1 1 = true from rfl, show Nat.beq 0 0 = true from rfl])
section
variable {x : Sc} {ad : Nat → Ad} {W : World}
set_option maxHeartbeats 2000000 in
theorem Checks.calls (hT : Tabs W) (hX : @XOk (rowsS x ad) W) (hF : Few x (ad 0)) (hw : ∀ i j, (x.op i j).val.wf ∧ (x.op i j).desc.wf) :
    Calls Tryd.prog 4 #[.agg (scV x (.slice (ad 0).bA x.bn (ad 0).bc) (.slice (ad 0).sA x.sn (ad 0).sc)).toArray] W (fun e w' => e = .returned (.bool true) ∧ Below W.heap.size W w') := by
  letI := rowsS x ad
  have C : Ctx Tryd.prog ext (tab []) (fun w => @XOk (rowsS x ad) w) := ⟨mixed, ext_sound, fun w w' h hb => @XOk.below (rowsS x ad) _ _ h hb, fun w h => h, tab_sound entries_nil⟩
  refine calls_of_wp Tryd.func4 (c := Tryd.f4.body.getD .skip) (by kernel_rfl) ?_
  refine wpL_flat _ ?_
  show wpL Tryd.prog lc _ _ _
  rw [lc_eq, wpL_app]
  have hst := start_sound (fn := Tryd.f4) [scA x 0] (scA_ok x 0 _) W (fun _ => 0)
  have hm : ∀ m : Nat → Nat, (scC x 0).map (SV.den m) = scV x (.slice (ad 0).bA x.bn (ad 0).bc) (.slice (ad 0).sA x.sn (ad 0).sc) := fun m => by
    simp only [List.map_cons, List.map_nil, den_val, den_xs]
    rfl
  simp only [List.map_cons, List.map_nil, den_arr] at hst
  refine piece C.mix C.hX C.hs C.hXO C.hG (t_l0 x ad) (w0 := W) hX hst (fun v hv => by cases hv) (fun ex d hd m a1 w1 hr1 => ?_)
  cases hd
  show (Code.region 1 lo false).wp Tryd.prog _ a1 w1
  refine wp_region_list ?_
  rw [lo_eq]
  refine opsPiece C.mix C.hX C.hs C.hXO C.hG (t_l1 x ad) (w0 := W) hX hr1 fun m2 a2 w2 hr2 => ?_
  have bw2 := hr2.mr.below
  have K2 : Kp 34 [(1, pt (m2 0)), (2, .bool false), (8, .agg (scV x (.slice (ad 0).bA x.bn (ad 0).bc) (.slice (ad 0).sA x.sn (ad 0).sc)).toArray)] a2 := SR.kp hr2 fun p hp => by
    simp only [List.mem_cons, List.not_mem_nil, or_false] at hp
    rcases hp with rfl | rfl | rfl
    · exact ⟨rfl, den_ptr _ _ _⟩
    · exact ⟨rfl, den_val _ _⟩
    · refine ⟨rfl, ?_⟩
      show SV.den m2 (scA x 0) = _
      rw [den_arr, hm]
  obtain ⟨p0, p1, _⟩ := hr2.mr.blk 0 _ rfl
  have p1' : w2.heap[m2 0]? = some (.cells (scV x (.slice (ad 0).bA x.bn (ad 0).bc) (.slice (ad 0).sA x.sn (ad 0).sc)).toArray 38 (0, 0)) := by
    rw [p1]
    show some (Obj.cells ((scC x 0).map (SV.den m2)).toArray 38 (0, 0)) = _
    rw [hm m2]
  have hX2 : @XOk (rowsS x ad) w2 := @XOk.below (rowsS x ad) _ _ hX bw2
  refine wpList_plain (by kernel_rfl) fun K hK => ?_
  refine call_op (f := 7) (xs := #[.tmp 8]) (ats := #[38]) (by kernel_rfl) (by kernel_rfl) (vs := #[.agg (scV x (.slice (ad 0).bA x.bn (ad 0).bc) (.slice (ad 0).sA x.sn (ad 0).sc)).toArray]) ?_ (Copy.calls hX2 hF) (fun e w' ⟨c, he, _⟩ => ⟨_, he⟩) fun v w3 hR => ?_
  · rw [List.map_toArray, List.map_cons, List.map_nil, K2.get (d := 8) (v := .agg (scV x (.slice (ad 0).bA x.bn (ad 0).bc) (.slice (ad 0).sA x.sn (ad 0).sc)).toArray) (by simp)]
  obtain ⟨c0, hv, hcop⟩ := hR
  cases hv
  rw [show (lo.toList.getD 1 default).dst = some 9 by kernel_rfl]
  refine hK _ _ ?_
  have K3 := K2.put (d := 9) (v := .agg (scV x (.slice c0.bA x.bn c0.bc) (.slice c0.sA x.sn c0.sc)).toArray) rfl
  generalize a2.put (some 9) (.agg (scV x (.slice c0.bA x.bn c0.bc) (.slice c0.sA x.sn c0.sc)).toArray) = a3 at K3 ⊢
  have bw3 : Below w2.heap.size w2 w3 := hcop.below
  have bw03 : Below W.heap.size W w3 := bw2.trans (bw3.mono bw2.size)
  let c : Ad := { c0 with bx := ⟨none, 0, 0, 0, fun _ => []⟩ }
  let a' : Nat → Ad := two { ad 0 with bx := bxR x (m2 0) } c
  have hb1 : w3.heap[m2 0]? = some (.cells (scV x (.slice (ad 0).bA x.bn (ad 0).bc) (.slice (ad 0).sA x.sn (ad 0).sc)).toArray 38 (0, 0)) := (bw3.block _ (Array.getElem?_eq_some_iff.1 p1').1).trans p1'
  have hX3 : @XOk (rowsS x a') w3 := by
    refine two_ok (B := w2.heap.size) hF (@XOk.below (rowsS x ad) _ _ hX bw03) (fun e he => ?_) rfl hcop.bod hcop.ops hcop.stp hcop.ints hcop.txts
    obtain ⟨h1, h2⟩ := own_cell (z := 5) (l := scV x (.slice (ad 0).bA x.bn (ad 0).bc) (.slice (ad 0).sA x.sn (ad 0).sc)) rfl (own_new (B := 0) (z := 5) rfl (Nat.zero_le _) hb1)
    subst he
    exact xrow_den (l := scC x 0) (vs := scV x (.slice (ad 0).bA x.bn (ad 0).bc) (.slice (ad 0).sA x.sn (ad 0).sc)) (fun s hs mem => @scC_ok (rowsS x a') x 0 mem s hs) (fun m => by
      simp only [List.map_cons, List.map_nil, @den_val (rowsS x a'), @den_xs (rowsS x a')]
      rfl) h1 h2 (Nat.le_refl _)
  have hI3 : InvS x a' w3 := ⟨tabs_stable _ _ hT bw03, hX3⟩
  have C' := ctxS x a' (l := A1L2) A1ents2 (sSLt x a' hF.fits)
  have C0 : @Ctx (rowsS x a') Tryd.prog ext (tab []) (fun w => @XOk (rowsS x a') w) := by
    letI := rowsS x a'
    exact ⟨mixed, ext_sound, fun w w' h hb => @XOk.below (rowsS x a') _ _ h hb, fun w h => h, tab_sound entries_nil⟩
  have hsr : @SR (rowsS x a') w3 34 (fun _ => 0) ((⟨[(1, .xp [0] 0 0), (2, .val (.bool false)), (9, scA x 1)], []⟩ : Cut).st 0) a3 w3 := by
    letI := rowsS x a'
    refine epoch K3.size K3.defers _ _ (fun p hp => ?_) (fun p hp => ?_)
    · simp only [List.mem_cons, List.not_mem_nil, or_false] at hp
      rcases hp with rfl | rfl | rfl
      · rw [den_xp]
        refine (K3.vals (1, pt (m2 0)) (by simp)).trans ?_
        show pt (m2 0) = Value.pointer (some ((⟨m2 0, 0, none⟩ : Addr).add (0 * 5 + 0)))
        rw [Nat.zero_mul, add_none]
      · rw [den_val]
        exact K3.vals (2, .bool false) (by simp)
      · refine (K3.vals (9, .agg (scV x (.slice c0.bA x.bn c0.bc) (.slice c0.sA x.sn c0.sc)).toArray) (by simp)).trans ?_
        rw [den_arr]
        simp only [List.map_cons, List.map_nil, den_val, den_xs]
        rfl
    · simp only [List.mem_cons, List.not_mem_nil, or_false] at hp
      rcases hp with rfl | rfl | rfl
      · exact ok_xp.2 Nat.zero_lt_one
      · exact ok_val _ _
      · exact ok_arr.2 (scC_ok x 1 _)
  clear hst hr1 hr2
  letI := rowsS x a'
  refine opsPiece C0.mix C0.hX C0.hs C0.hXO C0.hG (t_l1b x a') (w0 := w3) hX3 hsr fun m4 a4 w4 hr4 => ?_
  show wpL Tryd.prog (lc.drop 2) _ a4 w4
  refine piece C'.mix C'.hX C'.hs C'.hXO C'.hG (t_l2' x (ad 0) c (m2 0) (chk_eq hw)) (w0 := w3) hI3 hr4 (fun v hv m a5 w5 hd hres hb => ?_) (fun ex d hd => by cases hd)
  cases hv
  rw [den_val] at hres
  exact ⟨hd, _, hres, rfl, bw03.trans (hb.mono bw03.size)⟩
end
end Go.Proofs.YtlliefodchfpfaaDoor.PDescKinds
end
section
/- cameolaw27.DriverSounds: the law's run; steps that come in. -/
set_option linter.unusedSimpArgs false
set_option linter.unusedVariables false
set_option linter.unusedSectionVars false
namespace Go.Proofs.YtlliefodchfpfaaDoor.PDescKinds
open Go.ChangeShapes Go.WideShapes Go.ChangeAt Go.RowKit Go.Lib Go.Ev
set_option maxRecDepth 100000
theorem add_block (a : Addr) (k : Nat) : (a.add k).block = a.block := by unfold Addr.add; split <;> rfl
/-- A step's cells as_ values. -/
def V.list (v : V) : List Value := [.int .i64 v.k, .bool v.b, .float .f64 v.n, .string v.s, .int .i64 v.id]
def D.list (d : D) : List Value := d.v.list ++ (d.g.list ++ (d.t.list ++ [.int .i64 d.w, .int .i64 d.e, .int .i64 d.c]))
section
variable {H : Type} {enc : TypeId × Value → H} {P : Program} {w : World} {base : Nat} {spare : Nat → Bool} {held : Bool} {fuel : Nat} {t : TypeId} {cs : List Value} {x : DataW H × List MemPlace}
theorem read_int {k : IntKind} (ht : P.underlying t = some (.int k)) (h : DataW.trod enc P w base spare held fuel t cs = some x) : ∃ n, cs = [.int k n] := by
  obtain ⟨n, h, _⟩ := DataW.trod_int ht h
  exact ⟨n, h⟩
theorem read_bool (ht : P.underlying t = some .bool) (h : DataW.trod enc P w base spare held fuel t cs = some x) : ∃ b, cs = [.bool b] := by
  cases fuel with
  | zero => simp [DataW.trod] at h
  | succ n =>
    rw [DataW.trod.eq_def] at h
    simp only [ht] at h
    split at h <;> first | (simp_all; done) | exact ⟨_, rfl⟩
theorem read_f64 (ht : P.underlying t = some (.float .f64)) (h : DataW.trod enc P w base spare held fuel t cs = some x) : ∃ b, cs = [.float .f64 b] ∧ b < 18446744073709551616 := by
  cases fuel with
  | zero => simp [DataW.trod] at h
  | succ n =>
    rw [DataW.trod.eq_def] at h
    simp only [ht] at h
    split at h <;> first | (simp at *; done) | skip
    rename_i k1 k2 b' e1
    simp only [Option.some.injEq, TypeDesc.float.injEq] at e1
    subst e1
    split at h
    · rename_i hc
      obtain ⟨rfl, hw⟩ := hc
      exact ⟨b', rfl, of_decide_eq_true hw⟩
    · cases h
theorem read_string (ht : P.underlying t = some .string) (h : DataW.trod enc P w base spare held fuel t cs = some x) : ∃ s, cs = [.string s] ∧ s.size ≤ maxLen := by
  cases fuel with
  | zero => simp [DataW.trod] at h
  | succ n =>
    rw [DataW.trod.eq_def] at h
    simp only [ht] at h
    split at h <;> first | (simp_all; done) | skip
end
section
variable {H : Type} {enc : TypeId × Value → H} {w : World} {base : Nat} {spare : Nat → Bool} {held : Bool} {fuel : Nat} {cs : List Value} {x : DataW H × List MemPlace}
theorem cells3 : Tryd.prog.cellsOf 3 = 1 := by kernel_rfl
theorem cells4 : Tryd.prog.cellsOf 4 = 1 := by kernel_rfl
theorem cells9 : Tryd.prog.cellsOf 9 = 1 := by kernel_rfl
theorem cells24 : Tryd.prog.cellsOf 24 = 1 := by kernel_rfl
theorem cells23 : Tryd.prog.cellsOf 23 = 2 := by kernel_rfl
theorem cells26 : Tryd.prog.cellsOf 26 = 5 := by kernel_rfl
theorem cells27 : Tryd.prog.cellsOf 27 = 1 := by kernel_rfl
theorem cells29 : Tryd.prog.cellsOf 29 = 18 := by kernel_rfl
theorem cells30 : Tryd.prog.cellsOf 30 = 1 := by kernel_rfl
theorem cells31 : Tryd.prog.cellsOf 31 = 1 := by kernel_rfl
theorem cells33 : Tryd.prog.cellsOf 33 = 37 := by kernel_rfl
theorem read_V (h : DataW.trod enc Tryd.prog w base spare held fuel 26 cs = some x) : ∃ v : V, cs = v.list ∧ v.wf := by
  obtain ⟨xs, n, _, _, hl, hn, hf⟩ := DataW.trod_struct Tryd.underlying26 h
  rw [cells26] at hl
  match cs, hl, xs, hn with
  | [c0, c1, c2, c3, c4], _, [y0, y1, y2, y3, y4], _ =>
    have h0 := hf 0 ⟨"Kind", 3, 0, false, "", "", 0⟩ rfl
    have h1 := hf 1 ⟨"Bool", 4, 1, false, "", "", 8⟩ rfl
    have h2 := hf 2 ⟨"Num", 24, 2, false, "", "", 16⟩ rfl
    have h3 := hf 3 ⟨"Str", 9, 3, false, "", "", 24⟩ rfl
    have h4 := hf 4 ⟨"Id", 3, 4, false, "", "", 40⟩ rfl
    simp only [cells3, cells4, cells9, cells24, List.drop_succ_cons, List.drop_zero, List.take_succ_cons, List.take_zero] at h0 h1 h2 h3 h4
    obtain ⟨v0, e0⟩ := read_int Tryd.underlying3 h0
    obtain ⟨v1, e1⟩ := read_bool Tryd.underlying4 h1
    obtain ⟨v2, e2, w2⟩ := read_f64 Tryd.underlying24 h2
    obtain ⟨v3, e3, _⟩ := read_string Tryd.underlying9 h3
    obtain ⟨v4, e4⟩ := read_int Tryd.underlying3 h4
    cases e0; cases e1; cases e2; cases e3; cases e4
    exact ⟨⟨v0, v1, v2, v3, v4⟩, rfl, w2⟩
theorem read_D (h : DataW.trod enc Tryd.prog w base spare held fuel 29 cs = some x) : ∃ d : D, cs = d.list ∧ d.wf := by
  obtain ⟨xs, n, _, _, hl, hn, hf⟩ := DataW.trod_struct Tryd.underlying29 h
  rw [cells29] at hl
  match cs, hl, xs, hn with
  | [c0, c1, c2, c3, c4, c5, c6, c7, c8, c9, c10, c11, c12, c13, c14, c15, c16, c17], _, [y0, y1, y2, y3, y4, y5], _ =>
    have h0 := hf 0 ⟨"Value", 26, 0, false, "", "", 0⟩ rfl
    have h1 := hf 1 ⟨"Get", 26, 5, false, "", "", 48⟩ rfl
    have h2 := hf 2 ⟨"Set", 26, 10, false, "", "", 96⟩ rfl
    have h3 := hf 3 ⟨"Writable", 27, 15, false, "", "", 144⟩ rfl
    have h4 := hf 4 ⟨"Enumerable", 27, 16, false, "", "", 152⟩ rfl
    have h5 := hf 5 ⟨"Configurable", 27, 17, false, "", "", 160⟩ rfl
    simp only [cells26, cells27, List.drop_succ_cons, List.drop_zero, List.take_succ_cons, List.take_zero] at h0 h1 h2 h3 h4 h5
    obtain ⟨v0, e0, w0⟩ := read_V h0
    obtain ⟨v1, e1, w1⟩ := read_V h1
    obtain ⟨v2, e2, w2⟩ := read_V h2
    obtain ⟨v3, e3⟩ := read_int Tryd.underlying27 h3
    obtain ⟨v4, e4⟩ := read_int Tryd.underlying27 h4
    obtain ⟨v5, e5⟩ := read_int Tryd.underlying27 h5
    unfold V.list at e0 e1 e2
    cases e0; cases e1; cases e2; cases e3; cases e4; cases e5
    exact ⟨⟨v0, v1, v2, v3, v4, v5⟩, rfl, w0, w1, w2⟩
theorem read_K (h : DataW.trod enc Tryd.prog w base spare held fuel 23 cs = some x) : ∃ k : K, cs = [.string k.s, .int .i64 k.n] := by
  obtain ⟨xs, n, _, _, hl, hn, hf⟩ := DataW.trod_struct Tryd.underlying23 h
  rw [cells23] at hl
  match cs, hl, xs, hn with
  | [c0, c1], _, [y0, y1], _ =>
    have h0 := hf 0 ⟨"Str", 9, 0, false, "", "", 0⟩ rfl
    have h1 := hf 1 ⟨"Sym", 3, 1, false, "", "", 16⟩ rfl
    simp only [cells3, cells9, List.drop_succ_cons, List.drop_zero, List.take_succ_cons, List.take_zero] at h0 h1
    obtain ⟨v0, e0, _⟩ := read_string Tryd.underlying9 h0
    obtain ⟨v1, e1⟩ := read_int Tryd.underlying3 h1
    cases e0; cases e1
    exact ⟨⟨v0, v1⟩, rfl⟩
end
theorem own : ownKnob Tryd.prog.godebug = none := by kernel_rfl
theorem laidOut : laidOutB Tryd.prog = true := by kernel_rfl
theorem accept_eq : Rows.laid_unicode_utf8_acceptRanges = Lib.acceptData := by kernel_rfl
theorem first_eq : Rows.laid_unicode_utf8_first = Lib.firstData := by kernel_rfl
theorem u8extra : U8Extra Tryd.prog Tryd.lays260_ren := ⟨by kernel_rfl, by kernel_rfl, by kernel_rfl, by kernel_rfl, by kernel_rfl, by kernel_rfl, by kernel_rfl⟩
/-- What the rows' list gives. -/
theorem tabs_of {W : World} (h : laidMetH Tryd.prog [("unicode/utf8.acceptRanges", Rows.laid_unicode_utf8_acceptRanges), ("unicode/utf8.first", Rows.laid_unicode_utf8_first)] W) : Tabs W := by
  rw [accept_eq, first_eq] at h
  exact utf8Tabs_of_readsT (U8Types.of260 Tryd.lays260) u8extra (Lib.laidMet.reads h (.tail _ (.head _))) (Lib.laidMet.reads h (.head _))
/-- A world in which both tables hold what their initialisers lay. -/
noncomputable def laidWorld (os : Os) : World :=
  let w0 := World.holding Tryd.prog os ⟨#[], #[], []⟩
  let put (h : Array Obj) (g : Nat) (cs : Array Value) : Array Obj := h.modify g fun
    | .cells _ t frozen => .cells cs t frozen
    | o => o
  let h1 := put w0.heap 1 (Lib.firstTab.map fun z => Value.int .u8 z).toArray
  let h2 := put h1 2 ((List.range 16).flatMap fun i => [Value.int .u8 (Lib.accLo i), Value.int .u8 (Lib.accHi i)]).toArray
  { w0 with heap := h2 }
theorem laid_met (os : Os) (args : Array Value) : laidMet Tryd.prog [("unicode/utf8.acceptRanges", Rows.laid_unicode_utf8_acceptRanges), ("unicode/utf8.first", Rows.laid_unicode_utf8_first)] ((laidWorld os).forCall (fun _ _ => 0) ⟨#[], args, []⟩).memory := by
  rw [accept_eq, first_eq]
  exact (LaidIn.of_run (l := [("unicode/utf8.acceptRanges", Lib.acceptData), ("unicode/utf8.first", Lib.firstData)]) [2, 1] 8 (by kernel_rfl) (by kernel_rfl) (by kernel_rfl) (by kernel_rfl)).met
end Go.Proofs.YtlliefodchfpfaaDoor.PDescKinds
end
section
/- Scripts that come in: what they read as_. -/
set_option linter.unusedSimpArgs false
set_option linter.unusedVariables false
set_option linter.unusedSectionVars false
namespace Go.Proofs.YtlliefodchfpfaaDoor.PDescKinds
open Go.ChangeShapes Go.WideShapes Go.ChangeAt Go.RowKit Go.Lib Go.Ev
set_option maxRecDepth 100000
section
variable {H : Type}
theorem bulk_pos (d : DataW H) : 1 ≤ Rows.uptoBulk d := by
  cases d with
  | lit l => cases l <;> simp [Rows.uptoBulk]
  | _ => simp [Rows.uptoBulk]
theorem bulk_mem {d : DataW H} : ∀ {l : List (DataW H)}, d ∈ l → Rows.uptoBulk d ≤ Rows.uptoBulkAll l
  | x :: r, h => by
    simp only [Rows.uptoBulkAll]
    rcases List.mem_cons.1 h with rfl | h
    · omega
    · have := bulk_mem h
      omega
theorem bulk_len : ∀ (l : List (DataW H)), l.length ≤ Rows.uptoBulkAll l
  | [] => Nat.zero_le _
  | x :: r => by
    simp only [Rows.uptoBulkAll, List.length_cons]
    have := bulk_len r
    have := bulk_pos x
    omega
end
theorem cells82 : Tryd.prog.cellsOf 82 = 32 := by kernel_rfl
theorem cells56 : Tryd.prog.cellsOf 56 = 1 := by kernel_rfl
theorem cells35 : Tryd.prog.cellsOf 35 = 1 := by kernel_rfl
theorem cells36 : Tryd.prog.cellsOf 36 = 1 := by kernel_rfl
theorem cells38 : Tryd.prog.cellsOf 38 = 5 := by kernel_rfl
/-- Rows as_ the world has them. -/
def Raw {T : Type} (w : World) (sz : Nat) (lst : T → List Value) (A : Option Addr) (n : Nat) (g : Nat → T) : Prop := ∀ i, i < n → ∃ a : Addr, A = some a ∧ a.block < w.heap.size ∧ ∀ k v, (lst (g i))[k]? = some v → w.cell? (a.add (i * sz + k)) = some v
theorem Raw.x {T : Type} {w : World} {sz : Nat} {lst : T → List Value} {A : Option Addr} {n c : Nat} {g : Nat → T} (h : Raw w sz lst A n g) {e : XEnv} {G : Nat → List SV} (hz : ∀ j, (lst (g j)).length = sz) (hg : ∀ j, j < n → ∀ m, (G j).map (@SV.den e m) = lst (g j)) (hok : ∀ j, ∀ s ∈ G j, ∀ mem, @SV.ok e mem s) : @XRow e w ⟨A, sz, n, c, G⟩ := by
  intro j hj
  have hj : j < n := hj
  obtain ⟨a, h1, h2, h3⟩ := h j hj
  refine ⟨?_, hok j, a, h1, h2, fun k s hk m => ?_⟩
  · rw [← hz j, ← hg j hj fun _ => 0, List.length_map]
  · have hk : (G j)[k]? = some s := hk
    refine h3 k _ ?_
    rw [← hg j hj m, List.getElem?_map, hk]
    rfl
section
variable {H : Type} {enc : TypeId × Value → H} {w : World} {base : Nat} {spare : Nat → Bool} {held : Bool} {fuel : Nat} {cs : List Value} {x : DataW H × List MemPlace}
theorem read_list {t e sz : Nat} (ht : Tryd.prog.underlying t = some (.slice e)) (hc : Tryd.prog.cellsOf e = sz) (hsz : 0 < sz) {T : Type} (lst : T → List Value) (ok : T → Nat → Prop) (t0 : T) (ok0 : ∀ b, ok t0 b) (okm : ∀ z a b, ok z a → a ≤ b → ok z b)
    (rd : ∀ {fuel : Nat} {cs : List Value} {x : DataW H × List MemPlace}, DataW.trod enc Tryd.prog w base spare held fuel e cs = some x → ∃ z : T, cs = lst z ∧ ok z (Rows.uptoBulk x.1)) (h : DataW.trod enc Tryd.prog w base spare held fuel t cs = some x) :
    ∃ (A : Option Addr) (n c : Nat) (g : Nat → T), cs = [.slice A n c] ∧ n ≤ Rows.uptoBulk x.1 ∧ (A = none → n = 0 ∧ c = 0) ∧ (∀ i, ok (g i) (Rows.uptoBulk x.1)) ∧ (∀ i, n ≤ i → g i = t0) ∧ Raw w sz lst A n g := by
  rcases DataW.trod_slice ht h with ⟨rfl, _⟩ | ⟨a', len, cap, elems, rest, n, rfl, rfl, hx, hb, hlc, hcm, hel, hall, _, _⟩
  · exact ⟨none, 0, 0, fun _ => t0, rfl, Nat.zero_le _, fun _ => ⟨rfl, rfl⟩, fun _ => ok0 _, fun _ _ => rfl, fun i hi => absurd hi (Nat.not_lt_zero _)⟩
  · have hbulk : Rows.uptoBulkAll (elems.map (·.1)) ≤ Rows.uptoBulk x.1 := by
      rw [hx]
      simp only [Rows.uptoBulk]
      omega
    have key : ∀ j, ∃ z : T, ok z (Rows.uptoBulk x.1) ∧ (len ≤ j → z = t0) ∧ (j < len → a'.block < w.heap.size ∧ ∀ k v, (lst z)[k]? = some v → w.cell? (a'.add (j * sz + k)) = some v) := by
      intro j
      by_cases hj : j < len
      · have h1 := hall j hj
        have hj' : j < elems.length := by rw [hel]; exact hj
        obtain ⟨e, he⟩ : ∃ e, elems[j]? = some e := ⟨elems[j]'hj', List.getElem?_eq_getElem hj'⟩
        rw [he, hc] at h1
        obtain ⟨cs, hcs, htr⟩ := Option.bind_eq_some_iff.1 h1
        obtain ⟨z, rfl, hz⟩ := rd htr
        have hm : Rows.uptoBulk e.1 ≤ Rows.uptoBulkAll (elems.map (·.1)) := bulk_mem (List.mem_map.2 ⟨e, List.mem_of_getElem? he, rfl⟩)
        refine ⟨z, okm _ _ _ hz (by omega), fun h => absurd hj (by omega), fun _ => ⟨add_block a' (j * sz) ▸ World.cells?_block hcs hsz, fun k v hk => ?_⟩⟩
        obtain ⟨_, hl, hce⟩ := World.cells?_some hcs
        have hkz : k < sz := by
          rw [← hl]
          exact (List.getElem?_eq_some_iff.1 hk).1
        have := hce k hkz
        rw [hk, Go.Ev.add_add] at this
        exact this
      · exact ⟨t0, ok0 _, fun _ => rfl, fun h => absurd h hj⟩
    obtain ⟨g, hg⟩ := Classical.axiomOfChoice key
    refine ⟨some a', len, cap, g, rfl, ?_, fun h => (by cases h), fun i => (hg i).1, fun i => (hg i).2.1, fun i hi => ?_⟩
    · have := bulk_len (elems.map (·.1))
      rw [List.length_map, hel] at this
      omega
    · obtain ⟨hbl, hgc⟩ := (hg i).2.2 hi
      exact ⟨a', rfl, hbl, hgc⟩
def V0 : V := ⟨0, false, 0, ⟨#[]⟩, 0⟩
def D00 : D := ⟨V0, V0, V0, 0, 0, 0⟩
theorem V0wf : V0.wf := by show 0 < _; omega
theorem D00wf : D00.wf := ⟨V0wf, V0wf, V0wf⟩
def Opr0 : Opr := ⟨0, 0, 0, 0, 0, ⟨⟨#[]⟩, 0⟩, V0, D00, false, false⟩
theorem read_O (h : DataW.trod enc Tryd.prog w base spare held fuel 82 cs = some x) : ∃ o : Opr, cs = o.list ∧ (o.val.wf ∧ o.desc.wf) := by
  obtain ⟨xs, n, _, _, hl, hn, hf⟩ := DataW.trod_struct Tryd.underlying82 h
  rw [cells82] at hl
  match cs, hl, xs, hn with
  | c0 :: c1 :: c2 :: c3 :: c4 :: c5 :: c6 :: c7 :: c8 :: c9 :: c10 :: c11 :: c12 :: c13 :: c14 :: c15 :: c16 :: c17 :: c18 :: c19 :: c20 :: c21 :: c22 :: c23 :: c24 :: c25 :: c26 :: c27 :: c28 :: c29 :: c30 :: [c31], _, [y0, y1, y2, y3, y4, y5, y6, y7, y8, y9], _ =>
    have h0 := hf 0 ⟨"Code", 3, 0, false, "", "", 0⟩ rfl
    have h1 := hf 1 ⟨"To", 3, 1, false, "", "", 8⟩ rfl
    have h2 := hf 2 ⟨"A", 3, 2, false, "", "", 16⟩ rfl
    have h3 := hf 3 ⟨"B", 3, 3, false, "", "", 24⟩ rfl
    have h4 := hf 4 ⟨"C", 3, 4, false, "", "", 32⟩ rfl
    have h5 := hf 5 ⟨"Key", 23, 5, false, "", "", 40⟩ rfl
    have h6 := hf 6 ⟨"Val", 26, 7, false, "", "", 64⟩ rfl
    have h7 := hf 7 ⟨"Desc", 29, 12, false, "", "", 112⟩ rfl
    have h8 := hf 8 ⟨"Flag", 4, 30, false, "", "", 280⟩ rfl
    have h9 := hf 9 ⟨"Catch", 4, 31, false, "", "", 281⟩ rfl
    simp only [cells3, cells4, cells9, cells23, cells26, cells29, List.drop_succ_cons, List.drop_zero, List.take_succ_cons, List.take_zero] at h0 h1 h2 h3 h4 h5 h6 h7 h8 h9
    obtain ⟨v0, e0⟩ := read_int Tryd.underlying3 h0
    obtain ⟨v1, e1⟩ := read_int Tryd.underlying3 h1
    obtain ⟨v2, e2⟩ := read_int Tryd.underlying3 h2
    obtain ⟨v3, e3⟩ := read_int Tryd.underlying3 h3
    obtain ⟨v4, e4⟩ := read_int Tryd.underlying3 h4
    obtain ⟨v5, e5⟩ := read_K h5
    obtain ⟨v6, e6, w6⟩ := read_V h6
    obtain ⟨v7, e7, w7⟩ := read_D h7
    obtain ⟨v8, e8⟩ := read_bool Tryd.underlying4 h8
    obtain ⟨v9, e9⟩ := read_bool Tryd.underlying4 h9
    refine ⟨⟨v0, v1, v2, v3, v4, v5, v6, v7, v8, v9⟩, ?_, w6, w7⟩
    unfold V.list at e6
    unfold D.list V.list at e7
    simp only [List.cons_append, List.nil_append, List.cons.injEq, and_true] at e0 e1 e2 e3 e4 e5 e6 e7 e8 e9
    obtain ⟨f0, f1⟩ := e5
    obtain ⟨g0, g1, g2, g3, g4⟩ := e6
    obtain ⟨d0, d1, d2, d3, d4, d5, d6, d7, d8, d9, d10, d11, d12, d13, d14, d15, d16, d17⟩ := e7
    subst e0 e1 e2 e3 e4 f0 f1 g0 g1 g2 g3 g4 d0 d1 d2 d3 d4 d5 d6 d7 d8 d9 d10 d11 d12 d13 d14 d15 d16 d17 e8 e9
    rfl
/-- A slice of something, as_ the world has it. -/
structure Row (T : Type) where
  A : Option Addr
  n : Nat
  c : Nat
  g : Nat → T
def Row.v {T : Type} (r : Row T) : Value := .slice r.A r.n r.c
structure Row.Ok {T : Type} (w : World) (sz : Nat) (lst : T → List Value) (t0 : T) (ok : T → Prop) (r : Row T) (b : Nat) : Prop where
  le : r.n ≤ b
  nil : r.A = none → r.n = 0 ∧ r.c = 0
  ok : ∀ i, ok (r.g i)
  out : ∀ i, r.n ≤ i → r.g i = t0
  raw : Raw w sz lst r.A r.n r.g
theorem Row.Ok.mono {T : Type} {sz : Nat} {lst : T → List Value} {t0 : T} {ok : T → Prop} {r : Row T} {a b : Nat} (h : r.Ok w sz lst t0 ok a) (hab : a ≤ b) : r.Ok w sz lst t0 ok b := ⟨Nat.le_trans h.le hab, h.nil, h.ok, h.out, h.raw⟩
abbrev rowZ {T : Type} (t : T) : Row T := ⟨none, 0, 0, fun _ => t⟩
theorem rowZ_ok {T : Type} {sz : Nat} {lst : T → List Value} {t0 : T} {ok : T → Prop} {b : Nat} (h : ok t0) : (rowZ t0).Ok w sz lst t0 ok b := ⟨Nat.zero_le _, fun _ => ⟨rfl, rfl⟩, fun _ => h, fun _ _ => rfl, fun i hi => absurd hi (Nat.not_lt_zero _)⟩
abbrev lsI (z : Int) : List Value := [.int .i64 z]
abbrev lsT (z : ByteArray) : List Value := [.string z]
abbrev OksO (w : World) (r : Row Opr) (b : Nat) : Prop := r.Ok w 32 Opr.list Opr0 (fun o => o.val.wf ∧ o.desc.wf) b
abbrev OksI (w : World) (r : Row Int) (b : Nat) : Prop := r.Ok w 1 lsI 0 (fun _ => True) b
abbrev OksT (w : World) (r : Row ByteArray) (b : Nat) : Prop := r.Ok w 1 lsT ⟨#[]⟩ (fun _ => True) b
theorem read_Os (h : DataW.trod enc Tryd.prog w base spare held fuel 56 cs = some x) : ∃ r : Row Opr, cs = [r.v] ∧ OksO w r (Rows.uptoBulk x.1) := by
  obtain ⟨A, n, c, g, h1, h2, h3, h4, h5, h6⟩ := read_list Tryd.underlying56 cells82 (by decide) Opr.list (fun o _ => o.val.wf ∧ o.desc.wf) Opr0 (fun _ => ⟨V0wf, D00wf⟩) (fun _ _ _ h _ => h) (fun h => read_O h) h
  exact ⟨⟨A, n, c, g⟩, h1, h2, h3, h4, h5, h6⟩
theorem read_Is (h : DataW.trod enc Tryd.prog w base spare held fuel 30 cs = some x) : ∃ r : Row Int, cs = [r.v] ∧ OksI w r (Rows.uptoBulk x.1) := by
  obtain ⟨A, n, c, g, h1, h2, h3, h4, h5, h6⟩ := read_list Tryd.underlying30 cells3 (by decide) lsI (fun _ _ => True) 0 (fun _ => trivial) (fun _ _ _ h _ => h) (fun h => (read_int Tryd.underlying3 h).imp fun z hz => ⟨hz, trivial⟩) h
  exact ⟨⟨A, n, c, g⟩, h1, h2, h3, h4, h5, h6⟩
theorem read_Ts (h : DataW.trod enc Tryd.prog w base spare held fuel 31 cs = some x) : ∃ r : Row ByteArray, cs = [r.v] ∧ OksT w r (Rows.uptoBulk x.1) := by
  obtain ⟨A, n, c, g, h1, h2, h3, h4, h5, h6⟩ := read_list Tryd.underlying31 cells9 (by decide) lsT (fun _ _ => True) ⟨#[]⟩ (fun _ => trivial) (fun _ _ _ h _ => h) (fun h => (read_string Tryd.underlying9 h).imp fun z hz => ⟨hz.1, trivial⟩) h
  exact ⟨⟨A, n, c, g⟩, h1, h2, h3, h4, h5, h6⟩
theorem read_Bs (h : DataW.trod enc Tryd.prog w base spare held fuel 35 cs = some x) : ∃ r : Row (Row Opr), cs = [r.v] ∧ r.Ok w 1 (fun z => [z.v]) (rowZ Opr0) (fun z => OksO w z (Rows.uptoBulk x.1)) (Rows.uptoBulk x.1) := by
  obtain ⟨A, n, c, g, h1, h2, h3, h4, h5, h6⟩ := read_list Tryd.underlying35 cells56 (by decide) (fun z : Row Opr => [z.v]) (fun z b => OksO w z b) (rowZ Opr0) (fun _ => rowZ_ok ⟨V0wf, D00wf⟩) (fun _ _ _ h hab => h.mono hab) (fun h => read_Os h) h
  exact ⟨⟨A, n, c, g⟩, h1, h2, h3, h4, h5, h6⟩
/-- A step that came in. -/
structure RStp where
  s : Stp
  l : Row Int
  q : Row ByteArray
def RStp.list (z : RStp) : List Value := z.s.cv z.l.v z.q.v
def Stp0 : Stp := ⟨0, 0, 0, 0, 0, 0, 0, 0, ⟨⟨#[]⟩, 0⟩, V0, D00, ⟨#[]⟩, none, 0, 0, false⟩
theorem read_St (h : DataW.trod enc Tryd.prog w base spare held fuel 33 cs = some x) : ∃ z : RStp, cs = z.list ∧ (OksI w z.l (Rows.uptoBulk x.1) ∧ OksT w z.q (Rows.uptoBulk x.1)) := by
  obtain ⟨xs, n, _, hx, hl, hn, hf⟩ := DataW.trod_struct Tryd.underlying33 h
  rw [cells33] at hl
  match cs, hl, xs, hn with
  | c0 :: c1 :: c2 :: c3 :: c4 :: c5 :: c6 :: c7 :: c8 :: c9 :: c10 :: c11 :: c12 :: c13 :: c14 :: c15 :: c16 :: c17 :: c18 :: c19 :: c20 :: c21 :: c22 :: c23 :: c24 :: c25 :: c26 :: c27 :: c28 :: c29 :: c30 :: c31 :: c32 :: c33 :: c34 :: c35 :: [c36], _, [y0, y1, y2, y3, y4, y5, y6, y7, y8, y9, y10, y11, y12, y13, y14], _ =>
    have h0 := hf 0 ⟨"Code", 3, 0, false, "", "", 0⟩ rfl
    have h1 := hf 1 ⟨"To", 3, 1, false, "", "", 8⟩ rfl
    have h2 := hf 2 ⟨"A", 3, 2, false, "", "", 16⟩ rfl
    have h3 := hf 3 ⟨"B", 3, 3, false, "", "", 24⟩ rfl
    have h4 := hf 4 ⟨"C", 3, 4, false, "", "", 32⟩ rfl
    have h5 := hf 5 ⟨"N", 3, 5, false, "", "", 40⟩ rfl
    have h6 := hf 6 ⟨"M", 3, 6, false, "", "", 48⟩ rfl
    have h7 := hf 7 ⟨"P", 3, 7, false, "", "", 56⟩ rfl
    have h8 := hf 8 ⟨"Key", 23, 8, false, "", "", 64⟩ rfl
    have h9 := hf 9 ⟨"Val", 26, 10, false, "", "", 88⟩ rfl
    have h10 := hf 10 ⟨"Desc", 29, 15, false, "", "", 136⟩ rfl
    have h11 := hf 11 ⟨"L", 30, 33, false, "", "", 304⟩ rfl
    have h12 := hf 12 ⟨"S", 9, 34, false, "", "", 328⟩ rfl
    have h13 := hf 13 ⟨"Names", 31, 35, false, "", "", 344⟩ rfl
    have h14 := hf 14 ⟨"Flag", 4, 36, false, "", "", 368⟩ rfl
    simp only [cells3, cells4, cells9, cells23, cells26, cells29, cells30, cells31, List.drop_succ_cons, List.drop_zero, List.take_succ_cons, List.take_zero] at h0 h1 h2 h3 h4 h5 h6 h7 h8 h9 h10 h11 h12 h13 h14
    obtain ⟨v0, e0⟩ := read_int Tryd.underlying3 h0
    obtain ⟨v1, e1⟩ := read_int Tryd.underlying3 h1
    obtain ⟨v2, e2⟩ := read_int Tryd.underlying3 h2
    obtain ⟨v3, e3⟩ := read_int Tryd.underlying3 h3
    obtain ⟨v4, e4⟩ := read_int Tryd.underlying3 h4
    obtain ⟨v5, e5⟩ := read_int Tryd.underlying3 h5
    obtain ⟨v6, e6⟩ := read_int Tryd.underlying3 h6
    obtain ⟨v7, e7⟩ := read_int Tryd.underlying3 h7
    obtain ⟨v8, e8⟩ := read_K h8
    obtain ⟨v9, e9, w9⟩ := read_V h9
    obtain ⟨v10, e10, w10⟩ := read_D h10
    obtain ⟨v11, e11, w11⟩ := read_Is (x := y11) h11
    obtain ⟨v12, e12, _⟩ := read_string Tryd.underlying9 h12
    obtain ⟨v13, e13, w13⟩ := read_Ts (x := y13) h13
    obtain ⟨v14, e14⟩ := read_bool Tryd.underlying4 h14
    refine ⟨⟨⟨v0, v1, v2, v3, v4, v5, v6, v7, v8, v9, v10, v12, none, 0, 0, v14⟩, v11, v13⟩, ?_, w11.mono ?_, w13.mono ?_⟩
    · unfold V.list at e9
      unfold D.list V.list at e10
      simp only [List.cons_append, List.nil_append, List.cons.injEq, and_true] at e0 e1 e2 e3 e4 e5 e6 e7 e8 e9 e10 e11 e12 e13 e14
      obtain ⟨f0, f1⟩ := e8
      obtain ⟨g0, g1, g2, g3, g4⟩ := e9
      obtain ⟨d0, d1, d2, d3, d4, d5, d6, d7, d8, d9, d10, d11, d12, d13, d14, d15, d16, d17⟩ := e10
      subst e0 e1 e2 e3 e4 e5 e6 e7 f0 f1 g0 g1 g2 g3 g4 d0 d1 d2 d3 d4 d5 d6 d7 d8 d9 d10 d11 d12 d13 d14 d15 d16 d17 e11 e12 e13 e14
      rfl
    · subst hx
      simp only [Rows.uptoBulk, List.map_cons, List.map_nil, Rows.uptoBulkAll]
      omega
    · subst hx
      simp only [Rows.uptoBulk, List.map_cons, List.map_nil, Rows.uptoBulkAll]
      omega
def RStp0 : RStp := ⟨Stp0, rowZ 0, rowZ ⟨#[]⟩⟩
theorem read_Ss (h : DataW.trod enc Tryd.prog w base spare held fuel 36 cs = some x) : ∃ r : Row RStp, cs = [r.v] ∧ r.Ok w 37 RStp.list RStp0 (fun z => OksI w z.l (Rows.uptoBulk x.1) ∧ OksT w z.q (Rows.uptoBulk x.1)) (Rows.uptoBulk x.1) := by
  obtain ⟨A, n, c, g, h1, h2, h3, h4, h5, h6⟩ := read_list Tryd.underlying36 cells33 (by decide) RStp.list (fun z b => OksI w z.l b ∧ OksT w z.q b) RStp0 (fun _ => ⟨rowZ_ok trivial, rowZ_ok trivial⟩) (fun _ _ _ h hab => ⟨h.1.mono hab, h.2.mono hab⟩) (fun h => read_St h) h
  exact ⟨⟨A, n, c, g⟩, h1, h2, h3, h4, h5, h6⟩
/-- A script that came in. -/
theorem read_Sc (h : DataW.trod enc Tryd.prog w base spare held fuel 38 cs = some x) (hb : Rows.uptoBulk x.1 ≤ 1048576) :
    ∃ (z : Sc) (a : Ad), cs = scV z (.slice a.bA z.bn a.bc) (.slice a.sA z.sn a.sc) ∧ Few z a ∧ (∀ i j, (z.op i j).val.wf ∧ (z.op i j).desc.wf) ∧ @XOk (rowsS z fun _ => a) w := by
  obtain ⟨xs, n, _, hx, hl, hn, hf⟩ := DataW.trod_struct Tryd.underlying38 h
  rw [cells38] at hl
  match cs, hl, xs, hn with
  | [c0, c1, c2, c3, c4], _, [y0, y1, y2, y3, y4], _ =>
    have h0 := hf 0 ⟨"Cap", 3, 0, false, "", "", 0⟩ rfl
    have h1 := hf 1 ⟨"Fuel", 3, 1, false, "", "", 8⟩ rfl
    have h2 := hf 2 ⟨"Depth", 3, 2, false, "", "", 16⟩ rfl
    have h3 := hf 3 ⟨"Bodies", 35, 3, false, "", "", 24⟩ rfl
    have h4 := hf 4 ⟨"Steps", 36, 4, false, "", "", 48⟩ rfl
    simp only [cells3, cells35, cells36, List.drop_succ_cons, List.drop_zero, List.take_succ_cons, List.take_zero] at h0 h1 h2 h3 h4
    obtain ⟨v0, e0⟩ := read_int Tryd.underlying3 h0
    obtain ⟨v1, e1⟩ := read_int Tryd.underlying3 h1
    obtain ⟨v2, e2⟩ := read_int Tryd.underlying3 h2
    obtain ⟨b, e3, hB⟩ := read_Bs (x := y3) h3
    obtain ⟨s, e4, hS⟩ := read_Ss (x := y4) h4
    cases e0; cases e1; cases e2; cases e3; cases e4
    have hbb : Rows.uptoBulk y3.1 ≤ 1048576 ∧ Rows.uptoBulk y4.1 ≤ 1048576 := by
      subst hx
      simp only [Rows.uptoBulk, List.map_cons, List.map_nil, Rows.uptoBulkAll] at hb
      constructor <;> omega
    let z : Sc := ⟨v0, v1, v2, b.n, fun i => (b.g i).n, fun i j => (b.g i).g j, s.n, fun i => (s.g i).s, fun i => (s.g i).l.n, fun i j => (s.g i).l.g j, fun i => (s.g i).q.n, fun i j => (s.g i).q.g j⟩
    let a : Ad := { bA := b.A, bc := b.c, oA := fun i => (b.g i).A, oc := fun i => (b.g i).c, sA := s.A, sc := s.c, lA := fun i => (s.g i).l.A, lc := fun i => (s.g i).l.c, mA := fun i => (s.g i).q.A, mc := fun i => (s.g i).q.c }
    refine ⟨z, a, rfl, ⟨Nat.le_trans hB.le hbb.1, fun i => Nat.le_trans (hB.ok i).le hbb.1, Nat.le_trans hS.le hbb.2, fun i => Nat.le_trans (hS.ok i).1.le hbb.2, fun i => Nat.le_trans (hS.ok i).2.le hbb.2, fun i => (hB.ok i).nil, fun i => (hS.ok i).1.nil, fun i => (hS.ok i).2.nil, fun i hi => ?_, fun i hi => ?_, fun i hi => ?_⟩, fun i j => (hB.ok i).ok j, ?_⟩
    · show (b.g i).n = 0
      rw [hB.out i hi]
    · show (s.g i).l.n = 0
      rw [hS.out i hi]
      rfl
    · show (s.g i).q.n = 0
      rw [hS.out i hi]
      rfl
    · have key : ∀ e : XEnv, e = rowsS z (fun _ => a) → ∀ r, @XRow e w ((rowsS z fun _ => a).env r) := by
        intro e he
        have hsv : ∀ (y : Stp) (r q : List Nat) (m : Nat → Nat), (y.sv r q).map (@SV.den e m) = y.cv (.slice (e.env r).A (e.env r).n (e.env r).c) (.slice (e.env q).A (e.env q).n (e.env q).c) := fun y r q m => by
          unfold Stp.sv
          simp only [List.map_cons, List.map_nil, @den_val e, @den_xs e]
          rfl
        refine rowsS_all (p := fun r => @XRow e w r) z _ (fun k => xrow_zero rfl) (fun k => ?_) (fun k => ?_) (fun k i => ?_) (fun k i => ?_) (fun k i => ?_) (xrow_zero rfl)
        · exact hB.raw.x (fun j => rfl) (fun j _ m => by
            simp only [List.map_cons, List.map_nil, @den_xs e]
            rw [he]
            rfl) (fun j s hs mem => by
            obtain rfl := List.mem_singleton.1 hs
            exact @ok_xs e _ _)
        · exact hS.raw.x (fun j => rfl) (fun j _ m => by
            rw [hsv, he]
            rfl) (fun j s hs mem => by
            simp only [Stp.sv, List.mem_cons, List.not_mem_nil, or_false] at hs
            rcases hs with rfl | rfl | rfl | rfl | rfl | rfl | rfl | rfl | rfl | rfl | rfl | rfl | rfl | rfl | rfl | rfl | rfl | rfl | rfl | rfl | rfl | rfl | rfl | rfl | rfl | rfl | rfl | rfl | rfl | rfl | rfl | rfl | rfl | rfl | rfl | rfl | rfl <;> first | exact @ok_val e _ _ | exact @ok_xs e _ _)
        · exact (hB.ok i).raw.x (fun j => rfl) (fun j _ m => val_map e _ m) (fun j => val_ok e _)
        · exact (hS.ok i).1.raw.x (fun j => rfl) (fun j _ m => by simp only [List.map_cons, List.map_nil, @den_val e]; rfl) (fun j s hs mem => by
            obtain rfl := List.mem_singleton.1 hs
            exact @ok_val e _ _)
        · exact (hS.ok i).2.raw.x (fun j => rfl) (fun j _ m => by simp only [List.map_cons, List.map_nil, @den_val e]; rfl) (fun j s hs mem => by
            obtain rfl := List.mem_singleton.1 hs
            exact @ok_val e _ _)
      exact key _ rfl
theorem open_Sc {v : Value} {base' : Nat} {d : DataW H} {p : List MemPlace} (hv : Value.okWide Tryd.prog w .any base' 38 v) (h : DataW.Trod enc Tryd.prog w base spare held 38 v d p) (hb : Rows.uptoBulk d ≤ 1048576) :
    ∃ (z : Sc) (a : Ad), v = .agg (scV z (.slice a.bA z.bn a.bc) (.slice a.sA z.sn a.sc)).toArray ∧ Few z a ∧ (∀ i j, (z.op i j).val.wf ∧ (z.op i j).desc.wf) ∧ @XOk (rowsS z fun _ => a) w := by
  obtain ⟨arr, rfl, _⟩ := okWide_struct Tryd.underlying38 hv
  obtain ⟨f, hf⟩ := h
  obtain ⟨z, a, hz, h1, h2, h3⟩ := read_Sc (x := (d, p)) hf hb
  refine ⟨z, a, ?_, h1, h2, h3⟩
  rw [← hz]
  rfl
end
end Go.Proofs.YtlliefodchfpfaaDoor.PDescKinds
end
