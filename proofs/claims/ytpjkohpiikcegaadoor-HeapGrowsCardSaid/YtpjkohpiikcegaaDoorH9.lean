/- cameolaw07.HeapGrows: pieces, by computing. -/
import Derived.Test.YtpjkohpiikcegaaDoorH8
set_option linter.unusedSimpArgs false
set_option linter.unusedVariables false
set_option linter.unusedSectionVars false
namespace Go.Proofs.YtpjkohpiikcegaaDoor.PDescKinds
open Go.RowKit Go.Ev Go.Proofs.YtpjkohpiikcegaaDoorV.PrintLast
set_option maxRecDepth 100000
noncomputable def lw : List Code := bodyOf Tryd.f3
noncomputable def lwr : List Code := flat (roundOf lw)
noncomputable def lwb : List Code := flat (inB (lwr.getD 2 .skip))
noncomputable def lwk : List Code := flat (roundOf lwb)
noncomputable def lw1 : Array Oper := opsOf (lw.getD 1 .skip)
noncomputable def lw3 : Array Oper := opsOf (lw.getD 3 .skip)
noncomputable def lw10 : Array Oper := opsOf (lwb.getD 0 .skip)
noncomputable def lw12 : Array Oper := opsOf (thenOf (lwb.getD 2 .skip))
noncomputable def lw13 : Array Oper := opsOf (lwb.getD 3 .skip)
theorem lw_eq : lw = [lw.getD 0 .skip] ++ (.region 1 lw1 false :: ([lw.getD 2 .skip] ++ (.region 3 lw3 false :: ([lw.getD 4 .skip, lw.getD 5 .skip, lw.getD 6 .skip, lw.getD 7 .skip] ++ (.block 0 (.loop (roundOf lw)) :: lw.drop 9))))) := by kernel_rfl
theorem lwr_eq : lwr = lwr.take 2 ++ (.block 1 (inB (lwr.getD 2 .skip)) :: lwr.drop 3) := by kernel_rfl
theorem lwb_eq : lwb = .region 10 lw10 false :: ([lwb.getD 1 .skip] ++ (.cond (.tmp 56) (.region 12 lw12 false) .skip :: .region 13 lw13 false :: ((lwb.drop 4).take 3 ++ [.block 2 (.loop (roundOf lwb))]))) := by kernel_rfl
theorem lw1_eq : lw1.toList = lw1.toList.getD 0 default :: (lw1.toList.drop 1 ++ []) := by kernel_rfl
theorem lw3_eq : lw3.toList = lw3.toList.take 1 ++ (lw3.toList.getD 1 default :: (lw3.toList.drop 2 ++ [])) := by kernel_rfl
theorem lw10_eq : lw10.toList = lw10.toList.take 5 ++ (lw10.toList.getD 5 default :: (lw10.toList.drop 6 ++ [])) := by kernel_rfl
theorem lw12_eq : lw12.toList = lw12.toList.take 7 ++ (lw12.toList.getD 7 default :: ([lw12.toList.getD 8 default] ++ [])) := by kernel_rfl
theorem lw13_eq : lw13.toList = lw13.toList.take 1 ++ (lw13.toList.getD 1 default :: ([lw13.toList.getD 2 default] ++ [])) := by kernel_rfl
/-- Values that came in. -/
def prX (A : Option Addr) (n c : Nat) (g : Nat → V) : XR := ⟨A, 5, n, c, fun j => (g j).cellsV⟩
@[instance_reducible] def rowsC (A1 A2 : Option Addr) (n c1 c2 : Nat) (p : Nat → V) : XEnv := ⟨fun r => match r with
  | [] => ⟨A1, 8, n, c1, fun j => (shpV (p j)).map SV.val⟩
  | _ => ⟨A2, 8, n, c2, fun j => (shpV (p j)).map SV.val⟩⟩
abbrev LV (cap : Int) (v1 was : Value) (g : Nat) (i : Nat) : List (Nat × Value) := [(0, .int .i64 cap), (1, v1), (5, .pointer (some ⟨g, 0, none⟩)), (7, was), (8, .int .i64 (i : Int))]
abbrev LH (cap : Int) (v1 was : Value) (g : Nat) (i : Nat) : List (Nat × SV) := [(0, .val (.int .i64 cap)), (1, .val v1), (5, .val (.pointer (some ⟨g, 0, none⟩))), (7, .val was), (8, .val (.int .i64 (i : Int)))]
theorem t_lw0 (v0 v1 : Value) : letI := row0
    evK Tryd.prog ext (tab []) 80 124 (seqL [lw.getD 0 .skip]) (⟨argS [.val v0, .val v1], fun _ => none, 0⟩) (grab Tryd.prog Tryd.f3 [0, 1] [] 0) = some (.cut .normal ⟨[(0, .val v0), (1, .val v1)], []⟩) := by kernel_rfl
theorem t_lw1 (u : Bool) : letI := row0
    (reads Tryd.prog 124 (lw1.toList.drop 1) (pickT [(13, .val (.bool u))])).map (fun t => [14].map t) = some [.val (.bool (!u))] := by kernel_rfl
theorem t_lw2 (v0 v1 : Value) : letI := row0
    evK Tryd.prog ext (tab []) 80 124 (seqL [lw.getD 2 .skip]) ((⟨[(0, .val v0), (1, .val v1), (14, .val (.bool false))], []⟩ : Cut).st 0) (grab Tryd.prog Tryd.f3 [0, 1] [] 0) = some (.cut .normal ⟨[(0, .val v0), (1, .val v1)], []⟩) := by kernel_rfl
theorem t_lw3 (v : Value) : letI := row0
    (reads Tryd.prog 124 (lw3.toList.take 1) (pickT [(0, .val v)])).map (fun t => [16].map t) = some [.val v] := by kernel_rfl
theorem t_lw3b (p q : Value) : letI := row0
    (reads Tryd.prog 124 (lw3.toList.drop 2) (pickT [(17, .val (.tuple #[p, q]))])).map (fun t => [5, 6].map t) = some [.val p, .val q] := by kernel_rfl
theorem t_lw4a (cap : Int) (v1 : Value) : letI := row0
    evK Tryd.prog ext (tab []) 80 124 (seqL [lw.getD 4 .skip, lw.getD 5 .skip, lw.getD 6 .skip, lw.getD 7 .skip]) ((⟨[(5, .val (.pointer none)), (6, .val (.int .i64 7)), (0, .val (.int .i64 cap)), (1, .val v1)], []⟩ : Cut).st 0) (grab Tryd.prog Tryd.f3 [0, 1, 5, 7, 8] [] 0) =
    bif decide (cap < 0) then some (.ret (.val (.bool true))) else some (.ret (.val (.bool (decide (cap > 65536))))) := by kernel_rfl
theorem t_lw4b (cap : Int) (v1 : Value) (g : Nat) : letI := row0
    evK Tryd.prog ext (tab []) 80 124 (seqL [lw.getD 4 .skip, lw.getD 5 .skip, lw.getD 6 .skip, lw.getD 7 .skip]) ((⟨[(5, .val (.pointer (some ⟨g, 0, none⟩))), (6, .val (.int .i64 0)), (0, .val (.int .i64 cap)), (1, .val v1)], []⟩ : Cut).st 0) (grab Tryd.prog Tryd.f3 [0, 1, 5, 7, 8] [] 0) = some (.cut .normal ⟨LH cap v1 (.slice none 0 0) g 0, []⟩) := by kernel_rfl
theorem t_lwr0 (cap : Int) (A : Option Addr) (n c : Nat) (was : Value) (g i : Nat) : letI := row0
    evK Tryd.prog ext (tab []) 80 124 (seqL (lwr.take 2)) ((⟨LH cap (.slice A n c) was g i, []⟩ : Cut).st 0) (grab Tryd.prog Tryd.f3 [0, 1, 5, 7, 8] [] 0) =
    bif decide ((i : Int) < (n : Int)) then (bif decide ((i : Int) < 50) then some (.cut .normal ⟨LH cap (.slice A n c) was g i, []⟩) else some (.cut (.exit 0) ⟨LH cap (.slice A n c) was g i, []⟩)) else some (.cut (.exit 0) ⟨LH cap (.slice A n c) was g i, []⟩) := by kernel_rfl
theorem t_lwr3 (cap : Int) (v1 : Value) (was : Value) (g i : Nat) : letI := row0
    evK Tryd.prog ext (tab []) 80 124 (seqL (lwr.drop 3)) ((⟨LH cap v1 was g i, []⟩ : Cut).st 0) (grab Tryd.prog Tryd.f3 [0, 1, 5, 7, 8] [] 0) = some (.cut .normal ⟨[(0, .val (.int .i64 cap)), (1, .val v1), (5, .val (.pointer (some ⟨g, 0, none⟩))), (7, .val was), (8, .val (.int .i64 (IntKind.i64.wrap ((i : Int) + 1))))], []⟩) := by kernel_rfl
theorem t_lw10 (h : HD) (A : Option Addr) (n c : Nat) (g : Nat → V) (cap : Int) (was : Value) (i : Nat) : letI := rowsH h (prX A n c g)
    evOpsK Tryd.prog ext (callWithK Tryd.prog (tab (L25 ck)) (evK Tryd.prog ext (tab (L25 ck)) 80)) lw10 124 (lw10.toList.take 5) ((⟨[(0, .val (.int .i64 cap)), (1, .xs [0, 0]), (5, .xp [] 0 0), (7, .val was), (8, .val (.int .i64 (i : Int)))], []⟩ : Cut).st 0) (fun st => cutS [0, 1, 5, 7, 8, 47, 51] [] 0 st) =
    bif decide (0 ≤ (i : Int)) && decide ((i : Int) < (n : Int)) then some ⟨[(0, .val (.int .i64 cap)), (1, .xs [0, 0]), (5, .xp [] 0 0), (7, .val was), (8, .val (.int .i64 (i : Int))), (47, .xp [] 0 0), (51, .val (g (i : Int).toNat).agg)], []⟩ else none := by kernel_rfl
theorem t_lw10b (p q : Value) : letI := row0
    (reads Tryd.prog 124 (lw10.toList.drop 6) (pickT [(52, .val (.tuple #[p, q]))])).map (fun t => [9, 10].map t) = some [.val p, .val q] := by kernel_rfl
abbrev LE (cap : Int) (v1 was : Value) (g : Nat) (i : Nat) (p q : Value) : List (Nat × SV) := [(9, .val p), (10, .val q), (0, .val (.int .i64 cap)), (1, .val v1), (5, .val (.pointer (some ⟨g, 0, none⟩))), (7, .val was), (8, .val (.int .i64 (i : Int)))]
theorem t_lw11a (cap : Int) (v1 was : Value) (g i : Nat) (e : Int) : letI := row0
    evK Tryd.prog ext (tab []) 80 124 (seqL [lwb.getD 1 .skip]) ((⟨LE cap v1 was g i (.int .i64 0) (.iface 25 (.int .i64 e)), []⟩ : Cut).st 0) (grab Tryd.prog Tryd.f3 [9, 10, 0, 1, 5, 7, 8, 56] [] 0) = some (.cut .normal ⟨LE cap v1 was g i (.int .i64 0) (.iface 25 (.int .i64 e)) ++ [(56, .val (.bool false))], []⟩) := by kernel_rfl
theorem t_lw11b (cap : Int) (v1 was : Value) (g i : Nat) (e : Int) : letI := row0
    evK Tryd.prog ext (tab []) 80 124 (seqL [lwb.getD 1 .skip]) ((⟨LE cap v1 was g i (.int .i64 e) .nilIface, []⟩ : Cut).st 0) (grab Tryd.prog Tryd.f3 [9, 10, 0, 1, 5, 7, 8, 56] [] 0) = some (.cut .normal ⟨LE cap v1 was g i (.int .i64 e) .nilIface ++ [(56, .val (.bool true))], []⟩) := by kernel_rfl
theorem t_lw12 (h : HD) (A : Option Addr) (n c : Nat) (g : Nat → V) (cap : Int) (was : Value) (e : Int) (i : Nat) : letI := rowsH h (prX A n c g)
    evOpsK Tryd.prog ext (callWithK Tryd.prog (tab (L25 ck)) (evK Tryd.prog ext (tab (L25 ck)) 80)) lw12 124 (lw12.toList.take 7) ((⟨[(0, .val (.int .i64 cap)), (1, .xs [0, 0]), (5, .xp [] 0 0), (7, .val was), (8, .val (.int .i64 (i : Int))), (9, .val (.int .i64 e)), (10, .val .nilIface)], []⟩ : Cut).st 0) (fun st => cutS [0, 1, 5, 8, 9, 10, 57, 63] [0] 1 st) =
    bif decide (0 ≤ (i : Int)) && decide ((i : Int) < (n : Int)) then some ⟨[(0, .val (.int .i64 cap)), (1, .xs [0, 0]), (5, .xp [] 0 0), (8, .val (.int .i64 (i : Int))), (9, .val (.int .i64 e)), (10, .val .nilIface), (57, .val was), (63, .slc 0 0 1 1)], [(0, ⟨38, (shpV (g (i : Int).toNat)).map SV.val⟩)]⟩ else none := by kernel_rfl
theorem t_lw12b (v : Value) : letI := row0
    (reads Tryd.prog 124 [lw12.toList.getD 8 default] (pickT [(64, .val v)])).map (fun t => [7].map t) = some [.val v] := by kernel_rfl
theorem t_lw13 (v : Value) : letI := row0
    (reads Tryd.prog 124 (lw13.toList.take 1) (pickT [(5, .val v)])).map (fun t => [65].map t) = some [.val v] := by kernel_rfl
theorem t_lw13b (v : Value) : letI := row0
    (reads Tryd.prog 124 [lw13.toList.getD 2 default] (pickT [(66, .val v)])).map (fun t => [11].map t) = some [.val v] := by kernel_rfl
abbrev LC (cap : Int) (v1 was l : Value) (i : Nat) (p q : Value) : Cut := ⟨[(0, .val (.int .i64 cap)), (1, .val v1), (5, .xp [] 0 0), (7, .val was), (8, .val (.int .i64 (i : Int))), (9, .val p), (10, .val q), (11, .val l)], []⟩
abbrev LD (cap : Int) (v1 was l : Value) (i : Nat) : Cut := ⟨[(0, .val (.int .i64 cap)), (1, .val v1), (5, .xp [] 0 0), (7, .val was), (8, .val (.int .i64 (i : Int))), (11, .val l), (12, .val (.int .i64 0))], []⟩
theorem t_lw14a (cap : Int) (v1 : Value) (wA lA A : Option Addr) (n wc lc hb c : Nat) (ob : Nat → Nat) (p : Nat → V) (e : Int) (i : Nat) : letI := rowsH ⟨hb, cap, 5, 3, A, n, c, ob, p⟩ noX1
    evK Tryd.prog ext (tab (L25 ck)) 80 124 (seqL ((lwb.drop 4).take 3)) ((LC cap v1 (.slice wA n wc) (.slice lA n lc) i (.int .i64 0) (.iface 25 (.int .i64 e))).st 0) (grab Tryd.prog Tryd.f3 [0, 1, 5, 7, 8, 11, 12] [] 0) =
    bif (n : Int) != (n : Int) then some (.ret (.val (.bool false))) else bif (n : Int) != (n : Int) then some (.ret (.val (.bool false))) else bif decide ((n : Int) > cap) then some (.ret (.val (.bool false))) else some (.cut .normal (LD cap v1 (.slice wA n wc) (.slice lA n lc) i)) := by kernel_rfl
theorem t_lw14b (cap : Int) (v1 : Value) (wA lA A : Option Addr) (n wc lc hb c : Nat) (ob : Nat → Nat) (p : Nat → V) (i : Nat) : letI := rowsH ⟨hb, cap, 5, 3, A, n, c, ob, p⟩ noX1
    evK Tryd.prog ext (tab (L25 ck)) 80 124 (seqL ((lwb.drop 4).take 3)) ((LC cap v1 (.slice wA n wc) (.slice lA n lc) i (.int .i64 (n : Int)) .nilIface).st 0) (grab Tryd.prog Tryd.f3 [0, 1, 5, 7, 8, 11, 12] [] 0) =
    bif (n : Int) != (n : Int) then some (.ret (.val (.bool false))) else bif (n : Int) != (n : Int) then some (.ret (.val (.bool false))) else bif (n : Int) != (n : Int) then some (.ret (.val (.bool false))) else bif decide ((n : Int) > cap) then some (.ret (.val (.bool false))) else some (.cut .normal (LD cap v1 (.slice wA n wc) (.slice lA n lc) i)) := by kernel_rfl
abbrev LK (v0 v1 v5 v8 : Value) (k : Nat) : Cut := ⟨[(0, .val v0), (1, .val v1), (5, .val v5), (7, .xs [0]), (8, .val v8), (11, .xs []), (12, .val (.int .i64 (k : Int)))], []⟩
theorem t_lwk1 (v0 v1 v5 v8 : Value) (A1 A2 : Option Addr) (n c1 c2 : Nat) (p : Nat → V) (k : Nat) : letI := rowsC A1 A2 n c1 c2 p
    evK Tryd.prog ext (tab []) 80 124 (seqL (lwk.take 2)) ((LK v0 v1 v5 v8 k).st 0) (grab Tryd.prog Tryd.f3 [0, 1, 5, 7, 8, 11, 12] [] 0) = bif decide ((k : Int) < (n : Int)) then some (.cut .normal (LK v0 v1 v5 v8 k)) else some (.cut (.exit 2) (LK v0 v1 v5 v8 k)) := by kernel_rfl
abbrev LK' (v0 v1 v5 v8 : Value) (k : Nat) : Cut := ⟨[(0, .val v0), (1, .val v1), (5, .val v5), (7, .xs [0]), (8, .val v8), (11, .xs []), (12, .val (.int .i64 (IntKind.i64.wrap ((k : Int) + 1))))], []⟩
def fT : Option Res := some (.ret (.val (.bool false)))
theorem t_lwk2 (v0 v1 v5 v8 : Value) (A1 A2 : Option Addr) (n c1 c2 : Nat) (p : Nat → V) (k : Nat) : letI := rowsC A1 A2 n c1 c2 p
    evK Tryd.prog ext (tab []) 80 124 (seqL (lwk.drop 2)) ((LK v0 v1 v5 v8 k).st 0) (grab Tryd.prog Tryd.f3 [0, 1, 5, 7, 8, 11, 12] [] 0) =
    bif decide (0 ≤ (k : Int)) && decide ((k : Int) < (n : Int)) then 
     (bif decide (0 ≤ (k : Int)) && decide ((k : Int) < (n : Int)) then 
      (bif ((p (k : Int).toNat).n : Int) == ((p (k : Int).toNat).n : Int) then 
       (bif (p (k : Int).toNat).k == (p (k : Int).toNat).k then 
        (bif (p (k : Int).toNat).b == (p (k : Int).toNat).b then 
         (bif (p (k : Int).toNat).s.toList == (p (k : Int).toNat).s.toList then 
          (bif !(p (k : Int).toNat).id == (p (k : Int).toNat).id then fT else some (.cut .normal (LK' v0 v1 v5 v8 k))) else fT) else fT) else fT) else 
       (bif FloatKind.f64.format.order (p (k : Int).toNat).n (p (k : Int).toNat).n != some Ordering.eq then 
        (bif FloatKind.f64.format.order (p (k : Int).toNat).n (p (k : Int).toNat).n != some Ordering.eq then 
         (bif (p (k : Int).toNat).k == (p (k : Int).toNat).k then 
          (bif (p (k : Int).toNat).b == (p (k : Int).toNat).b then 
           (bif (p (k : Int).toNat).s.toList == (p (k : Int).toNat).s.toList then 
            (bif !(p (k : Int).toNat).id == (p (k : Int).toNat).id then fT else some (.cut .normal (LK' v0 v1 v5 v8 k))) else fT) else fT) else fT) else fT) else fT)) else none) else none := by kernel_rfl
theorem t_lwk2' (v0 v1 v5 v8 : Value) (A1 A2 : Option Addr) (n c1 c2 : Nat) (p : Nat → V) (k : Nat) (hk : k < n) : letI := rowsC A1 A2 n c1 c2 p
    evK Tryd.prog ext (tab []) 80 124 (seqL (lwk.drop 2)) ((LK v0 v1 v5 v8 k).st 0) (grab Tryd.prog Tryd.f3 [0, 1, 5, 7, 8, 11, 12] [] 0) = some (.cut .normal (LK' v0 v1 v5 v8 k)) := by
  rw [t_lwk2, decide_eq_true (by omega : (0 : Int) ≤ (k : Int)), decide_eq_true (by omega : (k : Int) < (n : Int))]
  simp only [beq_self_eq_true, cond_true, Bool.and_self, Bool.not_true, cond_false]
theorem t_lwe (v0 v1 : Value) : letI := row0
    evK Tryd.prog ext (tab []) 80 124 (seqL (lw.drop 9)) ((⟨[(0, .val v0), (1, .val v1)], []⟩ : Cut).st 0) (grab Tryd.prog Tryd.f3 [] [] 0) = some (.ret (.val (.bool true))) := by kernel_rfl
end Go.Proofs.YtpjkohpiikcegaaDoor.PDescKinds
