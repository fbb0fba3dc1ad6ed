/- Heap.Shape. -/
import Derived.Test.YtpjkohpiikcegaaDoorH5
set_option linter.unusedSimpArgs false
set_option linter.unusedVariables false
set_option linter.unusedSectionVars false
namespace Go.Proofs.YtpjkohpiikcegaaDoor.PDescKinds
open Go.RowKit Go.Ev Go.Proofs.YtpjkohpiikcegaaDoorV.PrintLast
set_option maxRecDepth 100000
noncomputable def sh : List Code := bodyOf Tryd.f11
noncomputable def s5 : Array Oper := opsOf (sh.getD 5 .skip)
def zV : List Value := [.int .i64 0, .int .i64 0, .bool false, .float .f64 0, .string (ByteArray.mk #[]), .int .i64 0, .bool false, .slice none 0 0]
theorem sh_eq : sh = sh.take 4 ++ ([sh.getD 4 .skip] ++ (.region 5 s5 false :: sh.drop 6)) := by kernel_rfl
theorem s5_eq : s5.toList = s5.toList.take 4 ++ (s5.toList.getD 4 default :: (s5.toList.drop 5 ++ [])) := by kernel_rfl
noncomputable def want77 : Array (String × TypeId) := match Tryd.prog.underlying 77 with | some (.interface w) => w | _ => #[]
theorem und77 : Tryd.prog.underlying 77 = some (.interface want77) := by kernel_rfl
theorem noShow (v : Value) (x : TypeId) (w : World) : (Instr.typeAssert (.iface 55 v) x 77 true).run Tryd.prog w = .ok (.tuple #[.nilIface, .bool false]) w := run_typeAssert_lacksB und77 (by kernel_rfl) (by kernel_rfl) v x w
theorem t_sh1 (h : HD) (j : Nat) : letI := rowsH h noX1
    evK Tryd.prog ext (tab (L25 ck)) 80 48 (seqL (sh.take 4)) (⟨argS [.xp [] 0 0, .val (.int .i64 (j : Int))], fun _ => none, 0⟩) (grab Tryd.prog Tryd.f11 [4, 6] [0] 1) =
    bif decide ((j : Int) ≥ 1) then (bif !decide ((j : Int) ≤ (h.n : Int)) then some (.ret (.val (.tuple #[.agg zV.toArray, .int .i64 4]))) else
      (bif decide (0 ≤ IntKind.i64.wrap ((j : Int) - 1)) && decide (IntKind.i64.wrap ((j : Int) - 1) < (h.n : Int)) then some (.cut .normal ⟨[(4, .ptr 0 0), (6, .val (.pointer (some ⟨h.ob (IntKind.i64.wrap ((j : Int) - 1)).toNat, 0, none⟩)))], [(0, ⟨38, zV.map SV.val⟩)]⟩) else none))
    else some (.ret (.val (.tuple #[.agg zV.toArray, .int .i64 4]))) := by kernel_rfl
theorem t_sh4 (g : Nat) (v : V) : letI := rowOb g v
    evK Tryd.prog ext (tab []) 80 48 (seqL [sh.getD 4 .skip]) ((⟨[(4, .ptr 0 0), (6, .xp [] 0 0)], [(0, ⟨38, zV.map SV.val⟩)]⟩ : Cut).st 1) (grab Tryd.prog Tryd.f11 [4, 6, 7] [0, 18] 19) =
    some (.cut .normal ⟨[(4, .ptr 0 0), (6, .xp [] 0 0), (7, .ptr 18 0)], [(0, ⟨38, zV.map SV.val⟩), (18, ⟨38, (shpV v).map SV.val⟩)]⟩) := by kernel_rfl
theorem t_sh5 (g : Nat) (v : V) : letI := rowOb g v
    evOpsK Tryd.prog ext (callWithK Tryd.prog (tab []) (evK Tryd.prog ext (tab []) 80)) s5 48 (s5.toList.take 4) ((⟨[(4, .ptr 0 0), (6, .xp [] 0 0), (7, .ptr 18 0)], [(0, ⟨38, zV.map SV.val⟩), (18, ⟨38, (shpV v).map SV.val⟩)]⟩ : Cut).st 19) (fun st => cutS [4, 7, 39] [0, 18] 19 st) =
    some ⟨[(4, .ptr 0 0), (7, .ptr 18 0), (39, .val (.iface 55 (.agg #[])))], [(0, ⟨38, zV.map SV.val⟩), (18, ⟨38, (shpV v).map SV.val⟩)]⟩ := by kernel_rfl
def st40 (v : V) : St := ⟨putS ((⟨[(4, .ptr 0 0), (7, .ptr 18 0), (39, .val (.iface 55 (.agg #[])))], [(0, ⟨38, zV.map SV.val⟩), (18, ⟨38, (shpV v).map SV.val⟩)]⟩ : Cut).st 19).tmps (some 40) (.val (.tuple #[.nilIface, .bool false])),
  ((⟨[(4, .ptr 0 0), (7, .ptr 18 0), (39, .val (.iface 55 (.agg #[])))], [(0, ⟨38, zV.map SV.val⟩), (18, ⟨38, (shpV v).map SV.val⟩)]⟩ : Cut).st 19).mem, 19⟩
theorem t_sh6 (g : Nat) (v : V) : letI := rowOb g v
    evOpsK Tryd.prog ext (callWithK Tryd.prog (tab []) (evK Tryd.prog ext (tab []) 80)) s5 48 (s5.toList.drop 5) (st40 v) (fun st => cutS [4, 7, 9] [0, 18] 19 st) =
    some ⟨[(4, .ptr 0 0), (7, .ptr 18 0), (9, .val (.bool false))], [(0, ⟨38, zV.map SV.val⟩), (18, ⟨38, (shpV v).map SV.val⟩)]⟩ := by kernel_rfl
theorem t_sh8 (g : Nat) (v : V) : letI := rowOb g v
    evK Tryd.prog ext (tab []) 80 48 (seqL (sh.drop 6)) ((⟨[(4, .ptr 0 0), (7, .ptr 18 0), (9, .val (.bool false))], [(0, ⟨38, zV.map SV.val⟩), (18, ⟨38, (shpV v).map SV.val⟩)]⟩ : Cut).st 19) (grab Tryd.prog Tryd.f11 [] [] 0) =
    some (.ret (.val (.tuple #[.agg (shpV v).toArray, .int .i64 0]))) := by kernel_rfl
theorem den_o (g : Nat) (v : V) (m : Nat → Nat) : @SV.den (rowOb g v) m (.xp [] 0 0) = .pointer (some ⟨g, 0, none⟩) := by
  rw [@den_xp (rowOb g v)]
  show Value.pointer (some ((⟨g, 0, none⟩ : Addr).add (0 * 10 + 0))) = _
  rw [add_none]
theorem ctxOb (g : Nat) (v : V) : @Ctx (rowOb g v) Tryd.prog ext (tab []) (fun w => @XOk (rowOb g v) w) := by
  letI := rowOb g v
  exact ⟨mixed, ext_sound, fun w w' h hb => XOk.below h hb, fun w h => h, tab_sound entries_nil⟩
section
variable {B : Nat} {T : List Nat} {w w' w0 : World} {h : HD} {a : Act} {Q : Exit → Act → World → Prop}
theorem OwnH.xob (hO : OwnH B w h) {j : Nat} (hj : j < h.n) : @XOk (rowOb (h.ob j) (h.p j)) w := by
  letI := rowOb (h.ob j) (h.p j)
  intro r
  have e := (hO.obj j hj).2
  refine xrow_val (A := ⟨h.ob j, 0, none⟩) (l := objV (h.p j)) (Array.getElem?_eq_some_iff.1 e).1 (fun k u hk => ?_) _
  rw [add_none, cell_of_row w (h.ob j) _ _ 74 (0, 0) e]
  simpa using hk
theorem Shape.calls (hT : Tabs w) (hO : OwnH B w h) (hn : h.n ≤ 1000000) {j : Nat} (h1 : 1 ≤ j) (h2 : j ≤ h.n) :
    Calls Tryd.prog 11 #[.pointer (some ⟨h.hb, 0, none⟩), .int .i64 (j : Int)] w (fun e w' => e = .returned (.tuple #[.agg (shpV (h.p (j - 1))).toArray, .int .i64 0]) ∧ Below w.heap.size w w') := by
  refine calls_of_wp Tryd.func11 (c := Tryd.f11.body.getD .skip) (by kernel_rfl) ?_
  refine wpL_flat _ ?_
  show wpL Tryd.prog sh _ _ _
  rw [sh_eq, wpL_app]
  have hst := @start_sound (rowsH h noX1) Tryd.f11 [.xp [] 0 0, .val (.int .i64 (j : Int))] (fun y hy => by
    simp only [List.mem_cons, List.not_mem_nil, or_false] at hy
    rcases hy with rfl | rfl <;> first | exact ok_h0 _ _ _ | exact @ok_val (rowsH h noX1) _ _) w (fun _ => 0)
  simp only [List.map_cons, List.map_nil, @den_val (rowsH h noX1), den_h0] at hst
  have ev := t_sh1 h j
  have ew : IntKind.i64.wrap ((j : Int) - 1) = ((j - 1 : Nat) : Int) := by rw [IntKind.wrap_i64]; omega
  rw [ew, decide_eq_true (by omega : (j : Int) ≥ 1), decide_eq_true (by omega : (j : Int) ≤ (h.n : Int)), decide_eq_true (by omega : (0 : Int) ≤ ((j - 1 : Nat) : Int)), decide_eq_true (by omega : ((j - 1 : Nat) : Int) < (h.n : Int)), Int.toNat_natCast] at ev
  refine pieceH hT hO ev hst (fun v hv => by cases hv) (fun ex d hd m a1 w1 hr => ?_)
  cases hd
  obtain ⟨b1, b2⟩ := SR.own (b := 0) (l := zV) (ty := 38) hr rfl
  have hb := SR.bel hr
  have K1 : Kp 48 [(4, .pointer (some ⟨m 0, 0, none⟩)), (6, .pointer (some ⟨h.ob (j - 1), 0, none⟩))] a1 := SR.kp hr fun p hp => by
    simp only [List.mem_cons, List.not_mem_nil, or_false] at hp
    rcases hp with rfl | rfl
    · exact ⟨rfl, @den_ptr (rowsH h noX1) _ _ _⟩
    · exact ⟨rfl, @den_val (rowsH h noX1) _ _⟩
  show wpL Tryd.prog ([sh.getD 4 .skip] ++ (.region 5 s5 false :: sh.drop 6)) _ a1 w1
  rw [wpL_app]
  have hX := hO.xob (show j - 1 < h.n by omega)
  generalize hv : h.p (j - 1) = v at hX
  generalize hg : h.ob (j - 1) = g at hX K1
  letI := rowOb g v
  have C := ctxOb g v
  have hr1 : SR w 48 m ((⟨[(4, .ptr 0 0), (6, .xp [] 0 0)], [(0, ⟨38, zV.map SV.val⟩)]⟩ : Cut).st 1) a1 w1 := by
    refine epochB hb K1.size K1.defers _ _ m (fun p hp => ?_) (fun p hp => ?_) (fun b k hk => ?_) (fun b b' k k' hk hk' _ => ?_) (fun b hb => ?_)
    · simp only [List.mem_cons, List.not_mem_nil, or_false] at hp
      rcases hp with rfl | rfl
      · rw [den_ptr]
        exact K1.vals (4, _) (by simp)
      · rw [den_o]
        exact K1.vals (6, _) (by simp)
    · simp only [List.mem_cons, List.not_mem_nil, or_false] at hp
      rcases hp with rfl | rfl
      · exact ok_ptr.2 rfl
      · exact ok_xp.2 Nat.zero_lt_one
    · match b, hk with
      | 0, hk =>
        cases hk
        refine ⟨b1, ?_, fun c hc => ?_⟩
        · rw [b2, List.map_map, show (SV.den m ∘ SV.val) = _root_.id from funext fun v => den_val _ v, List.map_id]
        · obtain ⟨u, _, rfl⟩ := List.mem_map.1 hc
          exact ok_val _ _
      | b + 1, hk => cases hk
    · match b, b', hk, hk' with
      | 0, 0, _, _ => rfl
      | b + 1, _, hk, _ => cases hk
      | 0, b + 1, _, hk => cases hk
    · match b, hb with
      | b + 1, _ => rfl
  refine piece C.mix C.hX C.hs C.hXO C.hG (t_sh4 g v) (w0 := w) hX hr1 (fun v hv => by cases hv) (fun ex d hd m2 a2 w2 hr2 => ?_)
  cases hd
  show wpL Tryd.prog (.region 5 s5 false :: sh.drop 6) _ a2 w2
  refine wp_region_list ?_
  rw [s5_eq]
  refine opsPiece C.mix C.hX C.hs C.hXO C.hG (t_sh5 g v) (w0 := w) hX hr2 fun m3 a3 w3 hr3 => ?_
  have h39 : a3.eval (.tmp 39) = .iface 55 (.agg #[]) := (hr3.ar.tm 39 rfl).trans (den_val _ _)
  refine wpList_val (o := s5.toList.getD 4 default) (v := .tuple #[.nilIface, .bool false]) (by kernel_rfl) ?_ ?_
  · have ho : (s5.toList.getD 4 default).op = .typeAssert (.tmp 39) 69 77 true := by kernel_rfl
    unfold execOp
    simp only [ho, h39, Sem.run_bind, noShow, Result.andThen_ok, Sem.run_pure]
  rw [show (s5.toList.getD 4 default).dst = some 40 by kernel_rfl]
  have hr4 : SR w 48 m3 (st40 v) (a3.put (some 40) (.tuple #[.nilIface, .bool false])) w3 := by
    have hp := hr3.ar.put (d := some 40) (v := .val (.tuple #[.nilIface, .bool false])) (Agree.refl _ _) (Grows.refl _) rfl (ok_val _ _)
    rw [den_val] at hp
    exact ⟨hr3.mr, hp, hr3.fresh⟩
  refine opsPiece C.mix C.hX C.hs C.hXO C.hG (t_sh6 g v) (w0 := w) hX hr4 fun m5 a5 w5 hr5 => ?_
  show wpL Tryd.prog (sh.drop 6) _ a5 w5
  refine piece C.mix C.hX C.hs C.hXO C.hG (t_sh8 g v) (w0 := w) hX hr5 (fun u hu m6 a6 w6 hd hres hb6 => ?_) (fun ex d hd => by cases hd)
  cases hu
  rw [den_val] at hres
  exact ⟨hd, _, hres, rfl, hb6⟩
end
end Go.Proofs.YtpjkohpiikcegaaDoor.PDescKinds
