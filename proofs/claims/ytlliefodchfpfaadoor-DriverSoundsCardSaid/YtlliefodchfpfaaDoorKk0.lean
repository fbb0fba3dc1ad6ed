/- Contracts by evaluation: what each function of a list answers. Written by a program of this session. -/
import Derived.Test.YtlliefodchfpfaaDoorQ0
namespace Go.Proofs.YtlliefodchfpfaaDoor.PDescKinds
open Go.RowKit Go.Ev
set_option linter.unusedSimpArgs false
set_option linter.unusedVariables false
set_option maxRecDepth 100000
abbrev KkL0 : Tab := [(32, onS T.valid), (36, onS T.valid)]
theorem Kkents0 : ∀ p ∈ KkL0, E p := entries_cons (ent_pvalid) (entries_cons (ent_valid) (entries_nil))
set_option maxHeartbeats 4000000 in
theorem ev_keyC (k : K) : evFn Tryd.prog ext (tab KkL0) 40 15 [k.agg] = (T.key k).val :=
  Eq.trans (b := 
    (bif k.n == 0 then 
     (bif decide ((↑k.s.size : Int) ≤ 1048576) then 
      (bif decide ((↑k.s.size : Int) ≤ 1048576) then 
       (bif units_Valid.val (k.s.size + 1) k.s 0 0 then some (Value.int IntKind.i64 0) else 
        (bif decide (k.n ≥ 1) then 
         (bif decide (k.n ≤ 65536) then 
          (bif k.s.toList == (ByteArray.mk #[]).toList then some (Value.int IntKind.i64 0) else some (Value.int IntKind.i64 5)) else some (Value.int IntKind.i64 5)) else some (Value.int IntKind.i64 5))) else none) else 
      (bif decide (k.n ≥ 1) then 
       (bif decide (k.n ≤ 65536) then 
        (bif k.s.toList == (ByteArray.mk #[]).toList then some (Value.int IntKind.i64 0) else some (Value.int IntKind.i64 5)) else some (Value.int IntKind.i64 5)) else some (Value.int IntKind.i64 5))) else 
     (bif decide (k.n ≥ 1) then 
      (bif decide (k.n ≤ 65536) then 
       (bif k.s.toList == (ByteArray.mk #[]).toList then some (Value.int IntKind.i64 0) else some (Value.int IntKind.i64 5)) else some (Value.int IntKind.i64 5)) else some (Value.int IntKind.i64 5)))) (by kernel_rfl) (by
    simp only [T.key, T.err, T.B, DT.val_node, DT.val_leaf, DT.bind, DT.val_bad]
    repeat' (first | (with_reducible refine bif_neq (fun h => ?_) (fun h => ?_)) | (with_reducible refine bif_and (fun h => ?_) (fun h => ?_)) | (with_reducible refine bif_eq (fun h => ?_) (fun h => ?_)))
    all_goals first | (simp_all [S.keyOk, S.emp, leafIn.strOk, leafIn.idOk, szle]; done) | (exfalso; simp_all [S.keyOk, S.emp, leafIn.strOk, leafIn.idOk, szle]; done) | (exfalso; simp_all [S.keyOk, S.emp, leafIn.strOk, leafIn.idOk, szle]; omega) | (simp_all [S.keyOk, S.emp, leafIn.strOk, leafIn.idOk, szle]; omega) | grind [S.keyOk, S.emp, leafIn.strOk, leafIn.idOk])
theorem ent_keyC : E (15, onK T.key) := byEv Kkents0 40 fun args t h => by
  obtain ⟨k, rfl, rfl⟩ := onK_eq h
  exact ev_keyC k
abbrev KkL1 : Tab := (15, onK T.key) :: KkL0
theorem Kkents1 : ∀ p ∈ KkL1, E p := entries_cons ent_keyC Kkents0
set_option maxHeartbeats 4000000 in
theorem ev_rkey (k : K) : evFn Tryd.prog ext (tab KkL1) 40 21 [k.agg] = (T.rkey k).val :=
  Eq.trans (b := 
    (bif k.n != 0 then 
     (bif decide (k.n ≥ 1) then 
      (bif decide (k.n ≤ 65536) then some (Value.bool (k.s.toList == (ByteArray.mk #[]).toList)) else some (Value.bool false)) else some (Value.bool false)) else 
     (bif decide ((↑k.s.size : Int) ≤ 1048576) then 
      (bif decide ((↑k.s.size : Int) ≤ 1048576) then some (Value.bool (units_Valid.val (k.s.size + 1) k.s 0 0)) else none) else some (Value.bool false)))) (by kernel_rfl) (by
    simp only [T.rkey, T.err, T.B, DT.val_node, DT.val_leaf, DT.bind, DT.val_bad]
    repeat' (first | (with_reducible refine bif_neq (fun h => ?_) (fun h => ?_)) | (with_reducible refine bif_and (fun h => ?_) (fun h => ?_)) | (with_reducible refine bif_eq (fun h => ?_) (fun h => ?_)))
    all_goals first | (simp_all [S.keyOk, S.emp, leafIn.strOk, leafIn.idOk, szle]; done) | (exfalso; simp_all [S.keyOk, S.emp, leafIn.strOk, leafIn.idOk, szle]; done) | (exfalso; simp_all [S.keyOk, S.emp, leafIn.strOk, leafIn.idOk, szle]; omega) | (simp_all [S.keyOk, S.emp, leafIn.strOk, leafIn.idOk, szle]; omega) | grind [S.keyOk, S.emp, leafIn.strOk, leafIn.idOk])
theorem ent_rkey : E (21, onK T.rkey) := byEv Kkents1 40 fun args t h => by
  obtain ⟨k, rfl, rfl⟩ := onK_eq h
  exact ev_rkey k
abbrev KkL2 : Tab := (21, onK T.rkey) :: KkL1
theorem Kkents2 : ∀ p ∈ KkL2, E p := entries_cons ent_rkey Kkents1
end Go.Proofs.YtlliefodchfpfaaDoor.PDescKinds
