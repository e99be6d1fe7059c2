/- A part of the proof over this program: contracts of its functions on pure values; nothing is assumed. -/
import Derived.Test.YtjbgfihkdeeonaaT11
set_option linter.unusedSimpArgs false
set_option linter.unusedVariables false
open Go Go.Am Go.RowKit
namespace Go.Proofs.Ytjbgfihkdeeonaa
attribute [local go_sem] acode_block acode_region acode_skip acode_label acode_exit acode_ret seqK_n seqK_e seqK_r blockK_n blockK_e blockK_r regK_ aops_nil aops_cons aops_g opGo_ aopsD_nil aopsD_cons aopsD_g opGoD_ opK_ opKD_ NewOk_nil NewOk_cons app1 app3 app4 gcX_ gc_ atEnd_ fzs_nil fzs_cons pus_nil pus_cons pu_ pur_f pur_s pur_p rfs_nil rfs_cons rbs_nil rbs_cons rf_ rfX_f rfX_s rfX_p rfX_j rfX_u rfX_a rfX_n rens_nil rens_cons mv_ mvU_ frz_ ctn_nil ctn_cons fresh_ menF_nil menF_cons menL_nil menL_cons menB_c menB_m menB_i menB_d men_undef men_junk men_pv men_full men_tup men_sl men_bp men_arr men_mr men_it men_cl men_ag men1_undef men1_junk men1_pv men1_full men1_sl men1_bp men1_arr men1_mr men1_it men1_cl cl_undef cl_junk cl_pv cl_full cl_tup cl_sl cl_bp cl_arr cl_mr cl_it cl_cl cl_ag cl1_undef cl1_junk cl1_pv cl1_full cl1_sl cl1_bp cl1_arr cl1_mr cl1_it cl1_cl clB_c clB_m clB_i alive_c alive_m alive_i alive_d pickK_nil pickK_cons consO_s consO_n consA_s consA_n aliveK_nil aliveK_cons pickF_nil pickF_cons pickG_nil pickG_cons lk_nil lk_cons f_ b_ h_ getD_some evo_t evo_c evo_f acode_cond cond_t cond_f opG_t opG_ff opG_tf opG_ft opG_u opGD_t opGD_ff opGD_tf opGD_ft opGD_u loopK_n loopK_e loopK_r endQ_n endQ_r endX_n endX_r argFrX_nil argFrX_cons argFr_nil argFr_cons op_move op_assign op_pick op_box op_alloc op_load op_store op_fieldAddr op_field op_indexAddr op_index op_slice op_build op_buildSlice op_binOp op_unOp op_convert op_extract op_makeFunc op_len op_append op_min op_max op_makeMap op_mapUpdate op_lookup op_delete op_clear op_call op_makeSlice op_range op_entry opN_move opN_assign opN_pick opN_box opN_alloc opN_load opN_store opN_fieldAddr opN_field opN_indexAddr opN_index opN_slice opN_build opN_buildSlice opN_binOp opN_unOp opN_convert opN_extract opN_makeFunc opN_len opN_append opN_min opN_max opN_makeMap opN_mapUpdate opN_lookup opN_delete opN_clear opN_call opN_next opN_makeSlice opN_range opN_entry aPick_t aPick_f mv_undef mv_junk mv_pv mv_full mv_tup mv_sl mv_bp mv_arr mv_mr mv_it mv_cl mv1_undef mv1_junk mv1_pv mv1_full mv1_tup mv1_sl mv1_bp mv1_arr mv1_mr mv1_it mv1_cl mv_ag mvB_c mvB_m mvB_i mvB_d aMin_ aMax_ fz1_pv fz1_undef fz1_junk fz1_full fz1_tup fz1_sl fz1_bp fz1_arr fz1_mr fz1_it fz_pv fz_undef fz_junk fz_full fz_tup fz_sl fz_bp fz_arr fz_mr fz_it fz_ag fzB_c fzB_m fzB_i fzB_d
attribute [local go_sem] cs3 ag3 zk3 ri3 zo3 cs4 ag4 zk4 ri4 zo4 cs5 ag5 zk5 ri5 zo5 cs22 ag22 zk22 ri22 zo22 cs23 ag23 zk23 ri23 zo23 cs25 ag25 zk25 ri25 zo25 fk25 fo25_0 fp25_0 fo25_1 fp25_1 fo25_2 fp25_2 cs26 ag26 zk26 ri26 zo26 cs27 ag27 zk27 ri27 zo27 cs29 ag29 zk29 ri29 zo29 fk29 fo29_0 fp29_0 fo29_1 fp29_1 fo29_2 fp29_2 fo29_3 fp29_3 fo29_4 fp29_4 fo29_5 fp29_5 fo29_6 fp29_6 cs31 ag31 zk31 ri31 zo31 fk31 fo31_0 fp31_0 fo31_1 fp31_1 fo31_2 fp31_2 fo31_3 fp31_3 fo31_4 fp31_4 cs35 ag35 zk35 ri35 zo35 fk35 fo35_0 fp35_0 fo35_1 fp35_1 fo35_2 fp35_2 fo35_3 fp35_3 cs38 ag38 zk38 ri38 zo38 cs40 ag40 zk40 ri40 zo40 fk40 fo40_0 fp40_0 fo40_1 fp40_1 cs42 ag42 zk42 ri42 zo42 cs45 ag45 zk45 ri45 zo45 fk45 fo45_0 fp45_0 fo45_1 fp45_1 fo45_2 fp45_2 fo45_3 fp45_3 fo45_4 fp45_4 fo45_5 fp45_5 cs55 ag55 zk55 ri55 zo55 fk55 fp55_0 fp55_1 cs61 ag61 zk61 ri61 zo61 fk61 fp61_0 fp61_1 cs66 ag66 zk66 ri66 zo66 cs82 ag82 zk82 ri82 zo82 fk82 fo82_0 fp82_0 cs83 ag83 zk83 ri83 zo83 fk83 fp83_0 fp83_1 fp83_2 fp83_3 fp83_4
attribute [local go_sem] List.filter_cons List.filter_nil aBuild splice1 splice2 fillL_nil fillL_cons fillX_ List.set_cons_zero List.set_cons_succ List.take_succ_cons List.take_zero List.drop_succ_cons List.drop_zero List.length_cons List.length_nil List.append_nil aRange aEntry ints_clean ints_mv ints_men ints_ren ints_only List.any_cons List.any_nil List.all_cons List.all_nil Bool.true_and Bool.false_and Bool.and_false Bool.false_or Bool.true_or Bool.or_true Option.some.injEq exists_eq_left' exists_eq_left Nat.zero_add List.getElem?_toArray List.getElem?_cons_succ List.getElem?_cons_zero bs0 bs1 bs1I bs2 bs3 Option.isNone_none Option.isNone_some ofC aLen aBin aInt LV.list? aBox aAlloc aLoad aStore aFieldAddr aField aUn aConv aMakeMap aExtract LV.cells? pc_int pc_bool pc_str pc_slc pc_agg pc_ptr pc_nilp pc_nilf pc_clo pc_map cells_I cells_IL cells_IW Option.map_some Option.map_none Option.bind_some Option.bind_none List.cons_append List.nil_append List.map_cons List.map_nil List.length_cons List.length_nil Option.isSome_some Bool.not_true Bool.not_false Try.underlying3 Try.underlying4 Try.underlying5 Try.underlying22 Try.underlying23 Try.underlying25 Try.underlying26 Try.underlying27 Try.underlying29 Try.underlying31 Try.underlying35 Try.underlying38 Try.underlying40 Try.underlying42 Try.underlying45 Try.underlying55 Try.underlying61 Try.underlying66 Try.underlying82 Try.underlying83

theorem call_grow0 {B : Nat → Option BO} {K : Upd → Prop} (h : K ⟨.full [], [], [], [], none, []⟩) : aCall Try.prog B K (.pv (.clo 58 [])) [.full [], .pv (.int .i64 0)] := by
  refine call_x _ (fun k => k) grow0 rfl (by simp [wkL, LV.wk, LV.ren, LV.ren1]) (by intro m o hm; simp [lk] at hm) (by intro a b ha hb; simp [keys] at ha) ?_
  simpa [keys, deadOf, LV.ren, LV.ren1] using h
theorem call_growN {B : Nat → Option BO} {K : Upd → Prop} {n : Nat} (d : Nat) (hn : 0 < n) (hb : n ≤ 1000000000) (h : K ⟨.arr d 0, [], [(d, .cells (some (Try.prog.rowI 3)) (ints []))], [], none, [d]⟩) : aCall Try.prog B K (.pv (.clo 58 [])) [.full [], .pv (.int .i64 n)] := by
  refine call_x _ (fun k => if k = 6 then d else k) (growN n hn hb) (by simp [CX.ok, LV.only, LV.only1, BO.only, keys]) (by simp [wkL, LV.wk, LV.ren, LV.ren1]) (by intro m o hm; simp [lk] at hm) (by intro a b ha hb; simp [keys] at ha hb; omega) ?_
  simpa [keys, deadOf, LV.ren, LV.ren1, BO.ren, ints] using h

theorem flat_nil {W : List (List Int)} (h : W.flatten.length = 0) {j : Nat} (hj : j < W.length) : W[j] = [] := by
  have h1 := flat_at hj
  exact List.eq_nil_of_length_eq_zero (by omega)

set_option maxRecDepth 100000 in
theorem concat0_good (W : List (List Int)) (hl : W.length ≤ 9223372036854775807) (h0 : W.flatten.length = 0) : Go.Am.Good Try.prog false 51 [IW W] [IL W.flatten] := by
  refine good_rv { sl := [0, 2, 3, 5, 6, 8, 9, 10, 11, 12, 20, 25, 26, 27, 28], bx := [], rw_ := [6], rf := [(6, 6, 3)] } [.tmp 2] mixed Try.call51 Try.func51 rfl (by kernel_rfl) (by show 1 ≤ 36; decide) (by kernel_rfl) ?_
  simp -implicitDefEqProofs only [go_sem, ↓acode_seq, ↓reduceIte, Nat.reduceEqDiff, Nat.reduceAdd, Nat.reduceBEq, Nat.reduceBNe, bne_self_eq_false, Nat.reduceLeDiff, Nat.reduceLT, Nat.le_refl, Int.reduceEq, true_and, and_true, Bool.or_false, Bool.or_self, Bool.not_false, Bool.and_self, Bool.and_true, decide_true, BEq.rfl, ne_eq, not_false_eq_true, Nat.succ_ne_self, reduceCtorEq, IW, List.length_map]
  refine loop_rule { sl := [0, 3, 9, 10, 11], bx := [], rw_ := [] } (fun (i : Nat) σ => i ≤ W.length ∧ σ = ⟨[(0, .pv (IW W)), (3, .pv (.int .i64 0)), (9, .pv (IW W)), (10, .pv (.int .i64 W.length)), (11, .pv (.int .i64 i))], [], []⟩) (fun i => W.length - i) 0
    (by simp [go_sem, IW]) ?_
  rintro i σ ⟨hi, rfl⟩
  simp -implicitDefEqProofs only [go_sem, ↓acode_seq, ↓reduceIte, Nat.reduceEqDiff, Nat.reduceAdd, Nat.reduceBEq, Nat.reduceBNe, bne_self_eq_false, Nat.reduceLeDiff, Nat.reduceLT, Nat.le_refl, Int.reduceEq, true_and, and_true, Bool.or_false, Bool.or_self, Bool.not_false, Bool.and_self, Bool.and_true, decide_true, BEq.rfl, ne_eq, not_false_eq_true, Nat.succ_ne_self, reduceCtorEq, IW]
  refine cond_split (fun ht => ?_) fun hf => ?_
  · have hlt : i < W.length := by simpa using ht
    simp -implicitDefEqProofs only [go_sem, ↓acode_seq, ↓reduceIte, Nat.reduceEqDiff, Nat.reduceAdd, Nat.reduceBEq, Nat.reduceBNe, bne_self_eq_false, Nat.reduceLeDiff, Nat.reduceLT, Nat.le_refl, Int.reduceEq, true_and, and_true, Bool.or_false, Bool.or_self, Bool.not_false, Bool.and_self, Bool.and_true, decide_true, BEq.rfl, ne_eq, not_false_eq_true, Nat.succ_ne_self, reduceCtorEq]
    refine idx_W rfl hlt ?_
    simp -implicitDefEqProofs only [go_sem, ↓acode_seq, ↓reduceIte, Nat.reduceEqDiff, Nat.reduceAdd, Nat.reduceBEq, Nat.reduceBNe, bne_self_eq_false, Nat.reduceLeDiff, Nat.reduceLT, Nat.le_refl, Int.reduceEq, true_and, and_true, Bool.or_false, Bool.or_self, Bool.not_false, Bool.and_self, Bool.and_true, decide_true, BEq.rfl, ne_eq, not_false_eq_true, Nat.succ_ne_self, reduceCtorEq, IL, flat_nil h0 hlt]
    refine cond_split (fun g => ?_) fun g => ?_
    · exact absurd (of_decide_eq_true g) (by decide)
    · simp -implicitDefEqProofs only [go_sem, ↓acode_seq, ↓reduceIte, Nat.reduceEqDiff, Nat.reduceAdd, Nat.reduceBEq, Nat.reduceBNe, bne_self_eq_false, Nat.reduceLeDiff, Nat.reduceLT, Nat.le_refl, Int.reduceEq, true_and, and_true, Bool.or_false, Bool.or_self, Bool.not_false, Bool.and_self, Bool.and_true, decide_true, BEq.rfl, ne_eq, not_false_eq_true, Nat.succ_ne_self, reduceCtorEq]
      refine ⟨i + 1, ⟨by omega, ?_⟩, by omega⟩
      rw [show IntKind.i64.wrap (0 + ((0 : Nat) : Int)) = 0 from rfl, wrap_i64 (by omega) (by omega)]
      rfl
  · have hil : i = W.length := by simp at hf; omega
    subst hil
    simp -implicitDefEqProofs only [go_sem, ↓acode_seq, ↓reduceIte, Nat.reduceEqDiff, Nat.reduceAdd, Nat.reduceBEq, Nat.reduceBNe, bne_self_eq_false, Nat.reduceLeDiff, Nat.reduceLT, Nat.le_refl, Int.reduceEq, true_and, and_true, Bool.or_false, Bool.or_self, Bool.not_false, Bool.and_self, Bool.and_true, decide_true, BEq.rfl, ne_eq, not_false_eq_true, Nat.succ_ne_self, reduceCtorEq]
    refine call_grow0 ?_
    simp -implicitDefEqProofs only [go_sem, ↓acode_seq, ↓reduceIte, Nat.reduceEqDiff, Nat.reduceAdd, Nat.reduceBEq, Nat.reduceBNe, bne_self_eq_false, Nat.reduceLeDiff, Nat.reduceLT, Nat.le_refl, Int.reduceEq, true_and, and_true, Bool.or_false, Bool.or_self, Bool.not_false, Bool.and_self, Bool.and_true, decide_true, BEq.rfl, ne_eq, not_false_eq_true, Nat.succ_ne_self, reduceCtorEq, List.length_map]
    refine loop_rule { sl := [6, 25, 26, 27], bx := [], rw_ := [6] } (fun (i : Nat) σ => i ≤ W.length ∧ σ = ⟨[(6, .sl 6 []), (25, .pv (IW W)), (26, .pv (.int .i64 W.length)), (27, .pv (.int .i64 i))], [], [(6, 0, 3)]⟩) (fun i => W.length - i) 0
      (by simp [go_sem, IW]) ?_
    rintro i σ ⟨hi, rfl⟩
    simp -implicitDefEqProofs only [go_sem, ↓acode_seq, ↓reduceIte, Nat.reduceEqDiff, Nat.reduceAdd, Nat.reduceBEq, Nat.reduceBNe, bne_self_eq_false, Nat.reduceLeDiff, Nat.reduceLT, Nat.le_refl, Int.reduceEq, true_and, and_true, Bool.or_false, Bool.or_self, Bool.not_false, Bool.and_self, Bool.and_true, decide_true, BEq.rfl, ne_eq, not_false_eq_true, Nat.succ_ne_self, reduceCtorEq, IW]
    refine cond_split (fun ht => ?_) fun hf => ?_
    · have hlt : i < W.length := by simpa using ht
      simp -implicitDefEqProofs only [go_sem, ↓acode_seq, ↓reduceIte, Nat.reduceEqDiff, Nat.reduceAdd, Nat.reduceBEq, Nat.reduceBNe, bne_self_eq_false, Nat.reduceLeDiff, Nat.reduceLT, Nat.le_refl, Int.reduceEq, true_and, and_true, Bool.or_false, Bool.or_self, Bool.not_false, Bool.and_self, Bool.and_true, decide_true, BEq.rfl, ne_eq, not_false_eq_true, Nat.succ_ne_self, reduceCtorEq]
      refine idx_W rfl hlt ?_
      simp -implicitDefEqProofs only [go_sem, ↓acode_seq, ↓reduceIte, Nat.reduceEqDiff, Nat.reduceAdd, Nat.reduceBEq, Nat.reduceBNe, bne_self_eq_false, Nat.reduceLeDiff, Nat.reduceLT, Nat.le_refl, Int.reduceEq, true_and, and_true, Bool.or_false, Bool.or_self, Bool.not_false, Bool.and_self, Bool.and_true, decide_true, BEq.rfl, ne_eq, not_false_eq_true, Nat.succ_ne_self, reduceCtorEq, IL, flat_nil h0 hlt]
      refine app_row (l := []) (m := []) (by simp [go_sem]) rfl (by simp) ?_
      simp -implicitDefEqProofs only [go_sem, ↓acode_seq, ↓reduceIte, Nat.reduceEqDiff, Nat.reduceAdd, Nat.reduceBEq, Nat.reduceBNe, bne_self_eq_false, Nat.reduceLeDiff, Nat.reduceLT, Nat.le_refl, Int.reduceEq, true_and, and_true, Bool.or_false, Bool.or_self, Bool.not_false, Bool.and_self, Bool.and_true, decide_true, BEq.rfl, ne_eq, not_false_eq_true, Nat.succ_ne_self, reduceCtorEq]
      refine ⟨i + 1, ⟨by omega, ?_⟩, by omega⟩
      rw [wrap_i64 (by omega) (by omega)]
      rfl
    · have hil : i = W.length := by simp at hf; omega
      subst hil
      simp -implicitDefEqProofs only [go_sem, ↓acode_seq, ↓reduceIte, Nat.reduceEqDiff, Nat.reduceAdd, Nat.reduceBEq, Nat.reduceBNe, bne_self_eq_false, Nat.reduceLeDiff, Nat.reduceLT, Nat.le_refl, Int.reduceEq, true_and, and_true, Bool.or_false, Bool.or_self, Bool.not_false, Bool.and_self, Bool.and_true, decide_true, BEq.rfl, ne_eq, not_false_eq_true, Nat.succ_ne_self, reduceCtorEq]
      have e : W.flatten = [] := List.eq_nil_of_length_eq_zero h0
      refine res_l rfl rfl ?_
      rw [e]; rfl

set_option maxRecDepth 100000 in
theorem concat_x (W : List (List Int)) (hl : W.length ≤ 9223372036854775807) (h0 : 0 < W.flatten.length) (hb : W.flatten.length ≤ 1000000000) : GoodX Try.prog 51 ⟨[IW W].map .pv, [], .arr 24 W.flatten.length, [(24, .cells (some (Try.prog.rowI 3)) (ints W.flatten))]⟩ := by
  refine goodX_rv { sl := [0, 2, 3, 5, 6, 8, 9, 10, 11, 12, 20, 25, 26, 27, 28], bx := [24, 33], rw_ := [], ren := [(33, 24)] } [.tmp 2] mixed Try.call51 Try.func51 rfl (by kernel_rfl) (by show 1 ≤ 36; decide) rfl rfl (by kernel_rfl) ?_
  simp -implicitDefEqProofs only [go_sem, ↓acode_seq, ↓reduceIte, Nat.reduceEqDiff, Nat.reduceAdd, Nat.reduceBEq, Nat.reduceBNe, bne_self_eq_false, Nat.reduceLeDiff, Nat.reduceLT, Nat.le_refl, Int.reduceEq, true_and, and_true, Bool.or_false, Bool.or_self, Bool.not_false, Bool.and_self, Bool.and_true, decide_true, BEq.rfl, ne_eq, not_false_eq_true, Nat.succ_ne_self, reduceCtorEq, IW, List.length_map]
  refine loop_rule { sl := [0, 3, 9, 10, 11], bx := [], rw_ := [] } (fun (i : Nat) σ => i ≤ W.length ∧ σ = ⟨[(0, .pv (IW W)), (3, .pv (.int .i64 (W.take i).flatten.length)), (9, .pv (IW W)), (10, .pv (.int .i64 W.length)), (11, .pv (.int .i64 i))], [], []⟩) (fun i => W.length - i) 0
    (by simp [go_sem, IW]) ?_
  rintro i σ ⟨hi, rfl⟩
  simp -implicitDefEqProofs only [go_sem, ↓acode_seq, ↓reduceIte, Nat.reduceEqDiff, Nat.reduceAdd, Nat.reduceBEq, Nat.reduceBNe, bne_self_eq_false, Nat.reduceLeDiff, Nat.reduceLT, Nat.le_refl, Int.reduceEq, true_and, and_true, Bool.or_false, Bool.or_self, Bool.not_false, Bool.and_self, Bool.and_true, decide_true, BEq.rfl, ne_eq, not_false_eq_true, Nat.succ_ne_self, reduceCtorEq, IW]
  refine cond_split (fun ht => ?_) fun hf => ?_
  · have hlt : i < W.length := by simpa using ht
    simp -implicitDefEqProofs only [go_sem, ↓acode_seq, ↓reduceIte, Nat.reduceEqDiff, Nat.reduceAdd, Nat.reduceBEq, Nat.reduceBNe, bne_self_eq_false, Nat.reduceLeDiff, Nat.reduceLT, Nat.le_refl, Int.reduceEq, true_and, and_true, Bool.or_false, Bool.or_self, Bool.not_false, Bool.and_self, Bool.and_true, decide_true, BEq.rfl, ne_eq, not_false_eq_true, Nat.succ_ne_self, reduceCtorEq]
    refine idx_W rfl hlt ?_
    simp -implicitDefEqProofs only [go_sem, ↓acode_seq, ↓reduceIte, Nat.reduceEqDiff, Nat.reduceAdd, Nat.reduceBEq, Nat.reduceBNe, bne_self_eq_false, Nat.reduceLeDiff, Nat.reduceLT, Nat.le_refl, Int.reduceEq, true_and, and_true, Bool.or_false, Bool.or_self, Bool.not_false, Bool.and_self, Bool.and_true, decide_true, BEq.rfl, ne_eq, not_false_eq_true, Nat.succ_ne_self, reduceCtorEq, IL, List.length_map]
    have hfa := flat_at hlt
    have hfs := flat_succ hlt
    rw [wrap_i64 (by omega) (by omega)]
    refine cond_split (fun g => ?_) fun g => ?_
    · exact absurd (of_decide_eq_true g) (by omega)
    · simp -implicitDefEqProofs only [go_sem, ↓acode_seq, ↓reduceIte, Nat.reduceEqDiff, Nat.reduceAdd, Nat.reduceBEq, Nat.reduceBNe, bne_self_eq_false, Nat.reduceLeDiff, Nat.reduceLT, Nat.le_refl, Int.reduceEq, true_and, and_true, Bool.or_false, Bool.or_self, Bool.not_false, Bool.and_self, Bool.and_true, decide_true, BEq.rfl, ne_eq, not_false_eq_true, Nat.succ_ne_self, reduceCtorEq]
      refine ⟨i + 1, ⟨by omega, ?_⟩, by omega⟩
      rw [wrap_i64 (by omega) (by omega), hfs, List.length_append]
      rfl
  · have hil : i = W.length := by simp at hf; omega
    subst hil
    rw [List.take_length]
    simp -implicitDefEqProofs only [go_sem, ↓acode_seq, ↓reduceIte, Nat.reduceEqDiff, Nat.reduceAdd, Nat.reduceBEq, Nat.reduceBNe, bne_self_eq_false, Nat.reduceLeDiff, Nat.reduceLT, Nat.le_refl, Int.reduceEq, true_and, and_true, Bool.or_false, Bool.or_self, Bool.not_false, Bool.and_self, Bool.and_true, decide_true, BEq.rfl, ne_eq, not_false_eq_true, Nat.succ_ne_self, reduceCtorEq]
    refine call_growN 24 h0 hb ?_
    simp -implicitDefEqProofs only [go_sem, ↓acode_seq, ↓reduceIte, Nat.reduceEqDiff, Nat.reduceAdd, Nat.reduceBEq, Nat.reduceBNe, bne_self_eq_false, Nat.reduceLeDiff, Nat.reduceLT, Nat.le_refl, Int.reduceEq, true_and, and_true, Bool.or_false, Bool.or_self, Bool.not_false, Bool.and_self, Bool.and_true, decide_true, BEq.rfl, ne_eq, not_false_eq_true, Nat.succ_ne_self, reduceCtorEq, List.length_map]
    refine loop_rule { sl := [6, 25, 26, 27], bx := [24], rw_ := [] } (fun (i : Nat) σ => i ≤ W.length ∧ σ = ⟨[(6, .arr 24 (W.take i).flatten.length), (25, .pv (IW W)), (26, .pv (.int .i64 W.length)), (27, .pv (.int .i64 i))], [(24, .cells (some (Try.prog.rowI 3)) (ints (W.take i).flatten))], []⟩) (fun i => W.length - i) 0
      (by simp [go_sem, IW, ints]) ?_
    rintro i σ ⟨hi, rfl⟩
    simp -implicitDefEqProofs only [go_sem, ↓acode_seq, ↓reduceIte, Nat.reduceEqDiff, Nat.reduceAdd, Nat.reduceBEq, Nat.reduceBNe, bne_self_eq_false, Nat.reduceLeDiff, Nat.reduceLT, Nat.le_refl, Int.reduceEq, true_and, and_true, Bool.or_false, Bool.or_self, Bool.not_false, Bool.and_self, Bool.and_true, decide_true, BEq.rfl, ne_eq, not_false_eq_true, Nat.succ_ne_self, reduceCtorEq, IW]
    refine cond_split (fun ht => ?_) fun hf => ?_
    · have hlt : i < W.length := by simpa using ht
      have hfa := flat_at hlt
      have hfs := flat_succ hlt
      simp -implicitDefEqProofs only [go_sem, ↓acode_seq, ↓reduceIte, Nat.reduceEqDiff, Nat.reduceAdd, Nat.reduceBEq, Nat.reduceBNe, bne_self_eq_false, Nat.reduceLeDiff, Nat.reduceLT, Nat.le_refl, Int.reduceEq, true_and, and_true, Bool.or_false, Bool.or_self, Bool.not_false, Bool.and_self, Bool.and_true, decide_true, BEq.rfl, ne_eq, not_false_eq_true, Nat.succ_ne_self, reduceCtorEq]
      refine idx_W rfl hlt ?_
      simp -implicitDefEqProofs only [go_sem, ↓acode_seq, ↓reduceIte, Nat.reduceEqDiff, Nat.reduceAdd, Nat.reduceBEq, Nat.reduceBNe, bne_self_eq_false, Nat.reduceLeDiff, Nat.reduceLT, Nat.le_refl, Int.reduceEq, true_and, and_true, Bool.or_false, Bool.or_self, Bool.not_false, Bool.and_self, Bool.and_true, decide_true, BEq.rfl, ne_eq, not_false_eq_true, Nat.succ_ne_self, reduceCtorEq]
      refine arr_app (m := W[i]) (by simp [go_sem]) rfl (by omega) ?_
      simp -implicitDefEqProofs only [go_sem, ↓acode_seq, ↓reduceIte, Nat.reduceEqDiff, Nat.reduceAdd, Nat.reduceBEq, Nat.reduceBNe, bne_self_eq_false, Nat.reduceLeDiff, Nat.reduceLT, Nat.le_refl, Int.reduceEq, true_and, and_true, Bool.or_false, Bool.or_self, Bool.not_false, Bool.and_self, Bool.and_true, decide_true, BEq.rfl, ne_eq, not_false_eq_true, Nat.succ_ne_self, reduceCtorEq]
      refine ⟨i + 1, ⟨by omega, ?_⟩, by omega⟩
      rw [wrap_i64 (by omega) (by omega), hfs]
      simp [go_sem]
    · have hil : i = W.length := by simp at hf; omega
      subst hil
      rw [List.take_length]
      simp -implicitDefEqProofs only [go_sem, ↓acode_seq, ↓reduceIte, Nat.reduceEqDiff, Nat.reduceAdd, Nat.reduceBEq, Nat.reduceBNe, bne_self_eq_false, Nat.reduceLeDiff, Nat.reduceLT, Nat.le_refl, Int.reduceEq, true_and, and_true, Bool.or_false, Bool.or_self, Bool.not_false, Bool.and_self, Bool.and_true, decide_true, BEq.rfl, ne_eq, not_false_eq_true, Nat.succ_ne_self, reduceCtorEq]
      simp [resX, postX, resLV, go_sem, LV.wk, BO.wk, wkL1_refl]

theorem concat_good (W : List (List Int)) (hl : W.length ≤ 9223372036854775807) (hb : W.flatten.length ≤ 1000000000) : Go.Am.Good Try.prog false 51 [IW W] [IL W.flatten] := by
  rcases Nat.eq_zero_or_pos W.flatten.length with h | h
  · exact concat0_good W hl h
  · exact (good_new (ri := Try.prog.rowI 3) (by rw [ri3]) (concat_x W hl h hb)).weak

set_option maxRecDepth 100000 in
theorem uptoP_good (r : Roll) (n : Int) (h0 : 0 ≤ n) (hn : n ≤ r.waves.length) (hl : r.waves.length ≤ 9223372036854775807) (hb : r.waves.flatten.length ≤ 1000000000) : Go.Am.Good Try.prog false 38 [R r, I n] [IL (upl r n)] := by
  refine good_rv { sl := [0, 1, 2, 4], bx := [2], rw_ := [] } [.tmp 4] mixed Try.call38 Try.func38 rfl (by kernel_rfl) (by show 2 ≤ 10; decide) (by kernel_rfl) ?_
  simp -implicitDefEqProofs only [go_sem, ↓acode_seq, ↓reduceIte, Nat.reduceEqDiff, Nat.reduceAdd, Nat.reduceBEq, Nat.reduceBNe, bne_self_eq_false, Nat.reduceLeDiff, Nat.reduceLT, Nat.le_refl, Int.reduceEq, true_and, and_true, Bool.or_false, Bool.or_self, Bool.not_false, Bool.and_self, Bool.and_true, decide_true, BEq.rfl, ne_eq, not_false_eq_true, Nat.succ_ne_self, reduceCtorEq, R, I]
  refine cut_W (a := 0) (b := n.toNat) rfl rfl (by simp [bnd]; omega) (by omega) (by omega) ?_
  simp -implicitDefEqProofs only [go_sem, ↓acode_seq, ↓reduceIte, Nat.reduceEqDiff, Nat.reduceAdd, Nat.reduceBEq, Nat.reduceBNe, bne_self_eq_false, Nat.reduceLeDiff, Nat.reduceLT, Nat.le_refl, Int.reduceEq, true_and, and_true, Bool.or_false, Bool.or_self, Bool.not_false, Bool.and_self, Bool.and_true, decide_true, BEq.rfl, ne_eq, not_false_eq_true, Nat.succ_ne_self, reduceCtorEq]
  have e : (r.waves.take n.toNat).flatten.length ≤ r.waves.flatten.length := flat_le
  refine call_rule rfl (concat_good ((r.waves.take n.toNat).drop 0) (by simp; omega) (by simpa using Nat.le_trans e hb)) (.inl rfl) ?_
  simp -implicitDefEqProofs only [go_sem, ↓acode_seq, ↓reduceIte, Nat.reduceEqDiff, Nat.reduceAdd, Nat.reduceBEq, Nat.reduceBNe, bne_self_eq_false, Nat.reduceLeDiff, Nat.reduceLT, Nat.le_refl, Int.reduceEq, true_and, and_true, Bool.or_false, Bool.or_self, Bool.not_false, Bool.and_self, Bool.and_true, decide_true, BEq.rfl, ne_eq, not_false_eq_true, Nat.succ_ne_self, reduceCtorEq, resL]
  refine res_pv rfl ?_
  simp [upl]

end Go.Proofs.Ytjbgfihkdeeonaa
