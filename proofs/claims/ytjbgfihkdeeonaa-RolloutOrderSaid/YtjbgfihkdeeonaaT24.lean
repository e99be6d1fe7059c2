/- A part of the proof over this program: contracts of its functions on pure values; nothing is assumed. -/
import Derived.Test.YtjbgfihkdeeonaaT23
set_option linter.unusedSimpArgs false
set_option linter.unusedVariables false
open Go Go.Am Go.RowKit
namespace Go.Proofs.Ytjbgfihkdeeonaa
attribute [local go_sem] acode_block acode_region acode_skip acode_label acode_exit acode_ret seqK_n seqK_e seqK_r blockK_n blockK_e blockK_r regK_ aops_nil aops_cons aops_g opGo_ aopsD_nil aopsD_cons aopsD_g opGoD_ opK_ opKD_ NewOk_nil NewOk_cons app1 app3 app4 gcX_ gc_ atEnd_ fzs_nil fzs_cons pus_nil pus_cons pu_ pur_f pur_s pur_p rfs_nil rfs_cons rbs_nil rbs_cons rf_ rfX_f rfX_s rfX_p rfX_j rfX_u rfX_a rfX_n rens_nil rens_cons mv_ mvU_ frz_ ctn_nil ctn_cons fresh_ menF_nil menF_cons menL_nil menL_cons menB_c menB_m menB_i menB_d men_undef men_junk men_pv men_full men_tup men_sl men_bp men_arr men_mr men_it men_cl men_ag men1_undef men1_junk men1_pv men1_full men1_sl men1_bp men1_arr men1_mr men1_it men1_cl cl_undef cl_junk cl_pv cl_full cl_tup cl_sl cl_bp cl_arr cl_mr cl_it cl_cl cl_ag cl1_undef cl1_junk cl1_pv cl1_full cl1_sl cl1_bp cl1_arr cl1_mr cl1_it cl1_cl clB_c clB_m clB_i alive_c alive_m alive_i alive_d pickK_nil pickK_cons consO_s consO_n consA_s consA_n aliveK_nil aliveK_cons pickF_nil pickF_cons pickG_nil pickG_cons lk_nil lk_cons f_ b_ h_ getD_some evo_t evo_c evo_f acode_cond cond_t cond_f opG_t opG_ff opG_tf opG_ft opG_u opGD_t opGD_ff opGD_tf opGD_ft opGD_u loopK_n loopK_e loopK_r endQ_n endQ_r endX_n endX_r argFrX_nil argFrX_cons argFr_nil argFr_cons op_move op_assign op_pick op_box op_alloc op_load op_store op_fieldAddr op_field op_indexAddr op_index op_slice op_build op_buildSlice op_binOp op_unOp op_convert op_extract op_makeFunc op_len op_append op_min op_max op_makeMap op_mapUpdate op_lookup op_delete op_clear op_call op_makeSlice op_range op_entry opN_move opN_assign opN_pick opN_box opN_alloc opN_load opN_store opN_fieldAddr opN_field opN_indexAddr opN_index opN_slice opN_build opN_buildSlice opN_binOp opN_unOp opN_convert opN_extract opN_makeFunc opN_len opN_append opN_min opN_max opN_makeMap opN_mapUpdate opN_lookup opN_delete opN_clear opN_call opN_next opN_makeSlice opN_range opN_entry aPick_t aPick_f mv_undef mv_junk mv_pv mv_full mv_tup mv_sl mv_bp mv_arr mv_mr mv_it mv_cl mv1_undef mv1_junk mv1_pv mv1_full mv1_tup mv1_sl mv1_bp mv1_arr mv1_mr mv1_it mv1_cl mv_ag mvB_c mvB_m mvB_i mvB_d aMin_ aMax_ fz1_pv fz1_undef fz1_junk fz1_full fz1_tup fz1_sl fz1_bp fz1_arr fz1_mr fz1_it fz_pv fz_undef fz_junk fz_full fz_tup fz_sl fz_bp fz_arr fz_mr fz_it fz_ag fzB_c fzB_m fzB_i fzB_d
attribute [local go_sem] cs3 ag3 zk3 ri3 zo3 cs4 ag4 zk4 ri4 zo4 cs5 ag5 zk5 ri5 zo5 cs22 ag22 zk22 ri22 zo22 cs23 ag23 zk23 ri23 zo23 cs25 ag25 zk25 ri25 zo25 fk25 fo25_0 fp25_0 fo25_1 fp25_1 fo25_2 fp25_2 cs26 ag26 zk26 ri26 zo26 cs27 ag27 zk27 ri27 zo27 cs29 ag29 zk29 ri29 zo29 fk29 fo29_0 fp29_0 fo29_1 fp29_1 fo29_2 fp29_2 fo29_3 fp29_3 fo29_4 fp29_4 fo29_5 fp29_5 fo29_6 fp29_6 cs31 ag31 zk31 ri31 zo31 fk31 fo31_0 fp31_0 fo31_1 fp31_1 fo31_2 fp31_2 fo31_3 fp31_3 fo31_4 fp31_4 cs35 ag35 zk35 ri35 zo35 fk35 fo35_0 fp35_0 fo35_1 fp35_1 fo35_2 fp35_2 fo35_3 fp35_3 cs38 ag38 zk38 ri38 zo38 cs40 ag40 zk40 ri40 zo40 fk40 fo40_0 fp40_0 fo40_1 fp40_1 cs42 ag42 zk42 ri42 zo42 cs45 ag45 zk45 ri45 zo45 fk45 fo45_0 fp45_0 fo45_1 fp45_1 fo45_2 fp45_2 fo45_3 fp45_3 fo45_4 fp45_4 fo45_5 fp45_5 cs55 ag55 zk55 ri55 zo55 fk55 fp55_0 fp55_1 cs61 ag61 zk61 ri61 zo61 fk61 fp61_0 fp61_1 cs66 ag66 zk66 ri66 zo66 cs82 ag82 zk82 ri82 zo82 fk82 fo82_0 fp82_0 cs83 ag83 zk83 ri83 zo83 fk83 fp83_0 fp83_1 fp83_2 fp83_3 fp83_4
attribute [local go_sem] List.filter_cons List.filter_nil aBuild splice1 splice2 fillL_nil fillL_cons fillX_ List.set_cons_zero List.set_cons_succ List.take_succ_cons List.take_zero List.drop_succ_cons List.drop_zero List.length_cons List.length_nil List.append_nil aRange aEntry ints_clean ints_mv ints_men ints_ren ints_only List.any_cons List.any_nil List.all_cons List.all_nil Bool.true_and Bool.false_and Bool.and_false Bool.false_or Bool.true_or Bool.or_true Option.some.injEq exists_eq_left' exists_eq_left Nat.zero_add List.getElem?_toArray List.getElem?_cons_succ List.getElem?_cons_zero bs0 bs1 bs1I bs2 bs3 Option.isNone_none Option.isNone_some ofC aLen aBin aInt LV.list? aBox aAlloc aLoad aStore aFieldAddr aField aUn aConv aMakeMap aExtract LV.cells? pc_int pc_bool pc_str pc_slc pc_agg pc_ptr pc_nilp pc_nilf pc_clo pc_map cells_I cells_IL cells_IW Option.map_some Option.map_none Option.bind_some Option.bind_none List.cons_append List.nil_append List.map_cons List.map_nil List.length_cons List.length_nil Option.isSome_some Bool.not_true Bool.not_false Try.underlying3 Try.underlying4 Try.underlying5 Try.underlying22 Try.underlying23 Try.underlying25 Try.underlying26 Try.underlying27 Try.underlying29 Try.underlying31 Try.underlying35 Try.underlying38 Try.underlying40 Try.underlying42 Try.underlying45 Try.underlying55 Try.underlying61 Try.underlying66 Try.underlying82 Try.underlying83

def exA : Roll := ⟨3, 4, [[3], [1, 2]], 5, 0, [], 0⟩
def exB : Roll := ⟨3, 4, [[3], [1, 2]], 5, 1, [3], 0⟩
def exC : Roll := ⟨3, 4, [[3], [1, 2]], 5, 1, [3], 1⟩
def exD : Roll := ⟨3, 4, [[3], [1, 2]], 5, 1, [], 2⟩
def exE : Roll := ⟨3, 4, [[3], [1, 2]], 5, 1, [1], 2⟩
def exF : Roll := ⟨3, 4, [[3], [1, 2]], 5, 1, [1, 2], 2⟩
def exG : Roll := ⟨3, 4, [[3], [1, 2]], 5, 1, [1, 2, 3], 4⟩
theorem vA : VR exA := V_iff.1 (by kernel_rfl)
theorem vB : VR exB := V_iff.1 (by kernel_rfl)
theorem vC : VR exC := V_iff.1 (by kernel_rfl)
theorem vD : VR exD := V_iff.1 (by kernel_rfl)
theorem vE : VR exE := V_iff.1 (by kernel_rfl)
theorem vF : VR exF := V_iff.1 (by kernel_rfl)
theorem vG : VR exG := V_iff.1 (by kernel_rfl)
theorem eA : newF 3 4 [[3], [1, 2]] 5 = (⟨3, 4, [[3], [1, 2]], 5, 0, [], 0⟩, 0) := by kernel_rfl
theorem eB : seeF exA (goodF exA 3) = (⟨3, 4, [[3], [1, 2]], 5, 1, [3], 0⟩, 0) := by kernel_rfl
theorem eC : seeF exB ⟨2, 4, 4, true, true⟩ = (⟨3, 4, [[3], [1, 2]], 5, 1, [3], 1⟩, 0) := by kernel_rfl
theorem eD : backF exC = (⟨3, 4, [[3], [1, 2]], 5, 1, [], 2⟩, 0) := by kernel_rfl
theorem eE : seeF exD ⟨1, 3, 0, false, true⟩ = (⟨3, 4, [[3], [1, 2]], 5, 1, [1], 2⟩, 0) := by kernel_rfl
theorem eF : seeF exE ⟨2, 3, 0, false, true⟩ = (⟨3, 4, [[3], [1, 2]], 5, 1, [1, 2], 2⟩, 0) := by kernel_rfl
theorem eG : seeF exF ⟨3, 3, 0, false, true⟩ = (⟨3, 4, [[3], [1, 2]], 5, 1, [1, 2, 3], 4⟩, 0) := by kernel_rfl
theorem rA : readyF exA = [3] := by kernel_rfl
theorem rB : readyF exB = [1, 2] := by kernel_rfl
theorem rC : readyF exC = [] := by kernel_rfl
theorem rD : readyF exD = [1, 2, 3] := by kernel_rfl
theorem uC : resumeF exC = (⟨3, 4, [[3], [1, 2]], 5, 1, [3], 0⟩, 0) := by kernel_rfl
theorem uA : resumeF exA = (Roll0, 510) := by kernel_rfl
theorem xA : seeF exA (goodF exA 7) = (Roll0, 510) := by kernel_rfl
theorem nA : newF 3 3 [[3]] 0 = (Roll0, 510) := by kernel_rfl
theorem vN : V Roll0 = false := by kernel_rfl
theorem vGb : V exG = true := by kernel_rfl
theorem q3 : decide (([3] : List Int) = [3]) = true := by decide
theorem q12 : decide (([1, 2] : List Int) = [1, 2]) = true := by decide
theorem q123 : decide (([1, 2, 3] : List Int) = [1, 2, 3]) = true := by decide
set_option maxRecDepth 100000 in
theorem bsW2 {K : Upd → Prop} {x y : LV} {l m : List Int} (hx : x.pure? = some (IL l)) (hy : y.pure? = some (IL m)) (h : K ⟨.full [IL l, IL m], [], [], [], none, []⟩) : aBuildSlice Try.prog K 26 2 [(0, x), (1, y)] := by
  simp only [aBuildSlice, Try.underlying26, partsL, hx, hy, cs27, zk27]
  exact ⟨rfl, by intro p hp; simp at hp; rcases hp with rfl | rfl <;> rfl, by omega, by simp, trivial, h⟩

def exR : Nat → Roll
  | 0 => exD
  | 1 => exE
  | 2 => exF
  | _ => exG
noncomputable def exSt (i : Nat) : St := ⟨[(1, .bp 1 0), (5, .bp 5 0), (6, .pv (.int .i64 ((i + 1 : Nat) : Int)))],
      [(1, .cells none [.pv (.int .i64 3), .pv (.int .i64 4), .pv (IW [[3], [1, 2]]), .pv (.int .i64 5), .pv (.int .i64 0), .pv (IL []), .pv (.int .i64 0), .pv (.int .i64 0)]),
       (5, .cells none (RC (exR i)))], []⟩
theorem sameR_good (r q : Roll) (h : Sm r) : Go.Am.Good Try.prog false 31 [R r, R q] [.bool (sameF r q)] := same_good r q (by have := h.n; omega) (fun w hw => by have := h.w w hw; omega) (by have := h.d; omega)
set_option maxHeartbeats 8000000 in
set_option maxRecDepth 100000 in
theorem examples_good : Go.Am.Good Try.prog false 9 [] [.bool true] := by
  refine good_rv { sl := [0, 1, 2, 3, 4, 5, 6, 22, 87, 91], bx := [1, 2, 3, 4, 5], rw_ := [] } [.tmp 0] mixed Try.call9 Try.func9 rfl (by kernel_rfl) (by show 0 ≤ 142; decide) (by kernel_rfl) ?_
  simp -implicitDefEqProofs only [go_sem, ↓acode_seq, ↓reduceIte, Nat.reduceEqDiff, Nat.reduceAdd, Nat.reduceBEq, Nat.reduceBNe, bne_self_eq_false, Nat.reduceLeDiff, Nat.reduceLT, Nat.le_refl, Int.reduceEq, true_and, and_true, Bool.or_false, Bool.or_self, Bool.not_false, Bool.and_self, Bool.and_true, decide_true, BEq.rfl, ne_eq, not_false_eq_true, Nat.succ_ne_self, reduceCtorEq]
  refine bsW2 (l := [3]) (m := [1, 2]) rfl rfl ?_
  simp -implicitDefEqProofs only [go_sem, ↓acode_seq, ↓reduceIte, Nat.reduceEqDiff, Nat.reduceAdd, Nat.reduceBEq, Nat.reduceBNe, bne_self_eq_false, Nat.reduceLeDiff, Nat.reduceLT, Nat.le_refl, Int.reduceEq, true_and, and_true, Bool.or_false, Bool.or_self, Bool.not_false, Bool.and_self, Bool.and_true, decide_true, BEq.rfl, ne_eq, not_false_eq_true, Nat.succ_ne_self, reduceCtorEq]
  refine call_rule rfl (made_good 3 4 [[3], [1, 2]] 5 (by simp) (by simp)) (.inl rfl) ?_
  simp -implicitDefEqProofs only [go_sem, ↓acode_seq, ↓reduceIte, Nat.reduceEqDiff, Nat.reduceAdd, Nat.reduceBEq, Nat.reduceBNe, bne_self_eq_false, Nat.reduceLeDiff, Nat.reduceLT, Nat.le_refl, Int.reduceEq, true_and, and_true, Bool.or_false, Bool.or_self, Bool.not_false, Bool.and_self, Bool.and_true, decide_true, BEq.rfl, ne_eq, not_false_eq_true, Nat.succ_ne_self, reduceCtorEq, resL, eA, G, I]
  refine call_rule rfl (readyP_good exA vA) (.inl rfl) ?_
  simp -implicitDefEqProofs only [go_sem, ↓acode_seq, ↓reduceIte, Nat.reduceEqDiff, Nat.reduceAdd, Nat.reduceBEq, Nat.reduceBNe, bne_self_eq_false, Nat.reduceLeDiff, Nat.reduceLT, Nat.le_refl, Int.reduceEq, true_and, and_true, Bool.or_false, Bool.or_self, Bool.not_false, Bool.and_self, Bool.and_true, decide_true, BEq.rfl, ne_eq, not_false_eq_true, Nat.succ_ne_self, reduceCtorEq, resL, rA]
  refine call_rule rfl (ints_good [3] [3] (by simp)) (.inl rfl) ?_
  simp -implicitDefEqProofs only [go_sem, ↓acode_seq, ↓reduceIte, Nat.reduceEqDiff, Nat.reduceAdd, Nat.reduceBEq, Nat.reduceBNe, bne_self_eq_false, Nat.reduceLeDiff, Nat.reduceLT, Nat.le_refl, Int.reduceEq, true_and, and_true, Bool.or_false, Bool.or_self, Bool.not_false, Bool.and_self, Bool.and_true, decide_true, BEq.rfl, ne_eq, not_false_eq_true, Nat.succ_ne_self, reduceCtorEq, resL, q3, ↓acode_draw]
  refine ⟨by kernel_rfl, ?_⟩
  refine call_rule rfl (mkgood_good exA 3) (.inl rfl) ?_
  simp -implicitDefEqProofs only [go_sem, ↓acode_seq, ↓reduceIte, Nat.reduceEqDiff, Nat.reduceAdd, Nat.reduceBEq, Nat.reduceBNe, bne_self_eq_false, Nat.reduceLeDiff, Nat.reduceLT, Nat.le_refl, Int.reduceEq, true_and, and_true, Bool.or_false, Bool.or_self, Bool.not_false, Bool.and_self, Bool.and_true, decide_true, BEq.rfl, ne_eq, not_false_eq_true, Nat.succ_ne_self, reduceCtorEq, resL]
  refine call_rule rfl (seeL_good exA (goodF exA 3) vA) (.inl rfl) ?_
  simp -implicitDefEqProofs only [go_sem, ↓acode_seq, ↓reduceIte, Nat.reduceEqDiff, Nat.reduceAdd, Nat.reduceBEq, Nat.reduceBNe, bne_self_eq_false, Nat.reduceLeDiff, Nat.reduceLT, Nat.le_refl, Int.reduceEq, true_and, and_true, Bool.or_false, Bool.or_self, Bool.not_false, Bool.and_self, Bool.and_true, decide_true, BEq.rfl, ne_eq, not_false_eq_true, Nat.succ_ne_self, reduceCtorEq, resL, eB, G, I]
  refine ⟨rfl, rfl, ?_⟩
  simp -implicitDefEqProofs only [go_sem, ↓acode_seq, ↓reduceIte, Nat.reduceEqDiff, Nat.reduceAdd, Nat.reduceBEq, Nat.reduceBNe, bne_self_eq_false, Nat.reduceLeDiff, Nat.reduceLT, Nat.le_refl, Int.reduceEq, true_and, and_true, Bool.or_false, Bool.or_self, Bool.not_false, Bool.and_self, Bool.and_true, decide_true, BEq.rfl, ne_eq, not_false_eq_true, Nat.succ_ne_self, reduceCtorEq]
  refine call_rule rfl (seeL_good exB ⟨2, 4, 4, true, true⟩ vB) (.inl rfl) ?_
  simp -implicitDefEqProofs only [go_sem, ↓acode_seq, ↓reduceIte, Nat.reduceEqDiff, Nat.reduceAdd, Nat.reduceBEq, Nat.reduceBNe, bne_self_eq_false, Nat.reduceLeDiff, Nat.reduceLT, Nat.le_refl, Int.reduceEq, true_and, and_true, Bool.or_false, Bool.or_self, Bool.not_false, Bool.and_self, Bool.and_true, decide_true, BEq.rfl, ne_eq, not_false_eq_true, Nat.succ_ne_self, reduceCtorEq, resL, eC, G, I]
  refine call_rule rfl (back_good exC vC.sm) (.inl rfl) ?_
  simp -implicitDefEqProofs only [go_sem, ↓acode_seq, ↓reduceIte, Nat.reduceEqDiff, Nat.reduceAdd, Nat.reduceBEq, Nat.reduceBNe, bne_self_eq_false, Nat.reduceLeDiff, Nat.reduceLT, Nat.le_refl, Int.reduceEq, true_and, and_true, Bool.or_false, Bool.or_self, Bool.not_false, Bool.and_self, Bool.and_true, decide_true, BEq.rfl, ne_eq, not_false_eq_true, Nat.succ_ne_self, reduceCtorEq, resL, eD, G, I, ↓acode_draw]
  refine ⟨by kernel_rfl, ?_⟩
  refine call_rule rfl (readyP_good exB vB) (.inl rfl) ?_
  simp -implicitDefEqProofs only [go_sem, ↓acode_seq, ↓reduceIte, Nat.reduceEqDiff, Nat.reduceAdd, Nat.reduceBEq, Nat.reduceBNe, bne_self_eq_false, Nat.reduceLeDiff, Nat.reduceLT, Nat.le_refl, Int.reduceEq, true_and, and_true, Bool.or_false, Bool.or_self, Bool.not_false, Bool.and_self, Bool.and_true, decide_true, BEq.rfl, ne_eq, not_false_eq_true, Nat.succ_ne_self, reduceCtorEq, resL, rB]
  refine call_rule rfl (ints_good [1, 2] [1, 2] (by simp)) (.inl rfl) ?_
  simp -implicitDefEqProofs only [go_sem, ↓acode_seq, ↓reduceIte, Nat.reduceEqDiff, Nat.reduceAdd, Nat.reduceBEq, Nat.reduceBNe, bne_self_eq_false, Nat.reduceLeDiff, Nat.reduceLT, Nat.le_refl, Int.reduceEq, true_and, and_true, Bool.or_false, Bool.or_self, Bool.not_false, Bool.and_self, Bool.and_true, decide_true, BEq.rfl, ne_eq, not_false_eq_true, Nat.succ_ne_self, reduceCtorEq, resL, q12]
  refine call_rule rfl (readyP_good exC vC) (.inl rfl) ?_
  simp -implicitDefEqProofs only [go_sem, ↓acode_seq, ↓reduceIte, Nat.reduceEqDiff, Nat.reduceAdd, Nat.reduceBEq, Nat.reduceBNe, bne_self_eq_false, Nat.reduceLeDiff, Nat.reduceLT, Nat.le_refl, Int.reduceEq, true_and, and_true, Bool.or_false, Bool.or_self, Bool.not_false, Bool.and_self, Bool.and_true, decide_true, BEq.rfl, ne_eq, not_false_eq_true, Nat.succ_ne_self, reduceCtorEq, resL, rC, IL, List.length_map, Int.ofNat_zero, Int.cast_ofNat_Int]
  refine call_rule rfl (readyP_good exD vD) (.inl rfl) ?_
  simp -implicitDefEqProofs only [go_sem, ↓acode_seq, ↓reduceIte, Nat.reduceEqDiff, Nat.reduceAdd, Nat.reduceBEq, Nat.reduceBNe, bne_self_eq_false, Nat.reduceLeDiff, Nat.reduceLT, Nat.le_refl, Int.reduceEq, true_and, and_true, Bool.or_false, Bool.or_self, Bool.not_false, Bool.and_self, Bool.and_true, decide_true, BEq.rfl, ne_eq, not_false_eq_true, Nat.succ_ne_self, reduceCtorEq, resL, rD]
  refine call_rule rfl (ints_good [1, 2, 3] [1, 2, 3] (by simp)) (.inl rfl) ?_
  simp -implicitDefEqProofs only [go_sem, ↓acode_seq, ↓reduceIte, Nat.reduceEqDiff, Nat.reduceAdd, Nat.reduceBEq, Nat.reduceBNe, bne_self_eq_false, Nat.reduceLeDiff, Nat.reduceLT, Nat.le_refl, Int.reduceEq, true_and, and_true, Bool.or_false, Bool.or_self, Bool.not_false, Bool.and_self, Bool.and_true, decide_true, BEq.rfl, ne_eq, not_false_eq_true, Nat.succ_ne_self, reduceCtorEq, resL, q123]
  refine call_rule rfl (resume_good exC) (.inl rfl) ?_
  simp -implicitDefEqProofs only [go_sem, ↓acode_seq, ↓reduceIte, Nat.reduceEqDiff, Nat.reduceAdd, Nat.reduceBEq, Nat.reduceBNe, bne_self_eq_false, Nat.reduceLeDiff, Nat.reduceLT, Nat.le_refl, Int.reduceEq, true_and, and_true, Bool.or_false, Bool.or_self, Bool.not_false, Bool.and_self, Bool.and_true, decide_true, BEq.rfl, ne_eq, not_false_eq_true, Nat.succ_ne_self, reduceCtorEq, resL, uC, G, I]
  refine call_rule rfl (sameR_good exB exB vB.sm) (.inl rfl) ?_
  simp -implicitDefEqProofs only [go_sem, ↓acode_seq, ↓reduceIte, Nat.reduceEqDiff, Nat.reduceAdd, Nat.reduceBEq, Nat.reduceBNe, bne_self_eq_false, Nat.reduceLeDiff, Nat.reduceLT, Nat.le_refl, Int.reduceEq, true_and, and_true, Bool.or_false, Bool.or_self, Bool.not_false, Bool.and_self, Bool.and_true, decide_true, BEq.rfl, ne_eq, not_false_eq_true, Nat.succ_ne_self, reduceCtorEq, resL, sameF_refl]
  refine ⟨rfl, rfl, ?_⟩
  simp -implicitDefEqProofs only [go_sem, ↓acode_seq, ↓reduceIte, Nat.reduceEqDiff, Nat.reduceAdd, Nat.reduceBEq, Nat.reduceBNe, bne_self_eq_false, Nat.reduceLeDiff, Nat.reduceLT, Nat.le_refl, Int.reduceEq, true_and, and_true, Bool.or_false, Bool.or_self, Bool.not_false, Bool.and_self, Bool.and_true, decide_true, BEq.rfl, ne_eq, not_false_eq_true, Nat.succ_ne_self, reduceCtorEq]
  refine loop_rule { sl := [1, 5, 6], bx := [1, 5], rw_ := [] } (fun (i : Nat) σ => i ≤ 3 ∧ σ = exSt i) (fun i => 3 - i) 0
    ⟨by omega, by simp [go_sem, exSt, exR, RC, I, exD, IL]⟩ ?_
  rintro i σ ⟨hi, rfl⟩
  obtain rfl | rfl | rfl | rfl : i = 0 ∨ i = 1 ∨ i = 2 ∨ i = 3 := by omega
  · simp -implicitDefEqProofs only [go_sem, ↓acode_seq, ↓reduceIte, Nat.reduceEqDiff, Nat.reduceAdd, Nat.reduceBEq, Nat.reduceBNe, bne_self_eq_false, Nat.reduceLeDiff, Nat.reduceLT, Nat.le_refl, Int.reduceEq, true_and, and_true, Bool.or_false, Bool.or_self, Bool.not_false, Bool.and_self, Bool.and_true, decide_true, BEq.rfl, ne_eq, not_false_eq_true, Nat.succ_ne_self, reduceCtorEq, show exSt 0 = ⟨[(1, .bp 1 0), (5, .bp 5 0), (6, .pv (.int .i64 1))], [(1, .cells none [.pv (.int .i64 3), .pv (.int .i64 4), .pv (IW [[3], [1, 2]]), .pv (.int .i64 5), .pv (.int .i64 0), .pv (IL []), .pv (.int .i64 0), .pv (.int .i64 0)]), (5, .cells none (RC exD))], []⟩ from rfl, RC, I, exD, show decide ((1 : Int) ≤ 3) = true from rfl]
    refine call_rule rfl (seeL_good exD ⟨1, 3, 0, false, true⟩ vD) (.inl rfl) ?_
    simp -implicitDefEqProofs only [go_sem, ↓acode_seq, ↓reduceIte, Nat.reduceEqDiff, Nat.reduceAdd, Nat.reduceBEq, Nat.reduceBNe, bne_self_eq_false, Nat.reduceLeDiff, Nat.reduceLT, Nat.le_refl, Int.reduceEq, true_and, and_true, Bool.or_false, Bool.or_self, Bool.not_false, Bool.and_self, Bool.and_true, decide_true, BEq.rfl, ne_eq, not_false_eq_true, Nat.succ_ne_self, reduceCtorEq, resL, eE, G, I]
    refine ⟨1, ⟨by omega, ?_⟩, by omega⟩
    rw [show IntKind.i64.wrap (1 + 1) = 2 from rfl]
    rfl
  · simp -implicitDefEqProofs only [go_sem, ↓acode_seq, ↓reduceIte, Nat.reduceEqDiff, Nat.reduceAdd, Nat.reduceBEq, Nat.reduceBNe, bne_self_eq_false, Nat.reduceLeDiff, Nat.reduceLT, Nat.le_refl, Int.reduceEq, true_and, and_true, Bool.or_false, Bool.or_self, Bool.not_false, Bool.and_self, Bool.and_true, decide_true, BEq.rfl, ne_eq, not_false_eq_true, Nat.succ_ne_self, reduceCtorEq, show exSt 1 = ⟨[(1, .bp 1 0), (5, .bp 5 0), (6, .pv (.int .i64 2))], [(1, .cells none [.pv (.int .i64 3), .pv (.int .i64 4), .pv (IW [[3], [1, 2]]), .pv (.int .i64 5), .pv (.int .i64 0), .pv (IL []), .pv (.int .i64 0), .pv (.int .i64 0)]), (5, .cells none (RC exE))], []⟩ from rfl, RC, I, exE, show decide ((2 : Int) ≤ 3) = true from rfl]
    refine call_rule rfl (seeL_good exE ⟨2, 3, 0, false, true⟩ vE) (.inl rfl) ?_
    simp -implicitDefEqProofs only [go_sem, ↓acode_seq, ↓reduceIte, Nat.reduceEqDiff, Nat.reduceAdd, Nat.reduceBEq, Nat.reduceBNe, bne_self_eq_false, Nat.reduceLeDiff, Nat.reduceLT, Nat.le_refl, Int.reduceEq, true_and, and_true, Bool.or_false, Bool.or_self, Bool.not_false, Bool.and_self, Bool.and_true, decide_true, BEq.rfl, ne_eq, not_false_eq_true, Nat.succ_ne_self, reduceCtorEq, resL, eF, G, I]
    refine ⟨2, ⟨by omega, ?_⟩, by omega⟩
    rw [show IntKind.i64.wrap (2 + 1) = 3 from rfl]
    rfl
  · simp -implicitDefEqProofs only [go_sem, ↓acode_seq, ↓reduceIte, Nat.reduceEqDiff, Nat.reduceAdd, Nat.reduceBEq, Nat.reduceBNe, bne_self_eq_false, Nat.reduceLeDiff, Nat.reduceLT, Nat.le_refl, Int.reduceEq, true_and, and_true, Bool.or_false, Bool.or_self, Bool.not_false, Bool.and_self, Bool.and_true, decide_true, BEq.rfl, ne_eq, not_false_eq_true, Nat.succ_ne_self, reduceCtorEq, show exSt 2 = ⟨[(1, .bp 1 0), (5, .bp 5 0), (6, .pv (.int .i64 3))], [(1, .cells none [.pv (.int .i64 3), .pv (.int .i64 4), .pv (IW [[3], [1, 2]]), .pv (.int .i64 5), .pv (.int .i64 0), .pv (IL []), .pv (.int .i64 0), .pv (.int .i64 0)]), (5, .cells none (RC exF))], []⟩ from rfl, RC, I, exF, show decide ((3 : Int) ≤ 3) = true from rfl]
    refine call_rule rfl (seeL_good exF ⟨3, 3, 0, false, true⟩ vF) (.inl rfl) ?_
    simp -implicitDefEqProofs only [go_sem, ↓acode_seq, ↓reduceIte, Nat.reduceEqDiff, Nat.reduceAdd, Nat.reduceBEq, Nat.reduceBNe, bne_self_eq_false, Nat.reduceLeDiff, Nat.reduceLT, Nat.le_refl, Int.reduceEq, true_and, and_true, Bool.or_false, Bool.or_self, Bool.not_false, Bool.and_self, Bool.and_true, decide_true, BEq.rfl, ne_eq, not_false_eq_true, Nat.succ_ne_self, reduceCtorEq, resL, eG, G, I]
    refine ⟨3, ⟨by omega, ?_⟩, by omega⟩
    rw [show IntKind.i64.wrap (3 + 1) = 4 from rfl]
    rfl
  · simp -implicitDefEqProofs only [go_sem, ↓acode_seq, ↓reduceIte, Nat.reduceEqDiff, Nat.reduceAdd, Nat.reduceBEq, Nat.reduceBNe, bne_self_eq_false, Nat.reduceLeDiff, Nat.reduceLT, Nat.le_refl, Int.reduceEq, true_and, and_true, Bool.or_false, Bool.or_self, Bool.not_false, Bool.and_self, Bool.and_true, decide_true, BEq.rfl, ne_eq, not_false_eq_true, Nat.succ_ne_self, reduceCtorEq, show exSt 3 = ⟨[(1, .bp 1 0), (5, .bp 5 0), (6, .pv (.int .i64 4))], [(1, .cells none [.pv (.int .i64 3), .pv (.int .i64 4), .pv (IW [[3], [1, 2]]), .pv (.int .i64 5), .pv (.int .i64 0), .pv (IL []), .pv (.int .i64 0), .pv (.int .i64 0)]), (5, .cells none (RC exG))], []⟩ from rfl, RC, I, exG, show decide ((4 : Int) ≤ 3) = false from rfl, ↓acode_draw]
    refine ⟨by kernel_rfl, ?_⟩
    refine call_rule rfl (ints_good [1, 2, 3] [1, 2, 3] (by simp)) (.inl rfl) ?_
    simp -implicitDefEqProofs only [go_sem, ↓acode_seq, ↓reduceIte, Nat.reduceEqDiff, Nat.reduceAdd, Nat.reduceBEq, Nat.reduceBNe, bne_self_eq_false, Nat.reduceLeDiff, Nat.reduceLT, Nat.le_refl, Int.reduceEq, true_and, and_true, Bool.or_false, Bool.or_self, Bool.not_false, Bool.and_self, Bool.and_true, decide_true, BEq.rfl, ne_eq, not_false_eq_true, Nat.succ_ne_self, reduceCtorEq, resL, q123]
    refine call_rule rfl (validP_good exG (by have := vG.sm.n; omega) (fun w hw => by have := vG.sm.w w hw; omega) (by have := vG.done_len; omega)) (.inl rfl) ?_
    simp -implicitDefEqProofs only [go_sem, ↓acode_seq, ↓reduceIte, Nat.reduceEqDiff, Nat.reduceAdd, Nat.reduceBEq, Nat.reduceBNe, bne_self_eq_false, Nat.reduceLeDiff, Nat.reduceLT, Nat.le_refl, Int.reduceEq, true_and, and_true, Bool.or_false, Bool.or_self, Bool.not_false, Bool.and_self, Bool.and_true, decide_true, BEq.rfl, ne_eq, not_false_eq_true, Nat.succ_ne_self, reduceCtorEq, resL, vGb]
    refine call_rule rfl (validP_good Roll0 (by simp [Roll0]) (by simp [Roll0]) (by simp [Roll0])) (.inl rfl) ?_
    simp -implicitDefEqProofs only [go_sem, ↓acode_seq, ↓reduceIte, Nat.reduceEqDiff, Nat.reduceAdd, Nat.reduceBEq, Nat.reduceBNe, bne_self_eq_false, Nat.reduceLeDiff, Nat.reduceLT, Nat.le_refl, Int.reduceEq, true_and, and_true, Bool.or_false, Bool.or_self, Bool.not_false, Bool.and_self, Bool.and_true, decide_true, BEq.rfl, ne_eq, not_false_eq_true, Nat.succ_ne_self, reduceCtorEq, resL, vN]
    refine call_rule rfl (mkgood_good exA 7) (.inl rfl) ?_
    simp -implicitDefEqProofs only [go_sem, ↓acode_seq, ↓reduceIte, Nat.reduceEqDiff, Nat.reduceAdd, Nat.reduceBEq, Nat.reduceBNe, bne_self_eq_false, Nat.reduceLeDiff, Nat.reduceLT, Nat.le_refl, Int.reduceEq, true_and, and_true, Bool.or_false, Bool.or_self, Bool.not_false, Bool.and_self, Bool.and_true, decide_true, BEq.rfl, ne_eq, not_false_eq_true, Nat.succ_ne_self, reduceCtorEq, resL]
    refine call_rule rfl (seeL_good exA (goodF exA 7) vA) (.inl rfl) ?_
    simp -implicitDefEqProofs only [go_sem, ↓acode_seq, ↓reduceIte, Nat.reduceEqDiff, Nat.reduceAdd, Nat.reduceBEq, Nat.reduceBNe, bne_self_eq_false, Nat.reduceLeDiff, Nat.reduceLT, Nat.le_refl, Int.reduceEq, true_and, and_true, Bool.or_false, Bool.or_self, Bool.not_false, Bool.and_self, Bool.and_true, decide_true, BEq.rfl, ne_eq, not_false_eq_true, Nat.succ_ne_self, reduceCtorEq, resL, xA, G, I, Roll0]
    refine call_rule rfl (resume_good exA) (.inl rfl) ?_
    simp -implicitDefEqProofs only [go_sem, ↓acode_seq, ↓reduceIte, Nat.reduceEqDiff, Nat.reduceAdd, Nat.reduceBEq, Nat.reduceBNe, bne_self_eq_false, Nat.reduceLeDiff, Nat.reduceLT, Nat.le_refl, Int.reduceEq, true_and, and_true, Bool.or_false, Bool.or_self, Bool.not_false, Bool.and_self, Bool.and_true, decide_true, BEq.rfl, ne_eq, not_false_eq_true, Nat.succ_ne_self, reduceCtorEq, resL, uA, G, I, Roll0]
    refine bsW1 (l := [3]) rfl ?_
    simp -implicitDefEqProofs only [go_sem, ↓acode_seq, ↓reduceIte, Nat.reduceEqDiff, Nat.reduceAdd, Nat.reduceBEq, Nat.reduceBNe, bne_self_eq_false, Nat.reduceLeDiff, Nat.reduceLT, Nat.le_refl, Int.reduceEq, true_and, and_true, Bool.or_false, Bool.or_self, Bool.not_false, Bool.and_self, Bool.and_true, decide_true, BEq.rfl, ne_eq, not_false_eq_true, Nat.succ_ne_self, reduceCtorEq]
    refine call_rule rfl (made_good 3 3 [[3]] 0 (by simp) (by simp)) (.inl rfl) ?_
    simp -implicitDefEqProofs only [go_sem, ↓acode_seq, ↓reduceIte, Nat.reduceEqDiff, Nat.reduceAdd, Nat.reduceBEq, Nat.reduceBNe, bne_self_eq_false, Nat.reduceLeDiff, Nat.reduceLT, Nat.le_refl, Int.reduceEq, true_and, and_true, Bool.or_false, Bool.or_self, Bool.not_false, Bool.and_self, Bool.and_true, decide_true, BEq.rfl, ne_eq, not_false_eq_true, Nat.succ_ne_self, reduceCtorEq, resL, nA, G, I, Roll0]
    refine ⟨rfl, rfl, ?_⟩
    simp -implicitDefEqProofs only [go_sem, ↓acode_seq, ↓reduceIte, Nat.reduceEqDiff, Nat.reduceAdd, Nat.reduceBEq, Nat.reduceBNe, bne_self_eq_false, Nat.reduceLeDiff, Nat.reduceLT, Nat.le_refl, Int.reduceEq, true_and, and_true, Bool.or_false, Bool.or_self, Bool.not_false, Bool.and_self, Bool.and_true, decide_true, BEq.rfl, ne_eq, not_false_eq_true, Nat.succ_ne_self, reduceCtorEq]
    exact res_pv rfl rfl

end Go.Proofs.Ytjbgfihkdeeonaa
