/- A part of the proof over this program: contracts of its functions on pure values; nothing is assumed. -/
import Derived.Test.YtjbgfihkdeeonaaT17
set_option linter.unusedSimpArgs false
set_option linter.unusedVariables false
open Go Go.Am Go.RowKit
namespace Go.Proofs.Ytjbgfihkdeeonaa
attribute [local go_sem] acode_block acode_region acode_skip acode_label acode_exit acode_ret seqK_n seqK_e seqK_r blockK_n blockK_e blockK_r regK_ aops_nil aops_cons aops_g opGo_ aopsD_nil aopsD_cons aopsD_g opGoD_ opK_ opKD_ NewOk_nil NewOk_cons app1 app3 app4 gcX_ gc_ atEnd_ fzs_nil fzs_cons pus_nil pus_cons pu_ pur_f pur_s pur_p rfs_nil rfs_cons rbs_nil rbs_cons rf_ rfX_f rfX_s rfX_p rfX_j rfX_u rfX_a rfX_n rens_nil rens_cons mv_ mvU_ frz_ ctn_nil ctn_cons fresh_ menF_nil menF_cons menL_nil menL_cons menB_c menB_m menB_i menB_d men_undef men_junk men_pv men_full men_tup men_sl men_bp men_arr men_mr men_it men_cl men_ag men1_undef men1_junk men1_pv men1_full men1_sl men1_bp men1_arr men1_mr men1_it men1_cl cl_undef cl_junk cl_pv cl_full cl_tup cl_sl cl_bp cl_arr cl_mr cl_it cl_cl cl_ag cl1_undef cl1_junk cl1_pv cl1_full cl1_sl cl1_bp cl1_arr cl1_mr cl1_it cl1_cl clB_c clB_m clB_i alive_c alive_m alive_i alive_d pickK_nil pickK_cons consO_s consO_n consA_s consA_n aliveK_nil aliveK_cons pickF_nil pickF_cons pickG_nil pickG_cons lk_nil lk_cons f_ b_ h_ getD_some evo_t evo_c evo_f acode_cond cond_t cond_f opG_t opG_ff opG_tf opG_ft opG_u opGD_t opGD_ff opGD_tf opGD_ft opGD_u loopK_n loopK_e loopK_r endQ_n endQ_r endX_n endX_r argFrX_nil argFrX_cons argFr_nil argFr_cons op_move op_assign op_pick op_box op_alloc op_load op_store op_fieldAddr op_field op_indexAddr op_index op_slice op_build op_buildSlice op_binOp op_unOp op_convert op_extract op_makeFunc op_len op_append op_min op_max op_makeMap op_mapUpdate op_lookup op_delete op_clear op_call op_makeSlice op_range op_entry opN_move opN_assign opN_pick opN_box opN_alloc opN_load opN_store opN_fieldAddr opN_field opN_indexAddr opN_index opN_slice opN_build opN_buildSlice opN_binOp opN_unOp opN_convert opN_extract opN_makeFunc opN_len opN_append opN_min opN_max opN_makeMap opN_mapUpdate opN_lookup opN_delete opN_clear opN_call opN_next opN_makeSlice opN_range opN_entry aPick_t aPick_f mv_undef mv_junk mv_pv mv_full mv_tup mv_sl mv_bp mv_arr mv_mr mv_it mv_cl mv1_undef mv1_junk mv1_pv mv1_full mv1_tup mv1_sl mv1_bp mv1_arr mv1_mr mv1_it mv1_cl mv_ag mvB_c mvB_m mvB_i mvB_d aMin_ aMax_ fz1_pv fz1_undef fz1_junk fz1_full fz1_tup fz1_sl fz1_bp fz1_arr fz1_mr fz1_it fz_pv fz_undef fz_junk fz_full fz_tup fz_sl fz_bp fz_arr fz_mr fz_it fz_ag fzB_c fzB_m fzB_i fzB_d
attribute [local go_sem] cs3 ag3 zk3 ri3 zo3 cs4 ag4 zk4 ri4 zo4 cs5 ag5 zk5 ri5 zo5 cs22 ag22 zk22 ri22 zo22 cs23 ag23 zk23 ri23 zo23 cs25 ag25 zk25 ri25 zo25 fk25 fo25_0 fp25_0 fo25_1 fp25_1 fo25_2 fp25_2 cs26 ag26 zk26 ri26 zo26 cs27 ag27 zk27 ri27 zo27 cs29 ag29 zk29 ri29 zo29 fk29 fo29_0 fp29_0 fo29_1 fp29_1 fo29_2 fp29_2 fo29_3 fp29_3 fo29_4 fp29_4 fo29_5 fp29_5 fo29_6 fp29_6 cs31 ag31 zk31 ri31 zo31 fk31 fo31_0 fp31_0 fo31_1 fp31_1 fo31_2 fp31_2 fo31_3 fp31_3 fo31_4 fp31_4 cs35 ag35 zk35 ri35 zo35 fk35 fo35_0 fp35_0 fo35_1 fp35_1 fo35_2 fp35_2 fo35_3 fp35_3 cs38 ag38 zk38 ri38 zo38 cs40 ag40 zk40 ri40 zo40 fk40 fo40_0 fp40_0 fo40_1 fp40_1 cs42 ag42 zk42 ri42 zo42 cs45 ag45 zk45 ri45 zo45 fk45 fo45_0 fp45_0 fo45_1 fp45_1 fo45_2 fp45_2 fo45_3 fp45_3 fo45_4 fp45_4 fo45_5 fp45_5 cs55 ag55 zk55 ri55 zo55 fk55 fp55_0 fp55_1 cs61 ag61 zk61 ri61 zo61 fk61 fp61_0 fp61_1 cs66 ag66 zk66 ri66 zo66 cs82 ag82 zk82 ri82 zo82 fk82 fo82_0 fp82_0 cs83 ag83 zk83 ri83 zo83 fk83 fp83_0 fp83_1 fp83_2 fp83_3 fp83_4
attribute [local go_sem] List.filter_cons List.filter_nil aBuild splice1 splice2 fillL_nil fillL_cons fillX_ List.set_cons_zero List.set_cons_succ List.take_succ_cons List.take_zero List.drop_succ_cons List.drop_zero List.length_cons List.length_nil List.append_nil aRange aEntry ints_clean ints_mv ints_men ints_ren ints_only List.any_cons List.any_nil List.all_cons List.all_nil Bool.true_and Bool.false_and Bool.and_false Bool.false_or Bool.true_or Bool.or_true Option.some.injEq exists_eq_left' exists_eq_left Nat.zero_add List.getElem?_toArray List.getElem?_cons_succ List.getElem?_cons_zero bs0 bs1 bs1I bs2 bs3 Option.isNone_none Option.isNone_some ofC aLen aBin aInt LV.list? aBox aAlloc aLoad aStore aFieldAddr aField aUn aConv aMakeMap aExtract LV.cells? pc_int pc_bool pc_str pc_slc pc_agg pc_ptr pc_nilp pc_nilf pc_clo pc_map cells_I cells_IL cells_IW Option.map_some Option.map_none Option.bind_some Option.bind_none List.cons_append List.nil_append List.map_cons List.map_nil List.length_cons List.length_nil Option.isSome_some Bool.not_true Bool.not_false Try.underlying3 Try.underlying4 Try.underlying5 Try.underlying22 Try.underlying23 Try.underlying25 Try.underlying26 Try.underlying27 Try.underlying29 Try.underlying31 Try.underlying35 Try.underlying38 Try.underlying40 Try.underlying42 Try.underlying45 Try.underlying55 Try.underlying61 Try.underlying66 Try.underlying82 Try.underlying83

set_option maxRecDepth 100000 in
theorem idx_Wi {K : Upd → Prop} {x : LV} {l : List (List Int)} {n : Int} (hx : x.list? = some (l.map IL)) (h0 : 0 ≤ n) (h1 : n < l.length) (h : K ⟨.pv (.ptr [IL (l.getD n.toNat [])]), [], [], [], none, []⟩) : aIndexAddr Try.prog K 26 x (.pv (.int .i64 n)) := by
  obtain ⟨k, rfl⟩ := Int.eq_ofNat_of_zero_le h0
  have hk : k < l.length := by omega
  refine idx_W hx hk ?_
  simpa [List.getD, hk] using h
theorem srt_addK {d : List Int} (h : Inc d) (c : Int) : srt (addK (setOf d) c) = put d c := by
  rw [put_eq h]
  exact srt_ext fun x => by simp [mem_addK, mem_setOf, or_comm]
theorem all_addK {d : List Int} {c : Int} {l : List Int} : (l.all fun x => decide (x ∈ addK (setOf d) c)) = hasAll (put d c) l := by
  simp [hasAll, mem_addK, mem_setOf, mem_put]
theorem addK_len (s : List Int) (n : Int) : (addK s n).length ≤ s.length + 1 := by unfold addK; split <;> simp

theorem activeF_fr {r : Roll} {p : Rep51} (h : p.no = r.fr) : activeF r p = if p.chip ∈ r.done then { r with st := 1 } else r := by unfold activeF; rw [if_pos h]
theorem activeF_bad {r : Roll} {p : Rep51} (h : p.no ≠ r.fr) (hb : p.runs = false ∨ p.same = false ∨ p.slack < r.slack ∨ r.ix < wv r p.chip) : activeF r p = { r with st := 1 } := by
  unfold activeF
  rw [if_neg h, if_pos]
  unfold bad
  rcases hb with hb | hb | hb | hb
  · simp [hb]
  · simp [hb]
  · have : ¬ r.slack ≤ p.slack := by omega
    simp [this]
  · simp [hb]
theorem activeF_good {r : Roll} {p : Rep51} (h : p.no ≠ r.fr) (h1 : p.runs = true) (h2 : p.same = true) (h3 : r.slack ≤ p.slack) (h4 : wv r p.chip ≤ r.ix) : activeF r p =
    if hasAll (put r.done p.chip) (r.waves.getD r.ix.toNat []) then { r with done := put r.done p.chip, ix := r.ix + 1, st := if r.ix + 1 = r.waves.length then 3 else r.st } else { r with done := put r.done p.chip } := by
  unfold activeF
  rw [if_neg h, if_neg]
  unfold bad
  have : ¬ r.ix < wv r p.chip := by omega
  simp [h1, h2, h3, this]

set_option maxHeartbeats 4000000 in
set_option maxRecDepth 100000 in
theorem activeP_good (r : Roll) (p : Rep51) (h : VR r) (hs : r.st = 0) : Go.Am.Good Try.prog false 54 [R r, RP p] [R (activeF r p)] := by
  refine good_rv { sl := [0, 1, 2, 3, 4, 5, 13, 17, 43, 59, 69], bx := [2, 3, 4, 8], rw_ := [] } [.cell 4 29] mixed Try.call54 Try.func54 rfl (by kernel_rfl) (by show 2 ≤ 72; decide) (by kernel_rfl) ?_
  obtain ⟨q, hq⟩ : ∃ q, q = R (activeF r p) := ⟨_, rfl⟩
  rw [← hq]
  have hn := h.sm.n
  have hd := h.done_len
  have hix := h.ix (by omega)
  simp -implicitDefEqProofs only [go_sem, ↓acode_seq, ↓reduceIte, Nat.reduceEqDiff, Nat.reduceAdd, Nat.reduceBEq, Nat.reduceBNe, bne_self_eq_false, Nat.reduceLeDiff, Nat.reduceLT, Nat.le_refl, Int.reduceEq, true_and, and_true, Bool.or_false, Bool.or_self, Bool.not_false, Bool.and_self, Bool.and_true, decide_true, BEq.rfl, ne_eq, not_false_eq_true, Nat.succ_ne_self, reduceCtorEq, R, RP, I]
  refine call_of 8 (by omega) ?_
  simp -implicitDefEqProofs only [go_sem, ↓acode_seq, ↓reduceIte, Nat.reduceEqDiff, Nat.reduceAdd, Nat.reduceBEq, Nat.reduceBNe, bne_self_eq_false, Nat.reduceLeDiff, Nat.reduceLT, Nat.le_refl, Int.reduceEq, true_and, and_true, Bool.or_false, Bool.or_self, Bool.not_false, Bool.and_self, Bool.and_true, decide_true, BEq.rfl, ne_eq, not_false_eq_true, Nat.succ_ne_self, reduceCtorEq]
  refine cond_split (fun g => ?_) fun g => ?_
  · have e1 : p.no = r.fr := by simpa using g
    simp -implicitDefEqProofs only [go_sem, ↓acode_seq, ↓reduceIte, Nat.reduceEqDiff, Nat.reduceAdd, Nat.reduceBEq, Nat.reduceBNe, bne_self_eq_false, Nat.reduceLeDiff, Nat.reduceLT, Nat.le_refl, Int.reduceEq, true_and, and_true, Bool.or_false, Bool.or_self, Bool.not_false, Bool.and_self, Bool.and_true, decide_true, BEq.rfl, ne_eq, not_false_eq_true, Nat.succ_ne_self, reduceCtorEq]
    refine set_get_m (s := setOf r.done) (by simp [go_sem]) ?_
    simp -implicitDefEqProofs only [go_sem, ↓acode_seq, ↓reduceIte, Nat.reduceEqDiff, Nat.reduceAdd, Nat.reduceBEq, Nat.reduceBNe, bne_self_eq_false, Nat.reduceLeDiff, Nat.reduceLT, Nat.le_refl, Int.reduceEq, true_and, and_true, Bool.or_false, Bool.or_self, Bool.not_false, Bool.and_self, Bool.and_true, decide_true, BEq.rfl, ne_eq, not_false_eq_true, Nat.succ_ne_self, reduceCtorEq]
    refine cond_split (fun g2 => ?_) fun g2 => ?_
    · have e2 : p.chip ∈ r.done := by simpa [mem_setOf] using g2
      simp -implicitDefEqProofs only [go_sem, ↓acode_seq, ↓reduceIte, Nat.reduceEqDiff, Nat.reduceAdd, Nat.reduceBEq, Nat.reduceBNe, bne_self_eq_false, Nat.reduceLeDiff, Nat.reduceLT, Nat.le_refl, Int.reduceEq, true_and, and_true, Bool.or_false, Bool.or_self, Bool.not_false, Bool.and_self, Bool.and_true, decide_true, BEq.rfl, ne_eq, not_false_eq_true, Nat.succ_ne_self, reduceCtorEq]
      refine res_cell rfl rfl ag29 (by rw [cs29]; rfl) (by simp) rfl ?_
      rw [hq, activeF_fr e1, if_pos e2]; rfl
    · have e2 : p.chip ∉ r.done := by simpa [mem_setOf] using g2
      simp -implicitDefEqProofs only [go_sem, ↓acode_seq, ↓reduceIte, Nat.reduceEqDiff, Nat.reduceAdd, Nat.reduceBEq, Nat.reduceBNe, bne_self_eq_false, Nat.reduceLeDiff, Nat.reduceLT, Nat.le_refl, Int.reduceEq, true_and, and_true, Bool.or_false, Bool.or_self, Bool.not_false, Bool.and_self, Bool.and_true, decide_true, BEq.rfl, ne_eq, not_false_eq_true, Nat.succ_ne_self, reduceCtorEq]
      refine res_cell rfl rfl ag29 (by rw [cs29]; rfl) (by simp) rfl ?_
      rw [hq, activeF_fr e1, if_neg e2]; rfl
  have e1 : p.no ≠ r.fr := by simpa using g
  simp -implicitDefEqProofs only [go_sem, ↓acode_seq, ↓reduceIte, Nat.reduceEqDiff, Nat.reduceAdd, Nat.reduceBEq, Nat.reduceBNe, bne_self_eq_false, Nat.reduceLeDiff, Nat.reduceLT, Nat.le_refl, Int.reduceEq, true_and, and_true, Bool.or_false, Bool.or_self, Bool.not_false, Bool.and_self, Bool.and_true, decide_true, BEq.rfl, ne_eq, not_false_eq_true, Nat.succ_ne_self, reduceCtorEq, ↓acode_draw]
  refine ⟨by kernel_rfl, ?_⟩
  refine opGD_split (fun k1 => ?_) fun k1 => ?_
  · simp -implicitDefEqProofs only [go_sem, ↓acode_seq, ↓reduceIte, Nat.reduceEqDiff, Nat.reduceAdd, Nat.reduceBEq, Nat.reduceBNe, bne_self_eq_false, Nat.reduceLeDiff, Nat.reduceLT, Nat.le_refl, Int.reduceEq, true_and, and_true, Bool.or_false, Bool.or_self, Bool.not_false, Bool.and_self, Bool.and_true, decide_true, BEq.rfl, ne_eq, not_false_eq_true, Nat.succ_ne_self, reduceCtorEq, k1]
    refine ⟨rfl, rfl, ?_⟩
    simp -implicitDefEqProofs only [go_sem, ↓acode_seq, ↓reduceIte, Nat.reduceEqDiff, Nat.reduceAdd, Nat.reduceBEq, Nat.reduceBNe, bne_self_eq_false, Nat.reduceLeDiff, Nat.reduceLT, Nat.le_refl, Int.reduceEq, true_and, and_true, Bool.or_false, Bool.or_self, Bool.not_false, Bool.and_self, Bool.and_true, decide_true, BEq.rfl, ne_eq, not_false_eq_true, Nat.succ_ne_self, reduceCtorEq]
    refine res_cell rfl rfl ag29 (by rw [cs29]; rfl) (by simp) rfl ?_
    rw [hq, activeF_bad e1 (.inl (by simpa using k1))]; rfl
  simp -implicitDefEqProofs only [go_sem, ↓acode_seq, ↓reduceIte, Nat.reduceEqDiff, Nat.reduceAdd, Nat.reduceBEq, Nat.reduceBNe, bne_self_eq_false, Nat.reduceLeDiff, Nat.reduceLT, Nat.le_refl, Int.reduceEq, true_and, and_true, Bool.or_false, Bool.or_self, Bool.not_false, Bool.and_self, Bool.and_true, decide_true, BEq.rfl, ne_eq, not_false_eq_true, Nat.succ_ne_self, reduceCtorEq, k1]
  refine opGD_split (fun k2 => ?_) fun k2 => ?_
  · simp -implicitDefEqProofs only [go_sem, ↓acode_seq, ↓reduceIte, Nat.reduceEqDiff, Nat.reduceAdd, Nat.reduceBEq, Nat.reduceBNe, bne_self_eq_false, Nat.reduceLeDiff, Nat.reduceLT, Nat.le_refl, Int.reduceEq, true_and, and_true, Bool.or_false, Bool.or_self, Bool.not_false, Bool.and_self, Bool.and_true, decide_true, BEq.rfl, ne_eq, not_false_eq_true, Nat.succ_ne_self, reduceCtorEq, k2]
    refine ⟨rfl, rfl, ?_⟩
    simp -implicitDefEqProofs only [go_sem, ↓acode_seq, ↓reduceIte, Nat.reduceEqDiff, Nat.reduceAdd, Nat.reduceBEq, Nat.reduceBNe, bne_self_eq_false, Nat.reduceLeDiff, Nat.reduceLT, Nat.le_refl, Int.reduceEq, true_and, and_true, Bool.or_false, Bool.or_self, Bool.not_false, Bool.and_self, Bool.and_true, decide_true, BEq.rfl, ne_eq, not_false_eq_true, Nat.succ_ne_self, reduceCtorEq]
    refine res_cell rfl rfl ag29 (by rw [cs29]; rfl) (by simp) rfl ?_
    rw [hq, activeF_bad e1 (.inr (.inl (by simpa using k2)))]; rfl
  simp -implicitDefEqProofs only [go_sem, ↓acode_seq, ↓reduceIte, Nat.reduceEqDiff, Nat.reduceAdd, Nat.reduceBEq, Nat.reduceBNe, bne_self_eq_false, Nat.reduceLeDiff, Nat.reduceLT, Nat.le_refl, Int.reduceEq, true_and, and_true, Bool.or_false, Bool.or_self, Bool.not_false, Bool.and_self, Bool.and_true, decide_true, BEq.rfl, ne_eq, not_false_eq_true, Nat.succ_ne_self, reduceCtorEq, k2]
  refine opGD_split (fun k3 => ?_) fun k3 => ?_
  · simp -implicitDefEqProofs only [go_sem, ↓acode_seq, ↓reduceIte, Nat.reduceEqDiff, Nat.reduceAdd, Nat.reduceBEq, Nat.reduceBNe, bne_self_eq_false, Nat.reduceLeDiff, Nat.reduceLT, Nat.le_refl, Int.reduceEq, true_and, and_true, Bool.or_false, Bool.or_self, Bool.not_false, Bool.and_self, Bool.and_true, decide_true, BEq.rfl, ne_eq, not_false_eq_true, Nat.succ_ne_self, reduceCtorEq, k3]
    refine ⟨rfl, rfl, ?_⟩
    simp -implicitDefEqProofs only [go_sem, ↓acode_seq, ↓reduceIte, Nat.reduceEqDiff, Nat.reduceAdd, Nat.reduceBEq, Nat.reduceBNe, bne_self_eq_false, Nat.reduceLeDiff, Nat.reduceLT, Nat.le_refl, Int.reduceEq, true_and, and_true, Bool.or_false, Bool.or_self, Bool.not_false, Bool.and_self, Bool.and_true, decide_true, BEq.rfl, ne_eq, not_false_eq_true, Nat.succ_ne_self, reduceCtorEq]
    refine res_cell rfl rfl ag29 (by rw [cs29]; rfl) (by simp) rfl ?_
    rw [hq, activeF_bad e1 (.inr (.inr (.inl (by simpa using k3))))]; rfl
  simp -implicitDefEqProofs only [go_sem, ↓acode_seq, ↓reduceIte, Nat.reduceEqDiff, Nat.reduceAdd, Nat.reduceBEq, Nat.reduceBNe, bne_self_eq_false, Nat.reduceLeDiff, Nat.reduceLT, Nat.le_refl, Int.reduceEq, true_and, and_true, Bool.or_false, Bool.or_self, Bool.not_false, Bool.and_self, Bool.and_true, decide_true, BEq.rfl, ne_eq, not_false_eq_true, Nat.succ_ne_self, reduceCtorEq, k3]
  refine call_rule rfl (wave_good r p.chip (by omega) (fun w hw => by have := h.sm.w w hw; omega)) (.inl rfl) ?_
  simp -implicitDefEqProofs only [go_sem, ↓acode_seq, ↓reduceIte, Nat.reduceEqDiff, Nat.reduceAdd, Nat.reduceBEq, Nat.reduceBNe, bne_self_eq_false, Nat.reduceLeDiff, Nat.reduceLT, Nat.le_refl, Int.reduceEq, true_and, and_true, Bool.or_false, Bool.or_self, Bool.not_false, Bool.and_self, Bool.and_true, decide_true, BEq.rfl, ne_eq, not_false_eq_true, Nat.succ_ne_self, reduceCtorEq, resL, I]
  refine ⟨rfl, rfl, ?_⟩
  simp -implicitDefEqProofs only [go_sem, ↓acode_seq, ↓reduceIte, Nat.reduceEqDiff, Nat.reduceAdd, Nat.reduceBEq, Nat.reduceBNe, bne_self_eq_false, Nat.reduceLeDiff, Nat.reduceLT, Nat.le_refl, Int.reduceEq, true_and, and_true, Bool.or_false, Bool.or_self, Bool.not_false, Bool.and_self, Bool.and_true, decide_true, BEq.rfl, ne_eq, not_false_eq_true, Nat.succ_ne_self, reduceCtorEq]
  refine cond_split (fun k4 => ?_) fun k4 => ?_
  · simp -implicitDefEqProofs only [go_sem, ↓acode_seq, ↓reduceIte, Nat.reduceEqDiff, Nat.reduceAdd, Nat.reduceBEq, Nat.reduceBNe, bne_self_eq_false, Nat.reduceLeDiff, Nat.reduceLT, Nat.le_refl, Int.reduceEq, true_and, and_true, Bool.or_false, Bool.or_self, Bool.not_false, Bool.and_self, Bool.and_true, decide_true, BEq.rfl, ne_eq, not_false_eq_true, Nat.succ_ne_self, reduceCtorEq]
    refine res_cell rfl rfl ag29 (by rw [cs29]; rfl) (by simp) rfl ?_
    rw [hq, activeF_bad e1 (.inr (.inr (.inr (of_decide_eq_true k4))))]; rfl
  have hA := activeF_good e1 (by simpa using k1) (by simpa using k2) (by have := of_decide_eq_false k3; omega) (by have := of_decide_eq_false k4; unfold wv; omega)
  simp -implicitDefEqProofs only [go_sem, ↓acode_seq, ↓reduceIte, Nat.reduceEqDiff, Nat.reduceAdd, Nat.reduceBEq, Nat.reduceBNe, bne_self_eq_false, Nat.reduceLeDiff, Nat.reduceLT, Nat.le_refl, Int.reduceEq, true_and, and_true, Bool.or_false, Bool.or_self, Bool.not_false, Bool.and_self, Bool.and_true, decide_true, BEq.rfl, ne_eq, not_false_eq_true, Nat.succ_ne_self, reduceCtorEq]
  refine set_put (s := setOf r.done) (by simp [go_sem]) ?_
  simp -implicitDefEqProofs only [go_sem, ↓acode_seq, ↓reduceIte, Nat.reduceEqDiff, Nat.reduceAdd, Nat.reduceBEq, Nat.reduceBNe, bne_self_eq_false, Nat.reduceLeDiff, Nat.reduceLT, Nat.le_refl, Int.reduceEq, true_and, and_true, Bool.or_false, Bool.or_self, Bool.not_false, Bool.and_self, Bool.and_true, decide_true, BEq.rfl, ne_eq, not_false_eq_true, Nat.succ_ne_self, reduceCtorEq]
  refine call_rule rfl (list_good (addK (setOf r.done) p.chip) (by have := addK_len (setOf r.done) p.chip; have := setOf_len r.done; omega) (nodup_addK (nodup_setOf _))) (.inr rfl) ?_
  simp -implicitDefEqProofs only [go_sem, ↓acode_seq, ↓reduceIte, Nat.reduceEqDiff, Nat.reduceAdd, Nat.reduceBEq, Nat.reduceBNe, bne_self_eq_false, Nat.reduceLeDiff, Nat.reduceLT, Nat.le_refl, Int.reduceEq, true_and, and_true, Bool.or_false, Bool.or_self, Bool.not_false, Bool.and_self, Bool.and_true, decide_true, BEq.rfl, ne_eq, not_false_eq_true, Nat.succ_ne_self, reduceCtorEq, resL, srt_addK h.inc]
  refine idx_Wi rfl hix.1 hix.2 ?_
  simp -implicitDefEqProofs only [go_sem, ↓acode_seq, ↓reduceIte, Nat.reduceEqDiff, Nat.reduceAdd, Nat.reduceBEq, Nat.reduceBNe, bne_self_eq_false, Nat.reduceLeDiff, Nat.reduceLT, Nat.le_refl, Int.reduceEq, true_and, and_true, Bool.or_false, Bool.or_self, Bool.not_false, Bool.and_self, Bool.and_true, decide_true, BEq.rfl, ne_eq, not_false_eq_true, Nat.succ_ne_self, reduceCtorEq]
  refine call_rule rfl ((has_good (addK (setOf r.done) p.chip) (r.waves.getD r.ix.toNat []) (by
    have hlt : r.ix.toNat < r.waves.length := by omega
    have := h.sm.w _ (List.getElem_mem hlt)
    simp only [List.getD, List.getElem?_eq_getElem hlt, Option.getD_some]; omega)).flat (flat_bool _)) (.inr rfl) ?_
  simp -implicitDefEqProofs only [go_sem, ↓acode_seq, ↓reduceIte, Nat.reduceEqDiff, Nat.reduceAdd, Nat.reduceBEq, Nat.reduceBNe, bne_self_eq_false, Nat.reduceLeDiff, Nat.reduceLT, Nat.le_refl, Int.reduceEq, true_and, and_true, Bool.or_false, Bool.or_self, Bool.not_false, Bool.and_self, Bool.and_true, decide_true, BEq.rfl, ne_eq, not_false_eq_true, Nat.succ_ne_self, reduceCtorEq, resL, all_addK]
  refine cond_split (fun k5 => ?_) fun k5 => ?_
  · rw [if_pos k5] at hA
    simp -implicitDefEqProofs only [go_sem, ↓acode_seq, ↓reduceIte, Nat.reduceEqDiff, Nat.reduceAdd, Nat.reduceBEq, Nat.reduceBNe, bne_self_eq_false, Nat.reduceLeDiff, Nat.reduceLT, Nat.le_refl, Int.reduceEq, true_and, and_true, Bool.or_false, Bool.or_self, Bool.not_false, Bool.and_self, Bool.and_true, decide_true, BEq.rfl, ne_eq, not_false_eq_true, Nat.succ_ne_self, reduceCtorEq, IW, List.length_map]
    rw [wrap_i64 (by omega) (by omega)]
    refine cond_split (fun k6 => ?_) fun k6 => ?_
    · rw [if_pos (of_decide_eq_true k6)] at hA
      simp -implicitDefEqProofs only [go_sem, ↓acode_seq, ↓reduceIte, Nat.reduceEqDiff, Nat.reduceAdd, Nat.reduceBEq, Nat.reduceBNe, bne_self_eq_false, Nat.reduceLeDiff, Nat.reduceLT, Nat.le_refl, Int.reduceEq, true_and, and_true, Bool.or_false, Bool.or_self, Bool.not_false, Bool.and_self, Bool.and_true, decide_true, BEq.rfl, ne_eq, not_false_eq_true, Nat.succ_ne_self, reduceCtorEq]
      refine res_cell rfl rfl ag29 (by rw [cs29]; rfl) (by simp) rfl ?_
      rw [hq, hA]; rfl
    · rw [if_neg (of_decide_eq_false k6)] at hA
      simp -implicitDefEqProofs only [go_sem, ↓acode_seq, ↓reduceIte, Nat.reduceEqDiff, Nat.reduceAdd, Nat.reduceBEq, Nat.reduceBNe, bne_self_eq_false, Nat.reduceLeDiff, Nat.reduceLT, Nat.le_refl, Int.reduceEq, true_and, and_true, Bool.or_false, Bool.or_self, Bool.not_false, Bool.and_self, Bool.and_true, decide_true, BEq.rfl, ne_eq, not_false_eq_true, Nat.succ_ne_self, reduceCtorEq]
      refine res_cell rfl rfl ag29 (by rw [cs29]; rfl) (by simp) rfl ?_
      rw [hq, hA]; rfl
  · rw [if_neg (by rw [k5]; simp)] at hA
    simp -implicitDefEqProofs only [go_sem, ↓acode_seq, ↓reduceIte, Nat.reduceEqDiff, Nat.reduceAdd, Nat.reduceBEq, Nat.reduceBNe, bne_self_eq_false, Nat.reduceLeDiff, Nat.reduceLT, Nat.le_refl, Int.reduceEq, true_and, and_true, Bool.or_false, Bool.or_self, Bool.not_false, Bool.and_self, Bool.and_true, decide_true, BEq.rfl, ne_eq, not_false_eq_true, Nat.succ_ne_self, reduceCtorEq, IW, List.length_map]
    refine cond_split (fun k6 => ?_) fun k6 => ?_
    · have := of_decide_eq_true k6; omega
    · simp -implicitDefEqProofs only [go_sem, ↓acode_seq, ↓reduceIte, Nat.reduceEqDiff, Nat.reduceAdd, Nat.reduceBEq, Nat.reduceBNe, bne_self_eq_false, Nat.reduceLeDiff, Nat.reduceLT, Nat.le_refl, Int.reduceEq, true_and, and_true, Bool.or_false, Bool.or_self, Bool.not_false, Bool.and_self, Bool.and_true, decide_true, BEq.rfl, ne_eq, not_false_eq_true, Nat.succ_ne_self, reduceCtorEq]
      refine res_cell rfl rfl ag29 (by rw [cs29]; rfl) (by simp) rfl ?_
      rw [hq, hA]; rfl

set_option maxHeartbeats 4000000 in
set_option maxRecDepth 100000 in
theorem activeR_good (r : Roll) (p : Rep51) (h : VR r) (hs : r.st = 0) : Go.Am.Good Try.prog false 45 [R r, RP p] [R (activeF r p)] := by
  refine good_rv { sl := [0, 1, 2, 3, 4, 9, 14, 29, 46, 56], bx := [2, 3, 4], rw_ := [] } [.cell 4 29] mixed Try.call45 Try.func45 rfl (by kernel_rfl) (by show 2 ≤ 59; decide) (by kernel_rfl) ?_
  obtain ⟨q, hq⟩ : ∃ q, q = R (activeF r p) := ⟨_, rfl⟩
  rw [← hq]
  have hn := h.sm.n
  have hd := h.done_len
  have hix := h.ix (by omega)
  simp -implicitDefEqProofs only [go_sem, ↓acode_seq, ↓reduceIte, Nat.reduceEqDiff, Nat.reduceAdd, Nat.reduceBEq, Nat.reduceBNe, bne_self_eq_false, Nat.reduceLeDiff, Nat.reduceLT, Nat.le_refl, Int.reduceEq, true_and, and_true, Bool.or_false, Bool.or_self, Bool.not_false, Bool.and_self, Bool.and_true, decide_true, BEq.rfl, ne_eq, not_false_eq_true, Nat.succ_ne_self, reduceCtorEq, R, RP, I]
  refine cond_split (fun g => ?_) fun g => ?_
  · have e1 : p.no = r.fr := by simpa using g
    simp -implicitDefEqProofs only [go_sem, ↓acode_seq, ↓reduceIte, Nat.reduceEqDiff, Nat.reduceAdd, Nat.reduceBEq, Nat.reduceBNe, bne_self_eq_false, Nat.reduceLeDiff, Nat.reduceLT, Nat.le_refl, Int.reduceEq, true_and, and_true, Bool.or_false, Bool.or_self, Bool.not_false, Bool.and_self, Bool.and_true, decide_true, BEq.rfl, ne_eq, not_false_eq_true, Nat.succ_ne_self, reduceCtorEq]
    refine call_rule rfl (in_good r.done p.chip (by omega)) (.inl rfl) ?_
    simp -implicitDefEqProofs only [go_sem, ↓acode_seq, ↓reduceIte, Nat.reduceEqDiff, Nat.reduceAdd, Nat.reduceBEq, Nat.reduceBNe, bne_self_eq_false, Nat.reduceLeDiff, Nat.reduceLT, Nat.le_refl, Int.reduceEq, true_and, and_true, Bool.or_false, Bool.or_self, Bool.not_false, Bool.and_self, Bool.and_true, decide_true, BEq.rfl, ne_eq, not_false_eq_true, Nat.succ_ne_self, reduceCtorEq, resL]
    refine cond_split (fun g2 => ?_) fun g2 => ?_
    · simp -implicitDefEqProofs only [go_sem, ↓acode_seq, ↓reduceIte, Nat.reduceEqDiff, Nat.reduceAdd, Nat.reduceBEq, Nat.reduceBNe, bne_self_eq_false, Nat.reduceLeDiff, Nat.reduceLT, Nat.le_refl, Int.reduceEq, true_and, and_true, Bool.or_false, Bool.or_self, Bool.not_false, Bool.and_self, Bool.and_true, decide_true, BEq.rfl, ne_eq, not_false_eq_true, Nat.succ_ne_self, reduceCtorEq]
      refine res_cell rfl rfl ag29 (by rw [cs29]; rfl) (by simp) rfl ?_
      rw [hq, activeF_fr e1, if_pos (of_decide_eq_true g2)]; rfl
    · simp -implicitDefEqProofs only [go_sem, ↓acode_seq, ↓reduceIte, Nat.reduceEqDiff, Nat.reduceAdd, Nat.reduceBEq, Nat.reduceBNe, bne_self_eq_false, Nat.reduceLeDiff, Nat.reduceLT, Nat.le_refl, Int.reduceEq, true_and, and_true, Bool.or_false, Bool.or_self, Bool.not_false, Bool.and_self, Bool.and_true, decide_true, BEq.rfl, ne_eq, not_false_eq_true, Nat.succ_ne_self, reduceCtorEq]
      refine res_cell rfl rfl ag29 (by rw [cs29]; rfl) (by simp) rfl ?_
      rw [hq, activeF_fr e1, if_neg (of_decide_eq_false g2)]; rfl
  have e1 : p.no ≠ r.fr := by simpa using g
  simp -implicitDefEqProofs only [go_sem, ↓acode_seq, ↓reduceIte, Nat.reduceEqDiff, Nat.reduceAdd, Nat.reduceBEq, Nat.reduceBNe, bne_self_eq_false, Nat.reduceLeDiff, Nat.reduceLT, Nat.le_refl, Int.reduceEq, true_and, and_true, Bool.or_false, Bool.or_self, Bool.not_false, Bool.and_self, Bool.and_true, decide_true, BEq.rfl, ne_eq, not_false_eq_true, Nat.succ_ne_self, reduceCtorEq, ↓acode_draw]
  refine ⟨by kernel_rfl, ?_⟩
  refine call_rule rfl (goodRep_good r p) (.inl rfl) ?_
  simp -implicitDefEqProofs only [go_sem, ↓acode_seq, ↓reduceIte, Nat.reduceEqDiff, Nat.reduceAdd, Nat.reduceBEq, Nat.reduceBNe, bne_self_eq_false, Nat.reduceLeDiff, Nat.reduceLT, Nat.le_refl, Int.reduceEq, true_and, and_true, Bool.or_false, Bool.or_self, Bool.not_false, Bool.and_self, Bool.and_true, decide_true, BEq.rfl, ne_eq, not_false_eq_true, Nat.succ_ne_self, reduceCtorEq, resL]
  refine opGD_split (fun k1 => ?_) fun k1 => ?_
  · simp -implicitDefEqProofs only [go_sem, ↓acode_seq, ↓reduceIte, Nat.reduceEqDiff, Nat.reduceAdd, Nat.reduceBEq, Nat.reduceBNe, bne_self_eq_false, Nat.reduceLeDiff, Nat.reduceLT, Nat.le_refl, Int.reduceEq, true_and, and_true, Bool.or_false, Bool.or_self, Bool.not_false, Bool.and_self, Bool.and_true, decide_true, BEq.rfl, ne_eq, not_false_eq_true, Nat.succ_ne_self, reduceCtorEq, k1]
    refine ⟨rfl, rfl, ?_⟩
    simp -implicitDefEqProofs only [go_sem, ↓acode_seq, ↓reduceIte, Nat.reduceEqDiff, Nat.reduceAdd, Nat.reduceBEq, Nat.reduceBNe, bne_self_eq_false, Nat.reduceLeDiff, Nat.reduceLT, Nat.le_refl, Int.reduceEq, true_and, and_true, Bool.or_false, Bool.or_self, Bool.not_false, Bool.and_self, Bool.and_true, decide_true, BEq.rfl, ne_eq, not_false_eq_true, Nat.succ_ne_self, reduceCtorEq]
    refine res_cell rfl rfl ag29 (by rw [cs29]; rfl) (by simp) rfl ?_
    rw [hq, activeF_bad e1 (by
      cases h1 : p.runs with
      | false => exact .inl rfl
      | true => cases h2 : p.same with
        | false => exact .inr (.inl rfl)
        | true => simp [h1, h2] at k1; exact .inr (.inr (.inl (by omega))))]; rfl
  simp -implicitDefEqProofs only [go_sem, ↓acode_seq, ↓reduceIte, Nat.reduceEqDiff, Nat.reduceAdd, Nat.reduceBEq, Nat.reduceBNe, bne_self_eq_false, Nat.reduceLeDiff, Nat.reduceLT, Nat.le_refl, Int.reduceEq, true_and, and_true, Bool.or_false, Bool.or_self, Bool.not_false, Bool.and_self, Bool.and_true, decide_true, BEq.rfl, ne_eq, not_false_eq_true, Nat.succ_ne_self, reduceCtorEq, k1]
  refine call_rule rfl (waveRef_good r p.chip (by omega) (fun w hw => by have := h.sm.w w hw; omega)) (.inl rfl) ?_
  simp -implicitDefEqProofs only [go_sem, ↓acode_seq, ↓reduceIte, Nat.reduceEqDiff, Nat.reduceAdd, Nat.reduceBEq, Nat.reduceBNe, bne_self_eq_false, Nat.reduceLeDiff, Nat.reduceLT, Nat.le_refl, Int.reduceEq, true_and, and_true, Bool.or_false, Bool.or_self, Bool.not_false, Bool.and_self, Bool.and_true, decide_true, BEq.rfl, ne_eq, not_false_eq_true, Nat.succ_ne_self, reduceCtorEq, resL, I]
  refine ⟨rfl, rfl, ?_⟩
  simp -implicitDefEqProofs only [go_sem, ↓acode_seq, ↓reduceIte, Nat.reduceEqDiff, Nat.reduceAdd, Nat.reduceBEq, Nat.reduceBNe, bne_self_eq_false, Nat.reduceLeDiff, Nat.reduceLT, Nat.le_refl, Int.reduceEq, true_and, and_true, Bool.or_false, Bool.or_self, Bool.not_false, Bool.and_self, Bool.and_true, decide_true, BEq.rfl, ne_eq, not_false_eq_true, Nat.succ_ne_self, reduceCtorEq]
  refine cond_split (fun k4 => ?_) fun k4 => ?_
  · simp -implicitDefEqProofs only [go_sem, ↓acode_seq, ↓reduceIte, Nat.reduceEqDiff, Nat.reduceAdd, Nat.reduceBEq, Nat.reduceBNe, bne_self_eq_false, Nat.reduceLeDiff, Nat.reduceLT, Nat.le_refl, Int.reduceEq, true_and, and_true, Bool.or_false, Bool.or_self, Bool.not_false, Bool.and_self, Bool.and_true, decide_true, BEq.rfl, ne_eq, not_false_eq_true, Nat.succ_ne_self, reduceCtorEq]
    refine res_cell rfl rfl ag29 (by rw [cs29]; rfl) (by simp) rfl ?_
    rw [hq, activeF_bad e1 (.inr (.inr (.inr (of_decide_eq_true k4))))]; rfl
  have hk1 : p.runs = true ∧ p.same = true ∧ r.slack ≤ p.slack := by simpa [and_assoc] using k1
  have hA := activeF_good e1 hk1.1 hk1.2.1 hk1.2.2 (by have := of_decide_eq_false k4; unfold wv; omega)
  simp -implicitDefEqProofs only [go_sem, ↓acode_seq, ↓reduceIte, Nat.reduceEqDiff, Nat.reduceAdd, Nat.reduceBEq, Nat.reduceBNe, bne_self_eq_false, Nat.reduceLeDiff, Nat.reduceLT, Nat.le_refl, Int.reduceEq, true_and, and_true, Bool.or_false, Bool.or_self, Bool.not_false, Bool.and_self, Bool.and_true, decide_true, BEq.rfl, ne_eq, not_false_eq_true, Nat.succ_ne_self, reduceCtorEq]
  refine call_rule rfl (put_good r.done p.chip (by omega)) (.inl rfl) ?_
  simp -implicitDefEqProofs only [go_sem, ↓acode_seq, ↓reduceIte, Nat.reduceEqDiff, Nat.reduceAdd, Nat.reduceBEq, Nat.reduceBNe, bne_self_eq_false, Nat.reduceLeDiff, Nat.reduceLT, Nat.le_refl, Int.reduceEq, true_and, and_true, Bool.or_false, Bool.or_self, Bool.not_false, Bool.and_self, Bool.and_true, decide_true, BEq.rfl, ne_eq, not_false_eq_true, Nat.succ_ne_self, reduceCtorEq, resL, ↓acode_draw]
  refine ⟨by kernel_rfl, ?_⟩
  refine idx_Wi rfl hix.1 hix.2 ?_
  simp -implicitDefEqProofs only [go_sem, ↓acode_seq, ↓reduceIte, Nat.reduceEqDiff, Nat.reduceAdd, Nat.reduceBEq, Nat.reduceBNe, bne_self_eq_false, Nat.reduceLeDiff, Nat.reduceLT, Nat.le_refl, Int.reduceEq, true_and, and_true, Bool.or_false, Bool.or_self, Bool.not_false, Bool.and_self, Bool.and_true, decide_true, BEq.rfl, ne_eq, not_false_eq_true, Nat.succ_ne_self, reduceCtorEq]
  refine call_rule rfl (subset_good (r.waves.getD r.ix.toNat []) (put r.done p.chip) (by
    have hlt : r.ix.toNat < r.waves.length := by omega
    have := h.sm.w _ (List.getElem_mem hlt)
    simp only [List.getD, List.getElem?_eq_getElem hlt, Option.getD_some]; omega) (by have := put_len r.done p.chip; omega)) (.inl rfl) ?_
  simp -implicitDefEqProofs only [go_sem, ↓acode_seq, ↓reduceIte, Nat.reduceEqDiff, Nat.reduceAdd, Nat.reduceBEq, Nat.reduceBNe, bne_self_eq_false, Nat.reduceLeDiff, Nat.reduceLT, Nat.le_refl, Int.reduceEq, true_and, and_true, Bool.or_false, Bool.or_self, Bool.not_false, Bool.and_self, Bool.and_true, decide_true, BEq.rfl, ne_eq, not_false_eq_true, Nat.succ_ne_self, reduceCtorEq, resL]
  refine ⟨rfl, rfl, ?_⟩
  simp -implicitDefEqProofs only [go_sem, ↓acode_seq, ↓reduceIte, Nat.reduceEqDiff, Nat.reduceAdd, Nat.reduceBEq, Nat.reduceBNe, bne_self_eq_false, Nat.reduceLeDiff, Nat.reduceLT, Nat.le_refl, Int.reduceEq, true_and, and_true, Bool.or_false, Bool.or_self, Bool.not_false, Bool.and_self, Bool.and_true, decide_true, BEq.rfl, ne_eq, not_false_eq_true, Nat.succ_ne_self, reduceCtorEq]
  refine cond_split (fun k5 => ?_) fun k5 => ?_
  · rw [if_pos (show hasAll (put r.done p.chip) (r.waves.getD r.ix.toNat []) = true from k5)] at hA
    simp -implicitDefEqProofs only [go_sem, ↓acode_seq, ↓reduceIte, Nat.reduceEqDiff, Nat.reduceAdd, Nat.reduceBEq, Nat.reduceBNe, bne_self_eq_false, Nat.reduceLeDiff, Nat.reduceLT, Nat.le_refl, Int.reduceEq, true_and, and_true, Bool.or_false, Bool.or_self, Bool.not_false, Bool.and_self, Bool.and_true, decide_true, BEq.rfl, ne_eq, not_false_eq_true, Nat.succ_ne_self, reduceCtorEq, IW, List.length_map]
    rw [wrap_i64 (by omega) (by omega)]
    refine cond_split (fun k6 => ?_) fun k6 => ?_
    · rw [if_pos (of_decide_eq_true k6)] at hA
      simp -implicitDefEqProofs only [go_sem, ↓acode_seq, ↓reduceIte, Nat.reduceEqDiff, Nat.reduceAdd, Nat.reduceBEq, Nat.reduceBNe, bne_self_eq_false, Nat.reduceLeDiff, Nat.reduceLT, Nat.le_refl, Int.reduceEq, true_and, and_true, Bool.or_false, Bool.or_self, Bool.not_false, Bool.and_self, Bool.and_true, decide_true, BEq.rfl, ne_eq, not_false_eq_true, Nat.succ_ne_self, reduceCtorEq]
      refine res_cell rfl rfl ag29 (by rw [cs29]; rfl) (by simp) rfl ?_
      rw [hq, hA]; rfl
    · rw [if_neg (of_decide_eq_false k6)] at hA
      simp -implicitDefEqProofs only [go_sem, ↓acode_seq, ↓reduceIte, Nat.reduceEqDiff, Nat.reduceAdd, Nat.reduceBEq, Nat.reduceBNe, bne_self_eq_false, Nat.reduceLeDiff, Nat.reduceLT, Nat.le_refl, Int.reduceEq, true_and, and_true, Bool.or_false, Bool.or_self, Bool.not_false, Bool.and_self, Bool.and_true, decide_true, BEq.rfl, ne_eq, not_false_eq_true, Nat.succ_ne_self, reduceCtorEq]
      refine res_cell rfl rfl ag29 (by rw [cs29]; rfl) (by simp) rfl ?_
      rw [hq, hA]; rfl
  · rw [if_neg (show ¬ hasAll (put r.done p.chip) (r.waves.getD r.ix.toNat []) = true by unfold hasAll; simp only [k5]; simp)] at hA
    simp -implicitDefEqProofs only [go_sem, ↓acode_seq, ↓reduceIte, Nat.reduceEqDiff, Nat.reduceAdd, Nat.reduceBEq, Nat.reduceBNe, bne_self_eq_false, Nat.reduceLeDiff, Nat.reduceLT, Nat.le_refl, Int.reduceEq, true_and, and_true, Bool.or_false, Bool.or_self, Bool.not_false, Bool.and_self, Bool.and_true, decide_true, BEq.rfl, ne_eq, not_false_eq_true, Nat.succ_ne_self, reduceCtorEq]
    refine res_cell rfl rfl ag29 (by rw [cs29]; rfl) (by simp) rfl ?_
    rw [hq, hA]; rfl

end Go.Proofs.Ytjbgfihkdeeonaa
