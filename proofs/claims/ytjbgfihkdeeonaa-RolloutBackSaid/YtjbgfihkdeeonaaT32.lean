/- Function 6; nothing is assumed. -/
import Derived.Test.YtjbgfihkdeeonaaT25
import Derived.Test.YtjbgfihkdeeonaaP56
set_option linter.unusedSimpArgs false
set_option linter.unusedVariables false
open Go Go.Am Go.RowKit
namespace Go.Proofs.Ytjbgfihkdeeonaa
attribute [local go_sem] acode_block acode_region acode_skip acode_label acode_exit acode_ret seqK_n seqK_e seqK_r blockK_n blockK_e blockK_r regK_ aops_nil aops_cons aops_g opGo_ aopsD_nil aopsD_cons aopsD_g opGoD_ opK_ opKD_ NewOk_nil NewOk_cons app1 app3 app4 gcX_ gc_ atEnd_ fzs_nil fzs_cons pus_nil pus_cons pu_ pur_f pur_s pur_p rfs_nil rfs_cons rbs_nil rbs_cons rf_ rfX_f rfX_s rfX_p rfX_j rfX_u rfX_a rfX_n rens_nil rens_cons mv_ mvU_ frz_ ctn_nil ctn_cons fresh_ menF_nil menF_cons menL_nil menL_cons menB_c menB_m menB_i menB_d men_undef men_junk men_pv men_full men_tup men_sl men_bp men_arr men_mr men_it men_cl men_ag men1_undef men1_junk men1_pv men1_full men1_sl men1_bp men1_arr men1_mr men1_it men1_cl cl_undef cl_junk cl_pv cl_full cl_tup cl_sl cl_bp cl_arr cl_mr cl_it cl_cl cl_ag cl1_undef cl1_junk cl1_pv cl1_full cl1_sl cl1_bp cl1_arr cl1_mr cl1_it cl1_cl clB_c clB_m clB_i alive_c alive_m alive_i alive_d pickK_nil pickK_cons consO_s consO_n consA_s consA_n aliveK_nil aliveK_cons pickF_nil pickF_cons pickG_nil pickG_cons lk_nil lk_cons f_ b_ h_ getD_some evo_t evo_c evo_f acode_cond cond_t cond_f opG_t opG_ff opG_tf opG_ft opG_u opGD_t opGD_ff opGD_tf opGD_ft opGD_u loopK_n loopK_e loopK_r endQ_n endQ_r endX_n endX_r argFrX_nil argFrX_cons argFr_nil argFr_cons op_move op_assign op_pick op_box op_alloc op_load op_store op_fieldAddr op_field op_indexAddr op_index op_slice op_build op_buildSlice op_binOp op_unOp op_convert op_extract op_makeFunc op_len op_append op_min op_max op_makeMap op_mapUpdate op_lookup op_delete op_clear op_call op_makeSlice op_range op_entry opN_move opN_assign opN_pick opN_box opN_alloc opN_load opN_store opN_fieldAddr opN_field opN_indexAddr opN_index opN_slice opN_build opN_buildSlice opN_binOp opN_unOp opN_convert opN_extract opN_makeFunc opN_len opN_append opN_min opN_max opN_makeMap opN_mapUpdate opN_lookup opN_delete opN_clear opN_call opN_next opN_makeSlice opN_range opN_entry aPick_t aPick_f mv_undef mv_junk mv_pv mv_full mv_tup mv_sl mv_bp mv_arr mv_mr mv_it mv_cl mv1_undef mv1_junk mv1_pv mv1_full mv1_tup mv1_sl mv1_bp mv1_arr mv1_mr mv1_it mv1_cl mv_ag mvB_c mvB_m mvB_i mvB_d aMin_ aMax_ fz1_pv fz1_undef fz1_junk fz1_full fz1_tup fz1_sl fz1_bp fz1_arr fz1_mr fz1_it fz_pv fz_undef fz_junk fz_full fz_tup fz_sl fz_bp fz_arr fz_mr fz_it fz_ag fzB_c fzB_m fzB_i fzB_d
attribute [local go_sem] cs3 ag3 zk3 ri3 zo3 cs4 ag4 zk4 ri4 zo4 cs5 ag5 zk5 ri5 zo5 cs22 ag22 zk22 ri22 zo22 cs23 ag23 zk23 ri23 zo23 cs25 ag25 zk25 ri25 zo25 fk25 fo25_0 fp25_0 fo25_1 fp25_1 fo25_2 fp25_2 cs26 ag26 zk26 ri26 zo26 cs27 ag27 zk27 ri27 zo27 cs29 ag29 zk29 ri29 zo29 fk29 fo29_0 fp29_0 fo29_1 fp29_1 fo29_2 fp29_2 fo29_3 fp29_3 fo29_4 fp29_4 fo29_5 fp29_5 fo29_6 fp29_6 cs31 ag31 zk31 ri31 zo31 fk31 fo31_0 fp31_0 fo31_1 fp31_1 fo31_2 fp31_2 fo31_3 fp31_3 fo31_4 fp31_4 cs35 ag35 zk35 ri35 zo35 fk35 fo35_0 fp35_0 fo35_1 fp35_1 fo35_2 fp35_2 fo35_3 fp35_3 cs38 ag38 zk38 ri38 zo38 cs40 ag40 zk40 ri40 zo40 fk40 fo40_0 fp40_0 fo40_1 fp40_1 cs42 ag42 zk42 ri42 zo42 cs45 ag45 zk45 ri45 zo45 fk45 fo45_0 fp45_0 fo45_1 fp45_1 fo45_2 fp45_2 fo45_3 fp45_3 fo45_4 fp45_4 fo45_5 fp45_5 cs55 ag55 zk55 ri55 zo55 fk55 fp55_0 fp55_1 cs61 ag61 zk61 ri61 zo61 fk61 fp61_0 fp61_1 cs66 ag66 zk66 ri66 zo66 cs82 ag82 zk82 ri82 zo82 fk82 fo82_0 fp82_0 cs83 ag83 zk83 ri83 zo83 fk83 fp83_0 fp83_1 fp83_2 fp83_3 fp83_4
attribute [local go_sem] List.filter_cons List.filter_nil aBuild splice1 splice2 fillL_nil fillL_cons fillX_ List.set_cons_zero List.set_cons_succ List.take_succ_cons List.take_zero List.drop_succ_cons List.drop_zero List.length_cons List.length_nil List.append_nil aRange aEntry ints_clean ints_mv ints_men ints_ren ints_only List.any_cons List.any_nil List.all_cons List.all_nil Bool.true_and Bool.false_and Bool.and_false Bool.false_or Bool.true_or Bool.or_true Option.some.injEq exists_eq_left' exists_eq_left Nat.zero_add List.getElem?_toArray List.getElem?_cons_succ List.getElem?_cons_zero bs0 bs1 bs1I bs2 bs3 Option.isNone_none Option.isNone_some ofC aLen aBin aInt LV.list? aBox aAlloc aLoad aStore aFieldAddr aField aUn aConv aMakeMap aExtract LV.cells? pc_int pc_bool pc_str pc_slc pc_agg pc_ptr pc_nilp pc_nilf pc_clo pc_map cells_I cells_IL cells_IW Option.map_some Option.map_none Option.bind_some Option.bind_none List.cons_append List.nil_append List.map_cons List.map_nil List.length_cons List.length_nil Option.isSome_some Bool.not_true Bool.not_false Try.underlying3 Try.underlying4 Try.underlying5 Try.underlying22 Try.underlying23 Try.underlying25 Try.underlying26 Try.underlying27 Try.underlying29 Try.underlying31 Try.underlying35 Try.underlying38 Try.underlying40 Try.underlying42 Try.underlying45 Try.underlying55 Try.underlying61 Try.underlying66 Try.underlying82 Try.underlying83

theorem by2 {A B G0 G1 : Prop} (h : A ∨ B) (ha : A → G1 → G0) (hb : B → G1 → G0) (g : G1) : G0 := by
  rcases h with h | h
  · exact ha h g
  · exact hb h g

noncomputable def bkSt (b : List Int) (C : List Int) (r q : Roll) (i : Nat) : St :=
  ⟨[(5, .pv (.bool true)), (6, .bp 6 0), (8, .pv (IL C)), (9, .pv (IL (ordF b C.length))), (10, .bp 10 0), (11, .pv (.int .i64 i))], [(6, .cells none (RC r)), (10, .cells none (RC q))], []⟩

set_option maxHeartbeats 16000000 in
set_option maxRecDepth 100000 in
theorem backl_good (x : Raw51) (b : List Int) (hx : XOk x) (hl : b.length ≤ 9223372036854775807) (hb : ∀ n ∈ b, 0 ≤ n ∧ n < 256) : Go.Am.Good Try.prog false 6 [XP x, BL b] [.bool true] := by
  refine good_rv { sl := [0, 1, 2, 4, 5, 6, 7, 8, 9, 10, 11, 12, 13, 14, 17, 29, 68, 78, 139, 150], bx := [2, 6, 7, 10, 13, 14], rw_ := [] } [.tmp 4] mixed Try.call6 Try.func6 rfl (by kernel_rfl) (by show 2 ≤ 158; decide) (by kernel_rfl) ?_
  have hv := made_valid x
  obtain ⟨r, hr⟩ : ∃ r, r = madeF x := ⟨_, rfl⟩
  rw [← hr] at hv
  have hn := hv.sm.n
  have hf := hv.flat_len
  simp -implicitDefEqProofs only [go_sem, ↓acode_seq, ↓reduceIte, Nat.reduceEqDiff, Nat.reduceAdd, Nat.reduceBEq, Nat.reduceBNe, bne_self_eq_false, Nat.reduceLeDiff, Nat.reduceLT, Nat.le_refl, Int.reduceEq, true_and, and_true, Bool.or_false, Bool.or_self, Bool.not_false, Bool.and_self, Bool.and_true, decide_true, BEq.rfl, ne_eq, not_false_eq_true, Nat.succ_ne_self, reduceCtorEq, XP, BL, I]
  refine call_rule rfl examples_good (.inl rfl) ?_
  simp -implicitDefEqProofs only [go_sem, ↓acode_seq, ↓reduceIte, Nat.reduceEqDiff, Nat.reduceAdd, Nat.reduceBEq, Nat.reduceBNe, bne_self_eq_false, Nat.reduceLeDiff, Nat.reduceLT, Nat.le_refl, Int.reduceEq, true_and, and_true, Bool.or_false, Bool.or_self, Bool.not_false, Bool.and_self, Bool.and_true, decide_true, BEq.rfl, ne_eq, not_false_eq_true, Nat.succ_ne_self, reduceCtorEq, resL]
  refine call_rule rfl (mk_good x hx) (.inl rfl) ?_
  rw [← hr]
  simp -implicitDefEqProofs only [go_sem, ↓acode_seq, ↓reduceIte, Nat.reduceEqDiff, Nat.reduceAdd, Nat.reduceBEq, Nat.reduceBNe, bne_self_eq_false, Nat.reduceLeDiff, Nat.reduceLT, Nat.le_refl, Int.reduceEq, true_and, and_true, Bool.or_false, Bool.or_self, Bool.not_false, Bool.and_self, Bool.and_true, decide_true, BEq.rfl, ne_eq, not_false_eq_true, Nat.succ_ne_self, reduceCtorEq, resL, R, I, IW, List.length_map]
  refine call_rule rfl (back_good r hv.sm) (.inl rfl) ?_
  by_cases hs : r.st = 2 ∨ r.st = 4
  · have hbk : backF r = (Roll0, 510) := by unfold backF; rw [if_pos hs]
    rw [hbk]
    have d0 : decide ((510 : Int) = 510) = true := by decide
    rcases (show decide (r.st = 2) = true ∨ (decide (r.st = 2) = false ∧ decide (r.st = 4) = true) by
      by_cases h2 : r.st = 2
      · exact .inl (decide_eq_true h2)
      · exact .inr ⟨decide_eq_false h2, decide_eq_true (hs.resolve_left h2)⟩) with d1 | d1
    · simp -implicitDefEqProofs only [go_sem, ↓acode_seq, ↓reduceIte, Nat.reduceEqDiff, Nat.reduceAdd, Nat.reduceBEq, Nat.reduceBNe, bne_self_eq_false, Nat.reduceLeDiff, Nat.reduceLT, Nat.le_refl, Int.reduceEq, true_and, and_true, Bool.or_false, Bool.or_self, Bool.not_false, Bool.and_self, Bool.and_true, decide_true, BEq.rfl, ne_eq, not_false_eq_true, Nat.succ_ne_self, reduceCtorEq, resL, G, I, d1]
      exact res_pv rfl rfl
    · simp -implicitDefEqProofs only [go_sem, ↓acode_seq, ↓reduceIte, Nat.reduceEqDiff, Nat.reduceAdd, Nat.reduceBEq, Nat.reduceBNe, bne_self_eq_false, Nat.reduceLeDiff, Nat.reduceLT, Nat.le_refl, Int.reduceEq, true_and, and_true, Bool.or_false, Bool.or_self, Bool.not_false, Bool.and_self, Bool.and_true, decide_true, BEq.rfl, ne_eq, not_false_eq_true, Nat.succ_ne_self, reduceCtorEq, resL, G, I, d1.1, d1.2]
      exact res_pv rfl rfl
  have d1 : decide (r.st = 2) = false := decide_eq_false fun h => hs (.inl h)
  have d2 : decide (r.st = 4) = false := decide_eq_false fun h => hs (.inr h)
  have hok : (backF r).2 = 0 := by unfold backF; rw [if_neg hs]
  obtain ⟨k, hk0, hk1, hkm, hB, hst, hrd⟩ := back_start hv hok
  obtain ⟨g, hg⟩ : ∃ g, g = backF r := ⟨_, rfl⟩
  rw [← hg] at hok hB hst hrd ⊢
  simp -implicitDefEqProofs only [go_sem, ↓acode_seq, ↓reduceIte, Nat.reduceEqDiff, Nat.reduceAdd, Nat.reduceBEq, Nat.reduceBNe, bne_self_eq_false, Nat.reduceLeDiff, Nat.reduceLT, Nat.le_refl, Int.reduceEq, true_and, and_true, Bool.or_false, Bool.or_self, Bool.not_false, Bool.and_self, Bool.and_true, decide_true, BEq.rfl, ne_eq, not_false_eq_true, Nat.succ_ne_self, reduceCtorEq, resL, G, I, d1, d2]
  simp -implicitDefEqProofs only [List.length_map]
  rw [show IntKind.i64.wrap ((r.waves.length : Int) - 1) = (r.waves.length : Int) - 1 from wrap_i64 (by omega) (by omega), ← hkm, wrap_i64 (n := k + 1) (by omega) (by omega)]
  refine call_rule rfl (upto_good r (k + 1) (by omega) (by omega)) (.inl rfl) ?_
  rw [show uptoF (r.waves.take (k + 1).toNat) = chips r k from rfl]
  have hgv := hB.vr
  have d3 : decide (g.2 = 0) = true := decide_eq_true hok
  have d4 : decide (g.1.st = 2) = true := decide_eq_true hst
  have hcl : (chips r k).length ≤ 64 := by
    have h1 : (chips r k).length ≤ r.waves.flatten.length := nd_sub (inc_nodup (inc_srt _)) fun x hx => upl_sub _ (mem_srt.1 hx)
    omega
  simp -implicitDefEqProofs only [go_sem, ↓acode_seq, ↓reduceIte, Nat.reduceEqDiff, Nat.reduceAdd, Nat.reduceBEq, Nat.reduceBNe, bne_self_eq_false, Nat.reduceLeDiff, Nat.reduceLT, Nat.le_refl, Int.reduceEq, true_and, and_true, Bool.or_false, Bool.or_self, Bool.not_false, Bool.and_self, Bool.and_true, decide_true, BEq.rfl, ne_eq, not_false_eq_true, Nat.succ_ne_self, reduceCtorEq, resL, d3]
  refine call_rule rfl (validR_good g.1 (by have := hgv.sm.n; omega) (fun w hw => by have := hgv.sm.w w hw; omega) (by have := hgv.done_len; omega)) (.inl rfl) ?_
  simp -implicitDefEqProofs only [go_sem, ↓acode_seq, ↓reduceIte, Nat.reduceEqDiff, Nat.reduceAdd, Nat.reduceBEq, Nat.reduceBNe, bne_self_eq_false, Nat.reduceLeDiff, Nat.reduceLT, Nat.le_refl, Int.reduceEq, true_and, and_true, Bool.or_false, Bool.or_self, Bool.not_false, Bool.and_self, Bool.and_true, decide_true, BEq.rfl, ne_eq, not_false_eq_true, Nat.succ_ne_self, reduceCtorEq, resL, V_iff.2 hgv, d4]
  refine call_rule rfl (readyP_good g.1 hgv) (.inl rfl) ?_
  rw [hrd]
  simp -implicitDefEqProofs only [go_sem, ↓acode_seq, ↓reduceIte, Nat.reduceEqDiff, Nat.reduceAdd, Nat.reduceBEq, Nat.reduceBNe, bne_self_eq_false, Nat.reduceLeDiff, Nat.reduceLT, Nat.le_refl, Int.reduceEq, true_and, and_true, Bool.or_false, Bool.or_self, Bool.not_false, Bool.and_self, Bool.and_true, decide_true, BEq.rfl, ne_eq, not_false_eq_true, Nat.succ_ne_self, reduceCtorEq, resL]
  refine call_rule rfl (ints_good (chips r k) (chips r k) (by omega)) (.inl rfl) ?_
  rw [dec_refl]
  simp -implicitDefEqProofs only [go_sem, ↓acode_seq, ↓reduceIte, Nat.reduceEqDiff, Nat.reduceAdd, Nat.reduceBEq, Nat.reduceBNe, bne_self_eq_false, Nat.reduceLeDiff, Nat.reduceLT, Nat.le_refl, Int.reduceEq, true_and, and_true, Bool.or_false, Bool.or_self, Bool.not_false, Bool.and_self, Bool.and_true, decide_true, BEq.rfl, ne_eq, not_false_eq_true, Nat.succ_ne_self, reduceCtorEq, resL, IL, List.length_map]
  refine call_rule rfl (order_good (chips r k).length b (by omega) hb hl) (.inl rfl) ?_
  simp -implicitDefEqProofs only [go_sem, ↓acode_seq, ↓reduceIte, Nat.reduceEqDiff, Nat.reduceAdd, Nat.reduceBEq, Nat.reduceBNe, bne_self_eq_false, Nat.reduceLeDiff, Nat.reduceLT, Nat.le_refl, Int.reduceEq, true_and, and_true, Bool.or_false, Bool.or_self, Bool.not_false, Bool.and_self, Bool.and_true, decide_true, BEq.rfl, ne_eq, not_false_eq_true, Nat.succ_ne_self, reduceCtorEq, resL, IL, List.length_map]
  obtain ⟨C, hC⟩ : ∃ C, C = chips r k := ⟨_, rfl⟩
  have hCnd : C.Nodup := by rw [hC]; exact inc_nodup (inc_srt _)
  rw [← hC] at hcl ⊢
  obtain ⟨hOnd, hOr⟩ := ordF_ok b C.length
  have hOl := ordF_len b C.length
  refine loop_rule { sl := [5, 6, 8, 9, 10, 11], bx := [6, 10], rw_ := [] } (fun (z : Roll × Nat) σ => z.2 ≤ C.length ∧ Bk r k z.1 (((ordF b C.length).take z.2).map (pickF C)) ∧ σ = bkSt b C r z.1 z.2) (fun z => C.length - z.2) (g.1, 0)
    ⟨by simp, by simpa using hB, by simp [go_sem, bkSt, RC, IW, IL, I]⟩ ?_
  rintro ⟨q, i⟩ σ ⟨hi, hp, rfl⟩
  simp only at hi hp
  have hq := hp.vr
  have hsl : (((ordF b C.length).take i).map (pickF C)).length = i := by rw [List.length_map, List.length_take]; omega
  simp -implicitDefEqProofs only [go_sem, ↓acode_seq, ↓reduceIte, Nat.reduceEqDiff, Nat.reduceAdd, Nat.reduceBEq, Nat.reduceBNe, bne_self_eq_false, Nat.reduceLeDiff, Nat.reduceLT, Nat.le_refl, Int.reduceEq, true_and, and_true, Bool.or_false, Bool.or_self, Bool.not_false, Bool.and_self, Bool.and_true, decide_true, BEq.rfl, ne_eq, not_false_eq_true, Nat.succ_ne_self, reduceCtorEq, bkSt, RC, IL, IW, I, List.length_map]
  rw [hOl]
  refine cond_split (fun ht => ?_) fun hf' => ?_
  · have hlt : i < C.length := by have := of_decide_eq_true ht; omega
    have hlt2 : i < (ordF b C.length).length := by omega
    obtain ⟨s1, s2, s3⟩ := sent_step hCnd hOnd hOr hlt2
    have hoi := hOr _ (List.getElem_mem hlt2)
    obtain ⟨c, hc⟩ : ∃ c, c = pickF C (ordF b C.length)[i] := ⟨_, rfl⟩
    rw [← hc] at s1 s2 s3
    have s1' : c ∈ chips r k := by rw [← hC]; exact s1
    have hidle := hp.idle s1'
    obtain ⟨hok2, hp2, hnr⟩ := hp.step hk0 (by rw [hsl, ← hC]; exact hlt) s1' s2
    rw [← s3] at hp2
    simp -implicitDefEqProofs only [go_sem, ↓acode_seq, ↓reduceIte, Nat.reduceEqDiff, Nat.reduceAdd, Nat.reduceBEq, Nat.reduceBNe, bne_self_eq_false, Nat.reduceLeDiff, Nat.reduceLT, Nat.le_refl, Int.reduceEq, true_and, and_true, Bool.or_false, Bool.or_self, Bool.not_false, Bool.and_self, Bool.and_true, decide_true, BEq.rfl, ne_eq, not_false_eq_true, Nat.succ_ne_self, reduceCtorEq]
    refine idx_I rfl hlt2 ?_
    simp -implicitDefEqProofs only [go_sem, ↓acode_seq, ↓reduceIte, Nat.reduceEqDiff, Nat.reduceAdd, Nat.reduceBEq, Nat.reduceBNe, bne_self_eq_false, Nat.reduceLeDiff, Nat.reduceLT, Nat.le_refl, Int.reduceEq, true_and, and_true, Bool.or_false, Bool.or_self, Bool.not_false, Bool.and_self, Bool.and_true, decide_true, BEq.rfl, ne_eq, not_false_eq_true, Nat.succ_ne_self, reduceCtorEq, I]
    refine idx_Ii rfl hoi.1 hoi.2 ?_
    rw [show C.getD (ordF b C.length)[i].toNat 0 = c from hc.symm]
    simp -implicitDefEqProofs only [go_sem, ↓acode_seq, ↓reduceIte, Nat.reduceEqDiff, Nat.reduceAdd, Nat.reduceBEq, Nat.reduceBNe, bne_self_eq_false, Nat.reduceLeDiff, Nat.reduceLT, Nat.le_refl, Int.reduceEq, true_and, and_true, Bool.or_false, Bool.or_self, Bool.not_false, Bool.and_self, Bool.and_true, decide_true, BEq.rfl, ne_eq, not_false_eq_true, Nat.succ_ne_self, reduceCtorEq, I]
    have hgi := seeL_good q ⟨c, r.fr, 0, false, false⟩ hq
    rw [hidle] at hgi
    refine call_rule rfl hgi (.inl rfl) ?_
    simp -implicitDefEqProofs only [go_sem, ↓acode_seq, ↓reduceIte, Nat.reduceEqDiff, Nat.reduceAdd, Nat.reduceBEq, Nat.reduceBNe, bne_self_eq_false, Nat.reduceLeDiff, Nat.reduceLT, Nat.le_refl, Int.reduceEq, true_and, and_true, Bool.or_false, Bool.or_self, Bool.not_false, Bool.and_self, Bool.and_true, decide_true, BEq.rfl, ne_eq, not_false_eq_true, Nat.succ_ne_self, reduceCtorEq, resL, G, I, IW, IL]
    refine call_rule rfl (seeL_good q ⟨c, r.fr, 0, false, true⟩ hq) (.inl rfl) ?_
    obtain ⟨g2, hg2⟩ : ∃ g2, g2 = seeF q ⟨c, r.fr, 0, false, true⟩ := ⟨_, rfl⟩
    rw [← hg2] at hok2 hp2 hnr ⊢
    have hv2 := hp2.vr
    have hsl2 : (((ordF b C.length).take (i + 1)).map (pickF C)).length = i + 1 := by rw [List.length_map, List.length_take]; omega
    have hrl := hp2.ready
    rw [hsl2, ← hC] at hrl
    have d5 : decide (g2.2 = 0) = true := decide_eq_true hok2
    simp -implicitDefEqProofs only [go_sem, ↓acode_seq, ↓reduceIte, Nat.reduceEqDiff, Nat.reduceAdd, Nat.reduceBEq, Nat.reduceBNe, bne_self_eq_false, Nat.reduceLeDiff, Nat.reduceLT, Nat.le_refl, Int.reduceEq, true_and, and_true, Bool.or_false, Bool.or_self, Bool.not_false, Bool.and_self, Bool.and_true, decide_true, BEq.rfl, ne_eq, not_false_eq_true, Nat.succ_ne_self, reduceCtorEq, resL, G, I, IW, IL]
    refine call_rule rfl (sameR_good q q hq.sm) (.inl rfl) ?_
    rw [sameF_refl]
    simp -implicitDefEqProofs only [go_sem, ↓acode_seq, ↓reduceIte, Nat.reduceEqDiff, Nat.reduceAdd, Nat.reduceBEq, Nat.reduceBNe, bne_self_eq_false, Nat.reduceLeDiff, Nat.reduceLT, Nat.le_refl, Int.reduceEq, true_and, and_true, Bool.or_false, Bool.or_self, Bool.not_false, Bool.and_self, Bool.and_true, decide_true, BEq.rfl, ne_eq, not_false_eq_true, Nat.succ_ne_self, reduceCtorEq, resL, d5]
    refine call_rule rfl (validR_good g2.1 (by have := hv2.sm.n; omega) (fun w hw => by have := hv2.sm.w w hw; omega) (by have := hv2.done_len; omega)) (.inl rfl) ?_
    simp -implicitDefEqProofs only [go_sem, ↓acode_seq, ↓reduceIte, Nat.reduceEqDiff, Nat.reduceAdd, Nat.reduceBEq, Nat.reduceBNe, bne_self_eq_false, Nat.reduceLeDiff, Nat.reduceLT, Nat.le_refl, Int.reduceEq, true_and, and_true, Bool.or_false, Bool.or_self, Bool.not_false, Bool.and_self, Bool.and_true, decide_true, BEq.rfl, ne_eq, not_false_eq_true, Nat.succ_ne_self, reduceCtorEq, resL, V_iff.2 hv2]
    refine call_rule rfl (readyP_good g2.1 hv2) (.inl rfl) ?_
    simp -implicitDefEqProofs only [go_sem, ↓acode_seq, ↓reduceIte, Nat.reduceEqDiff, Nat.reduceAdd, Nat.reduceBEq, Nat.reduceBNe, bne_self_eq_false, Nat.reduceLeDiff, Nat.reduceLT, Nat.le_refl, Int.reduceEq, true_and, and_true, Bool.or_false, Bool.or_self, Bool.not_false, Bool.and_self, Bool.and_true, decide_true, BEq.rfl, ne_eq, not_false_eq_true, Nat.succ_ne_self, reduceCtorEq, resL]
    refine call_rule rfl (in_good (readyF g2.1) c (readyF_len hv2)) (.inl rfl) ?_
    have d6 : decide (c ∈ readyF g2.1) = false := decide_eq_false hnr
    simp -implicitDefEqProofs only [go_sem, ↓acode_seq, ↓reduceIte, Nat.reduceEqDiff, Nat.reduceAdd, Nat.reduceBEq, Nat.reduceBNe, bne_self_eq_false, Nat.reduceLeDiff, Nat.reduceLT, Nat.le_refl, Int.reduceEq, true_and, and_true, Bool.or_false, Bool.or_self, Bool.not_false, Bool.and_self, Bool.and_true, decide_true, BEq.rfl, ne_eq, not_false_eq_true, Nat.succ_ne_self, reduceCtorEq, resL, d6]
    refine call_rule rfl (readyP_good g2.1 hv2) (.inl rfl) ?_
    simp -implicitDefEqProofs only [go_sem, ↓acode_seq, ↓reduceIte, Nat.reduceEqDiff, Nat.reduceAdd, Nat.reduceBEq, Nat.reduceBNe, bne_self_eq_false, Nat.reduceLeDiff, Nat.reduceLT, Nat.le_refl, Int.reduceEq, true_and, and_true, Bool.or_false, Bool.or_self, Bool.not_false, Bool.and_self, Bool.and_true, decide_true, BEq.rfl, ne_eq, not_false_eq_true, Nat.succ_ne_self, reduceCtorEq, resL, IL, List.length_map]
    have d7 : decide (((readyF g2.1).length : Int) = IntKind.i64.wrap (IntKind.i64.wrap (((ordF b C.length).length : Int) - i) - 1)) = true := by
      rw [hOl, wrap_i64 (n := (C.length : Int) - i) (by omega) (by omega), wrap_i64 (by omega) (by omega)]
      exact decide_eq_true (by omega)
    simp -implicitDefEqProofs only [go_sem, ↓acode_seq, ↓reduceIte, Nat.reduceEqDiff, Nat.reduceAdd, Nat.reduceBEq, Nat.reduceBNe, bne_self_eq_false, Nat.reduceLeDiff, Nat.reduceLT, Nat.le_refl, Int.reduceEq, true_and, and_true, Bool.or_false, Bool.or_self, Bool.not_false, Bool.and_self, Bool.and_true, decide_true, BEq.rfl, ne_eq, not_false_eq_true, Nat.succ_ne_self, reduceCtorEq, d7, List.length_map]
    have d8 : decide (((i : Int) + 1) = C.length) = decide (g2.1.st = 4) := by
      apply decide_eq_decide.2
      have := hp2.st
      rw [hsl2, ← hC] at this
      constructor
      · intro h; rcases this with h' | h'
        · omega
        · exact h'.1
      · intro h; rcases this with h' | h' <;> omega
    rw [wrap_i64 (n := (i : Int) + 1) (by omega) (by omega), hOl, d8]
    rw [beq_self_eq_true (decide (g2.1.st = 4))]
    simp -implicitDefEqProofs only [go_sem, ↓acode_seq, ↓reduceIte, Nat.reduceEqDiff, Nat.reduceAdd, Nat.reduceBEq, Nat.reduceBNe, bne_self_eq_false, Nat.reduceLeDiff, Nat.reduceLT, Nat.le_refl, Int.reduceEq, true_and, and_true, Bool.or_false, Bool.or_self, Bool.not_false, Bool.and_self, Bool.and_true, decide_true, BEq.rfl, ne_eq, not_false_eq_true, Nat.succ_ne_self, reduceCtorEq]
    refine ⟨(g2.1, i + 1), ⟨by omega, hp2, ?_⟩, by omega⟩
    rw [wrap_i64 (by omega) (by omega)]
    simp [IL, IW]
  · have hin : i = C.length := by have := of_decide_eq_false hf'; omega
    obtain ⟨h4, hd4⟩ := hp.fin (by rw [hsl, ← hC]; exact hin)
    rw [← hC] at hd4
    simp -implicitDefEqProofs only [go_sem, ↓acode_seq, ↓reduceIte, Nat.reduceEqDiff, Nat.reduceAdd, Nat.reduceBEq, Nat.reduceBNe, bne_self_eq_false, Nat.reduceLeDiff, Nat.reduceLT, Nat.le_refl, Int.reduceEq, true_and, and_true, Bool.or_false, Bool.or_self, Bool.not_false, Bool.and_self, Bool.and_true, decide_true, BEq.rfl, ne_eq, not_false_eq_true, Nat.succ_ne_self, reduceCtorEq]
    refine call_rule rfl (ints_good q.done C (by have := hq.done_len; omega)) (.inl rfl) ?_
    have d9 : decide (q.done = C) = true := decide_eq_true hd4
    simp -implicitDefEqProofs only [go_sem, ↓acode_seq, ↓reduceIte, Nat.reduceEqDiff, Nat.reduceAdd, Nat.reduceBEq, Nat.reduceBNe, bne_self_eq_false, Nat.reduceLeDiff, Nat.reduceLT, Nat.le_refl, Int.reduceEq, true_and, and_true, Bool.or_false, Bool.or_self, Bool.not_false, Bool.and_self, Bool.and_true, decide_true, BEq.rfl, ne_eq, not_false_eq_true, Nat.succ_ne_self, reduceCtorEq, resL, d9]
    exact res_pv rfl rfl

end Go.Proofs.Ytjbgfihkdeeonaa
