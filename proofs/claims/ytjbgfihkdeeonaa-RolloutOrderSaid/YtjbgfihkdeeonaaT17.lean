/- A part of the proof over this program: contracts of its functions on pure values; nothing is assumed. -/
import Derived.Test.YtjbgfihkdeeonaaT16
set_option linter.unusedSimpArgs false
set_option linter.unusedVariables false
open Go Go.Am Go.RowKit
namespace Go.Proofs.Ytjbgfihkdeeonaa
attribute [local go_sem] acode_block acode_region acode_skip acode_label acode_exit acode_ret seqK_n seqK_e seqK_r blockK_n blockK_e blockK_r regK_ aops_nil aops_cons aops_g opGo_ aopsD_nil aopsD_cons aopsD_g opGoD_ opK_ opKD_ NewOk_nil NewOk_cons app1 app3 app4 gcX_ gc_ atEnd_ fzs_nil fzs_cons pus_nil pus_cons pu_ pur_f pur_s pur_p rfs_nil rfs_cons rbs_nil rbs_cons rf_ rfX_f rfX_s rfX_p rfX_j rfX_u rfX_a rfX_n rens_nil rens_cons mv_ mvU_ frz_ ctn_nil ctn_cons fresh_ menF_nil menF_cons menL_nil menL_cons menB_c menB_m menB_i menB_d men_undef men_junk men_pv men_full men_tup men_sl men_bp men_arr men_mr men_it men_cl men_ag men1_undef men1_junk men1_pv men1_full men1_sl men1_bp men1_arr men1_mr men1_it men1_cl cl_undef cl_junk cl_pv cl_full cl_tup cl_sl cl_bp cl_arr cl_mr cl_it cl_cl cl_ag cl1_undef cl1_junk cl1_pv cl1_full cl1_sl cl1_bp cl1_arr cl1_mr cl1_it cl1_cl clB_c clB_m clB_i alive_c alive_m alive_i alive_d pickK_nil pickK_cons consO_s consO_n consA_s consA_n aliveK_nil aliveK_cons pickF_nil pickF_cons pickG_nil pickG_cons lk_nil lk_cons f_ b_ h_ getD_some evo_t evo_c evo_f acode_cond cond_t cond_f opG_t opG_ff opG_tf opG_ft opG_u opGD_t opGD_ff opGD_tf opGD_ft opGD_u loopK_n loopK_e loopK_r endQ_n endQ_r endX_n endX_r argFrX_nil argFrX_cons argFr_nil argFr_cons op_move op_assign op_pick op_box op_alloc op_load op_store op_fieldAddr op_field op_indexAddr op_index op_slice op_build op_buildSlice op_binOp op_unOp op_convert op_extract op_makeFunc op_len op_append op_min op_max op_makeMap op_mapUpdate op_lookup op_delete op_clear op_call op_makeSlice op_range op_entry opN_move opN_assign opN_pick opN_box opN_alloc opN_load opN_store opN_fieldAddr opN_field opN_indexAddr opN_index opN_slice opN_build opN_buildSlice opN_binOp opN_unOp opN_convert opN_extract opN_makeFunc opN_len opN_append opN_min opN_max opN_makeMap opN_mapUpdate opN_lookup opN_delete opN_clear opN_call opN_next opN_makeSlice opN_range opN_entry aPick_t aPick_f mv_undef mv_junk mv_pv mv_full mv_tup mv_sl mv_bp mv_arr mv_mr mv_it mv_cl mv1_undef mv1_junk mv1_pv mv1_full mv1_tup mv1_sl mv1_bp mv1_arr mv1_mr mv1_it mv1_cl mv_ag mvB_c mvB_m mvB_i mvB_d aMin_ aMax_ fz1_pv fz1_undef fz1_junk fz1_full fz1_tup fz1_sl fz1_bp fz1_arr fz1_mr fz1_it fz_pv fz_undef fz_junk fz_full fz_tup fz_sl fz_bp fz_arr fz_mr fz_it fz_ag fzB_c fzB_m fzB_i fzB_d
attribute [local go_sem] cs3 ag3 zk3 ri3 zo3 cs4 ag4 zk4 ri4 zo4 cs5 ag5 zk5 ri5 zo5 cs22 ag22 zk22 ri22 zo22 cs23 ag23 zk23 ri23 zo23 cs25 ag25 zk25 ri25 zo25 fk25 fo25_0 fp25_0 fo25_1 fp25_1 fo25_2 fp25_2 cs26 ag26 zk26 ri26 zo26 cs27 ag27 zk27 ri27 zo27 cs29 ag29 zk29 ri29 zo29 fk29 fo29_0 fp29_0 fo29_1 fp29_1 fo29_2 fp29_2 fo29_3 fp29_3 fo29_4 fp29_4 fo29_5 fp29_5 fo29_6 fp29_6 cs31 ag31 zk31 ri31 zo31 fk31 fo31_0 fp31_0 fo31_1 fp31_1 fo31_2 fp31_2 fo31_3 fp31_3 fo31_4 fp31_4 cs35 ag35 zk35 ri35 zo35 fk35 fo35_0 fp35_0 fo35_1 fp35_1 fo35_2 fp35_2 fo35_3 fp35_3 cs38 ag38 zk38 ri38 zo38 cs40 ag40 zk40 ri40 zo40 fk40 fo40_0 fp40_0 fo40_1 fp40_1 cs42 ag42 zk42 ri42 zo42 cs45 ag45 zk45 ri45 zo45 fk45 fo45_0 fp45_0 fo45_1 fp45_1 fo45_2 fp45_2 fo45_3 fp45_3 fo45_4 fp45_4 fo45_5 fp45_5 cs55 ag55 zk55 ri55 zo55 fk55 fp55_0 fp55_1 cs61 ag61 zk61 ri61 zo61 fk61 fp61_0 fp61_1 cs66 ag66 zk66 ri66 zo66 cs82 ag82 zk82 ri82 zo82 fk82 fo82_0 fp82_0 cs83 ag83 zk83 ri83 zo83 fk83 fp83_0 fp83_1 fp83_2 fp83_3 fp83_4
attribute [local go_sem] List.filter_cons List.filter_nil aBuild splice1 splice2 fillL_nil fillL_cons fillX_ List.set_cons_zero List.set_cons_succ List.take_succ_cons List.take_zero List.drop_succ_cons List.drop_zero List.length_cons List.length_nil List.append_nil aRange aEntry ints_clean ints_mv ints_men ints_ren ints_only List.any_cons List.any_nil List.all_cons List.all_nil Bool.true_and Bool.false_and Bool.and_false Bool.false_or Bool.true_or Bool.or_true Option.some.injEq exists_eq_left' exists_eq_left Nat.zero_add List.getElem?_toArray List.getElem?_cons_succ List.getElem?_cons_zero bs0 bs1 bs1I bs2 bs3 Option.isNone_none Option.isNone_some ofC aLen aBin aInt LV.list? aBox aAlloc aLoad aStore aFieldAddr aField aUn aConv aMakeMap aExtract LV.cells? pc_int pc_bool pc_str pc_slc pc_agg pc_ptr pc_nilp pc_nilf pc_clo pc_map cells_I cells_IL cells_IW Option.map_some Option.map_none Option.bind_some Option.bind_none List.cons_append List.nil_append List.map_cons List.map_nil List.length_cons List.length_nil Option.isSome_some Bool.not_true Bool.not_false Try.underlying3 Try.underlying4 Try.underlying5 Try.underlying22 Try.underlying23 Try.underlying25 Try.underlying26 Try.underlying27 Try.underlying29 Try.underlying31 Try.underlying35 Try.underlying38 Try.underlying40 Try.underlying42 Try.underlying45 Try.underlying55 Try.underlying61 Try.underlying66 Try.underlying82 Try.underlying83

theorem VR.done_len {r : Roll} (h : VR r) : r.done.length ≤ 64 := by
  refine len64 (inc_nodup h.inc) fun x hx => h.wv.rng x ?_
  by_cases h3 : r.st = 3
  · exact ((h.fin h3).2 x).1 hx
  · exact upl_sub x (h.sub h3 x hx)
theorem VR.flat_len {r : Roll} (h : VR r) : r.waves.flatten.length ≤ 64 := len64 h.wv.nd h.wv.rng
theorem VR.upl_len {r : Roll} (h : VR r) (k : Int) : (upl r k).length ≤ 64 := by
  have h1 := h.flat_len
  have h2 : (r.waves.take k.toNat).flatten.length ≤ r.waves.flatten.length := flat_le
  unfold upl; omega
theorem VR.sm {r : Roll} (h : VR r) : Sm r := ⟨by have := h.wv.len; omega, fun w hw => by have := h.wv.len64 hw; omega, by have := h.flat_len; omega, by have := h.done_len; omega⟩
theorem setOf_len (l : List Int) : (setOf l).length ≤ l.length := by
  have h : ∀ (l s : List Int), (l.foldl addK s).length ≤ s.length + l.length := by
    intro l
    induction l with
    | nil => intro s; simp
    | cons a r ih =>
      intro s
      have := ih (addK s a)
      have h2 : (addK s a).length ≤ s.length + 1 := by unfold addK; split <;> simp
      simp only [List.foldl_cons, List.length_cons]; omega
  simpa [setOf] using h l []

theorem call_of {B : Nat → Option BO} {K : Upd → Prop} {l : List Int} (d : Nat) (hl : l.length ≤ 9223372036854775807) (h : K ⟨.mr d, [], [(d, .map ((setOf l).map I) ((setOf l).map fun _ => tt))], [], none, [d]⟩) : aCall Try.prog B K (.pv (.clo 36 [])) [.pv (IL l)] := by
  refine call_x _ (fun k => if k = 6 then d else k) (of_x l hl) (by simp [CX.ok, LV.only, LV.only1, BO.only, keys]) (by simp [wkL, LV.wk, LV.ren, LV.ren1]) (by intro m o hm; simp [lk] at hm) (by intro a b ha hb; simp [keys] at ha hb; omega) ?_
  simpa [keys, deadOf, LV.ren, LV.ren1, BO.ren] using h

def eraseL (s l : List Int) : List Int := l.foldl List.erase s
theorem eraseL_snoc (s l : List Int) (n : Int) : eraseL s (l ++ [n]) = (eraseL s l).erase n := by simp [eraseL]
theorem eraseL_nodup {l : List Int} : ∀ {s : List Int}, s.Nodup → (eraseL s l).Nodup := by
  induction l with
  | nil => intro s h; exact h
  | cons a l ih => intro s h; exact ih (h.erase a)
theorem mem_eraseL {l : List Int} {x : Int} : ∀ {s : List Int}, s.Nodup → (x ∈ eraseL s l ↔ x ∈ s ∧ x ∉ l) := by
  induction l with
  | nil => intro s h; simp [eraseL]
  | cons a l ih =>
    intro s h
    have := ih (h.erase a)
    simp only [eraseL, List.foldl_cons] at this ⊢
    rw [this, h.mem_erase_iff]
    simp only [List.mem_cons, not_or]
    constructor
    · rintro ⟨⟨h1, h2⟩, h3⟩; exact ⟨h2, h1, h3⟩
    · rintro ⟨h1, h2, h3⟩; exact ⟨⟨h2, h1⟩, h3⟩
theorem eraseL_len {l : List Int} : ∀ {s : List Int}, (eraseL s l).length ≤ s.length := by
  induction l with
  | nil => intro s; exact Nat.le_refl _
  | cons a l ih => intro s; exact Nat.le_trans (ih (s := s.erase a)) (List.length_erase_le)
theorem ready_eq {u d : List Int} : srt (eraseL (setOf u) d) = (srt u).filter (fun x => !decide (x ∈ d)) :=
  inc_ext (inc_srt _) (List.Pairwise.filter _ (inc_srt u)) fun x => by
    rw [mem_srt, mem_eraseL (nodup_setOf u), mem_setOf, List.mem_filter, mem_srt]; simp

set_option maxHeartbeats 2000000 in
set_option maxRecDepth 100000 in
theorem readyP_good (r : Roll) (h : VR r) : Go.Am.Good Try.prog false 19 [R r] [IL (readyF r)] := by
  refine good_rv { sl := [0, 1, 2, 3, 5, 13, 21, 22, 23, 24], bx := [1, 19], rw_ := [] } [.tmp 2] mixed Try.call19 Try.func19 rfl (by kernel_rfl) (by show 1 ≤ 32; decide) (by kernel_rfl) ?_
  obtain ⟨q, hq⟩ : ∃ q, q = IL (readyF r) := ⟨_, rfl⟩
  rw [← hq]
  simp -implicitDefEqProofs only [go_sem, ↓acode_seq, ↓reduceIte, Nat.reduceEqDiff, Nat.reduceAdd, Nat.reduceBEq, Nat.reduceBNe, bne_self_eq_false, Nat.reduceLeDiff, Nat.reduceLT, Nat.le_refl, Int.reduceEq, true_and, and_true, Bool.or_false, Bool.or_self, Bool.not_false, Bool.and_self, Bool.and_true, decide_true, BEq.rfl, ne_eq, not_false_eq_true, Nat.succ_ne_self, reduceCtorEq, R, I]
  have main : ∀ (Q : AEx → St → Prop), r.st = 0 ∨ r.st = 2 → True := fun _ _ => trivial
  have h1 := h.sm.n
  have h2 := h.done_len
  refine opG_split (fun g => ?_) fun g => ?_
  · simp -implicitDefEqProofs only [go_sem, ↓acode_seq, ↓reduceIte, Nat.reduceEqDiff, Nat.reduceAdd, Nat.reduceBEq, Nat.reduceBNe, bne_self_eq_false, Nat.reduceLeDiff, Nat.reduceLT, Nat.le_refl, Int.reduceEq, true_and, and_true, Bool.or_false, Bool.or_self, Bool.not_false, Bool.and_self, Bool.and_true, decide_true, BEq.rfl, ne_eq, not_false_eq_true, Nat.succ_ne_self, reduceCtorEq, g]
    refine cond_split (fun g2 => ?_) fun g2 => ?_
    · simp -implicitDefEqProofs only [go_sem, ↓acode_seq, ↓reduceIte, Nat.reduceEqDiff, Nat.reduceAdd, Nat.reduceBEq, Nat.reduceBNe, bne_self_eq_false, Nat.reduceLeDiff, Nat.reduceLT, Nat.le_refl, Int.reduceEq, true_and, and_true, Bool.or_false, Bool.or_self, Bool.not_false, Bool.and_self, Bool.and_true, decide_true, BEq.rfl, ne_eq, not_false_eq_true, Nat.succ_ne_self, reduceCtorEq]
      refine res_l rfl rfl ?_
      have e1 : r.st ≠ 0 := by simpa using g
      have e2 : r.st ≠ 2 := by simpa using g2
      rw [hq, readyF, if_neg (by omega)]; rfl
    · have e2 : r.st = 2 := by simpa using g2
      have hix := h.ix (by omega)
      simp -implicitDefEqProofs only [go_sem, ↓acode_seq, ↓reduceIte, Nat.reduceEqDiff, Nat.reduceAdd, Nat.reduceBEq, Nat.reduceBNe, bne_self_eq_false, Nat.reduceLeDiff, Nat.reduceLT, Nat.le_refl, Int.reduceEq, true_and, and_true, Bool.or_false, Bool.or_self, Bool.not_false, Bool.and_self, Bool.and_true, decide_true, BEq.rfl, ne_eq, not_false_eq_true, Nat.succ_ne_self, reduceCtorEq]
      rw [wrap_i64 (by omega) (by omega)]
      refine call_rule rfl (uptoP_good r (r.ix + 1) (by omega) (by omega) (by omega) (by have := h.flat_len; omega)) (.inl rfl) ?_
      simp -implicitDefEqProofs only [go_sem, ↓acode_seq, ↓reduceIte, Nat.reduceEqDiff, Nat.reduceAdd, Nat.reduceBEq, Nat.reduceBNe, bne_self_eq_false, Nat.reduceLeDiff, Nat.reduceLT, Nat.le_refl, Int.reduceEq, true_and, and_true, Bool.or_false, Bool.or_self, Bool.not_false, Bool.and_self, Bool.and_true, decide_true, BEq.rfl, ne_eq, not_false_eq_true, Nat.succ_ne_self, reduceCtorEq, resL]
      refine call_of 19 (by have := h.upl_len (r.ix + 1); omega) ?_
      simp -implicitDefEqProofs only [go_sem, ↓acode_seq, ↓reduceIte, Nat.reduceEqDiff, Nat.reduceAdd, Nat.reduceBEq, Nat.reduceBNe, bne_self_eq_false, Nat.reduceLeDiff, Nat.reduceLT, Nat.le_refl, Int.reduceEq, true_and, and_true, Bool.or_false, Bool.or_self, Bool.not_false, Bool.and_self, Bool.and_true, decide_true, BEq.rfl, ne_eq, not_false_eq_true, Nat.succ_ne_self, reduceCtorEq, IL, List.length_map]
      refine loop_rule { sl := [3, 21, 22, 23], bx := [19], rw_ := [] } (fun (i : Nat) σ => i ≤ r.done.length ∧ σ = ⟨[(3, .mr 19), (21, .pv (IL r.done)), (22, .pv (.int .i64 r.done.length)), (23, .pv (.int .i64 i))], [(19, .map ((eraseL (setOf (upl r (r.ix + 1))) (r.done.take i)).map I) ((eraseL (setOf (upl r (r.ix + 1))) (r.done.take i)).map fun _ => tt))], []⟩) (fun i => r.done.length - i) 0
        (by simp [go_sem, IL, eraseL]) ?_
      rintro i σ ⟨hi, rfl⟩
      simp -implicitDefEqProofs only [go_sem, ↓acode_seq, ↓reduceIte, Nat.reduceEqDiff, Nat.reduceAdd, Nat.reduceBEq, Nat.reduceBNe, bne_self_eq_false, Nat.reduceLeDiff, Nat.reduceLT, Nat.le_refl, Int.reduceEq, true_and, and_true, Bool.or_false, Bool.or_self, Bool.not_false, Bool.and_self, Bool.and_true, decide_true, BEq.rfl, ne_eq, not_false_eq_true, Nat.succ_ne_self, reduceCtorEq, IL]
      refine cond_split (fun ht => ?_) fun hf => ?_
      · have hlt : i < r.done.length := by simpa using ht
        simp -implicitDefEqProofs only [go_sem, ↓acode_seq, ↓reduceIte, Nat.reduceEqDiff, Nat.reduceAdd, Nat.reduceBEq, Nat.reduceBNe, bne_self_eq_false, Nat.reduceLeDiff, Nat.reduceLT, Nat.le_refl, Int.reduceEq, true_and, and_true, Bool.or_false, Bool.or_self, Bool.not_false, Bool.and_self, Bool.and_true, decide_true, BEq.rfl, ne_eq, not_false_eq_true, Nat.succ_ne_self, reduceCtorEq]
        refine idx_I rfl hlt ?_
        simp -implicitDefEqProofs only [go_sem, ↓acode_seq, ↓reduceIte, Nat.reduceEqDiff, Nat.reduceAdd, Nat.reduceBEq, Nat.reduceBNe, bne_self_eq_false, Nat.reduceLeDiff, Nat.reduceLT, Nat.le_refl, Int.reduceEq, true_and, and_true, Bool.or_false, Bool.or_self, Bool.not_false, Bool.and_self, Bool.and_true, decide_true, BEq.rfl, ne_eq, not_false_eq_true, Nat.succ_ne_self, reduceCtorEq]
        refine set_del (s := eraseL (setOf (upl r (r.ix + 1))) (r.done.take i)) (by simp [go_sem]) ?_
        simp -implicitDefEqProofs only [go_sem, ↓acode_seq, ↓reduceIte, Nat.reduceEqDiff, Nat.reduceAdd, Nat.reduceBEq, Nat.reduceBNe, bne_self_eq_false, Nat.reduceLeDiff, Nat.reduceLT, Nat.le_refl, Int.reduceEq, true_and, and_true, Bool.or_false, Bool.or_self, Bool.not_false, Bool.and_self, Bool.and_true, decide_true, BEq.rfl, ne_eq, not_false_eq_true, Nat.succ_ne_self, reduceCtorEq]
        refine ⟨i + 1, ⟨by omega, ?_⟩, by omega⟩
        rw [wrap_i64 (by omega) (by omega), List.take_succ_eq_append_getElem hlt, eraseL_snoc]; rfl
      · have hid : i = r.done.length := by simp at hf; omega
        subst hid
        rw [List.take_length]
        simp -implicitDefEqProofs only [go_sem, ↓acode_seq, ↓reduceIte, Nat.reduceEqDiff, Nat.reduceAdd, Nat.reduceBEq, Nat.reduceBNe, bne_self_eq_false, Nat.reduceLeDiff, Nat.reduceLT, Nat.le_refl, Int.reduceEq, true_and, and_true, Bool.or_false, Bool.or_self, Bool.not_false, Bool.and_self, Bool.and_true, decide_true, BEq.rfl, ne_eq, not_false_eq_true, Nat.succ_ne_self, reduceCtorEq]
        refine call_rule rfl (list_good (eraseL (setOf (upl r (r.ix + 1))) r.done) (by have := eraseL_len (s := setOf (upl r (r.ix + 1))) (l := r.done); have := setOf_len (upl r (r.ix + 1)); have := h.upl_len (r.ix + 1); omega) (eraseL_nodup (nodup_setOf _))) (.inr rfl) ?_
        simp -implicitDefEqProofs only [go_sem, ↓acode_seq, ↓reduceIte, Nat.reduceEqDiff, Nat.reduceAdd, Nat.reduceBEq, Nat.reduceBNe, bne_self_eq_false, Nat.reduceLeDiff, Nat.reduceLT, Nat.le_refl, Int.reduceEq, true_and, and_true, Bool.or_false, Bool.or_self, Bool.not_false, Bool.and_self, Bool.and_true, decide_true, BEq.rfl, ne_eq, not_false_eq_true, Nat.succ_ne_self, reduceCtorEq, resL]
        refine res_pv rfl ?_
        rw [hq, readyF, if_pos (by omega), ready_eq]
  · have e0 : r.st = 0 := by simpa using g
    have hix := h.ix (by omega)
    simp -implicitDefEqProofs only [go_sem, ↓acode_seq, ↓reduceIte, Nat.reduceEqDiff, Nat.reduceAdd, Nat.reduceBEq, Nat.reduceBNe, bne_self_eq_false, Nat.reduceLeDiff, Nat.reduceLT, Nat.le_refl, Int.reduceEq, true_and, and_true, Bool.or_false, Bool.or_self, Bool.not_false, Bool.and_self, Bool.and_true, decide_true, BEq.rfl, ne_eq, not_false_eq_true, Nat.succ_ne_self, reduceCtorEq, g]
    rw [wrap_i64 (by omega) (by omega)]
    refine call_rule rfl (uptoP_good r (r.ix + 1) (by omega) (by omega) (by omega) (by have := h.flat_len; omega)) (.inl rfl) ?_
    simp -implicitDefEqProofs only [go_sem, ↓acode_seq, ↓reduceIte, Nat.reduceEqDiff, Nat.reduceAdd, Nat.reduceBEq, Nat.reduceBNe, bne_self_eq_false, Nat.reduceLeDiff, Nat.reduceLT, Nat.le_refl, Int.reduceEq, true_and, and_true, Bool.or_false, Bool.or_self, Bool.not_false, Bool.and_self, Bool.and_true, decide_true, BEq.rfl, ne_eq, not_false_eq_true, Nat.succ_ne_self, reduceCtorEq, resL]
    refine call_of 19 (by have := h.upl_len (r.ix + 1); omega) ?_
    simp -implicitDefEqProofs only [go_sem, ↓acode_seq, ↓reduceIte, Nat.reduceEqDiff, Nat.reduceAdd, Nat.reduceBEq, Nat.reduceBNe, bne_self_eq_false, Nat.reduceLeDiff, Nat.reduceLT, Nat.le_refl, Int.reduceEq, true_and, and_true, Bool.or_false, Bool.or_self, Bool.not_false, Bool.and_self, Bool.and_true, decide_true, BEq.rfl, ne_eq, not_false_eq_true, Nat.succ_ne_self, reduceCtorEq, IL, List.length_map]
    refine loop_rule { sl := [3, 21, 22, 23], bx := [19], rw_ := [] } (fun (i : Nat) σ => i ≤ r.done.length ∧ σ = ⟨[(3, .mr 19), (21, .pv (IL r.done)), (22, .pv (.int .i64 r.done.length)), (23, .pv (.int .i64 i))], [(19, .map ((eraseL (setOf (upl r (r.ix + 1))) (r.done.take i)).map I) ((eraseL (setOf (upl r (r.ix + 1))) (r.done.take i)).map fun _ => tt))], []⟩) (fun i => r.done.length - i) 0
      (by simp [go_sem, IL, eraseL]) ?_
    rintro i σ ⟨hi, rfl⟩
    simp -implicitDefEqProofs only [go_sem, ↓acode_seq, ↓reduceIte, Nat.reduceEqDiff, Nat.reduceAdd, Nat.reduceBEq, Nat.reduceBNe, bne_self_eq_false, Nat.reduceLeDiff, Nat.reduceLT, Nat.le_refl, Int.reduceEq, true_and, and_true, Bool.or_false, Bool.or_self, Bool.not_false, Bool.and_self, Bool.and_true, decide_true, BEq.rfl, ne_eq, not_false_eq_true, Nat.succ_ne_self, reduceCtorEq, IL]
    refine cond_split (fun ht => ?_) fun hf => ?_
    · have hlt : i < r.done.length := by simpa using ht
      simp -implicitDefEqProofs only [go_sem, ↓acode_seq, ↓reduceIte, Nat.reduceEqDiff, Nat.reduceAdd, Nat.reduceBEq, Nat.reduceBNe, bne_self_eq_false, Nat.reduceLeDiff, Nat.reduceLT, Nat.le_refl, Int.reduceEq, true_and, and_true, Bool.or_false, Bool.or_self, Bool.not_false, Bool.and_self, Bool.and_true, decide_true, BEq.rfl, ne_eq, not_false_eq_true, Nat.succ_ne_self, reduceCtorEq]
      refine idx_I rfl hlt ?_
      simp -implicitDefEqProofs only [go_sem, ↓acode_seq, ↓reduceIte, Nat.reduceEqDiff, Nat.reduceAdd, Nat.reduceBEq, Nat.reduceBNe, bne_self_eq_false, Nat.reduceLeDiff, Nat.reduceLT, Nat.le_refl, Int.reduceEq, true_and, and_true, Bool.or_false, Bool.or_self, Bool.not_false, Bool.and_self, Bool.and_true, decide_true, BEq.rfl, ne_eq, not_false_eq_true, Nat.succ_ne_self, reduceCtorEq]
      refine set_del (s := eraseL (setOf (upl r (r.ix + 1))) (r.done.take i)) (by simp [go_sem]) ?_
      simp -implicitDefEqProofs only [go_sem, ↓acode_seq, ↓reduceIte, Nat.reduceEqDiff, Nat.reduceAdd, Nat.reduceBEq, Nat.reduceBNe, bne_self_eq_false, Nat.reduceLeDiff, Nat.reduceLT, Nat.le_refl, Int.reduceEq, true_and, and_true, Bool.or_false, Bool.or_self, Bool.not_false, Bool.and_self, Bool.and_true, decide_true, BEq.rfl, ne_eq, not_false_eq_true, Nat.succ_ne_self, reduceCtorEq]
      refine ⟨i + 1, ⟨by omega, ?_⟩, by omega⟩
      rw [wrap_i64 (by omega) (by omega), List.take_succ_eq_append_getElem hlt, eraseL_snoc]; rfl
    · have hid : i = r.done.length := by simp at hf; omega
      subst hid
      rw [List.take_length]
      simp -implicitDefEqProofs only [go_sem, ↓acode_seq, ↓reduceIte, Nat.reduceEqDiff, Nat.reduceAdd, Nat.reduceBEq, Nat.reduceBNe, bne_self_eq_false, Nat.reduceLeDiff, Nat.reduceLT, Nat.le_refl, Int.reduceEq, true_and, and_true, Bool.or_false, Bool.or_self, Bool.not_false, Bool.and_self, Bool.and_true, decide_true, BEq.rfl, ne_eq, not_false_eq_true, Nat.succ_ne_self, reduceCtorEq]
      refine call_rule rfl (list_good (eraseL (setOf (upl r (r.ix + 1))) r.done) (by have := eraseL_len (s := setOf (upl r (r.ix + 1))) (l := r.done); have := setOf_len (upl r (r.ix + 1)); have := h.upl_len (r.ix + 1); omega) (eraseL_nodup (nodup_setOf _))) (.inr rfl) ?_
      simp -implicitDefEqProofs only [go_sem, ↓acode_seq, ↓reduceIte, Nat.reduceEqDiff, Nat.reduceAdd, Nat.reduceBEq, Nat.reduceBNe, bne_self_eq_false, Nat.reduceLeDiff, Nat.reduceLT, Nat.le_refl, Int.reduceEq, true_and, and_true, Bool.or_false, Bool.or_self, Bool.not_false, Bool.and_self, Bool.and_true, decide_true, BEq.rfl, ne_eq, not_false_eq_true, Nat.succ_ne_self, reduceCtorEq, resL]
      refine res_pv rfl ?_
      rw [hq, readyF, if_pos (by omega), ready_eq]

set_option maxHeartbeats 2000000 in
set_option maxRecDepth 100000 in
theorem readyR_good (r : Roll) (h : VR r) : Go.Am.Good Try.prog false 20 [R r] [IL (readyF r)] := by
  refine good_rv { sl := [0, 1, 2, 4, 5, 15], bx := [1], rw_ := [] } [.tmp 2] mixed Try.call20 Try.func20 rfl (by kernel_rfl) (by show 1 ≤ 26; decide) (by kernel_rfl) ?_
  obtain ⟨q, hq⟩ : ∃ q, q = IL (readyF r) := ⟨_, rfl⟩
  rw [← hq]
  have h1 := h.sm.n
  have h2 := h.done_len
  simp -implicitDefEqProofs only [go_sem, ↓acode_seq, ↓reduceIte, Nat.reduceEqDiff, Nat.reduceAdd, Nat.reduceBEq, Nat.reduceBNe, bne_self_eq_false, Nat.reduceLeDiff, Nat.reduceLT, Nat.le_refl, Int.reduceEq, true_and, and_true, Bool.or_false, Bool.or_self, Bool.not_false, Bool.and_self, Bool.and_true, decide_true, BEq.rfl, ne_eq, not_false_eq_true, Nat.succ_ne_self, reduceCtorEq, R, I]
  refine cond_split (fun g => ?_) fun g => ?_
  · have e0 : r.st = 0 := by simpa using g
    have hix := h.ix (by omega)
    simp -implicitDefEqProofs only [go_sem, ↓acode_seq, ↓reduceIte, Nat.reduceEqDiff, Nat.reduceAdd, Nat.reduceBEq, Nat.reduceBNe, bne_self_eq_false, Nat.reduceLeDiff, Nat.reduceLT, Nat.le_refl, Int.reduceEq, true_and, and_true, Bool.or_false, Bool.or_self, Bool.not_false, Bool.and_self, Bool.and_true, decide_true, BEq.rfl, ne_eq, not_false_eq_true, Nat.succ_ne_self, reduceCtorEq, ↓acode_draw]
    refine ⟨by kernel_rfl, ?_⟩
    rw [wrap_i64 (by omega) (by omega)]
    refine call_rule rfl (upto_good r (r.ix + 1) (by omega) (by have := h.flat_len; omega)) (.inl rfl) ?_
    simp -implicitDefEqProofs only [go_sem, ↓acode_seq, ↓reduceIte, Nat.reduceEqDiff, Nat.reduceAdd, Nat.reduceBEq, Nat.reduceBNe, bne_self_eq_false, Nat.reduceLeDiff, Nat.reduceLT, Nat.le_refl, Int.reduceEq, true_and, and_true, Bool.or_false, Bool.or_self, Bool.not_false, Bool.and_self, Bool.and_true, decide_true, BEq.rfl, ne_eq, not_false_eq_true, Nat.succ_ne_self, reduceCtorEq, resL]
    refine call_rule rfl (without_good (uptoF (r.waves.take (r.ix + 1).toNat)) r.done (by have := h.upl_len (r.ix + 1); have : (uptoF (r.waves.take (r.ix + 1).toNat)).length ≤ (upl r (r.ix + 1)).length := srt_le; omega) (by omega)) (.inl rfl) ?_
    simp -implicitDefEqProofs only [go_sem, ↓acode_seq, ↓reduceIte, Nat.reduceEqDiff, Nat.reduceAdd, Nat.reduceBEq, Nat.reduceBNe, bne_self_eq_false, Nat.reduceLeDiff, Nat.reduceLT, Nat.le_refl, Int.reduceEq, true_and, and_true, Bool.or_false, Bool.or_self, Bool.not_false, Bool.and_self, Bool.and_true, decide_true, BEq.rfl, ne_eq, not_false_eq_true, Nat.succ_ne_self, reduceCtorEq, resL]
    refine ⟨rfl, rfl, ?_⟩
    simp -implicitDefEqProofs only [go_sem, ↓acode_seq, ↓reduceIte, Nat.reduceEqDiff, Nat.reduceAdd, Nat.reduceBEq, Nat.reduceBNe, bne_self_eq_false, Nat.reduceLeDiff, Nat.reduceLT, Nat.le_refl, Int.reduceEq, true_and, and_true, Bool.or_false, Bool.or_self, Bool.not_false, Bool.and_self, Bool.and_true, decide_true, BEq.rfl, ne_eq, not_false_eq_true, Nat.succ_ne_self, reduceCtorEq]
    refine res_pv rfl ?_
    rw [hq, readyF, if_pos (by omega)]; rfl
  · simp -implicitDefEqProofs only [go_sem, ↓acode_seq, ↓reduceIte, Nat.reduceEqDiff, Nat.reduceAdd, Nat.reduceBEq, Nat.reduceBNe, bne_self_eq_false, Nat.reduceLeDiff, Nat.reduceLT, Nat.le_refl, Int.reduceEq, true_and, and_true, Bool.or_false, Bool.or_self, Bool.not_false, Bool.and_self, Bool.and_true, decide_true, BEq.rfl, ne_eq, not_false_eq_true, Nat.succ_ne_self, reduceCtorEq]
    refine cond_split (fun g2 => ?_) fun g2 => ?_
    · have e2 : r.st = 2 := by simpa using g2
      have hix := h.ix (by omega)
      simp -implicitDefEqProofs only [go_sem, ↓acode_seq, ↓reduceIte, Nat.reduceEqDiff, Nat.reduceAdd, Nat.reduceBEq, Nat.reduceBNe, bne_self_eq_false, Nat.reduceLeDiff, Nat.reduceLT, Nat.le_refl, Int.reduceEq, true_and, and_true, Bool.or_false, Bool.or_self, Bool.not_false, Bool.and_self, Bool.and_true, decide_true, BEq.rfl, ne_eq, not_false_eq_true, Nat.succ_ne_self, reduceCtorEq, ↓acode_draw]
      refine ⟨by kernel_rfl, ?_⟩
      rw [wrap_i64 (by omega) (by omega)]
      refine call_rule rfl (upto_good r (r.ix + 1) (by omega) (by have := h.flat_len; omega)) (.inl rfl) ?_
      simp -implicitDefEqProofs only [go_sem, ↓acode_seq, ↓reduceIte, Nat.reduceEqDiff, Nat.reduceAdd, Nat.reduceBEq, Nat.reduceBNe, bne_self_eq_false, Nat.reduceLeDiff, Nat.reduceLT, Nat.le_refl, Int.reduceEq, true_and, and_true, Bool.or_false, Bool.or_self, Bool.not_false, Bool.and_self, Bool.and_true, decide_true, BEq.rfl, ne_eq, not_false_eq_true, Nat.succ_ne_self, reduceCtorEq, resL]
      refine call_rule rfl (without_good (uptoF (r.waves.take (r.ix + 1).toNat)) r.done (by have := h.upl_len (r.ix + 1); have : (uptoF (r.waves.take (r.ix + 1).toNat)).length ≤ (upl r (r.ix + 1)).length := srt_le; omega) (by omega)) (.inl rfl) ?_
      simp -implicitDefEqProofs only [go_sem, ↓acode_seq, ↓reduceIte, Nat.reduceEqDiff, Nat.reduceAdd, Nat.reduceBEq, Nat.reduceBNe, bne_self_eq_false, Nat.reduceLeDiff, Nat.reduceLT, Nat.le_refl, Int.reduceEq, true_and, and_true, Bool.or_false, Bool.or_self, Bool.not_false, Bool.and_self, Bool.and_true, decide_true, BEq.rfl, ne_eq, not_false_eq_true, Nat.succ_ne_self, reduceCtorEq, resL]
      refine ⟨rfl, rfl, ?_⟩
      simp -implicitDefEqProofs only [go_sem, ↓acode_seq, ↓reduceIte, Nat.reduceEqDiff, Nat.reduceAdd, Nat.reduceBEq, Nat.reduceBNe, bne_self_eq_false, Nat.reduceLeDiff, Nat.reduceLT, Nat.le_refl, Int.reduceEq, true_and, and_true, Bool.or_false, Bool.or_self, Bool.not_false, Bool.and_self, Bool.and_true, decide_true, BEq.rfl, ne_eq, not_false_eq_true, Nat.succ_ne_self, reduceCtorEq]
      refine res_pv rfl ?_
      rw [hq, readyF, if_pos (by omega)]; rfl
    · simp -implicitDefEqProofs only [go_sem, ↓acode_seq, ↓reduceIte, Nat.reduceEqDiff, Nat.reduceAdd, Nat.reduceBEq, Nat.reduceBNe, bne_self_eq_false, Nat.reduceLeDiff, Nat.reduceLT, Nat.le_refl, Int.reduceEq, true_and, and_true, Bool.or_false, Bool.or_self, Bool.not_false, Bool.and_self, Bool.and_true, decide_true, BEq.rfl, ne_eq, not_false_eq_true, Nat.succ_ne_self, reduceCtorEq]
      refine res_l rfl rfl ?_
      have e1 : r.st ≠ 0 := by simpa using g
      have e2 : r.st ≠ 2 := by simpa using g2
      rw [hq, readyF, if_neg (by omega)]; rfl

set_option maxHeartbeats 2000000 in
set_option maxRecDepth 100000 in
theorem backP_good (r : Roll) (h : Sm r) : Go.Am.Good Try.prog false 48 [R r] [R (backF r).1, I (backF r).2] := by
  refine good_rv { sl := [0, 1, 2, 3, 4, 12], bx := [1, 2, 16], rw_ := [] } [.cell 2 29, .tmp 3] mixed Try.call48 Try.func48 rfl (by kernel_rfl) (by show 1 ≤ 31; decide) (by kernel_rfl) ?_
  obtain ⟨q, hq⟩ : ∃ q, q = R (backF r).1 := ⟨_, rfl⟩
  obtain ⟨z, hz⟩ : ∃ z, z = I (backF r).2 := ⟨_, rfl⟩
  rw [← hq, ← hz]
  have h1 := h.n
  have h2 := h.d
  simp -implicitDefEqProofs only [go_sem, ↓acode_seq, ↓reduceIte, Nat.reduceEqDiff, Nat.reduceAdd, Nat.reduceBEq, Nat.reduceBNe, bne_self_eq_false, Nat.reduceLeDiff, Nat.reduceLT, Nat.le_refl, Int.reduceEq, true_and, and_true, Bool.or_false, Bool.or_self, Bool.not_false, Bool.and_self, Bool.and_true, decide_true, BEq.rfl, ne_eq, not_false_eq_true, Nat.succ_ne_self, reduceCtorEq, R, I]
  refine opG_split (fun g => ?_) fun g => ?_
  · have e2 : r.st = 2 := by simpa using g
    simp -implicitDefEqProofs only [go_sem, ↓acode_seq, ↓reduceIte, Nat.reduceEqDiff, Nat.reduceAdd, Nat.reduceBEq, Nat.reduceBNe, bne_self_eq_false, Nat.reduceLeDiff, Nat.reduceLT, Nat.le_refl, Int.reduceEq, true_and, and_true, Bool.or_false, Bool.or_self, Bool.not_false, Bool.and_self, Bool.and_true, decide_true, BEq.rfl, ne_eq, not_false_eq_true, Nat.succ_ne_self, reduceCtorEq, g]
    refine res_two (res_cell rfl rfl ag29 (by rw [cs29]; rfl) (by simp) rfl ?_) (res_pv rfl ?_)
    · rw [hq, backF, if_pos (by omega)]; rfl
    · rw [hz, backF, if_pos (by omega)]; rfl
  simp -implicitDefEqProofs only [go_sem, ↓acode_seq, ↓reduceIte, Nat.reduceEqDiff, Nat.reduceAdd, Nat.reduceBEq, Nat.reduceBNe, bne_self_eq_false, Nat.reduceLeDiff, Nat.reduceLT, Nat.le_refl, Int.reduceEq, true_and, and_true, Bool.or_false, Bool.or_self, Bool.not_false, Bool.and_self, Bool.and_true, decide_true, BEq.rfl, ne_eq, not_false_eq_true, Nat.succ_ne_self, reduceCtorEq, g]
  refine cond_split (fun g2 => ?_) fun g2 => ?_
  · have e2 : r.st = 4 := by simpa using g2
    simp -implicitDefEqProofs only [go_sem, ↓acode_seq, ↓reduceIte, Nat.reduceEqDiff, Nat.reduceAdd, Nat.reduceBEq, Nat.reduceBNe, bne_self_eq_false, Nat.reduceLeDiff, Nat.reduceLT, Nat.le_refl, Int.reduceEq, true_and, and_true, Bool.or_false, Bool.or_self, Bool.not_false, Bool.and_self, Bool.and_true, decide_true, BEq.rfl, ne_eq, not_false_eq_true, Nat.succ_ne_self, reduceCtorEq]
    refine res_two (res_cell rfl rfl ag29 (by rw [cs29]; rfl) (by simp) rfl ?_) (res_pv rfl ?_)
    · rw [hq, backF, if_pos (by omega)]; rfl
    · rw [hz, backF, if_pos (by omega)]; rfl
  have e1 : r.st ≠ 2 := by simpa using g
  have e2 : r.st ≠ 4 := by simpa using g2
  simp -implicitDefEqProofs only [go_sem, ↓acode_seq, ↓reduceIte, Nat.reduceEqDiff, Nat.reduceAdd, Nat.reduceBEq, Nat.reduceBNe, bne_self_eq_false, Nat.reduceLeDiff, Nat.reduceLT, Nat.le_refl, Int.reduceEq, true_and, and_true, Bool.or_false, Bool.or_self, Bool.not_false, Bool.and_self, Bool.and_true, decide_true, BEq.rfl, ne_eq, not_false_eq_true, Nat.succ_ne_self, reduceCtorEq]
  refine call_of 16 (by omega) ?_
  simp -implicitDefEqProofs only [go_sem, ↓acode_seq, ↓reduceIte, Nat.reduceEqDiff, Nat.reduceAdd, Nat.reduceBEq, Nat.reduceBNe, bne_self_eq_false, Nat.reduceLeDiff, Nat.reduceLT, Nat.le_refl, Int.reduceEq, true_and, and_true, Bool.or_false, Bool.or_self, Bool.not_false, Bool.and_self, Bool.and_true, decide_true, BEq.rfl, ne_eq, not_false_eq_true, Nat.succ_ne_self, reduceCtorEq]
  refine set_clear (s := setOf r.done) (by simp [go_sem]) ?_
  simp -implicitDefEqProofs only [go_sem, ↓acode_seq, ↓reduceIte, Nat.reduceEqDiff, Nat.reduceAdd, Nat.reduceBEq, Nat.reduceBNe, bne_self_eq_false, Nat.reduceLeDiff, Nat.reduceLT, Nat.le_refl, Int.reduceEq, true_and, and_true, Bool.or_false, Bool.or_self, Bool.not_false, Bool.and_self, Bool.and_true, decide_true, BEq.rfl, ne_eq, not_false_eq_true, Nat.succ_ne_self, reduceCtorEq, ↓acode_draw]
  refine ⟨by kernel_rfl, ?_⟩
  refine call_rule rfl (list_good [] (by simp) (by simp)) (.inr rfl) ?_
  simp -implicitDefEqProofs only [go_sem, ↓acode_seq, ↓reduceIte, Nat.reduceEqDiff, Nat.reduceAdd, Nat.reduceBEq, Nat.reduceBNe, bne_self_eq_false, Nat.reduceLeDiff, Nat.reduceLT, Nat.le_refl, Int.reduceEq, true_and, and_true, Bool.or_false, Bool.or_self, Bool.not_false, Bool.and_self, Bool.and_true, decide_true, BEq.rfl, ne_eq, not_false_eq_true, Nat.succ_ne_self, reduceCtorEq, resL, IW, List.length_map]
  refine ⟨rfl, rfl, ?_⟩
  simp -implicitDefEqProofs only [go_sem, ↓acode_seq, ↓reduceIte, Nat.reduceEqDiff, Nat.reduceAdd, Nat.reduceBEq, Nat.reduceBNe, bne_self_eq_false, Nat.reduceLeDiff, Nat.reduceLT, Nat.le_refl, Int.reduceEq, true_and, and_true, Bool.or_false, Bool.or_self, Bool.not_false, Bool.and_self, Bool.and_true, decide_true, BEq.rfl, ne_eq, not_false_eq_true, Nat.succ_ne_self, reduceCtorEq]
  rw [wrap_i64 (by omega) (by omega)]
  refine res_two (res_cell rfl rfl ag29 (by rw [cs29]; rfl) (by simp) rfl ?_) (res_pv rfl ?_)
  · rw [hq, backF, if_neg (show ¬ (r.st = 2 ∨ r.st = 4) by omega)]; rfl
  · rw [hz, backF, if_neg (show ¬ (r.st = 2 ∨ r.st = 4) by omega)]; rfl

set_option maxHeartbeats 2000000 in
set_option maxRecDepth 100000 in
theorem back_good (r : Roll) (h : Sm r) : Go.Am.Good Try.prog false 25 [R r] [G (backF r)] := by
  refine good_rv { sl := [0, 1, 2, 3, 4], bx := [1, 2, 3], rw_ := [] } [.cell 2 40] mixed Try.call25 Try.func25 rfl (by kernel_rfl) (by show 1 ≤ 13; decide) (by kernel_rfl) ?_
  obtain ⟨q, hq⟩ : ∃ q, q = G (backF r) := ⟨_, rfl⟩
  rw [← hq]
  simp -implicitDefEqProofs only [go_sem, ↓acode_seq, ↓reduceIte, Nat.reduceEqDiff, Nat.reduceAdd, Nat.reduceBEq, Nat.reduceBNe, bne_self_eq_false, Nat.reduceLeDiff, Nat.reduceLT, Nat.le_refl, Int.reduceEq, true_and, and_true, Bool.or_false, Bool.or_self, Bool.not_false, Bool.and_self, Bool.and_true, decide_true, BEq.rfl, ne_eq, not_false_eq_true, Nat.succ_ne_self, reduceCtorEq, R, I]
  refine call_rule rfl (backP_good r h) (.inl rfl) ?_
  simp -implicitDefEqProofs only [go_sem, ↓acode_seq, ↓reduceIte, Nat.reduceEqDiff, Nat.reduceAdd, Nat.reduceBEq, Nat.reduceBNe, bne_self_eq_false, Nat.reduceLeDiff, Nat.reduceLT, Nat.le_refl, Int.reduceEq, true_and, and_true, Bool.or_false, Bool.or_self, Bool.not_false, Bool.and_self, Bool.and_true, decide_true, BEq.rfl, ne_eq, not_false_eq_true, Nat.succ_ne_self, reduceCtorEq, resL, R, I]
  refine res_cell rfl rfl ag40 (by rw [cs40]; rfl) (by simp) rfl ?_
  rw [hq]; rfl

set_option maxHeartbeats 2000000 in
set_option maxRecDepth 100000 in
theorem backR_good (r : Roll) (h : Sm r) : Go.Am.Good Try.prog false 26 [R r] [G (backF r)] := by
  refine good_rv { sl := [0, 1, 2, 10], bx := [1, 2], rw_ := [] } [.cell 2 40] mixed Try.call26 Try.func26 rfl (by kernel_rfl) (by show 1 ≤ 24; decide) (by kernel_rfl) ?_
  obtain ⟨q, hq⟩ : ∃ q, q = G (backF r) := ⟨_, rfl⟩
  rw [← hq]
  have h1 := h.n
  simp -implicitDefEqProofs only [go_sem, ↓acode_seq, ↓reduceIte, Nat.reduceEqDiff, Nat.reduceAdd, Nat.reduceBEq, Nat.reduceBNe, bne_self_eq_false, Nat.reduceLeDiff, Nat.reduceLT, Nat.le_refl, Int.reduceEq, true_and, and_true, Bool.or_false, Bool.or_self, Bool.not_false, Bool.and_self, Bool.and_true, decide_true, BEq.rfl, ne_eq, not_false_eq_true, Nat.succ_ne_self, reduceCtorEq, R, I]
  refine opG_split (fun g => ?_) fun g => ?_
  · have e2 : r.st = 2 := by simpa using g
    simp -implicitDefEqProofs only [go_sem, ↓acode_seq, ↓reduceIte, Nat.reduceEqDiff, Nat.reduceAdd, Nat.reduceBEq, Nat.reduceBNe, bne_self_eq_false, Nat.reduceLeDiff, Nat.reduceLT, Nat.le_refl, Int.reduceEq, true_and, and_true, Bool.or_false, Bool.or_self, Bool.not_false, Bool.and_self, Bool.and_true, decide_true, BEq.rfl, ne_eq, not_false_eq_true, Nat.succ_ne_self, reduceCtorEq, g]
    refine res_cell rfl rfl ag40 (by rw [cs40]; rfl) (by simp) rfl ?_
    rw [hq, backF, if_pos (by omega)]; rfl
  simp -implicitDefEqProofs only [go_sem, ↓acode_seq, ↓reduceIte, Nat.reduceEqDiff, Nat.reduceAdd, Nat.reduceBEq, Nat.reduceBNe, bne_self_eq_false, Nat.reduceLeDiff, Nat.reduceLT, Nat.le_refl, Int.reduceEq, true_and, and_true, Bool.or_false, Bool.or_self, Bool.not_false, Bool.and_self, Bool.and_true, decide_true, BEq.rfl, ne_eq, not_false_eq_true, Nat.succ_ne_self, reduceCtorEq, g]
  refine cond_split (fun g2 => ?_) fun g2 => ?_
  · have e2 : r.st = 4 := by simpa using g2
    simp -implicitDefEqProofs only [go_sem, ↓acode_seq, ↓reduceIte, Nat.reduceEqDiff, Nat.reduceAdd, Nat.reduceBEq, Nat.reduceBNe, bne_self_eq_false, Nat.reduceLeDiff, Nat.reduceLT, Nat.le_refl, Int.reduceEq, true_and, and_true, Bool.or_false, Bool.or_self, Bool.not_false, Bool.and_self, Bool.and_true, decide_true, BEq.rfl, ne_eq, not_false_eq_true, Nat.succ_ne_self, reduceCtorEq]
    refine res_cell rfl rfl ag40 (by rw [cs40]; rfl) (by simp) rfl ?_
    rw [hq, backF, if_pos (by omega)]; rfl
  have e1 : r.st ≠ 2 := by simpa using g
  have e2 : r.st ≠ 4 := by simpa using g2
  simp -implicitDefEqProofs only [go_sem, ↓acode_seq, ↓reduceIte, Nat.reduceEqDiff, Nat.reduceAdd, Nat.reduceBEq, Nat.reduceBNe, bne_self_eq_false, Nat.reduceLeDiff, Nat.reduceLT, Nat.le_refl, Int.reduceEq, true_and, and_true, Bool.or_false, Bool.or_self, Bool.not_false, Bool.and_self, Bool.and_true, decide_true, BEq.rfl, ne_eq, not_false_eq_true, Nat.succ_ne_self, reduceCtorEq, IW, List.length_map]
  rw [wrap_i64 (by omega) (by omega)]
  refine res_cell rfl rfl ag40 (by rw [cs40]; rfl) (by simp) rfl ?_
  rw [hq, backF, if_neg (show ¬ (r.st = 2 ∨ r.st = 4) by omega)]; rfl

end Go.Proofs.Ytjbgfihkdeeonaa
