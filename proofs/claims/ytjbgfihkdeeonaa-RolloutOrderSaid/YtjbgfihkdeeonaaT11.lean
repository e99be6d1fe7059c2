/- A part of the proof over this program: contracts of its functions on pure values; nothing is assumed. -/
import Derived.Test.YtjbgfihkdeeonaaT10
import Derived.Test.YtjbgfihkdeeonaaG51
set_option linter.unusedSimpArgs false
set_option linter.unusedVariables false
open Go Go.Am Go.RowKit
namespace Go.Proofs.Ytjbgfihkdeeonaa
attribute [local go_sem] acode_block acode_region acode_skip acode_label acode_exit acode_ret seqK_n seqK_e seqK_r blockK_n blockK_e blockK_r regK_ aops_nil aops_cons aops_g opGo_ aopsD_nil aopsD_cons aopsD_g opGoD_ opK_ opKD_ NewOk_nil NewOk_cons app1 app3 app4 gcX_ gc_ atEnd_ fzs_nil fzs_cons pus_nil pus_cons pu_ pur_f pur_s pur_p rfs_nil rfs_cons rbs_nil rbs_cons rf_ rfX_f rfX_s rfX_p rfX_j rfX_u rfX_a rfX_n rens_nil rens_cons mv_ mvU_ frz_ ctn_nil ctn_cons fresh_ menF_nil menF_cons menL_nil menL_cons menB_c menB_m menB_i menB_d men_undef men_junk men_pv men_full men_tup men_sl men_bp men_arr men_mr men_it men_cl men_ag men1_undef men1_junk men1_pv men1_full men1_sl men1_bp men1_arr men1_mr men1_it men1_cl cl_undef cl_junk cl_pv cl_full cl_tup cl_sl cl_bp cl_arr cl_mr cl_it cl_cl cl_ag cl1_undef cl1_junk cl1_pv cl1_full cl1_sl cl1_bp cl1_arr cl1_mr cl1_it cl1_cl clB_c clB_m clB_i alive_c alive_m alive_i alive_d pickK_nil pickK_cons consO_s consO_n consA_s consA_n aliveK_nil aliveK_cons pickF_nil pickF_cons pickG_nil pickG_cons lk_nil lk_cons f_ b_ h_ getD_some evo_t evo_c evo_f acode_cond cond_t cond_f opG_t opG_ff opG_tf opG_ft opG_u opGD_t opGD_ff opGD_tf opGD_ft opGD_u loopK_n loopK_e loopK_r endQ_n endQ_r endX_n endX_r argFrX_nil argFrX_cons argFr_nil argFr_cons op_move op_assign op_pick op_box op_alloc op_load op_store op_fieldAddr op_field op_indexAddr op_index op_slice op_build op_buildSlice op_binOp op_unOp op_convert op_extract op_makeFunc op_len op_append op_min op_max op_makeMap op_mapUpdate op_lookup op_delete op_clear op_call op_makeSlice op_range op_entry opN_move opN_assign opN_pick opN_box opN_alloc opN_load opN_store opN_fieldAddr opN_field opN_indexAddr opN_index opN_slice opN_build opN_buildSlice opN_binOp opN_unOp opN_convert opN_extract opN_makeFunc opN_len opN_append opN_min opN_max opN_makeMap opN_mapUpdate opN_lookup opN_delete opN_clear opN_call opN_next opN_makeSlice opN_range opN_entry aPick_t aPick_f mv_undef mv_junk mv_pv mv_full mv_tup mv_sl mv_bp mv_arr mv_mr mv_it mv_cl mv1_undef mv1_junk mv1_pv mv1_full mv1_tup mv1_sl mv1_bp mv1_arr mv1_mr mv1_it mv1_cl mv_ag mvB_c mvB_m mvB_i mvB_d aMin_ aMax_ fz1_pv fz1_undef fz1_junk fz1_full fz1_tup fz1_sl fz1_bp fz1_arr fz1_mr fz1_it fz_pv fz_undef fz_junk fz_full fz_tup fz_sl fz_bp fz_arr fz_mr fz_it fz_ag fzB_c fzB_m fzB_i fzB_d
attribute [local go_sem] cs3 ag3 zk3 ri3 zo3 cs4 ag4 zk4 ri4 zo4 cs5 ag5 zk5 ri5 zo5 cs22 ag22 zk22 ri22 zo22 cs23 ag23 zk23 ri23 zo23 cs25 ag25 zk25 ri25 zo25 fk25 fo25_0 fp25_0 fo25_1 fp25_1 fo25_2 fp25_2 cs26 ag26 zk26 ri26 zo26 cs27 ag27 zk27 ri27 zo27 cs29 ag29 zk29 ri29 zo29 fk29 fo29_0 fp29_0 fo29_1 fp29_1 fo29_2 fp29_2 fo29_3 fp29_3 fo29_4 fp29_4 fo29_5 fp29_5 fo29_6 fp29_6 cs31 ag31 zk31 ri31 zo31 fk31 fo31_0 fp31_0 fo31_1 fp31_1 fo31_2 fp31_2 fo31_3 fp31_3 fo31_4 fp31_4 cs35 ag35 zk35 ri35 zo35 fk35 fo35_0 fp35_0 fo35_1 fp35_1 fo35_2 fp35_2 fo35_3 fp35_3 cs38 ag38 zk38 ri38 zo38 cs40 ag40 zk40 ri40 zo40 fk40 fo40_0 fp40_0 fo40_1 fp40_1 cs42 ag42 zk42 ri42 zo42 cs45 ag45 zk45 ri45 zo45 fk45 fo45_0 fp45_0 fo45_1 fp45_1 fo45_2 fp45_2 fo45_3 fp45_3 fo45_4 fp45_4 fo45_5 fp45_5 cs55 ag55 zk55 ri55 zo55 fk55 fp55_0 fp55_1 cs61 ag61 zk61 ri61 zo61 fk61 fp61_0 fp61_1 cs66 ag66 zk66 ri66 zo66 cs82 ag82 zk82 ri82 zo82 fk82 fo82_0 fp82_0 cs83 ag83 zk83 ri83 zo83 fk83 fp83_0 fp83_1 fp83_2 fp83_3 fp83_4
attribute [local go_sem] List.filter_cons List.filter_nil aBuild splice1 splice2 fillL_nil fillL_cons fillX_ List.set_cons_zero List.set_cons_succ List.take_succ_cons List.take_zero List.drop_succ_cons List.drop_zero List.length_cons List.length_nil List.append_nil aRange aEntry ints_clean ints_mv ints_men ints_ren ints_only List.any_cons List.any_nil List.all_cons List.all_nil Bool.true_and Bool.false_and Bool.and_false Bool.false_or Bool.true_or Bool.or_true Option.some.injEq exists_eq_left' exists_eq_left Nat.zero_add List.getElem?_toArray List.getElem?_cons_succ List.getElem?_cons_zero bs0 bs1 bs1I bs2 bs3 Option.isNone_none Option.isNone_some ofC aLen aBin aInt LV.list? aBox aAlloc aLoad aStore aFieldAddr aField aUn aConv aMakeMap aExtract LV.cells? pc_int pc_bool pc_str pc_slc pc_agg pc_ptr pc_nilp pc_nilf pc_clo pc_map cells_I cells_IL cells_IW Option.map_some Option.map_none Option.bind_some Option.bind_none List.cons_append List.nil_append List.map_cons List.map_nil List.length_cons List.length_nil Option.isSome_some Bool.not_true Bool.not_false Try.underlying3 Try.underlying4 Try.underlying5 Try.underlying22 Try.underlying23 Try.underlying25 Try.underlying26 Try.underlying27 Try.underlying29 Try.underlying31 Try.underlying35 Try.underlying38 Try.underlying40 Try.underlying42 Try.underlying45 Try.underlying55 Try.underlying61 Try.underlying66 Try.underlying82 Try.underlying83


theorem ints_snoc (l : List Int) (n : Int) : ints (l ++ [n]) = ints l ++ [.pv (.int .i64 n)] := by simp [ints]
theorem ints_len (l : List Int) : (ints l).length = l.length := by simp [ints]
theorem pcells_ints (l : List Int) : pcells (l.map I) = ints l := by simp [pcells, ints, I, PV.cells, List.flatMap_map]; induction l <;> simp_all [List.flatMap_cons]
theorem arr_app {B : Nat → Option BO} {H : HT} {K : Upd → Prop} {d n : Nat} {l m : List Int} {x : LV} (hB : B n = some (.cells (some (Try.prog.rowI 3)) (ints l))) (hx : x.list? = some (m.map I)) (hb : l.length + m.length ≤ 1000000000)
    (h : K ⟨.arr d (l ++ m).length, [n], [(n, .dead), (d, .cells (some (Try.prog.rowI 3)) (ints (l ++ m)))], [], none, [d]⟩) : aAppend Try.prog B H (some d) K 27 (.arr n l.length) x := by
  simp only [aAppend, Try.underlying27, hx, cs3, zk3, bytes3, List.length_map, hB]
  refine ⟨?_, by simp, trivial, trivial, by simp [ints], by omega, by simp only [maxLen]; omega, ?_⟩
  · intro q hq; obtain ⟨n, _, rfl⟩ := List.mem_map.1 hq; rfl
  · have e : (ints l).take (l.length * 1) ++ pcells (m.map I) = ints (l ++ m) := by
      rw [pcells_ints, Nat.mul_one, List.take_of_length_le (by simp [ints])]; simp [ints]
    rw [e]
    simpa using h
theorem mk_ints {K : Upd → Prop} {d : Nat} {n : Int} (h0 : 0 ≤ n) (hn : n ≤ 1000000000) (h : K ⟨.arr d 0, [], [(d, .cells (some (Try.prog.rowI 3)) (ints []))], [], none, [d]⟩) : aMakeSlice Try.prog (some d) K 27 (.pv (.int .i64 0)) (.pv (.int .i64 n)) := by
  simp only [aMakeSlice, Try.underlying27, zo3, bytes3, cs3, zk3]
  refine ⟨by omega, h0, by omega, by simp only [maxLen]; omega, by simp, trivial, ?_⟩
  simpa [ints] using h

theorem erase_perm {α : Type} {q : α} : ∀ {l : List α} {i : Nat}, l[i]? = some q → (q :: l.eraseIdx i).Perm l
  | [], _, h => by simp at h
  | a :: l, 0, h => by simp at h; subst h; exact .refl _
  | a :: l, i + 1, h => by
    simp at h
    exact (List.Perm.swap _ _ _).trans (.cons _ (erase_perm h))
theorem map_erase {α β : Type} {f : α → β} : ∀ {l : List α} {i : Nat}, (l.map f).eraseIdx i = (l.eraseIdx i).map f
  | [], _ => rfl
  | a :: l, 0 => rfl
  | a :: l, i + 1 => by simp [map_erase]
theorem sorted_srt {s l : List Int} (hnd : s.Nodup) (hp : l.Perm s) : l.mergeSort (fun x y => decide (x ≤ y)) = srt s := by
  have h1 : (l.mergeSort fun x y => decide (x ≤ y)).Pairwise (fun x y => decide (x ≤ y) = true) := List.pairwise_mergeSort (by intro a b c h1 h2; simp at *; omega) (by intro a b; simp; omega) l
  have hp' := (List.mergeSort_perm l fun x y => decide (x ≤ y)).trans hp
  have hnd' : (l.mergeSort fun x y => decide (x ≤ y)).Nodup := hp'.nodup_iff.2 hnd
  refine inc_ext ?_ (inc_srt s) fun x => by rw [mem_srt]; exact hp'.mem_iff
  exact (h1.and hnd').imp fun {a b} h => by
    have := h.1; have := h.2; simp at *; omega

theorem call_sort {B : Nat → Option BO} {K : Upd → Prop} {n : Nat} {l : List Int} (hB : B n = some (.cells (some (Try.prog.rowI 3)) (ints l))) (hl : l.length ≤ 1000000000)
    (h : K ⟨.tup [], [n], [(n, .cells (some (Try.prog.rowI 3)) (ints (l.mergeSort fun x y => decide (x ≤ y))))], [], none, []⟩) : aCall Try.prog B K (.pv (.clo 52 [])) [.arr n l.length] := by
  refine call_x _ (fun k => if k = 1000 then n else k) (sort_x l hl (Try.prog.rowI 3)) (by simp [CX.ok, LV.only, LV.only1, BO.only, ints_only, keys]) (by simp [wkL, LV.wk, LV.ren, LV.ren1]) ?_ (by intro a b ha hb; simp [keys] at ha hb; omega) ?_
  · intro m o hm
    simp only [lk] at hm
    split at hm
    · rename_i e; subst e; injection hm with hm; subst hm
      refine ⟨.cells (some (Try.prog.rowI 3)) (ints l), by simpa using hB, ?_⟩
      show (_ ∨ _) ∧ wkL1 _ _
      exact ⟨.inr rfl, by rw [ints_ren]; exact wkL1_refl⟩
    · cases hm
  · simpa [keys, deadOf, LV.ren, LV.ren1, BO.ren, ints_ren] using h

set_option maxRecDepth 100000 in
theorem list_x (s : List Int) (hs : s.length ≤ 1000000000) (hnd : s.Nodup) : GoodX Try.prog 42 ⟨[PV.map (s.map I) (s.map fun _ => tt)].map .pv, [], .arr 7 (srt s).length, [(7, .cells (some (Try.prog.rowI 3)) (ints (srt s)))]⟩ := by
  refine goodX_rv { sl := [0, 2, 3, 4, 9, 11], bx := [7, 9, 17], rw_ := [], ren := [(17, 7)] } [.tmp 2] mixed Try.call42 Try.func42 rfl (by kernel_rfl) (by show 1 ≤ 21; decide) rfl rfl (by kernel_rfl) ?_
  simp -implicitDefEqProofs only [go_sem, ↓acode_seq, ↓reduceIte, Nat.reduceEqDiff, Nat.reduceAdd, Nat.reduceBEq, Nat.reduceBNe, bne_self_eq_false, Nat.reduceLeDiff, Nat.reduceLT, Nat.le_refl, Int.reduceEq, true_and, and_true, Bool.or_false, Bool.or_self, Bool.not_false, Bool.and_self, Bool.and_true, decide_true, BEq.rfl, ne_eq, not_false_eq_true, Nat.succ_ne_self, reduceCtorEq, List.length_map]
  refine mk_ints (by omega) (by omega) ?_
  simp -implicitDefEqProofs only [go_sem, ↓acode_seq, ↓reduceIte, Nat.reduceEqDiff, Nat.reduceAdd, Nat.reduceBEq, Nat.reduceBNe, bne_self_eq_false, Nat.reduceLeDiff, Nat.reduceLT, Nat.le_refl, Int.reduceEq, true_and, and_true, Bool.or_false, Bool.or_self, Bool.not_false, Bool.and_self, Bool.and_true, decide_true, BEq.rfl, ne_eq, not_false_eq_true, Nat.succ_ne_self, reduceCtorEq]
  refine loop_rule { sl := [3, 9], bx := [7, 9], rw_ := [] } (fun (x : List Int × List Int × Option (PV × PV)) σ => (x.1 ++ x.2.1).Perm s ∧ σ = ⟨[(3, .arr 7 x.1.length), (9, .it 9)], [(7, .cells (some (Try.prog.rowI 3)) (ints x.1)), (9, .iter (x.2.1.map I) (x.2.1.map fun _ => tt) x.2.2)], []⟩) (fun x => x.2.1.length) ([], s, none)
    ⟨by simp, by simp [go_sem, ints]⟩ ?_
  rintro ⟨out, rest, cur⟩ σ ⟨hp, rfl⟩
  simp -implicitDefEqProofs only [go_sem, ↓acode_seq, ↓reduceIte, Nat.reduceEqDiff, Nat.reduceAdd, Nat.reduceBEq, Nat.reduceBNe, bne_self_eq_false, Nat.reduceLeDiff, Nat.reduceLT, Nat.le_refl, Int.reduceEq, true_and, and_true, Bool.or_false, Bool.or_self, Bool.not_false, Bool.and_self, Bool.and_true, decide_true, BEq.rfl, ne_eq, not_false_eq_true, Nat.succ_ne_self, reduceCtorEq]
  refine next_rule rfl (fun h0 => ?_) (fun i k v hk hv => ?_)
  · have hr : rest = [] := by simpa using h0
    subst hr
    simp -implicitDefEqProofs only [go_sem, ↓acode_seq, ↓reduceIte, Nat.reduceEqDiff, Nat.reduceAdd, Nat.reduceBEq, Nat.reduceBNe, bne_self_eq_false, Nat.reduceLeDiff, Nat.reduceLT, Nat.le_refl, Int.reduceEq, true_and, and_true, Bool.or_false, Bool.or_self, Bool.not_false, Bool.and_self, Bool.and_true, decide_true, BEq.rfl, ne_eq, not_false_eq_true, Nat.succ_ne_self, reduceCtorEq]
    refine call_sort (by simp [go_sem]) (by have := hp.length_eq; simp at this; omega) ?_
    simp -implicitDefEqProofs only [go_sem, ↓acode_seq, ↓reduceIte, Nat.reduceEqDiff, Nat.reduceAdd, Nat.reduceBEq, Nat.reduceBNe, bne_self_eq_false, Nat.reduceLeDiff, Nat.reduceLT, Nat.le_refl, Int.reduceEq, true_and, and_true, Bool.or_false, Bool.or_self, Bool.not_false, Bool.and_self, Bool.and_true, decide_true, BEq.rfl, ne_eq, not_false_eq_true, Nat.succ_ne_self, reduceCtorEq]
    have e := sorted_srt hnd (l := out) (by simpa using hp)
    have e2 : out.length = (srt s).length := by rw [← e, List.length_mergeSort]
    simp [resX, postX, resLV, go_sem, LV.wk, BO.wk, e, e2, wkL1_refl]
  · rw [List.getElem?_map] at hk hv
    cases hq : rest[i]? with
    | none => rw [hq] at hk; cases hk
    | some q =>
      rw [hq] at hk hv
      injection hk with hk; injection hv with hv
      subst hk; subst hv
      have hi := (List.getElem?_eq_some_iff.1 hq).1
      have hperm : (q :: rest.eraseIdx i).Perm rest := by
        exact erase_perm hq
      have hp2 : ((out ++ [q]) ++ rest.eraseIdx i).Perm s := by
        rw [List.append_assoc]
        exact (List.Perm.append_left out hperm).trans hp
      have hlen := hp.length_eq
      simp only [List.length_append] at hlen
      simp -implicitDefEqProofs only [go_sem, ↓acode_seq, ↓reduceIte, Nat.reduceEqDiff, Nat.reduceAdd, Nat.reduceBEq, Nat.reduceBNe, bne_self_eq_false, Nat.reduceLeDiff, Nat.reduceLT, Nat.le_refl, Int.reduceEq, true_and, and_true, Bool.or_false, Bool.or_self, Bool.not_false, Bool.and_self, Bool.and_true, decide_true, BEq.rfl, ne_eq, not_false_eq_true, Nat.succ_ne_self, reduceCtorEq]
      refine arr_app (m := [q]) (by simp [go_sem]) rfl (by simp only [List.length_cons, List.length_nil]; omega) ?_
      simp -implicitDefEqProofs only [go_sem, ↓acode_seq, ↓reduceIte, Nat.reduceEqDiff, Nat.reduceAdd, Nat.reduceBEq, Nat.reduceBNe, bne_self_eq_false, Nat.reduceLeDiff, Nat.reduceLT, Nat.le_refl, Int.reduceEq, true_and, and_true, Bool.or_false, Bool.or_self, Bool.not_false, Bool.and_self, Bool.and_true, decide_true, BEq.rfl, ne_eq, not_false_eq_true, Nat.succ_ne_self, reduceCtorEq]
      refine ⟨(out ++ [q], rest.eraseIdx i, some (I q, tt)), ⟨hp2, ?_⟩, ?_⟩
      · simp [map_erase]
      · simp only [List.length_eraseIdx]; simp only [hi, ↓reduceIte]; omega

theorem list_good (s : List Int) (hs : s.length ≤ 1000000000) (hnd : s.Nodup) : Go.Am.Good Try.prog true 42 [IM s] [IL (srt s)] := good_new (ri := Try.prog.rowI 3) (by rw [ri3]) (list_x s hs hnd)

end Go.Proofs.Ytjbgfihkdeeonaa
