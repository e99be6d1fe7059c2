/- A part of the proof over this program: contracts of its functions on pure values; nothing is assumed. -/
import Derived.Test.YtjbgfihkdeeonaaT21
set_option linter.unusedSimpArgs false
set_option linter.unusedVariables false
open Go Go.Am Go.RowKit
namespace Go.Proofs.Ytjbgfihkdeeonaa
attribute [local go_sem] acode_block acode_region acode_skip acode_label acode_exit acode_ret seqK_n seqK_e seqK_r blockK_n blockK_e blockK_r regK_ aops_nil aops_cons aops_g opGo_ aopsD_nil aopsD_cons aopsD_g opGoD_ opK_ opKD_ NewOk_nil NewOk_cons app1 app3 app4 gcX_ gc_ atEnd_ fzs_nil fzs_cons pus_nil pus_cons pu_ pur_f pur_s pur_p rfs_nil rfs_cons rbs_nil rbs_cons rf_ rfX_f rfX_s rfX_p rfX_j rfX_u rfX_a rfX_n rens_nil rens_cons mv_ mvU_ frz_ ctn_nil ctn_cons fresh_ menF_nil menF_cons menL_nil menL_cons menB_c menB_m menB_i menB_d men_undef men_junk men_pv men_full men_tup men_sl men_bp men_arr men_mr men_it men_cl men_ag men1_undef men1_junk men1_pv men1_full men1_sl men1_bp men1_arr men1_mr men1_it men1_cl cl_undef cl_junk cl_pv cl_full cl_tup cl_sl cl_bp cl_arr cl_mr cl_it cl_cl cl_ag cl1_undef cl1_junk cl1_pv cl1_full cl1_sl cl1_bp cl1_arr cl1_mr cl1_it cl1_cl clB_c clB_m clB_i alive_c alive_m alive_i alive_d pickK_nil pickK_cons consO_s consO_n consA_s consA_n aliveK_nil aliveK_cons pickF_nil pickF_cons pickG_nil pickG_cons lk_nil lk_cons f_ b_ h_ getD_some evo_t evo_c evo_f acode_cond cond_t cond_f opG_t opG_ff opG_tf opG_ft opG_u opGD_t opGD_ff opGD_tf opGD_ft opGD_u loopK_n loopK_e loopK_r endQ_n endQ_r endX_n endX_r argFrX_nil argFrX_cons argFr_nil argFr_cons op_move op_assign op_pick op_box op_alloc op_load op_store op_fieldAddr op_field op_indexAddr op_index op_slice op_build op_buildSlice op_binOp op_unOp op_convert op_extract op_makeFunc op_len op_append op_min op_max op_makeMap op_mapUpdate op_lookup op_delete op_clear op_call op_makeSlice op_range op_entry opN_move opN_assign opN_pick opN_box opN_alloc opN_load opN_store opN_fieldAddr opN_field opN_indexAddr opN_index opN_slice opN_build opN_buildSlice opN_binOp opN_unOp opN_convert opN_extract opN_makeFunc opN_len opN_append opN_min opN_max opN_makeMap opN_mapUpdate opN_lookup opN_delete opN_clear opN_call opN_next opN_makeSlice opN_range opN_entry aPick_t aPick_f mv_undef mv_junk mv_pv mv_full mv_tup mv_sl mv_bp mv_arr mv_mr mv_it mv_cl mv1_undef mv1_junk mv1_pv mv1_full mv1_tup mv1_sl mv1_bp mv1_arr mv1_mr mv1_it mv1_cl mv_ag mvB_c mvB_m mvB_i mvB_d aMin_ aMax_ fz1_pv fz1_undef fz1_junk fz1_full fz1_tup fz1_sl fz1_bp fz1_arr fz1_mr fz1_it fz_pv fz_undef fz_junk fz_full fz_tup fz_sl fz_bp fz_arr fz_mr fz_it fz_ag fzB_c fzB_m fzB_i fzB_d
attribute [local go_sem] cs3 ag3 zk3 ri3 zo3 cs4 ag4 zk4 ri4 zo4 cs5 ag5 zk5 ri5 zo5 cs22 ag22 zk22 ri22 zo22 cs23 ag23 zk23 ri23 zo23 cs25 ag25 zk25 ri25 zo25 fk25 fo25_0 fp25_0 fo25_1 fp25_1 fo25_2 fp25_2 cs26 ag26 zk26 ri26 zo26 cs27 ag27 zk27 ri27 zo27 cs29 ag29 zk29 ri29 zo29 fk29 fo29_0 fp29_0 fo29_1 fp29_1 fo29_2 fp29_2 fo29_3 fp29_3 fo29_4 fp29_4 fo29_5 fp29_5 fo29_6 fp29_6 cs31 ag31 zk31 ri31 zo31 fk31 fo31_0 fp31_0 fo31_1 fp31_1 fo31_2 fp31_2 fo31_3 fp31_3 fo31_4 fp31_4 cs35 ag35 zk35 ri35 zo35 fk35 fo35_0 fp35_0 fo35_1 fp35_1 fo35_2 fp35_2 fo35_3 fp35_3 cs38 ag38 zk38 ri38 zo38 cs40 ag40 zk40 ri40 zo40 fk40 fo40_0 fp40_0 fo40_1 fp40_1 cs42 ag42 zk42 ri42 zo42 cs45 ag45 zk45 ri45 zo45 fk45 fo45_0 fp45_0 fo45_1 fp45_1 fo45_2 fp45_2 fo45_3 fp45_3 fo45_4 fp45_4 fo45_5 fp45_5 cs55 ag55 zk55 ri55 zo55 fk55 fp55_0 fp55_1 cs61 ag61 zk61 ri61 zo61 fk61 fp61_0 fp61_1 cs66 ag66 zk66 ri66 zo66 cs82 ag82 zk82 ri82 zo82 fk82 fo82_0 fp82_0 cs83 ag83 zk83 ri83 zo83 fk83 fp83_0 fp83_1 fp83_2 fp83_3 fp83_4
attribute [local go_sem] List.filter_cons List.filter_nil aBuild splice1 splice2 fillL_nil fillL_cons fillX_ List.set_cons_zero List.set_cons_succ List.take_succ_cons List.take_zero List.drop_succ_cons List.drop_zero List.length_cons List.length_nil List.append_nil aRange aEntry ints_clean ints_mv ints_men ints_ren ints_only List.any_cons List.any_nil List.all_cons List.all_nil Bool.true_and Bool.false_and Bool.and_false Bool.false_or Bool.true_or Bool.or_true Option.some.injEq exists_eq_left' exists_eq_left Nat.zero_add List.getElem?_toArray List.getElem?_cons_succ List.getElem?_cons_zero bs0 bs1 bs1I bs2 bs3 Option.isNone_none Option.isNone_some ofC aLen aBin aInt LV.list? aBox aAlloc aLoad aStore aFieldAddr aField aUn aConv aMakeMap aExtract LV.cells? pc_int pc_bool pc_str pc_slc pc_agg pc_ptr pc_nilp pc_nilf pc_clo pc_map cells_I cells_IL cells_IW Option.map_some Option.map_none Option.bind_some Option.bind_none List.cons_append List.nil_append List.map_cons List.map_nil List.length_cons List.length_nil Option.isSome_some Bool.not_true Bool.not_false Try.underlying3 Try.underlying4 Try.underlying5 Try.underlying22 Try.underlying23 Try.underlying25 Try.underlying26 Try.underlying27 Try.underlying29 Try.underlying31 Try.underlying35 Try.underlying38 Try.underlying40 Try.underlying42 Try.underlying45 Try.underlying55 Try.underlying61 Try.underlying66 Try.underlying82 Try.underlying83

def BL (l : List Int) : PV := .slc (l.map U8)
def XP (x : Raw51) : PV := .agg [BL x.waves, U8 x.slack, .slc (x.steps.map SP)]
def XC (x : Raw51) : List LV := [.pv (BL x.waves), .pv (U8 x.slack), .pv (.slc (x.steps.map SP))]
structure XOk (x : Raw51) : Prop where
  w : ∀ b ∈ x.waves, 0 ≤ b ∧ b < 256
  l : 0 ≤ x.slack ∧ x.slack < 256
  s : ∀ s ∈ x.steps, SOk s
  wl : x.waves.length ≤ 9223372036854775807
  sl : x.steps.length ≤ 9223372036854775807
def wcells (W : List (List Int)) : List LV := W.map fun w => .pv (IL w)
theorem wcells_clean {W : List (List Int)} {a b : List Nat} : (wcells W).map (LV.clean1 a b) = wcells W := by simp [wcells, LV.clean1]
theorem wcells_mv {W : List (List Int)} {n m : Nat} : (wcells W).map (LV.mv1 n m) = wcells W := by simp [wcells, LV.mv1]
theorem wcells_men {W : List (List Int)} {d : Nat} : (wcells W).any (LV.men1 d) = false := by simp [wcells, LV.men1]
theorem wcells_set {W : List (List Int)} {k : Nat} {x : LV} {w : List Int} {a b : List Nat} (hx : x.clean1 a b = .pv (IL w)) : ((wcells W).set k x).map (LV.clean1 a b) = wcells (W.set k w) := by
  rw [List.map_set, wcells_clean, hx]
  simp [wcells, List.map_set]
theorem pcells_IL (W : List (List Int)) : pcells (W.map IL) = wcells W := by
  simp only [pcells, wcells]
  induction W with
  | nil => rfl
  | cons w W ih => simp only [List.map_cons, List.flatMap_cons, ih, cells_IL, List.map_nil, List.cons_append, List.nil_append]
theorem cells_U8 (n : Int) : (U8 n).cells = [U8 n] := rfl
set_option maxRecDepth 100000 in
theorem idx_B {K : Upd → Prop} {x : LV} {l : List Int} {i : Nat} (hx : x.list? = some (l.map U8)) (hi : i < l.length) (h : K ⟨.pv (.ptr [U8 l[i]]), [], [], [], none, []⟩) : aIndexAddr Try.prog K 22 x (.pv (.int .i64 (i : Int))) :=
  idx_map (f := U8) Try.underlying22 hx hi (by rw [cells_U8, cs5]; rfl) (by rw [cs5]; decide) (by rw [cells_U8]; exact h)
theorem zk27' : Try.prog.zOk 27 = true := zk27
theorem appW_new {B : Nat → Option BO} {H : HT} {K : Upd → Prop} {d : Nat} {w : List Int}
    (h : K ⟨.arr d 1, [], [(d, .cells (some (Try.prog.rowI 27)) (wcells [w]))], [], none, [d]⟩) : aAppend Try.prog B H (some d) K 26 (.full []) (.full [IL w]) := by
  simp only [aAppend, Try.underlying26, LV.list?, cs27, zk27, bytes27]
  refine ⟨by intro q hq; simp at hq; subst hq; rfl, by simp, trivial, by simp, by simp, by simp [maxLen], .inr ⟨by simp, ?_⟩⟩
  exact h
theorem appW_arr {B : Nat → Option BO} {H : HT} {K : Upd → Prop} {d n : Nat} {W : List (List Int)} {w : List Int} (hB : B n = some (.cells (some (Try.prog.rowI 27)) (wcells W))) (hb : W.length ≤ 1000000)
    (h : K ⟨.arr d (W ++ [w]).length, [n], [(n, .dead), (d, .cells (some (Try.prog.rowI 27)) (wcells (W ++ [w])))], [], none, [d]⟩) : aAppend Try.prog B H (some d) K 26 (.arr n W.length) (.full [IL w]) := by
  simp only [aAppend, Try.underlying26, LV.list?, cs27, zk27, bytes27, hB]
  refine ⟨by intro q hq; simp at hq; subst hq; rfl, by simp, trivial, trivial, by simp [wcells], by simp; omega, by simp [maxLen]; omega, ?_⟩
  have e : (wcells W).take (W.length * 1) ++ pcells [IL w] = wcells (W ++ [w]) := by
    rw [Nat.mul_one, List.take_of_length_le (by simp [wcells])]
    simp [wcells, pcells, cells_IL]
  rw [e]
  simpa using h
theorem chunksW (W : List (List Int)) : chunks 1 false W.length (W.map IL) = some (W.map IL) := by
  induction W with
  | nil => rfl
  | cons w W ih => simp only [List.length_cons, List.map_cons, chunks, ih]; rfl
theorem onesW (W : List (List Int)) : ones? (wcells W) = some (W.map IL) := by
  induction W with
  | nil => rfl
  | cons w W ih => simp only [wcells, List.map_cons, ones?, LV.one?] at ih ⊢; rw [ih]
theorem argW {B : Nat → Option BO} {n : Nat} {W : List (List Int)} (hB : B n = some (.cells (some (Try.prog.rowI 27)) (wcells W))) : (LV.arr n W.length).arg? B = some (IW W, [n]) := by
  simp only [LV.arg?, hB, ri27]
  rw [Nat.mul_one, List.take_of_length_le (by simp [wcells]), onesW]
  simp only [chunksW]
  rfl
theorem frz_arrW {B : Nat → Option BO} {n : Nat} {W : List (List Int)} (hB : B n = some (.cells (some (Try.prog.rowI 27)) (wcells W))) : (LV.arr n W.length).frz1 B [n] = .pv (IW W) := by
  simp only [LV.frz1, LV.men1, argW hB]
  simp [PV.one, IW]

theorem waveStep_new {s : List Int × List (List Int)} {b : Int} (h : b % 12 ∉ s.1) (h2 : ¬ (128 ≤ b ∧ s.2 ≠ [])) : waveStep s b = (s.1 ++ [b % 12], s.2 ++ [[b % 12]]) := by
  unfold waveStep; rw [if_neg h, if_neg h2]
theorem waveStep_last {s : List Int × List (List Int)} {b : Int} (h : b % 12 ∉ s.1) (h2 : 128 ≤ b) (h3 : 0 < s.2.length) : waveStep s b = (s.1 ++ [b % 12], s.2.set (s.2.length - 1) (s.2[s.2.length - 1] ++ [b % 12])) := by
  have hne : s.2 ≠ [] := List.length_pos_iff.1 h3
  unfold waveStep
  rw [if_neg h, if_pos ⟨h2, hne⟩]
  have e1 : s.2.getLastD [] = s.2[s.2.length - 1] := by
    rw [List.getLastD_eq_getLast?, List.getLast?_eq_some_getLast hne, Option.getD_some, List.getLast_eq_getElem]
  rw [e1]
  congr 1
  refine List.ext_getElem (by simp; omega) fun i h4 h5 => ?_
  simp only [List.length_append, List.length_dropLast, List.length_cons, List.length_nil] at h4
  rw [List.getElem_append, List.getElem_set]
  by_cases hi : i = s.2.length - 1
  · subst hi; simp
  · have : i < s.2.length - 1 := by omega
    simp [this]; omega
theorem waveStep_old {s : List Int × List (List Int)} {b : Int} (h : b % 12 ∈ s.1) : waveStep s b = s := by unfold waveStep; rw [if_pos h]
theorem wavesOf_succ {l : List Int} {i : Nat} (h : i < l.length) : wavesOf (l.take (i + 1)) = waveStep (wavesOf (l.take i)) l[i] := by
  rw [List.take_succ_eq_append_getElem h]; unfold wavesOf; rw [List.foldl_append]; rfl

/-- The state at the head of the loop. -/
noncomputable def stW (x : Raw51) (i : Nat) (s : List Int × List (List Int)) : St :=
  if s.2 = [] then ⟨[(1, .bp 1 0), (2, .bp 2 0), (3, .bp 3 0), (4, .sl 4 (s.1.map I)), (5, .pv (.int .i64 i))],
      [(1, .cells none (XC x)), (2, .cells none [.pv (.int .i64 0), .pv (.int .i64 0), .full [], .pv (.int .i64 0), .pv (.int .i64 0), .full [], .pv (.int .i64 0)]), (3, .cells none [.pv (.int .i64 3), .pv (.int .i64 4), .full [], .pv (.int .i64 (x.slack % 8))])], [(4, s.1.length, 3)]⟩
  else ⟨[(1, .bp 1 0), (2, .bp 2 0), (3, .bp 3 0), (4, .sl 4 (s.1.map I)), (5, .pv (.int .i64 i))],
      [(1, .cells none (XC x)), (2, .cells none [.pv (.int .i64 0), .pv (.int .i64 0), .full [], .pv (.int .i64 0), .pv (.int .i64 0), .full [], .pv (.int .i64 0)]), (3, .cells none [.pv (.int .i64 3), .pv (.int .i64 4), .arr 9 s.2.length, .pv (.int .i64 (x.slack % 8))]), (9, .cells (some (Try.prog.rowI 27)) (wcells s.2))], [(4, s.1.length, 3)]⟩

theorem startF_new (x : Raw51) : startF x = (newF 3 4 (orWaves (wavesOf (x.waves.take 10)).2) (x.slack % 8)).1 := by
  have h := V_iff.2 (start_valid x)
  show startF x = (if V (startF x) = true then (startF x, (0 : Int)) else (Roll0, 510)).1
  rw [if_pos h]
set_option maxRecDepth 100000 in
theorem bsW1 {K : Upd → Prop} {x : LV} {l : List Int} (hx : x.pure? = some (IL l)) (h : K ⟨.full [IL l], [], [], [], none, []⟩) : aBuildSlice Try.prog K 26 1 [(0, x)] := by
  simp only [aBuildSlice, Try.underlying26, partsL, hx, cs27, zk27]
  exact ⟨rfl, by intro p hp; simp at hp; subst hp; rfl, by omega, by simp, trivial, h⟩
set_option maxRecDepth 100000 in
theorem idx_arrW {K : Upd → Prop} {b len : Nat} {z : Int} (k : Nat) (hz : z = (k : Int)) (hk : k < len) (h : K ⟨.bp b k, [], [], [], none, []⟩) : aIndexAddr Try.prog K 26 (.arr b len) (.pv (.int .i64 z)) := by
  subst hz
  simp only [aIndexAddr, Try.underlying26, cs27]
  refine ⟨by omega, by omega, by simp, ?_⟩
  simpa using h
theorem names_set {W : List (List Int)} {k j : Nat} {l : List PV} (h : k < W.length) : ((wcells W).set k (.sl j l)).flatMap LV.names1 = [j] := by
  induction W generalizing k with
  | nil => simp at h
  | cons w W ih =>
    have h0 : ∀ W : List (List Int), (wcells W).flatMap LV.names1 = [] := by
      intro W
      induction W with
      | nil => rfl
      | cons w W ih => simp [wcells, LV.names1]
    cases k with
    | zero => simp only [wcells, List.map_cons, List.set_cons_zero, List.flatMap_cons, LV.names1]; rw [show (W.map fun w => LV.pv (IL w)).flatMap LV.names1 = [] from h0 W]; rfl
    | succ k => simp only [wcells, List.map_cons, List.set_cons_succ, List.flatMap_cons, LV.names1, List.nil_append]; exact ih (by simpa using h)
theorem wcells_get {W : List (List Int)} {k : Nat} (h : k < W.length) : (wcells W)[k]? = some (.pv (IL W[k])) := by simp [wcells, h]

set_option maxHeartbeats 8000000 in
set_option maxRecDepth 100000 in
theorem start_good (x : Raw51) (hx : XOk x) : Go.Am.Good Try.prog false 27 [XP x] [R (startF x)] := by
  refine good_rv { sl := [0, 1, 2, 3, 4, 5, 6, 7, 22, 34, 50, 79], bx := [1, 2, 3, 9, 74], rw_ := [4], rf := [(4, 4, 3)], ren := [(74, 9)], fz := [(13, [9])] } [.cell 2 29] mixed Try.call27 Try.func27 rfl (by kernel_rfl) (by show 1 ≤ 86; decide) (by kernel_rfl) ?_
  obtain ⟨q, hq⟩ : ∃ q, q = R (startF x) := ⟨_, rfl⟩
  rw [← hq]
  have h1 := hx.l
  simp -implicitDefEqProofs only [go_sem, ↓acode_seq, ↓reduceIte, Nat.reduceEqDiff, Nat.reduceAdd, Nat.reduceBEq, Nat.reduceBNe, bne_self_eq_false, Nat.reduceLeDiff, Nat.reduceLT, Nat.le_refl, Int.reduceEq, true_and, and_true, Bool.or_false, Bool.or_self, Bool.not_false, Bool.and_self, Bool.and_true, decide_true, BEq.rfl, ne_eq, not_false_eq_true, Nat.succ_ne_self, reduceCtorEq, XP, U8, I]
  rw [tmod_nn h1.1, wrap_i64 (by omega) (by omega)]
  refine loop_rule { sl := [1, 2, 3, 4, 5], bx := [1, 2, 3, 9], rw_ := [4] } (fun (i : Nat) σ => i ≤ x.waves.length ∧ i ≤ 10 ∧ σ = stW x i (wavesOf (x.waves.take i))) (fun i => 10 - i) 0
    ⟨by omega, by omega, by simp [go_sem, stW, wavesOf, XC, U8]⟩ ?_
  rintro i σ ⟨hi, hi10, rfl⟩
  obtain ⟨hinv, hlenW⟩ := wavesOf_ok (x.waves.take i)
  by_cases hW : (wavesOf (x.waves.take i)).2 = []
  · unfold stW
    rw [if_pos hW]
    have hul : (wavesOf (x.waves.take i)).1.length ≤ 64 := len64 hinv.nd fun c hc => by have := hinv.rng c hc; omega
    by_cases hgo : i < x.waves.length ∧ i < 10
    · obtain ⟨hg1, hg2⟩ := hgo
      have d1 : decide ((i : Int) < x.waves.length) = true := by simp; omega
      have d2 : decide ((i : Int) < 10) = true := by simp; omega
      have hb := hx.w _ (List.getElem_mem hg1)
      simp -implicitDefEqProofs only [go_sem, ↓acode_seq, ↓reduceIte, Nat.reduceEqDiff, Nat.reduceAdd, Nat.reduceBEq, Nat.reduceBNe, bne_self_eq_false, Nat.reduceLeDiff, Nat.reduceLT, Nat.le_refl, Int.reduceEq, true_and, and_true, Bool.or_false, Bool.or_self, Bool.not_false, Bool.and_self, Bool.and_true, decide_true, BEq.rfl, ne_eq, not_false_eq_true, Nat.succ_ne_self, reduceCtorEq, XC, U8, BL, List.length_map, d1, d2]
      refine idx_B rfl hg1 ?_
      simp -implicitDefEqProofs only [go_sem, ↓acode_seq, ↓reduceIte, Nat.reduceEqDiff, Nat.reduceAdd, Nat.reduceBEq, Nat.reduceBNe, bne_self_eq_false, Nat.reduceLeDiff, Nat.reduceLT, Nat.le_refl, Int.reduceEq, true_and, and_true, Bool.or_false, Bool.or_self, Bool.not_false, Bool.and_self, Bool.and_true, decide_true, BEq.rfl, ne_eq, not_false_eq_true, Nat.succ_ne_self, reduceCtorEq, U8]
      rw [wrap_i64 (by omega) (by omega), tmod_nn hb.1]
      refine call_rule rfl (in_good (wavesOf (x.waves.take i)).1 (x.waves[i] % 12) (by omega)) (.inl rfl) ?_
      simp -implicitDefEqProofs only [go_sem, ↓acode_seq, ↓reduceIte, Nat.reduceEqDiff, Nat.reduceAdd, Nat.reduceBEq, Nat.reduceBNe, bne_self_eq_false, Nat.reduceLeDiff, Nat.reduceLT, Nat.le_refl, Int.reduceEq, true_and, and_true, Bool.or_false, Bool.or_self, Bool.not_false, Bool.and_self, Bool.and_true, decide_true, BEq.rfl, ne_eq, not_false_eq_true, Nat.succ_ne_self, reduceCtorEq, resL]
      refine cond_split (fun m => ?_) fun m => ?_
      · have hm := of_decide_eq_true m
        simp -implicitDefEqProofs only [go_sem, ↓acode_seq, ↓reduceIte, Nat.reduceEqDiff, Nat.reduceAdd, Nat.reduceBEq, Nat.reduceBNe, bne_self_eq_false, Nat.reduceLeDiff, Nat.reduceLT, Nat.le_refl, Int.reduceEq, true_and, and_true, Bool.or_false, Bool.or_self, Bool.not_false, Bool.and_self, Bool.and_true, decide_true, BEq.rfl, ne_eq, not_false_eq_true, Nat.succ_ne_self, reduceCtorEq]
        refine ⟨i + 1, ⟨by omega, by omega, ?_⟩, by omega⟩
        rw [wavesOf_succ hg1, waveStep_old hm]
        rw [if_pos hW, wrap_i64 (by omega) (by omega)]
        simp [XC, BL, U8]
      · have hm := of_decide_eq_false m
        simp -implicitDefEqProofs only [go_sem, ↓acode_seq, ↓reduceIte, Nat.reduceEqDiff, Nat.reduceAdd, Nat.reduceBEq, Nat.reduceBNe, bne_self_eq_false, Nat.reduceLeDiff, Nat.reduceLT, Nat.le_refl, Int.reduceEq, true_and, and_true, Bool.or_false, Bool.or_self, Bool.not_false, Bool.and_self, Bool.and_true, decide_true, BEq.rfl, ne_eq, not_false_eq_true, Nat.succ_ne_self, reduceCtorEq]
        refine app_row (l := (wavesOf (x.waves.take i)).1) (m := [x.waves[i] % 12]) (by simp [go_sem]) rfl (by simp only [List.length_cons, List.length_nil]; omega) ?_
        simp -implicitDefEqProofs only [go_sem, ↓acode_seq, ↓reduceIte, Nat.reduceEqDiff, Nat.reduceAdd, Nat.reduceBEq, Nat.reduceBNe, bne_self_eq_false, Nat.reduceLeDiff, Nat.reduceLT, Nat.le_refl, Int.reduceEq, true_and, and_true, Bool.or_false, Bool.or_self, Bool.not_false, Bool.and_self, Bool.and_true, decide_true, BEq.rfl, ne_eq, not_false_eq_true, Nat.succ_ne_self, reduceCtorEq]
        refine idx_B rfl hg1 ?_
        simp -implicitDefEqProofs only [go_sem, ↓acode_seq, ↓reduceIte, Nat.reduceEqDiff, Nat.reduceAdd, Nat.reduceBEq, Nat.reduceBNe, bne_self_eq_false, Nat.reduceLeDiff, Nat.reduceLT, Nat.le_refl, Int.reduceEq, true_and, and_true, Bool.or_false, Bool.or_self, Bool.not_false, Bool.and_self, Bool.and_true, decide_true, BEq.rfl, ne_eq, not_false_eq_true, Nat.succ_ne_self, reduceCtorEq, U8]
        refine opG_split (fun g => ?_) fun g => ?_
        · simp -implicitDefEqProofs only [go_sem, ↓acode_seq, ↓reduceIte, Nat.reduceEqDiff, Nat.reduceAdd, Nat.reduceBEq, Nat.reduceBNe, bne_self_eq_false, Nat.reduceLeDiff, Nat.reduceLT, Nat.le_refl, Int.reduceEq, true_and, and_true, Bool.or_false, Bool.or_self, Bool.not_false, Bool.and_self, Bool.and_true, decide_true, BEq.rfl, ne_eq, not_false_eq_true, Nat.succ_ne_self, reduceCtorEq, g, decide_true, Int.ofNat_zero, Int.cast_ofNat_Int, Int.reduceLT, decide_false]
          refine bsW1 (l := [x.waves[i] % 12]) rfl ?_
          simp -implicitDefEqProofs only [go_sem, ↓acode_seq, ↓reduceIte, Nat.reduceEqDiff, Nat.reduceAdd, Nat.reduceBEq, Nat.reduceBNe, bne_self_eq_false, Nat.reduceLeDiff, Nat.reduceLT, Nat.le_refl, Int.reduceEq, true_and, and_true, Bool.or_false, Bool.or_self, Bool.not_false, Bool.and_self, Bool.and_true, decide_true, BEq.rfl, ne_eq, not_false_eq_true, Nat.succ_ne_self, reduceCtorEq]
          refine appW_new ?_
          simp -implicitDefEqProofs only [go_sem, ↓acode_seq, ↓reduceIte, Nat.reduceEqDiff, Nat.reduceAdd, Nat.reduceBEq, Nat.reduceBNe, bne_self_eq_false, Nat.reduceLeDiff, Nat.reduceLT, Nat.le_refl, Int.reduceEq, true_and, and_true, Bool.or_false, Bool.or_self, Bool.not_false, Bool.and_self, Bool.and_true, decide_true, BEq.rfl, ne_eq, not_false_eq_true, Nat.succ_ne_self, reduceCtorEq, wcells_clean, wcells_mv, wcells_men]
          refine ⟨i + 1, ⟨by omega, by omega, ?_⟩, by omega⟩
          rw [wavesOf_succ hg1, waveStep_new hm (by simp [hW])]
          rw [if_neg (by simp), wrap_i64 (by omega) (by omega)]
          simp [XC, BL, U8, hW, go_sem]
        · simp -implicitDefEqProofs only [go_sem, ↓acode_seq, ↓reduceIte, Nat.reduceEqDiff, Nat.reduceAdd, Nat.reduceBEq, Nat.reduceBNe, bne_self_eq_false, Nat.reduceLeDiff, Nat.reduceLT, Nat.le_refl, Int.reduceEq, true_and, and_true, Bool.or_false, Bool.or_self, Bool.not_false, Bool.and_self, Bool.and_true, decide_true, BEq.rfl, ne_eq, not_false_eq_true, Nat.succ_ne_self, reduceCtorEq, g, decide_true, Int.ofNat_zero, Int.cast_ofNat_Int, Int.reduceLT, decide_false]
          refine bsW1 (l := [x.waves[i] % 12]) rfl ?_
          simp -implicitDefEqProofs only [go_sem, ↓acode_seq, ↓reduceIte, Nat.reduceEqDiff, Nat.reduceAdd, Nat.reduceBEq, Nat.reduceBNe, bne_self_eq_false, Nat.reduceLeDiff, Nat.reduceLT, Nat.le_refl, Int.reduceEq, true_and, and_true, Bool.or_false, Bool.or_self, Bool.not_false, Bool.and_self, Bool.and_true, decide_true, BEq.rfl, ne_eq, not_false_eq_true, Nat.succ_ne_self, reduceCtorEq]
          refine appW_new ?_
          simp -implicitDefEqProofs only [go_sem, ↓acode_seq, ↓reduceIte, Nat.reduceEqDiff, Nat.reduceAdd, Nat.reduceBEq, Nat.reduceBNe, bne_self_eq_false, Nat.reduceLeDiff, Nat.reduceLT, Nat.le_refl, Int.reduceEq, true_and, and_true, Bool.or_false, Bool.or_self, Bool.not_false, Bool.and_self, Bool.and_true, decide_true, BEq.rfl, ne_eq, not_false_eq_true, Nat.succ_ne_self, reduceCtorEq, wcells_clean, wcells_mv, wcells_men]
          refine ⟨i + 1, ⟨by omega, by omega, ?_⟩, by omega⟩
          rw [wavesOf_succ hg1, waveStep_new hm (by simp [hW])]
          rw [if_neg (by simp), wrap_i64 (by omega) (by omega)]
          simp [XC, BL, U8, hW, go_sem]
    · have hex : decide ((i : Int) < x.waves.length) = false ∨ (decide ((i : Int) < x.waves.length) = true ∧ decide ((i : Int) < 10) = false) := by simp; omega
      have hten : x.waves.take 10 = x.waves.take i := by
        by_cases h : i = 10
        · rw [h]
        · rw [List.take_of_length_le (by omega), List.take_of_length_le (by omega)]
      rcases hex with d1 | ⟨d1, d2⟩
      · simp -implicitDefEqProofs only [go_sem, ↓acode_seq, ↓reduceIte, Nat.reduceEqDiff, Nat.reduceAdd, Nat.reduceBEq, Nat.reduceBNe, bne_self_eq_false, Nat.reduceLeDiff, Nat.reduceLT, Nat.le_refl, Int.reduceEq, true_and, and_true, Bool.or_false, Bool.or_self, Bool.not_false, Bool.and_self, Bool.and_true, decide_true, BEq.rfl, ne_eq, not_false_eq_true, Nat.succ_ne_self, reduceCtorEq, XC, U8, BL, List.length_map, d1, decide_true, Int.ofNat_zero, Int.cast_ofNat_Int]
        refine bsW1 (l := [0, 5]) rfl ?_
        simp -implicitDefEqProofs only [go_sem, ↓acode_seq, ↓reduceIte, Nat.reduceEqDiff, Nat.reduceAdd, Nat.reduceBEq, Nat.reduceBNe, bne_self_eq_false, Nat.reduceLeDiff, Nat.reduceLT, Nat.le_refl, Int.reduceEq, true_and, and_true, Bool.or_false, Bool.or_self, Bool.not_false, Bool.and_self, Bool.and_true, decide_true, BEq.rfl, ne_eq, not_false_eq_true, Nat.succ_ne_self, reduceCtorEq]
        refine call_rule rfl (newR_good 3 4 [[0, 5]] (x.slack % 8) (by simp) (by simp)) (.inl rfl) ?_
        simp -implicitDefEqProofs only [go_sem, ↓acode_seq, ↓reduceIte, Nat.reduceEqDiff, Nat.reduceAdd, Nat.reduceBEq, Nat.reduceBNe, bne_self_eq_false, Nat.reduceLeDiff, Nat.reduceLT, Nat.le_refl, Int.reduceEq, true_and, and_true, Bool.or_false, Bool.or_self, Bool.not_false, Bool.and_self, Bool.and_true, decide_true, BEq.rfl, ne_eq, not_false_eq_true, Nat.succ_ne_self, reduceCtorEq, resL, G, I, IW, IL]
        refine res_cell rfl rfl ag29 (by rw [cs29]; rfl) (by simp) rfl ?_
        rw [hq, startF_new, hten, hW]; rfl
      · simp -implicitDefEqProofs only [go_sem, ↓acode_seq, ↓reduceIte, Nat.reduceEqDiff, Nat.reduceAdd, Nat.reduceBEq, Nat.reduceBNe, bne_self_eq_false, Nat.reduceLeDiff, Nat.reduceLT, Nat.le_refl, Int.reduceEq, true_and, and_true, Bool.or_false, Bool.or_self, Bool.not_false, Bool.and_self, Bool.and_true, decide_true, BEq.rfl, ne_eq, not_false_eq_true, Nat.succ_ne_self, reduceCtorEq, XC, U8, BL, List.length_map, d1, d2, decide_true, Int.ofNat_zero, Int.cast_ofNat_Int]
        refine bsW1 (l := [0, 5]) rfl ?_
        simp -implicitDefEqProofs only [go_sem, ↓acode_seq, ↓reduceIte, Nat.reduceEqDiff, Nat.reduceAdd, Nat.reduceBEq, Nat.reduceBNe, bne_self_eq_false, Nat.reduceLeDiff, Nat.reduceLT, Nat.le_refl, Int.reduceEq, true_and, and_true, Bool.or_false, Bool.or_self, Bool.not_false, Bool.and_self, Bool.and_true, decide_true, BEq.rfl, ne_eq, not_false_eq_true, Nat.succ_ne_self, reduceCtorEq]
        refine call_rule rfl (newR_good 3 4 [[0, 5]] (x.slack % 8) (by simp) (by simp)) (.inl rfl) ?_
        simp -implicitDefEqProofs only [go_sem, ↓acode_seq, ↓reduceIte, Nat.reduceEqDiff, Nat.reduceAdd, Nat.reduceBEq, Nat.reduceBNe, bne_self_eq_false, Nat.reduceLeDiff, Nat.reduceLT, Nat.le_refl, Int.reduceEq, true_and, and_true, Bool.or_false, Bool.or_self, Bool.not_false, Bool.and_self, Bool.and_true, decide_true, BEq.rfl, ne_eq, not_false_eq_true, Nat.succ_ne_self, reduceCtorEq, resL, G, I, IW, IL]
        refine res_cell rfl rfl ag29 (by rw [cs29]; rfl) (by simp) rfl ?_
        rw [hq, startF_new, hten, hW]; rfl
  · have hpos : 0 < (wavesOf (x.waves.take i)).2.length := List.length_pos_iff.2 hW
    have hul : (wavesOf (x.waves.take i)).1.length ≤ 64 := len64 hinv.nd fun c hc => by have := hinv.rng c hc; omega
    have hwl10 : (wavesOf (x.waves.take i)).2.length ≤ 10 := by simp only [List.length_take] at hlenW; omega
    have d3 : decide (((wavesOf (x.waves.take i)).2.length : Int) = 0) = false := by simp; omega
    have d4 : decide (0 < ((wavesOf (x.waves.take i)).2.length : Int)) = true := by simp; omega
    have orW : orWaves (wavesOf (x.waves.take i)).2 = (wavesOf (x.waves.take i)).2 := by unfold orWaves; rw [if_neg hW]
    have hwl : ∀ w ∈ (wavesOf (x.waves.take i)).2, w.length ≤ 64 := by
      intro w hw
      have h1 : w.length ≤ (wavesOf (x.waves.take i)).2.flatten.length := by
        obtain ⟨k, hk, rfl⟩ := List.getElem_of_mem hw
        have := flat_at hk
        omega
      rw [hinv.flat] at h1; omega
    unfold stW
    rw [if_neg hW]
    by_cases hgo : i < x.waves.length ∧ i < 10
    · obtain ⟨hg1, hg2⟩ := hgo
      have d1 : decide ((i : Int) < x.waves.length) = true := by simp; omega
      have d2 : decide ((i : Int) < 10) = true := by simp; omega
      have hb := hx.w _ (List.getElem_mem hg1)
      simp -implicitDefEqProofs only [go_sem, ↓acode_seq, ↓reduceIte, Nat.reduceEqDiff, Nat.reduceAdd, Nat.reduceBEq, Nat.reduceBNe, bne_self_eq_false, Nat.reduceLeDiff, Nat.reduceLT, Nat.le_refl, Int.reduceEq, true_and, and_true, Bool.or_false, Bool.or_self, Bool.not_false, Bool.and_self, Bool.and_true, decide_true, BEq.rfl, ne_eq, not_false_eq_true, Nat.succ_ne_self, reduceCtorEq, XC, U8, BL, List.length_map, d1, d2]
      refine idx_B rfl hg1 ?_
      simp -implicitDefEqProofs only [go_sem, ↓acode_seq, ↓reduceIte, Nat.reduceEqDiff, Nat.reduceAdd, Nat.reduceBEq, Nat.reduceBNe, bne_self_eq_false, Nat.reduceLeDiff, Nat.reduceLT, Nat.le_refl, Int.reduceEq, true_and, and_true, Bool.or_false, Bool.or_self, Bool.not_false, Bool.and_self, Bool.and_true, decide_true, BEq.rfl, ne_eq, not_false_eq_true, Nat.succ_ne_self, reduceCtorEq, U8]
      rw [wrap_i64 (by omega) (by omega), tmod_nn hb.1]
      refine call_rule rfl (in_good (wavesOf (x.waves.take i)).1 (x.waves[i] % 12) (by omega)) (.inl rfl) ?_
      simp -implicitDefEqProofs only [go_sem, ↓acode_seq, ↓reduceIte, Nat.reduceEqDiff, Nat.reduceAdd, Nat.reduceBEq, Nat.reduceBNe, bne_self_eq_false, Nat.reduceLeDiff, Nat.reduceLT, Nat.le_refl, Int.reduceEq, true_and, and_true, Bool.or_false, Bool.or_self, Bool.not_false, Bool.and_self, Bool.and_true, decide_true, BEq.rfl, ne_eq, not_false_eq_true, Nat.succ_ne_self, reduceCtorEq, resL]
      refine cond_split (fun m => ?_) fun m => ?_
      · have hm := of_decide_eq_true m
        simp -implicitDefEqProofs only [go_sem, ↓acode_seq, ↓reduceIte, Nat.reduceEqDiff, Nat.reduceAdd, Nat.reduceBEq, Nat.reduceBNe, bne_self_eq_false, Nat.reduceLeDiff, Nat.reduceLT, Nat.le_refl, Int.reduceEq, true_and, and_true, Bool.or_false, Bool.or_self, Bool.not_false, Bool.and_self, Bool.and_true, decide_true, BEq.rfl, ne_eq, not_false_eq_true, Nat.succ_ne_self, reduceCtorEq, wcells_clean, wcells_mv, wcells_men]
        refine ⟨i + 1, ⟨by omega, by omega, ?_⟩, by omega⟩
        rw [wavesOf_succ hg1, waveStep_old hm]
        rw [if_neg hW, wrap_i64 (by omega) (by omega)]
        simp [XC, BL, U8, go_sem]
      · have hm := of_decide_eq_false m
        simp -implicitDefEqProofs only [go_sem, ↓acode_seq, ↓reduceIte, Nat.reduceEqDiff, Nat.reduceAdd, Nat.reduceBEq, Nat.reduceBNe, bne_self_eq_false, Nat.reduceLeDiff, Nat.reduceLT, Nat.le_refl, Int.reduceEq, true_and, and_true, Bool.or_false, Bool.or_self, Bool.not_false, Bool.and_self, Bool.and_true, decide_true, BEq.rfl, ne_eq, not_false_eq_true, Nat.succ_ne_self, reduceCtorEq, wcells_clean, wcells_mv, wcells_men]
        refine app_row (l := (wavesOf (x.waves.take i)).1) (m := [x.waves[i] % 12]) (by simp [go_sem]) rfl (by simp only [List.length_cons, List.length_nil]; omega) ?_
        simp -implicitDefEqProofs only [go_sem, ↓acode_seq, ↓reduceIte, Nat.reduceEqDiff, Nat.reduceAdd, Nat.reduceBEq, Nat.reduceBNe, bne_self_eq_false, Nat.reduceLeDiff, Nat.reduceLT, Nat.le_refl, Int.reduceEq, true_and, and_true, Bool.or_false, Bool.or_self, Bool.not_false, Bool.and_self, Bool.and_true, decide_true, BEq.rfl, ne_eq, not_false_eq_true, Nat.succ_ne_self, reduceCtorEq, wcells_clean, wcells_mv, wcells_men]
        refine idx_B rfl hg1 ?_
        simp -implicitDefEqProofs only [go_sem, ↓acode_seq, ↓reduceIte, Nat.reduceEqDiff, Nat.reduceAdd, Nat.reduceBEq, Nat.reduceBNe, bne_self_eq_false, Nat.reduceLeDiff, Nat.reduceLT, Nat.le_refl, Int.reduceEq, true_and, and_true, Bool.or_false, Bool.or_self, Bool.not_false, Bool.and_self, Bool.and_true, decide_true, BEq.rfl, ne_eq, not_false_eq_true, Nat.succ_ne_self, reduceCtorEq, U8]
        refine opG_split (fun g => ?_) fun g => ?_
        · simp -implicitDefEqProofs only [go_sem, ↓acode_seq, ↓reduceIte, Nat.reduceEqDiff, Nat.reduceAdd, Nat.reduceBEq, Nat.reduceBNe, bne_self_eq_false, Nat.reduceLeDiff, Nat.reduceLT, Nat.le_refl, Int.reduceEq, true_and, and_true, Bool.or_false, Bool.or_self, Bool.not_false, Bool.and_self, Bool.and_true, decide_true, BEq.rfl, ne_eq, not_false_eq_true, Nat.succ_ne_self, reduceCtorEq, g, d4, wcells_clean, wcells_mv, wcells_men]
          rw [wrap_i64 (by omega) (by omega)]
          simp -implicitDefEqProofs only [go_sem, ↓acode_seq, ↓reduceIte, Nat.reduceEqDiff, Nat.reduceAdd, Nat.reduceBEq, Nat.reduceBNe, bne_self_eq_false, Nat.reduceLeDiff, Nat.reduceLT, Nat.le_refl, Int.reduceEq, true_and, and_true, Bool.or_false, Bool.or_self, Bool.not_false, Bool.and_self, Bool.and_true, decide_true, BEq.rfl, ne_eq, not_false_eq_true, Nat.succ_ne_self, reduceCtorEq, ↓acode_draw]
          refine ⟨by kernel_rfl, ?_⟩
          refine idx_arrW ((wavesOf (x.waves.take i)).2.length - 1) (by omega) (by omega) ?_
          simp -implicitDefEqProofs only [go_sem, ↓acode_seq, ↓reduceIte, Nat.reduceEqDiff, Nat.reduceAdd, Nat.reduceBEq, Nat.reduceBNe, bne_self_eq_false, Nat.reduceLeDiff, Nat.reduceLT, Nat.le_refl, Int.reduceEq, true_and, and_true, Bool.or_false, Bool.or_self, Bool.not_false, Bool.and_self, Bool.and_true, decide_true, BEq.rfl, ne_eq, not_false_eq_true, Nat.succ_ne_self, reduceCtorEq]
          refine ⟨_, wcells_get (by omega), ?_⟩
          show aAppend _ _ _ _ _ _ _ _
          refine app_new (l := []) (m := (wavesOf (x.waves.take i)).2[(wavesOf (x.waves.take i)).2.length - 1]) rfl (by have := hwl _ (List.getElem_mem (show (wavesOf (x.waves.take i)).2.length - 1 < (wavesOf (x.waves.take i)).2.length by omega)); simp; omega) ?_
          simp -implicitDefEqProofs only [go_sem, ↓acode_seq, ↓reduceIte, Nat.reduceEqDiff, Nat.reduceAdd, Nat.reduceBEq, Nat.reduceBNe, bne_self_eq_false, Nat.reduceLeDiff, Nat.reduceLT, Nat.le_refl, Int.reduceEq, true_and, and_true, Bool.or_false, Bool.or_self, Bool.not_false, Bool.and_self, Bool.and_true, decide_true, BEq.rfl, ne_eq, not_false_eq_true, Nat.succ_ne_self, reduceCtorEq]
          refine app_row (l := (wavesOf (x.waves.take i)).2[(wavesOf (x.waves.take i)).2.length - 1]) (m := [x.waves[i] % 12]) (by simp [go_sem]) rfl (by have := hwl _ (List.getElem_mem (show (wavesOf (x.waves.take i)).2.length - 1 < (wavesOf (x.waves.take i)).2.length by omega)); simp; omega) ?_
          simp -implicitDefEqProofs only [go_sem, ↓acode_seq, ↓reduceIte, Nat.reduceEqDiff, Nat.reduceAdd, Nat.reduceBEq, Nat.reduceBNe, bne_self_eq_false, Nat.reduceLeDiff, Nat.reduceLT, Nat.le_refl, Int.reduceEq, true_and, and_true, Bool.or_false, Bool.or_self, Bool.not_false, Bool.and_self, Bool.and_true, decide_true, BEq.rfl, ne_eq, not_false_eq_true, Nat.succ_ne_self, reduceCtorEq]
          refine idx_arrW ((wavesOf (x.waves.take i)).2.length - 1) (by omega) (by omega) ?_
          simp -implicitDefEqProofs only [go_sem, ↓acode_seq, ↓reduceIte, Nat.reduceEqDiff, Nat.reduceAdd, Nat.reduceBEq, Nat.reduceBNe, bne_self_eq_false, Nat.reduceLeDiff, Nat.reduceLT, Nat.le_refl, Int.reduceEq, true_and, and_true, Bool.or_false, Bool.or_self, Bool.not_false, Bool.and_self, Bool.and_true, decide_true, BEq.rfl, ne_eq, not_false_eq_true, Nat.succ_ne_self, reduceCtorEq]
          have hk : (wavesOf (x.waves.take i)).2.length - 1 < (wavesOf (x.waves.take i)).2.length := by omega
          refine ⟨by simp [wcells]; omega, ?_, ?_, ?_⟩
          · simp only [te, BO.names, List.flatMap_cons, List.flatMap_nil, List.append_nil, names_set hk, LV.names, LV.names1]
            rfl
          · simp only [te, BO.names, List.flatMap_cons, List.flatMap_nil, List.append_nil, names_set hk, LV.names, LV.names1]
            simp [newsOk, St.fresh, men?F, men?L, LV.men, LV.men1, BO.men, wcells_men]
          have hset : ((wcells (wavesOf (x.waves.take i)).2).set ((wavesOf (x.waves.take i)).2.length - 1) (.sl 64 (((wavesOf (x.waves.take i)).2[(wavesOf (x.waves.take i)).2.length - 1] ++ [x.waves[i] % 12]).map I))).map (LV.clean1 [1, 2, 3, 9] [4]) = wcells ((wavesOf (x.waves.take i)).2.set ((wavesOf (x.waves.take i)).2.length - 1) ((wavesOf (x.waves.take i)).2[(wavesOf (x.waves.take i)).2.length - 1] ++ [x.waves[i] % 12])) := wcells_set rfl
          simp -implicitDefEqProofs only [go_sem, ↓acode_seq, ↓reduceIte, Nat.reduceEqDiff, Nat.reduceAdd, Nat.reduceBEq, Nat.reduceBNe, bne_self_eq_false, Nat.reduceLeDiff, Nat.reduceLT, Nat.le_refl, Int.reduceEq, true_and, and_true, Bool.or_false, Bool.or_self, Bool.not_false, Bool.and_self, Bool.and_true, decide_true, BEq.rfl, ne_eq, not_false_eq_true, Nat.succ_ne_self, reduceCtorEq, hset, wcells_clean, wcells_mv, wcells_men]
          refine ⟨i + 1, ⟨by omega, by omega, ?_⟩, by omega⟩
          rw [wavesOf_succ hg1, waveStep_last hm (of_decide_eq_true g) hpos]
          rw [if_neg (by simpa using hW), wrap_i64 (by omega) (by omega)]
          simp [XC, BL, U8, go_sem]
        · simp -implicitDefEqProofs only [go_sem, ↓acode_seq, ↓reduceIte, Nat.reduceEqDiff, Nat.reduceAdd, Nat.reduceBEq, Nat.reduceBNe, bne_self_eq_false, Nat.reduceLeDiff, Nat.reduceLT, Nat.le_refl, Int.reduceEq, true_and, and_true, Bool.or_false, Bool.or_self, Bool.not_false, Bool.and_self, Bool.and_true, decide_true, BEq.rfl, ne_eq, not_false_eq_true, Nat.succ_ne_self, reduceCtorEq, g, wcells_clean, wcells_mv, wcells_men]
          refine bsW1 (l := [x.waves[i] % 12]) rfl ?_
          simp -implicitDefEqProofs only [go_sem, ↓acode_seq, ↓reduceIte, Nat.reduceEqDiff, Nat.reduceAdd, Nat.reduceBEq, Nat.reduceBNe, bne_self_eq_false, Nat.reduceLeDiff, Nat.reduceLT, Nat.le_refl, Int.reduceEq, true_and, and_true, Bool.or_false, Bool.or_self, Bool.not_false, Bool.and_self, Bool.and_true, decide_true, BEq.rfl, ne_eq, not_false_eq_true, Nat.succ_ne_self, reduceCtorEq]
          refine appW_arr (by simp [go_sem]) (by omega) ?_
          simp -implicitDefEqProofs only [go_sem, ↓acode_seq, ↓reduceIte, Nat.reduceEqDiff, Nat.reduceAdd, Nat.reduceBEq, Nat.reduceBNe, bne_self_eq_false, Nat.reduceLeDiff, Nat.reduceLT, Nat.le_refl, Int.reduceEq, true_and, and_true, Bool.or_false, Bool.or_self, Bool.not_false, Bool.and_self, Bool.and_true, decide_true, BEq.rfl, ne_eq, not_false_eq_true, Nat.succ_ne_self, reduceCtorEq, wcells_clean, wcells_mv, wcells_men]
          refine ⟨i + 1, ⟨by omega, by omega, ?_⟩, by omega⟩
          rw [wavesOf_succ hg1, waveStep_new hm (fun h => by have := of_decide_eq_false g; omega)]
          rw [if_neg (by simp), wrap_i64 (by omega) (by omega)]
          simp [XC, BL, U8, go_sem]
    · have hex : decide ((i : Int) < x.waves.length) = false ∨ (decide ((i : Int) < x.waves.length) = true ∧ decide ((i : Int) < 10) = false) := by simp; omega
      have hten : x.waves.take 10 = x.waves.take i := by
        by_cases h : i = 10
        · rw [h]
        · rw [List.take_of_length_le (by omega), List.take_of_length_le (by omega)]
      rcases hex with d1 | ⟨d1, d2⟩
      · simp -implicitDefEqProofs only [go_sem, ↓acode_seq, ↓reduceIte, Nat.reduceEqDiff, Nat.reduceAdd, Nat.reduceBEq, Nat.reduceBNe, bne_self_eq_false, Nat.reduceLeDiff, Nat.reduceLT, Nat.le_refl, Int.reduceEq, true_and, and_true, Bool.or_false, Bool.or_self, Bool.not_false, Bool.and_self, Bool.and_true, decide_true, BEq.rfl, ne_eq, not_false_eq_true, Nat.succ_ne_self, reduceCtorEq, XC, U8, BL, List.length_map, d1, wcells_clean, wcells_mv, wcells_men]
        simp -implicitDefEqProofs only [go_sem, ↓acode_seq, ↓reduceIte, Nat.reduceEqDiff, Nat.reduceAdd, Nat.reduceBEq, Nat.reduceBNe, bne_self_eq_false, Nat.reduceLeDiff, Nat.reduceLT, Nat.le_refl, Int.reduceEq, true_and, and_true, Bool.or_false, Bool.or_self, Bool.not_false, Bool.and_self, Bool.and_true, decide_true, BEq.rfl, ne_eq, not_false_eq_true, Nat.succ_ne_self, reduceCtorEq, frz_arrW, d3]
        refine call_rule rfl (newR_good 3 4 (wavesOf (x.waves.take i)).2 (x.slack % 8) (by omega) (fun w hw => by have := hwl w hw; omega)) (.inl rfl) ?_
        simp -implicitDefEqProofs only [go_sem, ↓acode_seq, ↓reduceIte, Nat.reduceEqDiff, Nat.reduceAdd, Nat.reduceBEq, Nat.reduceBNe, bne_self_eq_false, Nat.reduceLeDiff, Nat.reduceLT, Nat.le_refl, Int.reduceEq, true_and, and_true, Bool.or_false, Bool.or_self, Bool.not_false, Bool.and_self, Bool.and_true, decide_true, BEq.rfl, ne_eq, not_false_eq_true, Nat.succ_ne_self, reduceCtorEq, resL, G, I, IW, IL]
        refine res_cell rfl rfl ag29 (by rw [cs29]; rfl) (by simp) rfl ?_
        rw [hq, startF_new, hten, orW]; rfl
      · simp -implicitDefEqProofs only [go_sem, ↓acode_seq, ↓reduceIte, Nat.reduceEqDiff, Nat.reduceAdd, Nat.reduceBEq, Nat.reduceBNe, bne_self_eq_false, Nat.reduceLeDiff, Nat.reduceLT, Nat.le_refl, Int.reduceEq, true_and, and_true, Bool.or_false, Bool.or_self, Bool.not_false, Bool.and_self, Bool.and_true, decide_true, BEq.rfl, ne_eq, not_false_eq_true, Nat.succ_ne_self, reduceCtorEq, XC, U8, BL, List.length_map, d1, d2, wcells_clean, wcells_mv, wcells_men]
        simp -implicitDefEqProofs only [go_sem, ↓acode_seq, ↓reduceIte, Nat.reduceEqDiff, Nat.reduceAdd, Nat.reduceBEq, Nat.reduceBNe, bne_self_eq_false, Nat.reduceLeDiff, Nat.reduceLT, Nat.le_refl, Int.reduceEq, true_and, and_true, Bool.or_false, Bool.or_self, Bool.not_false, Bool.and_self, Bool.and_true, decide_true, BEq.rfl, ne_eq, not_false_eq_true, Nat.succ_ne_self, reduceCtorEq, frz_arrW, d3]
        refine call_rule rfl (newR_good 3 4 (wavesOf (x.waves.take i)).2 (x.slack % 8) (by omega) (fun w hw => by have := hwl w hw; omega)) (.inl rfl) ?_
        simp -implicitDefEqProofs only [go_sem, ↓acode_seq, ↓reduceIte, Nat.reduceEqDiff, Nat.reduceAdd, Nat.reduceBEq, Nat.reduceBNe, bne_self_eq_false, Nat.reduceLeDiff, Nat.reduceLT, Nat.le_refl, Int.reduceEq, true_and, and_true, Bool.or_false, Bool.or_self, Bool.not_false, Bool.and_self, Bool.and_true, decide_true, BEq.rfl, ne_eq, not_false_eq_true, Nat.succ_ne_self, reduceCtorEq, resL, G, I, IW, IL]
        refine res_cell rfl rfl ag29 (by rw [cs29]; rfl) (by simp) rfl ?_
        rw [hq, startF_new, hten, orW]; rfl

end Go.Proofs.Ytjbgfihkdeeonaa
