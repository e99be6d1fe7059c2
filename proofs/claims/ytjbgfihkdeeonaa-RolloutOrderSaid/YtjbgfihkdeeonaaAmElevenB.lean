/- The abstract machine, part 11b: slices that are made, loops over maps, calls that turn what they are lent, and every step; nothing is assumed of any program. -/
import Derived.Test.YtjbgfihkdeeonaaAmEleven
import Derived.Laws.MakeOwn
import Derived.Maps.RangeRun
set_option linter.unusedSimpArgs false
set_option linter.unusedVariables false
namespace Go.Am
open Go.RowKit

section
variable {P : Program} {E : Env} {g : Gh} {a : Act} {w : World} {F : Nat → LV} {B : Nat → Option BO} {H : HT}

theorem flatten_rep {α : Type} (xs : List α) : ∀ (n j : Nat), j < n * xs.length → (List.replicate n xs).flatten[j]? = xs[j % xs.length]?
  | 0, j, h => by simp at h
  | n + 1, j, h => by
    simp only [List.replicate_succ, List.flatten_cons]
    by_cases hj : j < xs.length
    · rw [List.getElem?_append_left hj, Nat.mod_eq_of_lt hj]
    · have h0 : 0 < xs.length := by
        rcases Nat.eq_zero_or_pos xs.length with h0 | h0
        · rw [h0] at h; simp at h
        · exact h0
      rw [List.getElem?_append_right (by omega), flatten_rep xs n _ (by rw [Nat.add_mul, Nat.one_mul] at h; omega), ← Nat.mod_eq_sub_mod (by omega)]

theorem ok_makeSlice {t : TypeId} {l c : Operand} {o : Oper} {u : Upd} (ho : o.op = .makeSlice t l c) (h : aMakeSlice P o.dst (· = u) t (evo F l) (evo F c)) : StepOk P o F B H u := by
  unfold aMakeSlice at h
  split at h
  · rename_i e ht
    split at h
    · rename_i d k n k' m z hd hl hc hz
      obtain ⟨h0, h1, h2, h3, h4, h5, rfl⟩ := h
      intro E g a w hs hdst hnew K Q hK
      obtain ⟨⟨n1, n2⟩, n3⟩ := hnew d (by simp)
      obtain ⟨z', i, hzo, hi, hiz, his, hzs, hz1⟩ := zOk_get h5
      rw [hz] at hzo
      injection hzo with hzo
      subst hzo
      rw [bytes_info hi] at h2
      have hl' := int_inv (hl ▸ hs.ev l)
      have hc' := int_inv (hc ▸ hs.ev c)
      have hrun : (execOp a.eval o).run P w = .ok (.value (.slice (some ⟨w.heap.size, 0, none⟩) n.toNat m.toNat)) (w.alloc (.cells (madeCells z.cells (m.toNat * i.size)) e)) := by
        have := run_make (P := P) w t e i z ht hi hiz k k' n m h0 h1 (by rw [Int.mul_comm]; omega) (by simp only [maxLen] at h3; omega)
        simp only [execOp, ho, hl', hc', Sem.run_bind, this, Result.andThen_ok, Sem.run_pure]
      have hsz : (madeCells z.cells (m.toNat * i.size)).size = m.toNat * P.cellsOf e := by rw [size_madeCells, his]
      have hlen : (z.cells.toList.map ofC).length = P.cellsOf e := by simp [hzs]
      have hnm : n.toNat * P.cellsOf e ≤ m.toNat * P.cellsOf e := Nat.mul_le_mul_right _ (by omega)
      have h6 := hs.newBox (d := d) (vs := madeCells z.cells (m.toNat * i.size)) (t := e) (r := some (P.rowI e)) (c := m.toNat) (cs := (List.replicate n.toNat (z.cells.toList.map ofC)).flatten) (by
          rw [hsz]; simp [List.length_flatten, hzs]; exact hnm) (by
          intro j u c hu hc
          have hj : j < n.toNat * (z.cells.toList.map ofC).length := by
            have := (List.getElem?_eq_some_iff.1 hc).1
            simpa [List.length_flatten] using this
          rw [flatten_rep _ _ _ hj, hlen] at hc
          rw [hlen] at hj
          have hu' : z.cells[j % P.cellsOf e]? = some u := by
            have hlt : j % P.cellsOf e < z.cells.size := by rw [hzs]; exact Nat.mod_lt _ (by omega)
            unfold madeCells at hu
            simp only [Array.getElem?_map, Array.getElem?_range] at hu
            split at hu
            · simp only [Option.map_some] at hu
              injection hu with hu
              rw [← hu, hzs]
              simp [hlt]
            · cases hu
          refine ⟨hz1 _ u hu', ?_⟩
          rw [get_ofC (cs := z.cells.toList) (by simpa using hu') hc]
          exact repC_ofC g H w u) (by
          intro ri hri
          injection hri with hri
          subst hri
          exact ⟨rfl, hsz, by omega⟩) n1 n2 n3 (by
          intro c hc
          simp only [List.mem_flatten, List.mem_replicate] at hc
          obtain ⟨x, ⟨_, rfl⟩, hc⟩ := hc
          obtain ⟨v, _, rfl⟩ := List.mem_map.1 hc
          exact men1_ofC v d)
      have h7 := h6.put hdst (v := .slice (some ⟨w.heap.size, 0, none⟩) n.toNat m.toNat) (u := { val := .arr d n.toNat, wb := [(d, .cells (some (P.rowI e)) (List.replicate n.toNat (z.cells.toList.map ofC)).flatten)], new := [d] }) (by
        show _ = _ ∧ _ ≤ _
        simp only [up, if_true, true_and]
        omega)
      exact step_fin hrun hK h7 (appB_one rfl rfl)
    · exact h.elim
  · exact h.elim

theorem leftOf_nil (es : Array MapEntry) : leftOf es #[] = es := by
  unfold leftOf
  rw [Array.filter_eq_self]
  simp

theorem ok_range {t : TypeId} {x : Operand} {o : Oper} {u : Upd} (ho : o.op = .range t x) (h : aRange P o.dst (· = u) t (evo F x)) : StepOk P o F B H u := by
  unfold aRange at h
  split at h
  · rename_i kt et ht
    split at h
    · rename_i d ks vs hd hx
      subst h
      intro E g a w hs hdst hnew K Q hK
      obtain ⟨⟨n1, n2⟩, n3⟩ := hnew d (by simp)
      have hev : Rep g.S w (a.eval x) (.map ks vs) := by have := hs.ev x; rw [hx] at this; exact this
      have fin : ∀ (ob : Obj), (execOp a.eval o).run P w = .ok (.value (.pointer (some ⟨w.heap.size, 0, none⟩))) (w.alloc ob) →
          BoxC { g with bk := up g.bk d w.heap.size, cp := up g.cp d 0 } H (w.alloc ob) d (.iter ks vs none) → o.wp P a w K Q := by
        intro ob hrun hC
        have h6 := hs.newObj hC (by simp) n1 n2 n3
        have h7 := h6.put hdst (v := .pointer (some ⟨w.heap.size, 0, none⟩)) (u := { val := .it d, wb := [(d, .iter ks vs none)], new := [d] }) (by show _ = _; simp [up])
        exact step_fin hrun hK h7 (appB_one rfl rfl)
      cases hxe : a.eval x <;> rw [hxe] at hev <;> try cases hev
      · refine fin (.mapIter none 0 #[] 0) ?_ (.inl ⟨rfl, rfl, rfl, by simp only [up, if_true]; exact heap_alloc_new w _⟩)
        simp [execOp, ho, hxe, Instr.range, run_underlying ht, newObj, Sem.run]
      · rename_i b es ck hS hh hnd hbn hk hrk hv hrv
        refine fin (.mapIter (some b) ck #[] ck) ?_ (.inr ⟨b, ck, #[], ck, es, ck, by simp only [up, if_true]; exact heap_alloc_new w _, ?_, hS, hnd, hbn, ⟨Nat.le_refl _, Nat.le_refl _⟩, ?_⟩)
        · simp [execOp, ho, hxe, Instr.range, run_underlying ht, newObj, getObj, Sem.run, hh]
        · rw [heap_alloc_old w _ (Array.getElem?_eq_some_iff.1 hh).1]; exact hh
        · rw [leftOf_nil]
          have ha : Agree g.S w (w.alloc (.mapIter (some b) ck #[] ck)) := Agree.of_heap fun b o hs' => heap_alloc_old w _ (hs.slt b o hs')
          exact ⟨hk, hv, fun i e k he hk => (hrk i e k he hk).agree ha, fun i e k he hk => (hrv i e k he hk).agree ha, by simp⟩
    · exact h.elim
  · exact h.elim

theorem ok_entry {x : Operand} {o : Oper} {u : Upd} (ho : o.op = .entry x) (h : aEntry B (· = u) (evo F x)) : StepOk P o F B H u := by
  unfold aEntry at h
  split at h
  · rename_i n hx
    split at h
    · rename_i ks vs k v hB
      subst h
      refine step_val rfl rfl fun E g a w hs => ?_
      have hev := hs.ev x
      rw [hx] at hev
      have hev' : a.eval x = .pointer (some ⟨g.bk n, 0, none⟩) := hev
      obtain ⟨_, _, hC⟩ := hs.box n _ hB
      rcases hC with ⟨_, _, h, _⟩ | ⟨bm, since, seen, c0, es, ck, h1, h2, h3, h4, h5, h6, h7, h8, h9, h10, h11⟩
      · cases h
      · obtain ⟨e, he, sn, k1, k2, k3, k4⟩ := h11 k v rfl
        subst k1; subst k2
        refine ⟨.tuple #[e.key, e.val], ?_, _, rfl, rfl, fun i u p hu hp => ?_⟩
        · simp only [execOp, ho, hev', Sem.run_bind]
          rw [run_entry_at w (g.bk n) bm since sn es c0 e h1 h2 he h4]
          rfl
        · match i with
          | 0 => simp at hu hp; subst hu; subst hp; exact k3
          | 1 => simp at hu hp; subst hu; subst hp; exact k4
          | i + 2 => simp at hu
    · exact h.elim
  · exact h.elim

/-! ### A step of a loop over a map -/

theorem filter_erase {α : Type} (f : α → Nat) : ∀ (l : List α) (i : Nat) (e : α), (l.map f).Nodup → l[i]? = some e → l.filter (fun x => f x != f e) = l.eraseIdx i
  | [], i, e, _, h => by simp at h
  | x :: r, 0, e, hn, h => by
    simp at h
    subst h
    simp only [List.map_cons, List.nodup_cons] at hn
    simp only [List.filter_cons, bne_self_eq_false, Bool.false_eq_true, if_false, List.eraseIdx_cons_zero]
    refine List.filter_eq_self.2 fun y hy => ?_
    have : f y ≠ f x := fun h => hn.1 (by rw [← h]; exact List.mem_map.2 ⟨y, hy, rfl⟩)
    simpa using this
  | x :: r, i + 1, e, hn, h => by
    simp only [List.map_cons, List.nodup_cons] at hn
    have h' : r[i]? = some e := by simpa using h
    have hne : f x ≠ f e := fun hx => hn.1 (by rw [hx]; exact List.mem_map.2 ⟨e, List.mem_of_getElem? h', rfl⟩)
    have hb : (f x != f e) = true := by simpa using hne
    simp only [List.filter_cons, hb, if_true, List.eraseIdx_cons_succ]
    rw [filter_erase f r i e hn.2 h']

theorem leftOf_push {es : Array MapEntry} {seen : Array Nat} {i : Nat} {e : MapEntry} (hn : (es.toList.map (·.born)).Nodup) (h : (leftOf es seen)[i]? = some e) : (leftOf es (seen.push e.born)).toList = (leftOf es seen).toList.eraseIdx i := by
  have h1 : ((leftOf es seen).toList.map (·.born)).Nodup := by
    unfold leftOf
    rw [Array.toList_filter]
    exact hn.sublist (List.Sublist.map _ List.filter_sublist)
  rw [← filter_erase (·.born) _ i e h1 (by simpa using h)]
  unfold leftOf
  rw [Array.toList_filter, Array.toList_filter, List.filter_filter]
  apply List.filter_congr
  intro x _
  simp only [Array.contains_push]
  by_cases hx : x.born = e.born
  · simp [hx]
  · simp [hx, bne, Bool.and_comm]

theorem next_ok {x : Operand} {o : Oper} {K' : Upd → Prop} (ho : o.op = .next x false) (h : aNext B K' (evo F x)) (hs : Sim P E g a w F B H) (hdst : ∀ d, o.dst = some d → d < a.tmps.size)
    {K : Act → World → Prop} {Q : Exit → Act → World → Prop} (hK : ∀ u v w' g', K' u → u.new = [] → Sim P E g' (a.put o.dst v) w' (appF F o.dst u) (appB B u) (appH H u) → K (a.put o.dst v) w') : o.wp P a w K Q := by
  unfold aNext at h
  split at h
  · rename_i n hx
    split at h
    · rename_i ks vs cur hB
      obtain ⟨h0, h1⟩ := h
      have hev := hs.ev x
      rw [hx] at hev
      have hev' : a.eval x = .pointer (some ⟨g.bk n, 0, none⟩) := hev
      obtain ⟨hb1, hb2, hC⟩ := hs.box n _ hB
      have over : ks = [] → (Instr.next (.pointer (some ⟨g.bk n, 0, none⟩)) false o.type).run P w = .ok (.tuple #[.bool false]) w → o.wp P a w K Q := by
        intro hk hr
        have hrun : (execOp a.eval o).run P w = .ok (.value (.tuple #[.bool false])) w := by
          simp only [execOp, ho, hev', Sem.run_bind, hr, Result.andThen_ok, Sem.run_pure]
        exact step_fin hrun (fun v w' g' hs' => hK _ v w' g' (h0 hk) rfl hs') (hs.put hdst (v := .tuple #[.bool false]) (u := { val := .tup [.bool false], rb := [n] }) ⟨_, rfl, rfl, fun i u p hu hp => by
          match i with
          | 0 => simp at hu hp; subst hu; subst hp; exact Rep.bool _
          | i + 1 => simp at hu⟩) (appB_nil rfl)
      rcases hC with ⟨k1, _, _, k4⟩ | ⟨bm, since, seen, c0, es, ck, k1, k2, k3, k4, k5, ⟨k6, k6'⟩, k7, k8, k9, k10, k11⟩
      · refine over k1 ?_
        simp [Instr.next, getObj, Sem.run, k4]
      · rcases run_next_at (P := P) w o.type (g.bk n) bm since c0 seen es ck k1 k2 k5 k6 with ⟨z1, z2⟩ | ⟨e, he, w1, hw1, hrun⟩
        · exact over (List.eq_nil_of_length_eq_zero (by omega)) z2
        · obtain ⟨i, hi, hie⟩ := List.mem_iff_getElem.1 he
          have hie' : (leftOf es seen)[i]? = some e := by
            rw [← Array.getElem?_toList, List.getElem?_eq_getElem hi, hie]
          have hil : i < (leftOf es seen).size := by simpa using hi
          have hki : ks[i]? = some (ks[i]'(by omega)) := List.getElem?_eq_getElem _
          have hvi : vs[i]? = some (vs[i]'(by omega)) := List.getElem?_eq_getElem _
          have hs1 : Sim P E g a w1 F B H := by
            rcases hw1 with rfl | rfl
            · exact hs
            · exact hs.drew
          have hw1h : w1.heap = w.heap := by rcases hw1 with rfl | rfl <;> rfl
          have hlt := (Array.getElem?_eq_some_iff.1 k1).1
          have hne : bm ≠ g.bk n := by rintro rfl; exact hb2 _ k3
          have oth : ∀ k, k ≠ g.bk n → (ChangeMaps.setBlock w1 (g.bk n) (.mapIter (some bm) since (seen.push e.born) ck)).heap[k]? = w1.heap[k]? := fun k hk => by
            simp [ChangeMaps.setBlock, Array.getElem?_setIfInBounds_ne (Ne.symm hk)]
          have ha : Agree g.S w (ChangeMaps.setBlock w1 (g.bk n) (.mapIter (some bm) since (seen.push e.born) ck)) := Agree.of_heap fun b o hS => by
            rw [oth b (by rintro rfl; exact hb2 o hS), hw1h]
          have hrk := k9 i e _ hie' hki
          have hrv := k10 i e _ hie' hvi
          have hpush := leftOf_push k4 hie'
          have hsz : (leftOf es (seen.push e.born)).size = (leftOf es seen).size - 1 := by
            have := congrArg List.length hpush
            rw [List.length_eraseIdx, if_pos hi] at this
            simpa using this
          have hget : ∀ j, (leftOf es (seen.push e.born))[j]? = ((leftOf es seen).toList.eraseIdx i)[j]? := fun j => by rw [← hpush, Array.getElem?_toList]
          have h2 := hs1.setObj hB (o' := .iter (ks.eraseIdx i) (vs.eraseIdx i) (some (ks[i]'(by omega), vs[i]'(by omega)))) (w' := ChangeMaps.setBlock w1 (g.bk n) (.mapIter (some bm) since (seen.push e.born) ck)) rfl rfl rfl (by simp [ChangeMaps.setBlock]) oth
            (.inr ⟨bm, since, seen.push e.born, ck, es, ck, ?_, ?_, k3, k4, k5, ⟨k6', k6'⟩, ?_, ?_, ?_, ?_, ?_⟩) (by simp)
          · have hrun' : (execOp a.eval o).run P w = .ok (.value (.tuple #[.bool true, e.key, e.val])) (ChangeMaps.setBlock w1 (g.bk n) (.mapIter (some bm) since (seen.push e.born) ck)) := by
              simp only [execOp, ho, hev', Sem.run_bind, hrun, Result.andThen_ok, Sem.run_pure]
            refine step_fin hrun' (fun v w' g' hs' => hK _ v w' g' (h1 i _ _ hki hvi) rfl hs') (h2.put hdst (v := .tuple #[.bool true, e.key, e.val])
              (u := { val := .tup [.bool true, ks[i]'(by omega), vs[i]'(by omega)], rb := [n], wb := [(n, .iter (ks.eraseIdx i) (vs.eraseIdx i) (some (ks[i]'(by omega), vs[i]'(by omega))))] }) ⟨_, rfl, rfl, fun j u p hu hp => ?_⟩) (appB_one rfl rfl)
            match j with
            | 0 => simp at hu hp; subst hu; subst hp; exact Rep.bool _
            | 1 => simp at hu hp; subst hu; subst hp; exact hrk.agree ha
            | 2 => simp at hu hp; subst hu; subst hp; exact hrv.agree ha
            | j + 3 => simp at hu
          · simp [ChangeMaps.setBlock, hw1h, hlt]
          · rw [oth bm hne, hw1h]; exact k2
          · rw [hsz, List.length_eraseIdx, if_pos (by omega)]; omega
          · rw [hsz, List.length_eraseIdx, if_pos (by omega)]; omega
          · intro j e' q hj hq
            rw [hget j, List.getElem?_eraseIdx] at hj
            rw [List.getElem?_eraseIdx] at hq
            split at hj
            · rename_i hlt'; rw [if_pos hlt'] at hq; exact (k9 j e' q (by simpa using hj) hq).agree ha
            · rename_i hlt'; rw [if_neg hlt'] at hq; exact (k9 _ e' q (by simpa using hj) hq).agree ha
          · intro j e' q hj hq
            rw [hget j, List.getElem?_eraseIdx] at hj
            rw [List.getElem?_eraseIdx] at hq
            split at hj
            · rename_i hlt'; rw [if_pos hlt'] at hq; exact (k10 j e' q (by simpa using hj) hq).agree ha
            · rename_i hlt'; rw [if_neg hlt'] at hq; exact (k10 _ e' q (by simpa using hj) hq).agree ha
          · intro k v hkv
            injection hkv with hkv
            injection hkv with e1 e2
            subst e1; subst e2
            refine ⟨e, ?_, seen, rfl, rfl, hrk.agree ha, hrv.agree ha⟩
            unfold leftOf at he
            rw [Array.toList_filter] at he
            exact (List.mem_filter.1 he).1
    · exact h.elim
  · exact h.elim

/-! ### A call that turns what it is lent -/

theorem RepC.wk1 {v : Value} {x y : LV} (h : RepC g H w v x) (hw : x.wk1 y) : RepC g H w v y := by
  rcases hw with rfl | ⟨p, hp, rfl⟩
  · exact h
  · exact h.one hp

theorem wkL1_len : ∀ {xs ys : List LV}, wkL1 xs ys → xs.length = ys.length ∧ ∀ (j : Nat) (x y : LV), xs[j]? = some x → ys[j]? = some y → x.wk1 y
  | [], [], _ => by simp
  | x :: xs, y :: ys, h => by
    obtain ⟨h1, h2⟩ := h
    obtain ⟨h3, h4⟩ := wkL1_len h2
    refine ⟨by simp [h3], fun j a b ha hb => ?_⟩
    cases j with
    | zero => simp at ha hb; subst ha; subst hb; exact h1
    | succ j => exact h4 j a b (by simpa using ha) (by simpa using hb)
  | [], _ :: _, h => h.elim
  | _ :: _, [], h => h.elim

theorem wkL_len : ∀ {xs ys : List LV}, wkL xs ys → xs.length = ys.length ∧ ∀ (j : Nat) (x y : LV), xs[j]? = some x → ys[j]? = some y → x.wk y
  | [], [], _ => by simp
  | x :: xs, y :: ys, h => by
    obtain ⟨h1, h2⟩ := h
    obtain ⟨h3, h4⟩ := wkL_len h2
    refine ⟨by simp [h3], fun j a b ha hb => ?_⟩
    cases j with
    | zero => simp at ha hb; subst ha; subst hb; exact h1
    | succ j => exact h4 j a b (by simpa using ha) (by simpa using hb)
  | [], _ :: _, h => h.elim
  | _ :: _, [], h => h.elim

theorem RepV.wk {v : Value} {x y : LV} (h : RepV g H w v x) (hw : x.wk y) : RepV g H w v y := by
  rcases hw with rfl | ⟨p, hp, rfl⟩ | ⟨xs, ys, rfl, rfl, hl⟩
  · exact h
  · exact h.pure hp
  · obtain ⟨vs, h1, h2, h3⟩ := h
    obtain ⟨h4, h5⟩ := wkL1_len hl
    refine ⟨vs, h1, by omega, fun j u c hu hc => ?_⟩
    have hlt := (Array.getElem?_eq_some_iff.1 hu).1
    have hx : xs[j]? = some (xs[j]'(by omega)) := List.getElem?_eq_getElem _
    obtain ⟨k1, k2⟩ := h3 j u _ hu hx
    exact ⟨k1, k2.wk1 (h5 j _ c hx hc)⟩

/-- The words of a caller, read by the names of a contract. -/
theorem RepC.unren {v : Value} {x : LV} {ρ : Nat → Nat} (h : RepC g H w v (x.ren1 ρ)) : RepC ⟨g.S, fun n => g.bk (ρ n), fun n => g.hd (ρ n), fun n => g.cp (ρ n)⟩ noH w v x := by
  cases x with
  | sl k l => exact ⟨h, fun _ _ hk => by cases hk⟩
  | cl f c =>
    have h' : v = _ := h
    show v = _
    rw [h']
    simp only [List.map_map]
    rfl
  | _ => exact h

theorem RepV.unren {v : Value} {x : LV} {ρ : Nat → Nat} (h : RepV g H w v (x.ren ρ)) : RepV ⟨g.S, fun n => g.bk (ρ n), fun n => g.hd (ρ n), fun n => g.cp (ρ n)⟩ noH w v x := by
  cases x with
  | ag cs =>
    obtain ⟨vs, h1, h2, h3⟩ := h
    refine ⟨vs, h1, by simpa using h2, fun j u c hu hc => ?_⟩
    obtain ⟨k1, k2⟩ := h3 j u (c.ren1 ρ) hu (by rw [List.getElem?_map, hc]; rfl)
    exact ⟨k1, k2.unren⟩
  | tup l => exact h
  | sl k l => exact RepC.unren (H := H) (x := .sl k l) h
  | cl f c => exact RepC.unren (w := w) (H := H) (x := .cl f c) h
  | undef => exact h
  | junk => exact h
  | pv p => exact h
  | full l => exact h
  | bp n o => exact h
  | arr n l => exact h
  | mr n => exact h
  | it n => exact h

theorem BoxC.unren {n : Nat} {o o' : BO} {ρ : Nat → Nat} (h : BoxC g H w (ρ n) o') (hw : o'.wk (o.ren ρ)) : BoxC ⟨g.S, fun n => g.bk (ρ n), fun n => g.hd (ρ n), fun n => g.cp (ρ n)⟩ noH w n o := by
  cases o with
  | cells r cs =>
    cases o' with
    | cells r' ds =>
      obtain ⟨hr, hl⟩ := hw
      obtain ⟨h1, h2⟩ := wkL1_len hl
      obtain ⟨vs, t, h3, h4, h5, h6⟩ := h
      refine ⟨vs, t, h3, by simp at h1; omega, fun j u c hu hc => ?_, fun ri hri => ?_⟩
      · have hlt := (List.getElem?_eq_some_iff.1 hc).1
        have hd : ds[j]? = some (ds[j]'(by simp at h1; omega)) := List.getElem?_eq_getElem _
        obtain ⟨k1, k2⟩ := h5 j u _ hu hd
        exact ⟨k1, (k2.wk1 (h2 j _ (c.ren1 ρ) hd (by rw [List.getElem?_map, hc]; rfl))).unren⟩
      · rcases hr with hr | hr
        · rw [hr] at hri; cases hri
        · exact h6 ri (by rw [hr]; exact hri)
    | _ => exact hw.elim
  | map ks vs =>
    cases o' with
    | map ks' vs' =>
      obtain ⟨e1, e2⟩ := hw
      subst e1; subst e2
      exact h
    | _ => exact hw.elim
  | iter ks vs c => cases o' <;> exact hw.elim
  | dead => cases o' <;> exact hw.elim

/-- The words of a contract, read by the names of a caller. -/
theorem RepC.renTo {g' : Gh} {v : Value} {x : LV} {ρ : Nat → Nat} {ns : List Nat} (h : RepC g' noH w v x) (ho : x.only1 ns = true) (hS : ∀ b i, g'.S b i → g.S b i) (hn : ∀ n ∈ ns, g.bk (ρ n) = g'.bk n ∧ g.cp (ρ n) = g'.cp n) : RepC g H w v (x.ren1 ρ) := by
  have mem : ∀ n, ns.contains n = true → n ∈ ns := fun n h => by simpa using h
  cases x with
  | sl k l => simp [LV.only1] at ho
  | undef => exact h
  | junk => trivial
  | pv p => exact Rep.more h hS
  | full l => exact ⟨h.1.more hS, h.2⟩
  | bp n o => have := hn n (mem n ho); show v = _; rw [this.1]; exact h
  | arr n l => have := hn n (mem n ho); show v = _ ∧ _; rw [this.1, this.2]; exact h
  | mr n => have := hn n (mem n ho); show v = _; rw [this.1]; exact h
  | it n => have := hn n (mem n ho); show v = _; rw [this.1]; exact h
  | cl f c =>
    have h' : v = _ := h
    show v = _
    rw [h']
    simp only [List.map_map]
    congr 2
    apply List.map_congr_left
    intro y hy
    simp only [LV.only1, List.all_eq_true] at ho
    have := hn y.1 (mem _ (ho y hy))
    simp only [Function.comp]
    rw [this.1]
  | ag cs => exact h
  | tup l => exact h

theorem RepV.renTo {g' : Gh} {v : Value} {x : LV} {ρ : Nat → Nat} {ns : List Nat} (h : RepV g' noH w v x) (ho : x.only ns = true) (hS : ∀ b i, g'.S b i → g.S b i) (hn : ∀ n ∈ ns, g.bk (ρ n) = g'.bk n ∧ g.cp (ρ n) = g'.cp n) : RepV g H w v (x.ren ρ) := by
  cases x with
  | ag cs =>
    obtain ⟨vs, h1, h2, h3⟩ := h
    refine ⟨vs, h1, by simpa using h2, fun j u c hu hc => ?_⟩
    rw [List.getElem?_map] at hc
    cases hcj : cs[j]? with
    | none => rw [hcj] at hc; cases hc
    | some d =>
      rw [hcj] at hc
      simp at hc
      subst hc
      obtain ⟨k1, k2⟩ := h3 j u d hu hcj
      simp only [LV.only, List.all_eq_true] at ho
      exact ⟨k1, k2.renTo (ho d (List.mem_of_getElem? hcj)) hS hn⟩
  | tup l =>
    obtain ⟨vs, h1, h2⟩ := h
    exact ⟨vs, h1, h2.mono hS (Agree.refl _ _)⟩
  | sl k l => exact RepC.renTo (w := w) (H := H) (x := .sl k l) h ho hS hn
  | cl f c => exact RepC.renTo (w := w) (H := H) (x := .cl f c) h ho hS hn
  | undef => exact RepC.renTo (w := w) (H := H) (x := .undef) h ho hS hn
  | junk => trivial
  | pv p => exact RepC.renTo (w := w) (H := H) (x := .pv p) h ho hS hn
  | full l => exact RepC.renTo (w := w) (H := H) (x := .full l) h ho hS hn
  | bp n o => exact RepC.renTo (w := w) (H := H) (x := .bp n o) h ho hS hn
  | arr n l => exact RepC.renTo (w := w) (H := H) (x := .arr n l) h ho hS hn
  | mr n => exact RepC.renTo (w := w) (H := H) (x := .mr n) h ho hS hn
  | it n => exact RepC.renTo (w := w) (H := H) (x := .it n) h ho hS hn

theorem BoxC.renTo {g' : Gh} {n : Nat} {o : BO} {ρ : Nat → Nat} {ns : List Nat} (h : BoxC g' noH w n o) (hno : n ∈ ns) (ho : o.only ns = true) (hS : ∀ b i, g'.S b i → g.S b i) (hn : ∀ n ∈ ns, g.bk (ρ n) = g'.bk n ∧ g.cp (ρ n) = g'.cp n) : BoxC g H w (ρ n) (o.ren ρ) := by
  have e := hn n hno
  cases o with
  | cells r cs =>
    obtain ⟨vs, t, h3, h4, h5, h6⟩ := h
    refine ⟨vs, t, by rw [e.1]; exact h3, by simpa using h4, fun j u c hu hc => ?_, by rw [e.2]; exact h6⟩
    rw [List.getElem?_map] at hc
    cases hcj : cs[j]? with
    | none => rw [hcj] at hc; cases hc
    | some d =>
      rw [hcj] at hc
      simp at hc
      subst hc
      obtain ⟨k1, k2⟩ := h5 j u d hu hcj
      simp only [BO.only, List.all_eq_true] at ho
      exact ⟨k1, k2.renTo (ho d (List.mem_of_getElem? hcj)) hS hn⟩
  | map ks xs =>
    obtain ⟨es, ck, h1, hb, h2, h3, h4, h5⟩ := h
    exact ⟨es, ck, by rw [e.1]; exact h1, hb, h2, h3, fun i e k he hk => (h4 i e k he hk).more hS, fun i e k he hk => (h5 i e k he hk).more hS⟩
  | iter ks xs c => simp [BO.only] at ho
  | dead => simp [BO.only] at ho

theorem lk_map {α : Type} {ρ : Nat → Nat} {f : α → α} : ∀ {l : List (Nat × α)} {n : Nat}, (∀ k ∈ keys l, ρ k = ρ n → k = n) → lk (ρ n) (l.map fun x => (ρ x.1, f x.2)) = (lk n l).map f
  | [], n, _ => rfl
  | (j, v) :: r, n, h => by
    simp only [List.map_cons, lk]
    by_cases hj : j = n
    · subst hj; simp
    · have : ρ j ≠ ρ n := fun e => hj (h j (by simp [keys]) e)
      simp only [if_neg hj, if_neg this]
      exact lk_map fun k hk => h k (by simp only [keys, List.map_cons, List.mem_cons]; exact .inr hk)

theorem lk_map_none {α : Type} {ρ : Nat → Nat} {f : α → α} : ∀ {l : List (Nat × α)} {n : Nat}, (∀ k ∈ keys l, ρ k ≠ n) → lk n (l.map fun x => (ρ x.1, f x.2)) = none
  | [], n, _ => rfl
  | (j, v) :: r, n, h => by
    simp only [List.map_cons, lk]
    rw [if_neg (h j (by simp [keys]))]
    exact lk_map_none fun k hk => h k (by simp only [keys, List.map_cons, List.mem_cons]; exact .inr hk)

theorem lk_key {α : Type} : ∀ {l : List (Nat × α)} {n : Nat}, n ∈ keys l → ∃ v, lk n l = some v
  | [], n, h => by simp [keys] at h
  | (j, v) :: r, n, h => by
    simp only [lk]
    by_cases hj : j = n
    · exact ⟨v, by simp [hj]⟩
    · rw [if_neg hj]
      simp only [keys, List.map_cons, List.mem_cons] at h
      rcases h with h | h
      · exact absurd h.symm hj
      · exact lk_key h
theorem key_lk {α : Type} : ∀ {l : List (Nat × α)} {n : Nat} {v : α}, lk n l = some v → n ∈ keys l ∧ (n, v) ∈ l
  | [], n, v, h => by cases h
  | (j, x) :: r, n, v, h => by
    simp only [lk] at h
    split at h
    · rename_i hj; injection h with h; subst h; subst hj; simp [keys]
    · obtain ⟨h1, h2⟩ := key_lk h
      exact ⟨by simp only [keys, List.map_cons, List.mem_cons]; exact .inr h1, by simp [h2]⟩

def sel {α : Type} (ns : List Nat) (ρ : Nat → Nat) (F0 G0 : Nat → α) (k : Nat) : α := match ns.find? fun m => ρ m == k with
  | some m => F0 m
  | none => G0 k

theorem sel_in {α : Type} {ns : List Nat} {ρ : Nat → Nat} {F0 G0 : Nat → α} {m : Nat} (hm : m ∈ ns) (hi : ∀ k ∈ ns, ρ k = ρ m → k = m) : sel ns ρ F0 G0 (ρ m) = F0 m := by
  unfold sel
  split
  · rename_i k hk
    have h1 := List.mem_of_find?_eq_some hk
    have h2 := List.find?_some hk
    rw [hi k h1 (by simpa using h2)]
  · rename_i hk
    have := List.find?_eq_none.1 hk m hm
    simp at this
theorem sel_out {α : Type} {ns : List Nat} {ρ : Nat → Nat} {F0 G0 : Nat → α} {k : Nat} (hk : ∀ m ∈ ns, ρ m ≠ k) : sel ns ρ F0 G0 k = G0 k := by
  unfold sel
  split
  · rename_i m hm
    exact absurd (by simpa using List.find?_some hm) (hk m (List.mem_of_find?_eq_some hm))
  · rfl

theorem keys_dead {ns ms : List Nat} {k : Nat} : k ∈ keys (deadOf ns ms) ↔ k ∈ ns ∧ k ∉ ms := by
  simp [keys, deadOf]
theorem lk_dead {ns ms : List Nat} {k : Nat} {o : BO} (h : lk k (deadOf ns ms) = some o) : o = .dead := by
  have := (key_lk h).2
  simp only [deadOf, List.mem_map, List.mem_filter] at this
  obtain ⟨x, _, hx⟩ := this
  injection hx with _ hx
  exact hx.symm

theorem ok_callX {c : Call} {fo : Operand} {o : Oper} {u : Upd} (ho : o.op = .call c) (hc : c.callee = .value fo) (h : aCallX P B (· = u) (evo F fo) (c.args.toList.map (evo F))) : StepOk P o F B H u := by
  obtain ⟨f, as, cx, ρ, hfv, hg, hok, hwk, hpre, hinj, rfl⟩ := h
  intro E g a w hs hd hnew K Q hK
  simp only [CX.ok, Bool.and_eq_true, List.all_eq_true] at hok
  obtain ⟨hok1, hok2⟩ := hok
  have inj : ∀ n m, n ∈ keys cx.pre ∨ n ∈ keys cx.post → m ∈ keys cx.pre ∨ m ∈ keys cx.post → ρ n = ρ m → n = m := fun n m hn hm => hinj n m (List.mem_append.2 hn) (List.mem_append.2 hm)
  -- the values of the arguments
  have argv : ∀ (i : Nat) (v : Value) (x : LV), (c.args.toList.map a.eval)[i]? = some v → (c.args.toList.map (evo F))[i]? = some x → RepV g H w v x := by
    intro i v x hv hx
    rw [List.getElem?_map] at hv hx
    cases hi : c.args.toList[i]? with
    | none => rw [hi] at hv; cases hv
    | some y =>
      rw [hi] at hv hx
      simp at hv hx
      subst hv; subst hx
      exact hs.ev y
  obtain ⟨vs, hrun, hvl, hva⟩ : ∃ vs : List Value, (execOp a.eval o).run P w = (callFunc f vs.toArray).run P w ∧ vs.length = as.length ∧ ∀ (i : Nat) (v : Value) (x : LV), vs[i]? = some v → as[i]? = some x → RepV g H w v x := by
    have run : ∀ (cv : Array Value), a.eval fo = .func (.func f) #[] cv → (execOp a.eval o).run P w = (callFunc f (c.args.toList.map a.eval ++ cv.toList).toArray).run P w := by
      intro cv hf
      have e1 : c.args.map a.eval ++ cv = (c.args.toList.map a.eval ++ cv.toList).toArray := by apply Array.ext'; simp
      simp only [execOp, ho, resolve, hc, hf, Sem.run_bind, Sem.run_pure, Result.andThen_ok]
      simp [Deferred.ofValue, invoke, e1]
    rcases hfv with ⟨cap, hf, rfl⟩ | ⟨caps, hf, rfl⟩
    · have hev : Rep g.S w (a.eval fo) (.clo f cap) := by have := hs.ev fo; rw [hf] at this; exact this
      cases hx : a.eval fo <;> rw [hx] at hev <;> try cases hev
      rename_i cv hcl hcr
      refine ⟨c.args.toList.map a.eval ++ cv.toList, run cv hx, by simp [hcl], fun i v x hv hx => ?_⟩
      rw [List.getElem?_append] at hv hx
      simp only [List.length_map] at hv hx
      split at hv
      · rename_i hi; rw [if_pos hi] at hx; exact argv i v x hv hx
      · rename_i hi
        rw [if_neg hi, List.getElem?_map] at hx
        cases hq : cap[i - c.args.toList.length]? with
        | none => rw [hq] at hx; cases hx
        | some q =>
          rw [hq] at hx
          simp at hx
          subst hx
          exact hcr _ v q (by simpa using hv) hq
    · have hev : a.eval fo = .func (.func f) #[] (caps.map fun c => Value.pointer (some ⟨g.bk c.1, c.2, none⟩)).toArray := by have := hs.ev fo; rw [hf] at this; exact this
      refine ⟨c.args.toList.map a.eval ++ caps.map fun c => Value.pointer (some ⟨g.bk c.1, c.2, none⟩), ?_, by simp, fun i v x hv hx => ?_⟩
      · have := run _ hev; simpa using this
      · rw [List.getElem?_append] at hv hx
        simp only [List.length_map] at hv hx
        split at hv
        · rename_i hi; rw [if_pos hi] at hx; exact argv i v x hv hx
        · rename_i hi
          rw [if_neg hi] at hx
          rw [List.getElem?_map] at hv hx
          cases hq : caps[i - c.args.toList.length]? with
          | none => rw [hq] at hv; cases hv
          | some q =>
            rw [hq] at hv hx
            simp at hv hx
            subst hv; subst hx
            rfl
  let gc : Gh := ⟨g.S, fun n => g.bk (ρ n), fun n => g.hd (ρ n), fun n => g.cp (ρ n)⟩
  obtain ⟨hwl, hwg⟩ := wkL_len hwk
  have hlent : LentOk gc w cx.pre := by
    refine ⟨fun n o hn => ?_, fun n m hn hm hne => ?_, hs.slt⟩
    · obtain ⟨o', hB, hw⟩ := hpre n o hn
      obtain ⟨k1, k2, k3⟩ := hs.box _ _ hB
      exact ⟨k2, k3.unren hw, hs.boxBlock hB⟩
    · obtain ⟨o1, h1⟩ := lk_key hn
      obtain ⟨o2, h2⟩ := lk_key hm
      obtain ⟨_, hB1, _⟩ := hpre n o1 h1
      obtain ⟨_, hB2, _⟩ := hpre m o2 h2
      exact hs.dist _ _ _ _ hB1 hB2 fun e => hne (inj n m (.inl hn) (.inl hm) e)
  have hcall := hg.2 gc w vs hlent (by simp at hwl; omega) (fun i v x hv hx => by
    have hi := (List.getElem?_eq_some_iff.1 hv).1
    have ha : as[i]? = some (as[i]'(by omega)) := List.getElem?_eq_getElem _
    exact (RepV.wk (hva i v _ hv ha) (hwg i _ (x.ren ρ) ha (by rw [List.getElem?_map, hx]; rfl))).unren)
  unfold Oper.wp
  rw [hrun, hg.1 vs.toArray w]
  refine hcall.mono ?_
  rintro e w' ⟨v, g', rfl, hrv, hbel, hpost, hkeep, hnold, hgS⟩
  -- what is not lent stays
  have lentB : ∀ n, n ∈ keys cx.pre → ∃ o', B (ρ n) = some o' := fun n hn => by
    obtain ⟨o, ho⟩ := lk_key hn
    obtain ⟨o', h, _⟩ := hpre n o ho
    exact ⟨o', h⟩
  have oldOf : ∀ b, b < w.heap.size → (∀ n, n ∈ keys cx.pre → b ≠ g.bk (ρ n)) → OldX gc w (keys cx.pre) b := fun b h1 h2 => ⟨h1, h2⟩
  have oldE : ∀ b, E.Old b → OldX gc w (keys cx.pre) b := fun b hb => oldOf b (hs.old b hb) fun n hn hbn => by
    obtain ⟨o', h⟩ := lentB n hn
    exact (hs.box _ _ h).1 (hbn ▸ hb)
  have oldS : ∀ b i, g.S b i → OldX gc w (keys cx.pre) b := fun b i hb => oldOf b (hs.slt b i hb) fun n hn hbn => by
    obtain ⟨o', h⟩ := lentB n hn
    exact (hs.box _ _ h).2.1 i (hbn ▸ hb)
  have oldB : ∀ n o, B n = some o → (∀ m, m ∈ keys cx.pre → ρ m ≠ n) → OldX gc w (keys cx.pre) (g.bk n) := fun n o hB hne => oldOf _ (hs.boxBlock hB) fun m hm => by
    obtain ⟨o', h⟩ := lentB m hm
    exact hs.dist _ _ _ _ hB h fun e => hne m hm e.symm
  have oldR : ∀ k x b, H k = some x → RB g k b → OldX gc w (keys cx.pre) b := fun k x b hk hr => by
    obtain ⟨_, cur, cap, _, _, _, h7, _⟩ := hs.rowBlock hk hr
    refine oldOf b (Array.getElem?_eq_some_iff.1 h7).1 fun m hm hbm => ?_
    obtain ⟨o', h⟩ := lentB m hm
    exact hs.rbox k x b _ _ hk hr h hbm.symm
  let G : Gh := ⟨fun b i => g.S b i ∨ g'.S b i, sel (keys cx.post) ρ g'.bk g.bk, g.hd, sel (keys cx.post) ρ g'.cp g.cp⟩
  have selB : ∀ m, m ∈ keys cx.post → G.bk (ρ m) = g'.bk m ∧ G.cp (ρ m) = g'.cp m := fun m hm => ⟨sel_in hm fun k hk e => inj k m (.inr hk) (.inr hm) e, sel_in hm fun k hk e => inj k m (.inr hk) (.inr hm) e⟩
  have selO : ∀ k, (∀ m, m ∈ keys cx.post → ρ m ≠ k) → G.bk k = g.bk k ∧ G.cp k = g.cp k := fun k hk => ⟨sel_out hk, sel_out hk⟩
  have hSS : ∀ b i, g.S b i → G.S b i := fun _ _ h => .inl h
  have hSS' : ∀ b i, g'.S b i → G.S b i := fun _ _ h => .inr h
  have ha : Agree g.S w w' := Agree.of_heap fun b i hb => hbel.block b (oldS b i hb)
  -- a name that is not new stands for what it stood for
  have hnm : ∀ k, (∀ m, m ∈ keys cx.post → m ∉ keys cx.pre → ρ m ≠ k) → NameOk g H G H k := by
    intro k hk
    refine ⟨?_, fun _ _ h => h⟩
    by_cases hex : ∃ m, m ∈ keys cx.post ∧ ρ m = k
    · obtain ⟨m, hm, rfl⟩ := hex
      have hmp : m ∈ keys cx.pre := Classical.byContradiction fun h => hk m hm h rfl
      obtain ⟨h1, h2⟩ := hkeep m hmp hm
      obtain ⟨h3, h4⟩ := selB m hm
      exact ⟨h3.trans h1, h4.trans h2⟩
    · exact selO k fun m hm e => hex ⟨m, hm, e⟩
  have newIn : ∀ m, m ∈ keys cx.post → m ∉ keys cx.pre → NoMen F B (ρ m) ∧ ¬ E.L (ρ m) := fun m hm hp => hnew (ρ m) (by
    refine List.mem_map.2 ⟨m, List.mem_filter.2 ⟨hm, by simpa using hp⟩, rfl⟩)
  have nmF : ∀ s k, (F s).men k = true → NameOk g H G H k := fun s k hk => hnm k (by
    rintro m hm hp rfl
    rw [(newIn m hm hp).1.1 s] at hk; cases hk)
  have nmB : ∀ n o, B n = some o → ∀ k, o.men k = true → NameOk g H G H k := fun n o hB k hk => hnm k (by
    rintro m hm hp rfl
    rw [(newIn m hm hp).1.2 n o hB] at hk; cases hk)
  -- what stands under a name
  have cases_ : ∀ n o, appB B { val := cx.rs.ren ρ, rb := (keys cx.pre).map ρ, wb := (deadOf (keys cx.pre) (keys cx.post) ++ cx.post).map fun x => (ρ x.1, x.2.ren ρ), new := ((keys cx.post).filter fun n => !(keys cx.pre).contains n).map ρ } n = some o →
      (∃ m p, m ∈ keys cx.post ∧ ρ m = n ∧ lk m cx.post = some p ∧ o = p.ren ρ) ∨ (B n = some o ∧ (∀ m, m ∈ keys cx.pre → ρ m ≠ n) ∧ ∀ m, m ∈ keys cx.post → ρ m ≠ n) := by
    intro n o hn
    simp only [appB] at hn
    have hk : ∀ k, k ∈ keys (deadOf (keys cx.pre) (keys cx.post) ++ cx.post) ↔ (k ∈ keys cx.pre ∧ k ∉ keys cx.post) ∨ k ∈ keys cx.post := fun k => by
      have : keys (deadOf (keys cx.pre) (keys cx.post) ++ cx.post) = keys (deadOf (keys cx.pre) (keys cx.post)) ++ keys cx.post := by simp [keys]
      rw [this, List.mem_append, keys_dead]
    by_cases hex : ∃ m, (m ∈ keys cx.pre ∨ m ∈ keys cx.post) ∧ ρ m = n
    · obtain ⟨m, hm, rfl⟩ := hex
      rw [lk_map (fun k hk' e => inj k m (by rcases (hk k).1 hk' with h | h; exact .inl h.1; exact .inr h) hm e), lk_app] at hn
      by_cases hmp : m ∈ keys cx.post
      · obtain ⟨p, hp⟩ := lk_key hmp
        have hnd : lk m (deadOf (keys cx.pre) (keys cx.post)) = none := by
          cases hq : lk m (deadOf (keys cx.pre) (keys cx.post)) with
          | none => rfl
          | some q => exact absurd hmp (keys_dead.1 (key_lk hq).1).2
        rw [hnd, hp] at hn
        refine .inl ⟨m, p, hmp, rfl, hp, ?_⟩
        have hon := hok2 _ (key_lk hp).2
        simp only [Option.map_some] at hn
        cases p with
        | cells r cs => simpa [BO.ren, BO.alive] using hn.symm
        | map ks vs => simpa [BO.ren, BO.alive] using hn.symm
        | iter ks vs c => simp [BO.only] at hon
        | dead => simp [BO.only] at hon
      · have hmd : m ∈ keys (deadOf (keys cx.pre) (keys cx.post)) := keys_dead.2 ⟨hm.resolve_right hmp, hmp⟩
        obtain ⟨q, hq⟩ := lk_key hmd
        have := lk_dead hq
        subst this
        rw [hq] at hn
        simp [BO.ren, BO.alive] at hn
    · rw [lk_map_none (fun k hk' e => hex ⟨k, by rcases (hk k).1 hk' with h | h; exact .inl h.1; exact .inr h, e⟩)] at hn
      exact .inr ⟨hn, fun m hm e => hex ⟨m, .inl hm, e⟩, fun m hm e => hex ⟨m, .inr hm, e⟩⟩
  have hsim : Sim P E G a w' F (appB B { val := cx.rs.ren ρ, rb := (keys cx.pre).map ρ, wb := (deadOf (keys cx.pre) (keys cx.post) ++ cx.post).map fun x => (ρ x.1, x.2.ren ρ), new := ((keys cx.post).filter fun n => !(keys cx.pre).contains n).map ρ }) H := by
    refine ⟨hs.defers, hs.below.trans (hbel.mono oldE), fun b hb => Nat.lt_of_lt_of_le (hs.old b hb) hbel.size, fun b i hb => .inl (hs.s0 b i hb), ?_, ?_, fun s => (hs.slots s).move hSS ha fun k hk => nmF s k hk, ?_, ?_, ?_, ?_, ?_, hs.rdist, ?_⟩
    · rintro b i (hb | hb)
      · exact hs.snew b i hb
      · rcases hgS b i hb with h | h
        · exact hs.snew b i h
        · exact .inr fun ho => h (oldE b ho)
    · rintro b i (hb | hb)
      · exact Nat.lt_of_lt_of_le (hs.slt b i hb) hbel.size
      · exact hpost.slt b i hb
    · intro n o hn
      rcases cases_ n o hn with ⟨m, p, hm, rfl, hp, rfl⟩ | ⟨hB, _, _⟩
      · have hon := hok2 _ (key_lk hp).2
        cases p <;> simp [BO.only] at hon <;> simp [BO.ren]
      · exact hs.alive n o hB
    · intro n o hn
      rcases cases_ n o hn with ⟨m, p, hm, rfl, hp, rfl⟩ | ⟨hB, h1, h2⟩
      · obtain ⟨k1, k2, k3⟩ := hpost.box m p hp
        have hno := hnold m hm
        refine ⟨?_, ?_, k2.renTo hm (hok2 _ (key_lk hp).2) hSS' selB⟩
        · rw [(selB m hm).1]; exact fun ho => hno (oldE _ ho)
        · rw [(selB m hm).1]
          rintro i (hb | hb)
          · exact hno (oldS _ i hb)
          · exact k1 i hb
      · have hold := oldB n o hB h1
        refine (hs.box n o hB).move hSS ha (selO n h2) ?_ (hbel.block _ hold) (nmB n o hB)
        rintro i (hb | hb)
        · exact (hs.box n o hB).2.1 i hb
        · rcases hgS _ i hb with h | h
          · exact (hs.box n o hB).2.1 i h
          · exact h hold
    · intro n n' o o' hn hn' hne
      rcases cases_ n o hn with ⟨m, p, hm, rfl, hp, rfl⟩ | ⟨hB, h1, h2⟩ <;> rcases cases_ n' o' hn' with ⟨m', p', hm', rfl, hp', rfl⟩ | ⟨hB', h1', h2'⟩
      · rw [(selB m hm).1, (selB m' hm').1]
        exact hpost.dist m m' hm hm' fun e => hne (by rw [e])
      · rw [(selB m hm).1, (selO n' h2').1]
        exact fun e => hnold m hm (e ▸ oldB n' o' hB' h1')
      · rw [(selB m' hm').1, (selO n h2).1]
        exact fun e => hnold m' hm' (e ▸ oldB n o hB h1)
      · rw [(selO n h2).1, (selO n' h2').1]
        exact hs.dist n n' o o' hB hB' hne
    · intro n o hn hL
      rcases cases_ n o hn with ⟨m, p, hm, rfl, hp, rfl⟩ | ⟨hB, h1, h2⟩
      · have hmp : m ∈ keys cx.pre := Classical.byContradiction fun h => (newIn m hm h).2 hL
        obtain ⟨h1, h2⟩ := hkeep m hmp hm
        obtain ⟨h3, h4⟩ := selB m hm
        obtain ⟨o', h5⟩ := lentB m hmp
        obtain ⟨h6, h7⟩ := hs.lent _ _ h5 hL
        exact ⟨(h3.trans h1).trans h6, (h4.trans h2).trans h7⟩
      · rw [(selO n h2).1, (selO n h2).2]; exact hs.lent n o hB hL
    · intro k hh e hk
      obtain ⟨A, cap, h1, h2, h3⟩ := hs.row k hh e hk
      refine ⟨A, cap, h1, h2, fun hlt => ?_⟩
      obtain ⟨b, cur, h4, h5, h6, h7, h8, h9⟩ := h3 hlt
      have hold := oldR k (hh, e) b hk ⟨hh, cap, by rw [h1, h4], hlt⟩
      refine ⟨b, cur, h4, h5, h6, by rw [hbel.block b hold]; exact h7, h8, ?_⟩
      rintro i hi (hb | hb)
      · exact h9 i hi hb
      · rcases hgS _ i hb with h | h
        · exact h9 i hi h
        · exact h hold
    · intro k x b n o hk hr hn
      rcases cases_ n o hn with ⟨m, p, hm, rfl, hp, rfl⟩ | ⟨hB, h1, h2⟩
      · rw [(selB m hm).1]
        exact fun e => hnold m hm (e ▸ oldR k x b hk hr)
      · rw [(selO n h2).1]; exact hs.rbox k x b n o hk hr hB
  exact hK v w' G (hsim.put hd (hrv.renTo hok1 hSS' selB))

theorem ok_call {c : Call} {fo : Operand} {o : Oper} {u : Upd} (ho : o.op = .call c) (hc : c.callee = .value fo) (h : aCall P B (· = u) (evo F fo) (c.args.toList.map (evo F))) : StepOk P o F B H u := by
  rcases h with h | h
  · exact ok_callP ho hc h
  · exact ok_callX ho hc h

/-- EVERY STEP. -/
theorem aop_ok {o : Oper} {u : Upd} (h : aop P F B H o (· = u)) : StepOk P o F B H u := by
  unfold aop at h
  split at h
  · rename_i x ho; exact ok_move (.inl ho) h
  · rename_i x ho; exact ok_move (.inr ho) h
  · rename_i ho; exact ok_pick ho h
  · rename_i ho; exact ok_box ho h
  · rename_i ho; exact ok_alloc ho h
  · rename_i ho; exact ok_load ho h
  · rename_i ho; exact ok_store ho h
  · rename_i ho; exact ok_fieldAddr ho h
  · rename_i ho; exact ok_field ho h
  · rename_i ho; exact ok_indexAddr ho h
  · rename_i ho; exact ok_index ho h
  · rename_i ho; exact ok_slice ho h
  · rename_i ho; exact ok_build ho h
  · rename_i ho; exact ok_buildSlice ho h
  · rename_i ho; exact ok_bin ho h
  · rename_i ho; exact ok_un ho h
  · rename_i ho; exact ok_conv ho h
  · rename_i ho; exact ok_extract ho h
  · rename_i ho; exact ok_makeFunc ho h
  · rename_i ho; exact ok_makeSlice ho h
  · rename_i ho; exact ok_range ho h
  · rename_i ho; exact ok_entry ho h
  · rename_i ho; exact ok_makeMap ho h
  · rename_i ho; exact ok_mapUpdate ho h
  · rename_i ho; exact ok_lookup ho h
  · rename_i c ho
    split at h
    · rename_i hc
      split at h
      · rename_i h1 h2; exact ok_delete ho hc h1 h2 h
      · exact h.elim
    · rename_i hc
      split at h
      · rename_i h1 h2; exact ok_clear ho hc h1 h2 h
      · exact h.elim
    · rename_i hc
      split at h
      · rename_i h1 h2; exact ok_len ho hc h1 h2 h
      · exact h.elim
    · rename_i hc
      split at h
      · rename_i h1 h2
        obtain ⟨h0, h⟩ := h
        subst h0
        exact ok_append ho hc h1 h2 h
      · exact h.elim
    · rename_i hc; exact ok_min ho hc h
    · rename_i hc; exact ok_max ho hc h
    · rename_i hc; exact ok_call ho hc h
    · exact h.elim
  · exact h.elim

end
end Go.Am
