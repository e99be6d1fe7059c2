/- The abstract machine, part 9: structs and slices that are built, numbers, strings and tuples; nothing is assumed of any program. -/
import Derived.Test.YtjbgfihkdeeonaaAmEight
set_option linter.unusedSimpArgs false
set_option linter.unusedVariables false
namespace Go.Am
open Go.RowKit

section
variable {P : Program} {E : Env} {g : Gh} {a : Act} {w : World} {F : Nat → LV} {B : Nat → Option BO} {H : HT}

theorem foldl_set (off : Nat) : ∀ (xs : List Value) (k : Nat) (cs : Array Value), off + k + xs.length ≤ cs.size →
    (xs.zipIdx k).foldl (fun cs p => cs.setIfInBounds (off + p.2) p.1) cs = (cs.toList.take (off + k) ++ xs ++ cs.toList.drop (off + k + xs.length)).toArray
  | [], k, cs, h => by simp
  | x :: r, k, cs, h => by
    simp only [List.zipIdx_cons, List.foldl_cons]
    simp only [List.length_cons] at h
    rw [foldl_set off r (k + 1) _ (by simp; omega)]
    apply Array.ext'
    have hlt : off + k < cs.toList.length := by simp; omega
    have l1 : (cs.toList.take (off + k)).length = off + k := by simp; omega
    have key : ∀ (A D : List Value) (n m : Nat), A.length = n → (A ++ x :: D).take (n + 1) = A ++ [x] ∧ (A ++ x :: D).drop (n + 1 + m) = D.drop m := by
      intro A D n m hA
      subst hA
      refine ⟨by rw [List.take_append, List.take_of_length_le (by omega)]; simp, ?_⟩
      rw [List.drop_append, List.drop_of_length_le (by omega)]
      simp [show A.length + 1 + m - A.length = m + 1 by omega]
    simp only [Array.toList_setIfInBounds]
    rw [List.set_eq_take_append_cons_drop, if_pos hlt]
    obtain ⟨k1, k2⟩ := key (cs.toList.take (off + k)) (cs.toList.drop (off + k + 1)) (off + k) r.length l1
    rw [show off + (k + 1) = off + k + 1 by omega, k1, k2]
    simp only [List.drop_drop, List.append_assoc, List.singleton_append, List.length_cons, List.toList_toArray]
    rw [show off + k + 1 + r.length = off + k + (r.length + 1) by omega]

theorem fill_fold (v : Value) (off : Nat) (cs : Array Value) (h : off + v.cells.size ≤ cs.size) :
    v.cells.zipIdx.foldl (fun cs (x : Value × Nat) => cs.setIfInBounds (off + x.2) x.1) cs = (cs.toList.take off ++ v.cells.toList ++ cs.toList.drop (off + v.cells.toList.length)).toArray := by
  rw [← Array.foldl_toList, Array.toList_zipIdx]
  have := foldl_set off v.cells.toList 0 cs (by simpa using h)
  simpa using this

def RowR (g : Gh) (H : HT) (w : World) (cells : Array Value) (cs : List LV) : Prop :=
  cells.size = cs.length ∧ ∀ (j : Nat) (u : Value) (c : LV), cells[j]? = some u → cs[j]? = some c → u.oneCell' = true ∧ RepC g H w u c

theorem fill_ok (hs : Sim P E g a w F B H) {place place' : Nat → Option (Nat × Nat)} (hp : ∀ i x, place i = some x → place' i = some x) :
    ∀ (ps : List (Nat × Operand)) (cells : Array Value) (cs cs' : List LV), RowR g H w cells cs → fillL place cs (ps.map fun x => (x.1, evo F x.2)) = some cs' →
      ∃ cells', Instr.fill place' cells (ps.map fun x => (x.1, a.eval x.2)) = some cells' ∧ RowR g H w cells' cs'
  | [], cells, cs, cs', hr, h => by
    simp only [List.map_nil, fillL] at h
    injection h with h
    subst h
    exact ⟨cells, rfl, hr⟩
  | x :: ps, cells, cs, cs', hr, h => by
    simp only [List.map_cons, fillL] at h
    split at h
    · rename_i off size xs hpl hxs
      split at h
      · rename_i hc
        obtain ⟨h1, h2⟩ := (hs.ev x.2).cells hxs
        have hsz := hr.1
        have hfit : off + (a.eval x.2).cells.size ≤ cells.size := by omega
        have hrow : RowR g H w (cells.toList.take off ++ (a.eval x.2).cells.toList ++ cells.toList.drop (off + (a.eval x.2).cells.toList.length)).toArray (splice cs off xs) := by
          rw [splice_eq hc.2]
          have hl : (a.eval x.2).cells.toList.length = xs.length := by simpa using h1
          refine ⟨by simp; omega, fun j u c hu hc' => ?_⟩
          rw [List.getElem?_toArray] at hu
          exact spliced (R := fun u c => u.oneCell' = true ∧ RepC g H w u c) (by simp; omega) hc.2 hl (fun j a c ha hc => hr.2 j a c (by simpa using ha) hc) (fun j a c ha hc'' => h2 j a c (by simpa using ha) hc'') j u c hu hc'
        obtain ⟨cells', h3, h4⟩ := fill_ok hs hp ps _ _ cs' hrow h
        refine ⟨cells', ?_, h4⟩
        simp only [List.map_cons, Instr.fill, hp _ _ hpl]
        rw [if_neg (by simp; omega), fill_fold _ _ _ hfit]
        exact h3
      · cases h
    · cases h

theorem run_mapM {α β : Type} (f : α → Sem β) (k : α → β) (w : World) (l : Array α) (h : ∀ x ∈ l, (f x).run P w = .ok (k x) w) : (l.mapM f).run P w = .ok (l.map k) w := by
  have key : ∀ (l : List α), (∀ x ∈ l, (f x).run P w = .ok (k x) w) → (l.mapM f).run P w = .ok (l.map k) w := by
    intro l
    induction l with
    | nil => intro _; simp
    | cons x r ih =>
      intro h
      rw [List.mapM_cons]
      simp only [Sem.run_bind, h x (by simp), Result.andThen_ok, ih fun y hy => h y (by simp [hy]), Sem.run_pure, List.map_cons]
  rw [Array.mapM_eq_mapM_toList]
  rw [Sem.run_map, key l.toList (fun x hx => h x (by simpa using hx))]
  simp only [Result.andThen_ok]
  congr 1
  apply Array.ext'
  simp

theorem ok_build {t : TypeId} {ps : Array (Nat × Operand)} {o : Oper} {u : Upd} (ho : o.op = .build t ps) (h : aBuild P (· = u) t (ps.toList.map fun x => (x.1, evo F x.2))) : StepOk P o F B H u := by
  unfold aBuild at h
  split at h
  · rename_i z hz
    obtain ⟨hfo, hok, h⟩ := h
    split at h
    · rename_i cs hcs
      subst h
      obtain ⟨hsz, hone, _⟩ := zOk_spec hz hok
      refine step_val rfl rfl fun E g a w hs => ?_
      have hrow : RowR g H w z.cells (z.cells.toList.map ofC) := ⟨by simp, fun j v c hv hc => ⟨hone j v hv, by rw [get_ofC (by simpa using hv) hc]; exact repC_ofC g H w v⟩⟩
      unfold Program.fieldsOk at hfo
      split at hfo
      · rename_i fs hu
        have hpl : ∀ i x, fplace P t i = some x → (fs.map fun f => (f.offset, P.cellsOf f.type))[i]? = some x := by
          intro i x hi
          simp only [fplace, hu] at hi
          split at hi
          · rename_i fo ft hf
            obtain ⟨fs', fl, h1, h2, h3, h4⟩ := fieldOf_spec hf
            rw [hu] at h1
            injection h1 with h1
            injection h1 with h1
            subst h1
            simp at hi
            subst hi
            simp [h2, h3, h4]
          · cases hi
        obtain ⟨cells', h1, h2⟩ := fill_ok hs hpl _ _ _ cs hrow hcs
        refine ⟨.agg cells', ?_, cells', rfl, h2.1, h2.2⟩
        have hm := run_mapM (P := P) (fun f : Field => do pure (f.offset, ← sizeOf f.type)) (fun f : Field => (f.offset, P.cellsOf f.type)) w fs (by
          intro f hf
          have := Array.all_eq_true_iff_forall_mem.1 hfo f hf
          cases hi : P.info? f.type with
          | none => simp [hi] at this
          | some i => simp [sizeOf, typeInfo, hi, Program.cellsOf])
        simp only [execOp, ho, Instr.build, Sem.run_bind, run_zeroValue hz, run_underlying hu, Result.andThen_ok, hm]
        have e1 : (ps.map fun x => (x.1, a.eval x.2)).toList = ps.toList.map fun x => (x.1, a.eval x.2) := by simp
        rw [e1]
        have h1' : Instr.fill (fun x => (fs.map fun f => (f.offset, P.cellsOf f.type))[x]?) z.cells (ps.toList.map fun x => (x.1, a.eval x.2)) = some cells' := h1
        rw [h1']
        rfl
      · rename_i n e hu
        have hpl : ∀ i x, fplace P t i = some x → (fun i => some (i * P.cellsOf e, P.cellsOf e)) i = some x := by
          intro i x hi
          simpa only [fplace, hu] using hi
        obtain ⟨cells', h1, h2⟩ := fill_ok hs hpl _ _ _ cs hrow hcs
        refine ⟨.agg cells', ?_, cells', rfl, h2.1, h2.2⟩
        have hsz : (sizeOf e).run P w = .ok (P.cellsOf e) w := by
          cases hi : P.info? e with
          | none => simp [hi] at hfo
          | some i => simp [sizeOf, typeInfo, hi, Program.cellsOf]
        simp only [execOp, ho, Instr.build, Sem.run_bind, run_zeroValue hz, run_underlying hu, Result.andThen_ok, hsz]
        have e1 : (ps.map fun x => (x.1, a.eval x.2)).toList = ps.toList.map fun x => (x.1, a.eval x.2) := by simp
        rw [e1, h1]
        rfl
      · cases hfo
    · exact h.elim
  · exact h.elim

/-- A slice's literal, filled. -/
theorem fillS_ok (hs : Sim P E g a w F B H) {sz : Nat} : ∀ (ps : List (Nat × Operand)) (n : Nat) (qs : List PV) (cells : Array Value), partsL n (ps.map fun x => (x.1, evo F x.2)) = some qs → (∀ q ∈ qs, q.cells.length = sz) →
    (n + qs.length) * sz ≤ cells.size →
    ∃ cells', Instr.fill (fun i => some (i * sz, sz)) cells (ps.map fun x => (x.1, a.eval x.2)) = some cells' ∧ cells'.size = cells.size ∧ (∀ j, j < n * sz → cells'[j]? = cells[j]?) ∧
      ∀ i q r c, qs[i]? = some q → q.cells[r]? = some c → ∃ u, cells'[(n + i) * sz + r]? = some u ∧ u.oneCell' = true ∧ Rep g.S w u c
  | [], n, qs, cells, h, _, _ => by
    simp only [List.map_nil, partsL] at h
    injection h with h
    subst h
    exact ⟨cells, rfl, rfl, fun _ _ => rfl, by simp⟩
  | x :: ps, n, qs, cells, h, hq, hfit => by
    simp only [List.map_cons, partsL] at h
    split at h
    · rename_i hn
      split at h
      · rename_i p hp
        split at h
        · rename_i rs hrs
          injection h with h
          subst h
          have hrp := (hs.ev x.2).pure hp
          obtain ⟨k1, k2⟩ := hrp.cells
          have k3 := hrp.cellsOne
          have hpl : p.cells.length = sz := hq p (by simp)
          have hvs : (a.eval x.2).cells.size = sz := by omega
          simp only [List.length_cons] at hfit
          have hfit1 : n * sz + sz ≤ cells.size := by
            have : (n + 1) * sz ≤ (n + (rs.length + 1)) * sz := Nat.mul_le_mul_right _ (by omega)
            rw [Nat.add_mul] at this
            omega
          have hmid : ∀ j, (cells.toList.take (n * sz) ++ (a.eval x.2).cells.toList ++ cells.toList.drop (n * sz + (a.eval x.2).cells.toList.length)).toArray[j]? =
              if j < n * sz then cells[j]? else if j < n * sz + sz then (a.eval x.2).cells[j - n * sz]? else cells[j]? := by
            intro j
            have l1 : (cells.toList.take (n * sz)).length = n * sz := by simp; omega
            have l2 : (a.eval x.2).cells.toList.length = sz := by simpa using hvs
            rw [List.getElem?_toArray, List.append_assoc]
            split
            · rename_i hj
              rw [List.getElem?_append_left (by omega), List.getElem?_take, if_pos hj]; simp
            · rename_i hj
              rw [List.getElem?_append_right (by omega), l1]
              split
              · rename_i hj2
                rw [List.getElem?_append_left (by omega)]; simp
              · rename_i hj2
                rw [List.getElem?_append_right (by omega), List.getElem?_drop, l2]
                have : n * sz + sz + (j - n * sz - sz) = j := by omega
                rw [this]; simp
          obtain ⟨cells', h1, h2, h3, h4⟩ := fillS_ok hs ps (n + 1) rs (cells.toList.take (n * sz) ++ (a.eval x.2).cells.toList ++ cells.toList.drop (n * sz + (a.eval x.2).cells.toList.length)).toArray hrs
            (fun q hq' => hq q (by simp [hq'])) (by
              have e : (n + 1 + rs.length) * sz = (n + (rs.length + 1)) * sz := by congr 1; omega
              rw [e]
              simp; omega)
          have hsz' : cells'.size = cells.size := by rw [h2]; simp; omega
          have e1 : (n + 1) * sz = n * sz + sz := by rw [Nat.add_mul]; omega
          refine ⟨cells', ?_, hsz', fun j hj => ?_, fun i q r c hi hr => ?_⟩
          · simp only [List.map_cons, Instr.fill, hn]
            rw [if_neg (by simp; omega), fill_fold _ _ _ (by omega)]
            exact h1
          · rw [h3 j (by omega), hmid j, if_pos hj]
          · cases i with
            | zero =>
              simp at hi
              subst hi
              have hr' : r < sz := by have := (List.getElem?_eq_some_iff.1 hr).1; omega
              have hu : (a.eval x.2).cells[r]? = some ((a.eval x.2).cells[r]'(by omega)) := Array.getElem?_eq_getElem (by omega)
              refine ⟨_, ?_, k3 r _ hu, k2 r _ c hu hr⟩
              rw [Nat.add_zero, h3 _ (by omega), hmid, if_neg (by omega), if_pos (by omega), show n * sz + r - n * sz = r by omega]
              exact hu
            | succ i =>
              simp at hi
              obtain ⟨u, hu, ho, hrep⟩ := h4 i q r c hi hr
              exact ⟨u, by rw [show n + (i + 1) = n + 1 + i by omega]; exact hu, ho, hrep⟩
        · cases h
      · cases h
    · cases h

theorem ok_buildSlice {t : TypeId} {len : Nat} {ps : Array (Nat × Operand)} {o : Oper} {u : Upd} (ho : o.op = .buildSlice t len ps) (h : aBuildSlice P (· = u) t len (ps.toList.map fun x => (x.1, evo F x.2))) : StepOk P o F B H u := by
  unfold aBuildSlice at h
  split at h
  · rename_i e ht
    split at h
    · rename_i qs hqs
      obtain ⟨h1, h2, h3, h4, h5, rfl⟩ := h
      subst h1
      intro E g a w hs hd _ K Q hK
      have hz : ∃ z, P.zeroOf e = some z := by
        unfold Program.zOk at h5
        split at h5
        · rename_i z hz; exact ⟨z, hz⟩
        · cases h5
      obtain ⟨z, hz⟩ := hz
      obtain ⟨hzs, hone, _⟩ := zOk_spec hz h5
      let c0 : Array Value := if qs.length * P.cellsOf e = 0 then #[] else (Array.range (qs.length * P.cellsOf e)).map (z.cells[· % z.cells.size]!)
      have hc0 : c0.size = qs.length * P.cellsOf e := by
        simp only [c0]; split
        · rename_i h0; simp [h0]
        · simp
      obtain ⟨cells', k1, k2, _, k4⟩ := fillS_ok hs ps.toList 0 qs c0 hqs h2 (by simp [hc0])
      have hr : (execOp a.eval o).run P w = .ok (.value (.slice (some ⟨w.heap.size, 0, none⟩) qs.length qs.length)) (w.alloc (.cells cells' e)) := by
        have e1 : (ps.map fun x => (x.1, a.eval x.2)).toList = ps.toList.map fun x => (x.1, a.eval x.2) := by simp
        simp only [execOp, ho, Instr.buildSlice, Sem.run_bind, run_underlying ht, Result.andThen_ok, run_sizeOf h4]
        rw [if_neg (by omega)]
        by_cases h0 : qs.length * P.cellsOf e = 0
        · simp only [Sem.run_bind, Sem.run_pure, Result.andThen_ok, h0, if_true]
          have e2 : (Array.range 0).map (fun x => (#[] : Array Value)[x % (#[] : Array Value).size]!) = c0 := by simp [c0, h0]
          rw [e2, e1, k1]
          simp [newRow]
        · simp only [Sem.run_bind, Sem.run_pure, Result.andThen_ok, h0, if_false, run_zeroValue hz]
          have e2 : (Array.range (qs.length * P.cellsOf e)).map (fun x => z.cells[x % z.cells.size]!) = c0 := by simp [c0, h0]
          rw [e2, e1, k1]
          simp [newRow]
      let S' : Nat → Nat → Prop := fun b i => g.S b i ∨ (b = w.heap.size ∧ i < qs.length * P.cellsOf e)
      have hb : Below w.heap.size w (w.alloc (.cells cells' e)) := (Below.refl _ _).alloc (Nat.le_refl _) _
      have ha : Agree g.S w (w.alloc (.cells cells' e)) := Agree.of_heap fun b o hh => hb.block b (hs.slt b o hh)
      have hsim := hs.grow (S' := S') hb (fun _ _ h => .inl h) (fun b i h => h.imp id (fun h => by omega)) (fun b i h => by
        rcases h with h | h
        · exact Nat.lt_of_lt_of_le (hs.slt b i h) hb.size
        · simp; omega)
      have hcs : cells'.size = qs.length * P.cellsOf e := by rw [k2, hc0]
      have hat : SlcAt S' (w.alloc (.cells cells' e)) (some ⟨w.heap.size, 0, none⟩) qs (P.cellsOf e) cells'.toList := by
        refine ⟨by simpa using hcs, h2, ?_, fun _ => ⟨w.heap.size, 0, rfl, fun j u hu => ?_⟩, ?_⟩
        · intro u hu
          obtain ⟨j, hj, rfl⟩ := List.mem_iff_getElem.1 hu
          simp at hj
          have hj' : j < qs.length * P.cellsOf e := by omega
          have hdiv : j / P.cellsOf e < qs.length := Nat.div_lt_of_lt_mul (by rw [Nat.mul_comm]; exact hj')
          have hq : qs[j / P.cellsOf e]? = some qs[j / P.cellsOf e] := List.getElem?_eq_getElem hdiv
          have hlen := h2 _ (List.mem_of_getElem? hq)
          have hmod : j % P.cellsOf e < (qs[j / P.cellsOf e]).cells.length := by rw [hlen]; exact Nat.mod_lt _ (by omega)
          obtain ⟨u, hu', ho', _⟩ := k4 _ _ (j % P.cellsOf e) _ hq (List.getElem?_eq_getElem hmod)
          have e3 : (0 + j / P.cellsOf e) * P.cellsOf e + j % P.cellsOf e = j := by rw [Nat.zero_add, Nat.mul_comm]; exact Nat.div_add_mod j (P.cellsOf e)
          rw [e3] at hu'
          have : cells'.toList[j] = u := by
            have : cells'[j]? = some cells'[j] := Array.getElem?_eq_getElem (by simpa using hj)
            rw [this] at hu'
            simpa using hu'
          rw [this]; exact ho'
        · have hj := (List.getElem?_eq_some_iff.1 hu).1
          simp at hj
          refine ⟨.inr ⟨rfl, by omega⟩, ?_⟩
          rw [Nat.zero_add, World.cell?_alloc_new]
          simpa using hu
        · intro i q j c hi hj
          obtain ⟨u, hu, _, hrep⟩ := k4 i q j c hi hj
          exact ⟨u, by simpa using hu, hrep.mono (fun _ _ h => .inl h) ha⟩
      refine wp_val hr (hK _ _ _ (hsim.put hd ?_))
      exact ⟨hat.rep_ (Nat.le_refl _), _, rfl⟩
    · exact h.elim
  · exact h.elim

end
end Go.Am
