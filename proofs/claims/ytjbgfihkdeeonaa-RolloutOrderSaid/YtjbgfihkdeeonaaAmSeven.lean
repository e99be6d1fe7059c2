/- The abstract machine, part 7: more operations; nothing is assumed of any program. -/
import Derived.Test.YtjbgfihkdeeonaaAmSix
import Derived.Laws.BitsAll
set_option linter.unusedSimpArgs false
set_option linter.unusedVariables false
namespace Go.Am
open Go.RowKit

section
variable {P : Program} {E : Env} {g : Gh} {a : Act} {w : World} {F : Nat → LV} {B : Nat → Option BO} {H : HT}

theorem men_cells {x : LV} {cs : List LV} {d : Nat} (hcs : x.cells? = some cs) (h : x.men d = false) : ∀ c ∈ cs, c.men1 d = false := by
  intro c hc'
  cases hf : x <;> rw [hf] at hcs h <;> simp [LV.cells?] at hcs
  all_goals first
    | (subst hcs; simp at hc'; subst hc'; simpa [LV.men] using h)
    | skip
  · subst hcs
    obtain ⟨q, _, rfl⟩ := List.mem_map.1 hc'
    rfl
  · subst hcs
    simp only [LV.men] at h
    exact List.any_eq_false.1 h c hc' |> fun h => by simpa using h

theorem men_evo {d : Nat} (h : ∀ s, (F s).men d = false) (x : Operand) : (evo F x).men d = false := by
  cases x with
  | tmp t => exact h t
  | const v => exact men_ofC v d
  | global n => rfl
  | func f => rfl

theorem ok_box {t : TypeId} {x : Operand} {o : Oper} {u : Upd} (ho : o.op = .box t x) (h : aBox o.dst (· = u) (evo F x)) : StepOk P o F B H u := by
  unfold aBox at h
  split at h
  · rename_i d cs hdst hcs
    subst h
    intro E g a w hs hd hnew K Q hK
    obtain ⟨hsz, hc⟩ := (hs.ev x).cells hcs
    obtain ⟨⟨n1, n2⟩, n3⟩ := hnew d (by simp)
    have hr : (execOp a.eval o).run P w = .ok (.value (.pointer (some ⟨w.heap.size, 0, none⟩))) (w.alloc (.cells (a.eval x).cells t)) := by
      simp [execOp, ho, Instr.box, newVar, newRow]
    have h1 := hs.newBox (d := d) (vs := (a.eval x).cells) (t := t) (r := none) (c := 0) (cs := cs) (by omega) hc (by simp) n1 n2 n3 (men_cells hcs (men_evo n1 x))
    have h2 := h1.put hd (v := .pointer (some ⟨w.heap.size, 0, none⟩)) (u := { val := .bp d 0, wb := [(d, .cells none cs)], new := [d] }) (by show _ = _; simp [up])
    refine wp_val hr (hK _ _ { g with bk := up g.bk d w.heap.size, cp := up g.cp d 0 } ?_)
    rw [appB_one rfl rfl]
    exact h2
  · exact h.elim

theorem zOk_spec {t : TypeId} {z : Value} (hz : P.zeroOf t = some z) (h : P.zOk t = true) : z.cells.size = P.cellsOf t ∧ (∀ (j : Nat) (v : Value), z.cells[j]? = some v → v.oneCell' = true) ∧ ∃ i, P.info? t = some i ∧ i.zero = some z := by
  simp only [Program.zOk, hz, Bool.and_eq_true, beq_iff_eq] at h
  refine ⟨h.1, fun j v hv => Array.all_eq_true_iff_forall_mem.1 h.2 v (Array.mem_of_getElem? hv), ?_⟩
  unfold Program.zeroOf at hz
  cases hi : P.info? t with
  | none => simp [hi] at hz
  | some i => exact ⟨i, rfl, by simpa [hi] using hz⟩

theorem run_zeroValue {t : TypeId} {z : Value} (hz : P.zeroOf t = some z) (w : World) : (zeroValue t).run P w = .ok z w := by
  unfold Program.zeroOf at hz
  cases hi : P.info? t with
  | none => simp [hi] at hz
  | some i =>
    have hz' : i.zero = some z := by simpa [hi] using hz
    simp [zeroValue, typeInfo, hi, hz']

theorem run_sizeOf {t : TypeId} (h : P.cellsOf t ≠ 0) (w : World) : (sizeOf t).run P w = .ok (P.cellsOf t) w := by
  obtain ⟨i, hi, hs⟩ := info_of_cells h
  simp [sizeOf, typeInfo, hi, hs]

theorem get_ofC {cs : List Value} {j : Nat} {v : Value} {c : LV} (hv : cs[j]? = some v) (hc : (cs.map ofC)[j]? = some c) : c = ofC v := by
  rw [List.getElem?_map, hv] at hc
  simpa using hc.symm

theorem ok_alloc {t : TypeId} {o : Oper} {u : Upd} (ho : o.op = .alloc t) (h : aAlloc P o.dst (· = u) t) : StepOk P o F B H u := by
  unfold aAlloc at h
  split at h
  · rename_i d z hdst hz
    obtain ⟨hok, h⟩ := h
    subst h
    obtain ⟨hsz, hone, _⟩ := zOk_spec hz hok
    intro E g a w hs hd hnew K Q hK
    obtain ⟨⟨n1, n2⟩, n3⟩ := hnew d (by simp)
    have hr : (execOp a.eval o).run P w = .ok (.value (.pointer (some ⟨w.heap.size, 0, none⟩))) (w.alloc (.cells z.cells t)) := by
      simp [execOp, ho, Instr.alloc, newVar, newRow, run_zeroValue hz]
    have h1 := hs.newBox (d := d) (vs := z.cells) (t := t) (r := none) (c := 0) (cs := z.cells.toList.map ofC) (by simp) (fun j v c hv hc => ⟨hone j v hv, by rw [get_ofC (by simpa using hv) hc]; exact repC_ofC g H w v⟩) (by simp)
      n1 n2 n3 (fun c hc => by obtain ⟨v, _, rfl⟩ := List.mem_map.1 hc; exact men1_ofC v d)
    have h2 := h1.put hd (v := .pointer (some ⟨w.heap.size, 0, none⟩)) (u := { val := .bp d 0, wb := [(d, .cells none (z.cells.toList.map ofC))], new := [d] }) (by show _ = _; simp [up])
    refine wp_val hr (hK _ _ { g with bk := up g.bk d w.heap.size, cp := up g.cp d 0 } ?_)
    rw [appB_one rfl rfl]
    exact h2
  · exact h.elim

theorem splice_eq {cs xs : List LV} {off : Nat} (h : off + xs.length ≤ cs.length) : splice cs off xs = cs.take off ++ xs ++ cs.drop (off + xs.length) := by
  unfold splice
  split
  · rename_i x
    simp at h
    rw [List.set_eq_take_append_cons_drop, if_pos (by omega)]
    simp
  · rfl

/-- Position by position, a row with some of its places laid anew. -/
theorem spliced {α β : Type} {R : α → β → Prop} {as bs : List α} {cs ds : List β} {off : Nat} (hab : off + bs.length ≤ as.length) (hcd : off + ds.length ≤ cs.length) (hl : bs.length = ds.length)
    (h1 : ∀ (j : Nat) (a : α) (c : β), as[j]? = some a → cs[j]? = some c → R a c) (h2 : ∀ (j : Nat) (b : α) (d : β), bs[j]? = some b → ds[j]? = some d → R b d) :
    ∀ (j : Nat) (a : α) (c : β), (as.take off ++ bs ++ as.drop (off + bs.length))[j]? = some a → (cs.take off ++ ds ++ cs.drop (off + ds.length))[j]? = some c → R a c := by
  intro j a c ha hc
  have l1 : (as.take off).length = off := by simp; omega
  have l2 : (cs.take off).length = off := by simp; omega
  rw [List.append_assoc] at ha hc
  by_cases hj : j < off
  · rw [List.getElem?_append_left (by omega), List.getElem?_take, if_pos hj] at ha hc
    exact h1 j a c ha hc
  · rw [List.getElem?_append_right (by omega), l1] at ha
    rw [List.getElem?_append_right (by omega), l2] at hc
    by_cases hk : j - off < bs.length
    · rw [List.getElem?_append_left (by omega)] at ha hc
      exact h2 _ a c ha hc
    · rw [List.getElem?_append_right (by omega), List.getElem?_drop] at ha hc
      rw [hl] at ha
      exact h1 _ a c ha hc

theorem ok_store {t : TypeId} {x y : Operand} {o : Oper} {u : Upd} (ho : o.op = .store t x y) (h : aStore P B (· = u) t (evo F x) (evo F y)) : StepOk P o F B H u := by
  unfold aStore at h
  split at h
  · rename_i n off xs hx hy
    split at h
    · rename_i rr cs hB
      obtain ⟨h1, h0, h2, rfl⟩ := h
      intro E g a w hs hd _ K Q hK
      have hev := hs.ev x
      rw [hx] at hev
      have hev' : a.eval x = .pointer (some ⟨g.bk n, off, none⟩) := hev
      obtain ⟨hsz, hc⟩ := (hs.ev y).cells hy
      obtain ⟨hb1, hb2, vs, ty, hh, hl, hc0, _⟩ := hs.box n _ hB
      have hvl : (a.eval y).cells.toList.length = xs.length := by simpa using hsz
      have hone : ∀ v ∈ (a.eval y).cells.toList, v.oneCell' = true := by
        intro v hv
        obtain ⟨j, hj, rfl⟩ := List.mem_iff_getElem.1 hv
        have hj' : j < xs.length := by omega
        exact (hc j _ xs[j] (by simp at hj; simp) (List.getElem?_eq_getElem hj')).1
      have hst := run_storeCells_at P (g.bk n) off ty (a.eval y).cells.toList 0 vs w hh (by omega) hone
      have hr : (execOp a.eval o).run P w = .ok .skip (w.setRow (g.bk n) (vs.toList.take (off + 0) ++ (a.eval y).cells.toList ++ vs.toList.drop (off + 0 + (a.eval y).cells.toList.length)).toArray) := by
        simp only [execOp, ho, hev', Instr.storeAt, Instr.sureAddr, Sem.run_bind, Sem.run_pure, Result.andThen_ok, storeVar]
        rw [run_sizeOf h0]
        simp only [Result.andThen_ok]
        rw [if_neg (by omega)]
        simp only [Sem.run_bind, Sem.run_pure, Result.andThen_ok, hst]
      simp only [Nat.add_zero] at hr
      refine wp_skip_ hr (hK _ _ g ?_)
      rw [splice_eq h2]
      have h3 := hs.setBox (cs' := cs.take off ++ xs ++ cs.drop (off + xs.length)) hB (vs' := (vs.toList.take off ++ (a.eval y).cells.toList ++ vs.toList.drop (off + (a.eval y).cells.toList.length)).toArray) ?_ ?_ ?_
      · rw [appB_one rfl rfl]
        exact h3.put hd (v := undef) (u := { val := .undef, rb := [n], wb := [(n, .cells rr (cs.take off ++ xs ++ cs.drop (off + xs.length)))] }) rfl
      · simp [hvl]; omega
      · intro vs' t' hh'
        rw [hh] at hh'
        cases hh'
        simp [hvl]; omega
      · intro j u c hu hc'
        rw [List.getElem?_toArray] at hu
        exact spliced (R := fun u c => u.oneCell' = true ∧ RepC g H w u c) (by simp; omega) h2 hvl (fun j a c ha hc => hc0 j a c (by simpa using ha) hc) (fun j a c ha hc'' => hc j a c (by simpa using ha) hc'') j u c hu hc'
    · exact h.elim
  · exact h.elim

theorem ptr_inv {v : Value} {cs : List PV} (h : RepV g H w v (.pv (.ptr cs))) : ∃ b off, v = .pointer (some ⟨b, off, none⟩) ∧ ∃ vs : Nat → Value, (∀ j, j < cs.length → (vs j).oneCell' = true) ∧
    (∀ j, j < cs.length → g.S b (off + j) ∧ w.cell? ⟨b, off + j, none⟩ = some (vs j)) ∧ ∀ j c, cs[j]? = some c → Rep g.S w (vs j) c := by
  have h' : Rep g.S w v (.ptr cs) := h
  cases h' with
  | ptr b off _ vs ho hm hr => exact ⟨b, off, rfl, vs, ho, hm, hr⟩

theorem ptr_drop {b off : Nat} {cs : List PV} {vs : Nat → Value} (k : Nat) (ho : ∀ j, j < cs.length → (vs j).oneCell' = true)
    (hm : ∀ j, j < cs.length → g.S b (off + j) ∧ w.cell? ⟨b, off + j, none⟩ = some (vs j)) (hr : ∀ j c, cs[j]? = some c → Rep g.S w (vs j) c) :
    Rep g.S w (.pointer (some ⟨b, off + k, none⟩)) (.ptr (cs.drop k)) := by
  refine .ptr b (off + k) _ (fun j => vs (k + j)) (fun j hj => ho _ (by simp at hj; omega)) (fun j hj => ?_) fun j c hc => ?_
  · have := hm (k + j) (by simp at hj; omega)
    rwa [Nat.add_assoc]
  · rw [List.getElem?_drop] at hc
    exact hr _ c hc

theorem fieldOf_spec {s : TypeId} {f fo : Nat} {ft : TypeId} (h : P.fieldOf s f = some (fo, ft)) : ∃ fs fl, P.underlying s = some (.struct fs) ∧ fs[f]? = some fl ∧ fl.offset = fo ∧ fl.type = ft := by
  unfold Program.fieldOf at h
  split at h
  · rename_i fs hu
    split at h
    · rename_i fl hf
      simp at h
      exact ⟨fs, fl, hu, hf, h.1, h.2⟩
    · cases h
  · cases h

theorem ok_fieldAddr {s : TypeId} {x : Operand} {f : Nat} {o : Oper} {u : Upd} (ho : o.op = .fieldAddr s x f) (h : aFieldAddr P (· = u) s (evo F x) f) : StepOk P o F B H u := by
  unfold aFieldAddr at h
  split at h
  · rename_i fo ft hf
    obtain ⟨h1, h⟩ := h
    obtain ⟨fs, fl, h2, h3, h4, h5⟩ := fieldOf_spec hf
    have hrun : ∀ (a : Act) (w : World) (b off : Nat), a.eval x = .pointer (some ⟨b, off, none⟩) → (execOp a.eval o).run P w = .ok (.value (.pointer (some ⟨b, off + fo, none⟩))) w := by
      intro a w b off hx
      simp only [execOp, ho, Instr.fieldAt, Sem.run_bind, run_underlying h2, Result.andThen_ok, h3, hx, Instr.sureAddr, Sem.run_pure, fieldPlace]
      rw [h5, run_sizeOf h1]
      simp only [Result.andThen_ok]
      rw [if_neg h1]
      simp only [Sem.run_pure, Result.andThen_ok, h4, add_lit]
    split at h
    · rename_i n off hx
      subst h
      refine step_val rfl rfl fun E g a w hs => ?_
      have hev := hs.ev x
      rw [hx] at hev
      exact ⟨_, hrun a w _ _ hev, rfl⟩
    · rename_i cs hx
      subst h
      refine step_val rfl rfl fun E g a w hs => ?_
      have hev := hs.ev x
      rw [hx] at hev
      obtain ⟨b, off, hv, vs, k1, k2, k3⟩ := ptr_inv hev
      exact ⟨_, hrun a w _ _ hv, ptr_drop fo k1 k2 k3⟩
    · exact h.elim
  · exact h.elim

theorem agg_inv {v : Value} {cs : List PV} (h : RepV g H w v (.pv (.agg cs))) : ∃ vs, v = .agg vs ∧ vs.size = cs.length ∧ (∀ (j : Nat) (v : Value), vs[j]? = some v → v.oneCell' = true) ∧
    ∀ (j : Nat) (v : Value) (c : PV), vs[j]? = some v → cs[j]? = some c → Rep g.S w v c := by
  have h' : Rep g.S w v (.agg cs) := h
  cases h' with
  | agg vs _ hl ho hr => exact ⟨vs, rfl, hl, ho, hr⟩

theorem run_part_agg {t : TypeId} (ha : P.aggT t = true) (hz : P.cellsOf t ≠ 0) (cs : Array Value) (off : Nat) (w : World) : (part t cs off).run P w = .ok (.agg (cs.extract off (off + P.cellsOf t))) w := by
  unfold part
  rw [Sem.run_bind, run_isAgg t (some_of_agg ha) w]
  simp only [Result.andThen_ok, ha, if_true, Sem.run_bind, run_sizeOf hz, Sem.run_pure]

theorem run_part_one {t : TypeId} (ha : P.aggT t = false) (hu : (P.underlying t).isSome = true) {cs : Array Value} {off : Nat} {v : Value} (hv : cs[off]? = some v) (w : World) : (part t cs off).run P w = .ok v w := by
  unfold part
  rw [Sem.run_bind, run_isAgg t hu w]
  simp [ha, hv]

theorem ok_field {s : TypeId} {x : Operand} {f : Nat} {o : Oper} {u : Upd} (ho : o.op = .field s x f) (h : aField P (· = u) s (evo F x) f) : StepOk P o F B H u := by
  unfold aField at h
  split at h
  · rename_i fo ft hf
    obtain ⟨fs, fl, h2, h3, h4, h5⟩ := fieldOf_spec hf
    have hrun : ∀ (a : Act) (w : World) (vs : Array Value) (v : Value), a.eval x = .agg vs → (part ft vs fo).run P w = .ok v w → (execOp a.eval o).run P w = .ok (.value v) w := by
      intro a w vs v hx hp
      simp only [execOp, ho, Instr.field, Sem.run_bind, run_underlying h2, Result.andThen_ok, h3, hx, asAgg, Sem.run_pure, h4, h5, hp]
    split at h
    · rename_i cs hx
      split at h
      · rename_i hagg
        obtain ⟨k1, k2, rfl⟩ := h
        refine step_val rfl rfl fun E g a w hs => ?_
        have hev := hs.ev x
        rw [hx] at hev
        obtain ⟨vs, hv, hl, h6, h7⟩ := agg_inv hev
        refine ⟨_, hrun a w vs _ hv (run_part_agg hagg k2 vs fo w), Rep.agg _ _ (by simp; omega) ?_ ?_⟩
        · intro j v hjv
          rw [Array.getElem?_extract] at hjv
          split at hjv
          · exact h6 _ v hjv
          · cases hjv
        · intro j v c hjv hjc
          rw [Array.getElem?_extract] at hjv
          split at hjv
          · rw [List.getElem?_take, if_pos (by omega), List.getElem?_drop] at hjc
            exact h7 _ v c hjv hjc
          · cases hjv
      · rename_i hagg
        obtain ⟨c, k1, k2, rfl⟩ := h
        refine step_val rfl rfl fun E g a w hs => ?_
        have hev := hs.ev x
        rw [hx] at hev
        obtain ⟨vs, hv, hl, h6, h7⟩ := agg_inv hev
        have hlt : fo < vs.size := by have := (List.getElem?_eq_some_iff.1 k1).1; omega
        have e1 : vs[fo]? = some vs[fo] := Array.getElem?_eq_getElem hlt
        exact ⟨_, hrun a w vs _ hv (run_part_one hagg k2 e1 w), h7 fo _ c e1 k1⟩
    · rename_i cs hx
      split at h
      · rename_i hagg
        obtain ⟨k1, k2, rfl⟩ := h
        refine step_val rfl rfl fun E g a w hs => ?_
        have hev := hs.ev x
        rw [hx] at hev
        obtain ⟨vs, hv, hl, h7⟩ := hev
        refine ⟨_, hrun a w vs _ hv (run_part_agg hagg k2 vs fo w), _, rfl, by simp; omega, ?_⟩
        intro j v c hjv hjc
        rw [Array.getElem?_extract] at hjv
        split at hjv
        · rw [List.getElem?_take, if_pos (by omega), List.getElem?_drop] at hjc
          exact h7 _ v c hjv hjc
        · cases hjv
      · rename_i hagg
        obtain ⟨c, k1, k2, rfl⟩ := h
        refine step_val rfl rfl fun E g a w hs => ?_
        have hev := hs.ev x
        rw [hx] at hev
        obtain ⟨vs, hv, hl, h7⟩ := hev
        have hlt : fo < vs.size := by have := (List.getElem?_eq_some_iff.1 k1).1; omega
        have e1 : vs[fo]? = some vs[fo] := Array.getElem?_eq_getElem hlt
        have hrc := (h7 fo _ c e1 k1).2
        refine ⟨_, hrun a w vs _ hv (run_part_one hagg k2 e1 w), ?_⟩
        cases c <;> first | exact hrc | exact hrc.elim
    · exact h.elim
  · exact h.elim

end
end Go.Am
