/- The abstract machine, part 6: each operation does to the world what its step says; nothing is assumed of any program. -/
import Derived.Test.YtjbgfihkdeeonaaAmFive
namespace Go.Am
open Go.RowKit

def NoMen (F : Nat → LV) (B : Nat → Option BO) (d : Nat) : Prop :=
  (∀ s, (F s).men d = false) ∧ ∀ n xs, B n = some xs → xs.men d = false

/-- What step u says of operation o is so, whatever the world. -/
def StepOk (P : Program) (o : Oper) (F : Nat → LV) (B : Nat → Option BO) (H : HT) (u : Upd) : Prop :=
  ∀ (E : Env) (g : Gh) (a : Act) (w : World), Sim P E g a w F B H → (∀ d, o.dst = some d → d < a.tmps.size) → (∀ d ∈ u.new, NoMen F B d ∧ ¬ E.L d) →
    ∀ (K : Act → World → Prop) (Q : Exit → Act → World → Prop), (∀ v w' g', Sim P E g' (a.put o.dst v) w' (appF F o.dst u) (appB B u) (appH H u) → K (a.put o.dst v) w') → o.wp P a w K Q

theorem wp_val {P : Program} {o : Oper} {a : Act} {w w' : World} {K : Act → World → Prop} {Q : Exit → Act → World → Prop} {v : Value} (hr : (execOp a.eval o).run P w = .ok (.value v) w') (h : K (a.put o.dst v) w') : o.wp P a w K Q := by
  unfold Oper.wp; rw [hr]; exact h
theorem wp_skip_ {P : Program} {o : Oper} {a : Act} {w w' : World} {K : Act → World → Prop} {Q : Exit → Act → World → Prop} (hr : (execOp a.eval o).run P w = .ok .skip w') (h : K (a.put o.dst undef) w') : o.wp P a w K Q := by
  unfold Oper.wp; rw [hr]; exact h

theorem step_fin {P : Program} {E : Env} {F : Nat → LV} {B B' : Nat → Option BO} {H : HT} {o : Oper} {u : Upd} {a : Act} {w w' : World} {K : Act → World → Prop} {Q : Exit → Act → World → Prop} {v : Value} {g' : Gh}
    (hr : (execOp a.eval o).run P w = .ok (.value v) w') (hK : ∀ v w' g', Sim P E g' (a.put o.dst v) w' (appF F o.dst u) (appB B u) (appH H u) → K (a.put o.dst v) w') (hs : Sim P E g' (a.put o.dst v) w' (appF F o.dst u) B' (appH H u)) (hB : appB B u = B') : o.wp P a w K Q := by
  subst hB
  exact wp_val hr (hK v w' g' hs)
theorem step_finS {P : Program} {E : Env} {F : Nat → LV} {B B' : Nat → Option BO} {H : HT} {o : Oper} {u : Upd} {a : Act} {w w' : World} {K : Act → World → Prop} {Q : Exit → Act → World → Prop} {g' : Gh}
    (hr : (execOp a.eval o).run P w = .ok .skip w') (hK : ∀ v w' g', Sim P E g' (a.put o.dst v) w' (appF F o.dst u) (appB B u) (appH H u) → K (a.put o.dst v) w') (hs : Sim P E g' (a.put o.dst undef) w' (appF F o.dst u) B' (appH H u)) (hB : appB B u = B') : o.wp P a w K Q := by
  subst hB
  exact wp_skip_ hr (hK _ w' g' hs)

theorem repV_ofC (g : Gh) (H : HT) (w : World) (v : Value) : RepV g H w v (ofC v) := by
  unfold ofC
  split
  · exact Rep.int _ _
  · exact Rep.bool _
  · exact Rep.str _
  · exact ⟨Rep.nils, none, rfl⟩
  · exact Rep.nilp
  · exact Rep.nilf
  · exact Rep.nilm
  · trivial

theorem repC_ofC (g : Gh) (H : HT) (w : World) (v : Value) : RepC g H w v (ofC v) := by
  unfold ofC
  split
  · exact Rep.int _ _
  · exact Rep.bool _
  · exact Rep.str _
  · exact ⟨Rep.nils, none, rfl⟩
  · exact Rep.nilp
  · exact Rep.nilf
  · exact Rep.nilm
  · trivial

theorem men_ofC (v : Value) (d : Nat) : (ofC v).men d = false := by
  unfold ofC; split <;> rfl
theorem men1_ofC (v : Value) (d : Nat) : (ofC v).men1 d = false := by
  unfold ofC; split <;> rfl

section
variable {P : Program} {E : Env} {g : Gh} {a : Act} {w : World} {F : Nat → LV} {B : Nat → Option BO} {H : HT}

theorem Sim.ev (h : Sim P E g a w F B H) (x : Operand) : RepV g H w (a.eval x) (evo F x) := by
  cases x with
  | tmp t => exact h.slots t
  | const v => exact repV_ofC g H w v
  | global n => trivial
  | func f => exact Rep.clo f #[] [] rfl (by simp)

theorem RepV.list {v : Value} {x : LV} {l : List PV} (h : RepV g H w v x) (hl : x.list? = some l) : Rep g.S w v (.slc l) := by
  cases x with
  | pv p =>
    cases p <;> simp [LV.list?] at hl
    subst hl; exact h
  | full m => simp [LV.list?] at hl; subst hl; exact h.1
  | sl k m => simp [LV.list?] at hl; subst hl; exact h.1
  | _ => simp [LV.list?] at hl

theorem RepC.one {v : Value} {x : LV} {p : PV} (h : RepC g H w v x) (hp : x.one? = some p) : Rep g.S w v p := by
  cases x with
  | pv q => simp [LV.one?] at hp; subst hp; exact h
  | full m => simp [LV.one?] at hp; subst hp; exact h.1
  | sl k m => simp [LV.one?] at hp; subst hp; exact h.1
  | _ => simp [LV.one?] at hp

theorem RepV.one {v : Value} {x : LV} {p : PV} (h : RepV g H w v x) (hp : x.one? = some p) : Rep g.S w v p := by
  cases x with
  | pv q => simp [LV.one?] at hp; subst hp; exact h
  | full m => simp [LV.one?] at hp; subst hp; exact h.1
  | sl k m => simp [LV.one?] at hp; subst hp; exact h.1
  | _ => simp [LV.one?] at hp

theorem ones_spec : ∀ {cs : List LV} {ps : List PV}, ones? cs = some ps → ps.length = cs.length ∧ ∀ (j : Nat) (c : LV) (p : PV), cs[j]? = some c → ps[j]? = some p → c.one? = some p
  | [], ps, h => by simp [ones?] at h; subst h; simp
  | c :: r, ps, h => by
    simp only [ones?] at h
    split at h
    · rename_i p hp
      split at h
      · rename_i qs hq
        injection h with h
        subst h
        obtain ⟨h1, h2⟩ := ones_spec hq
        refine ⟨by simp [h1], fun j c' p' hc hp' => ?_⟩
        cases j with
        | zero => simp at hc hp'; subst hc; subst hp'; exact hp
        | succ j => exact h2 j c' p' (by simpa using hc) (by simpa using hp')
      · cases h
    · cases h

theorem RepV.pure {v : Value} {x : LV} {p : PV} (h : RepV g H w v x) (hp : x.pure? = some p) : Rep g.S w v p := by
  cases x with
  | ag cs =>
    simp only [LV.pure?] at hp
    split at hp
    · rename_i ps hps
      injection hp with hp
      subst hp
      obtain ⟨vs, rfl, h1, h2⟩ := h
      obtain ⟨h3, h4⟩ := ones_spec hps
      refine .agg vs ps (h1.trans h3.symm) (fun j u hu => ?_) fun j u c hu hc => ?_
      · have hj := (Array.getElem?_eq_some_iff.1 hu).1
        exact (h2 j u cs[j] hu (List.getElem?_eq_getElem (by omega))).1
      · have hj := (Array.getElem?_eq_some_iff.1 hu).1
        have hcs : cs[j]? = some cs[j] := List.getElem?_eq_getElem (by omega)
        exact (h2 j u _ hu hcs).2.one (h4 j _ c hcs hc)
    · cases hp
  | pv q => exact RepV.one (x := .pv q) h hp
  | full m => exact RepV.one (x := .full m) h hp
  | sl k m => exact RepV.one (x := .sl k m) h hp
  | _ => simp [LV.pure?, LV.one?] at hp

theorem RepV.cells {v : Value} {x : LV} {cs : List LV} (h : RepV g H w v x) (hc : x.cells? = some cs) :
    v.cells.size = cs.length ∧ ∀ (j : Nat) (u : Value) (c : LV), v.cells[j]? = some u → cs[j]? = some c → u.oneCell' = true ∧ RepC g H w u c := by
  have one : ∀ {v : Value} {y : LV}, RepC g H w v y → v.oneCell' = true → cs = [y] → v.cells = #[v] →
      v.cells.size = cs.length ∧ ∀ (j : Nat) (u : Value) (c : LV), v.cells[j]? = some u → cs[j]? = some c → u.oneCell' = true ∧ RepC g H w u c := by
    intro v y h ho hy hv
    rw [hv, hy]
    refine ⟨rfl, fun j u c hu hc => ?_⟩
    cases j with
    | zero => simp at hu hc; subst hu; subst hc; exact ⟨ho, h⟩
    | succ j => simp at hc
  cases x with
  | pv p =>
    simp [LV.cells?] at hc
    subst hc
    have h' : Rep g.S w v p := h
    obtain ⟨h1, h2⟩ := h'.cells
    refine ⟨by simpa using h1, fun j u c hu hc => ⟨h'.cellsOne j u hu, ?_⟩⟩
    rw [List.getElem?_map] at hc
    cases hp : p.cells[j]? with
    | none => simp [hp] at hc
    | some q => simp [hp] at hc; subst hc; exact h2 j u q hu hp
  | ag xs =>
    simp [LV.cells?] at hc
    subst hc
    obtain ⟨vs, rfl, h1, h2⟩ := h
    exact ⟨h1, h2⟩
  | full l =>
    simp [LV.cells?] at hc
    obtain ⟨A, rfl⟩ := h.2
    exact one (y := .full l) h rfl hc.symm rfl
  | sl k l =>
    simp [LV.cells?] at hc
    have h1 := h.1
    cases h1 with
    | nils => exact one (y := .sl k _) h rfl hc.symm rfl
    | nilz a => exact one (y := .sl k _) h rfl hc.symm rfl
    | slc => exact one (y := .sl k _) h rfl hc.symm rfl
  | bp n o =>
    simp [LV.cells?] at hc
    have h' : v = _ := h
    subst h'
    exact one (y := .bp n o) h rfl hc.symm rfl
  | arr n l =>
    simp [LV.cells?] at hc
    obtain ⟨rfl, h1⟩ := h
    exact one (y := .arr n l) ⟨rfl, h1⟩ rfl hc.symm rfl
  | it n =>
    simp [LV.cells?] at hc
    have h' : v = _ := h
    subst h'
    exact one (y := .it n) h rfl hc.symm rfl
  | mr n =>
    simp [LV.cells?] at hc
    have h' : v = _ := h
    subst h'
    exact one (y := .mr n) h rfl hc.symm rfl
  | cl f c =>
    simp [LV.cells?] at hc
    have h' : v = _ := h
    subst h'
    exact one (y := .cl f c) h rfl hc.symm rfl
  | _ => simp [LV.cells?] at hc

theorem get_range {n : Nat} {f : Nat → Value} {j : Nat} {u : Value} (h : ((List.range n).map f).toArray[j]? = some u) : j < n ∧ f j = u := by
  rw [List.getElem?_toArray, List.getElem?_map] at h
  by_cases hj : j < n
  · rw [List.getElem?_range hj] at h
    exact ⟨hj, by simpa using h⟩
  · rw [List.getElem?_eq_none (by simpa using hj)] at h
    cases h

theorem info_of_cells {t : TypeId} (h : P.cellsOf t ≠ 0) : ∃ i, P.info? t = some i ∧ i.size = P.cellsOf t := by
  unfold Program.cellsOf at *
  cases hi : P.info? t with
  | none => simp [hi] at h
  | some i => exact ⟨i, rfl, by simp⟩

theorem run_isAgg (t : TypeId) (h : (P.underlying t).isSome = true) (w : World) : (isAgg t).run P w = .ok (P.aggT t) w := by
  cases hd : P.underlying t with
  | none => simp [hd] at h
  | some d => cases d <;> simp [isAgg, run_underlying hd, Program.aggT, hd]

theorem some_of_agg {t : TypeId} (h : P.aggT t = true) : (P.underlying t).isSome = true := by
  unfold Program.aggT at h
  split at h <;> simp_all

theorem add_lit (b o n : Nat) : Addr.add ⟨b, o, none⟩ n = ⟨b, o + n, none⟩ := Addr.add_lit b o n

theorem run_loadVar_agg {t : TypeId} (ha : P.aggT t = true) (hz : P.cellsOf t ≠ 0) {b o : Nat} {f : Nat → Value} (h : ∀ j, j < P.cellsOf t → w.cell? ⟨b, o + j, none⟩ = some (f j)) :
    (loadVar t ⟨b, o, none⟩).run P w = .ok (.agg ((List.range (P.cellsOf t)).map f).toArray) w := by
  obtain ⟨i, hi, hs⟩ := info_of_cells hz
  have hl := run_loadCells (P := P) w ⟨b, o, none⟩ (P.cellsOf t) f (fun j hj => by rw [add_lit]; exact h j hj)
  simp only [loadVar, Sem.run_bind, run_isAgg t (some_of_agg ha) w, ha, Result.andThen_ok, if_true, sizeOf, typeInfo, run_program, hi, Sem.run_pure, hs, hl]

theorem run_loadVar_one {t : TypeId} (ha : P.aggT t = false) (hu : (P.underlying t).isSome = true) {b o : Nat} {v : Value} (h : w.cell? ⟨b, o, none⟩ = some v) :
    (loadVar t ⟨b, o, none⟩).run P w = .ok v w := by
  simp [loadVar, run_isAgg t hu w, ha, h]

/-- The closing of a step that only computes. -/
theorem step_val {o : Oper} {u : Upd} (hwb : u.wb = []) (hwh : u.wh = none)
    (hrun : ∀ (E : Env) (g : Gh) (a : Act) (w : World), Sim P E g a w F B H → ∃ v, (execOp a.eval o).run P w = .ok (.value v) w ∧ RepV g H w v u.val) : StepOk P o F B H u := by
  intro E g a w hs hd _ K Q hK
  obtain ⟨v, hr, hv⟩ := hrun E g a w hs
  refine wp_val hr (hK v w g ?_)
  have := hs.put hd hv
  rw [appB_nil hwb]
  simp only [appH, hwh]
  exact this

theorem ok_load {t : TypeId} {x : Operand} {o : Oper} {u : Upd} (ho : o.op = .load t x) (h : aLoad P B (· = u) t (evo F x)) : StepOk P o F B H u := by
  unfold aLoad at h
  split at h
  · rename_i cs heq
    split at h
    · rename_i hagg
      obtain ⟨h1, h2, rfl⟩ := h
      refine step_val rfl rfl fun E g a w hs => ?_
      have hev := hs.ev x
      rw [heq] at hev
      have hev' : Rep g.S w (a.eval x) (.ptr cs) := hev
      cases hx : a.eval x <;> rw [hx] at hev' <;> try cases hev'
      rename_i b off vs hone hm hr
      refine ⟨.agg ((List.range (P.cellsOf t)).map vs).toArray, ?_, ?_⟩
      · simp only [execOp, ho, hx, Instr.loadAt, Instr.sureAddr, Sem.run_bind, Sem.run_pure, Result.andThen_ok]
        rw [run_loadVar_agg hagg h2 (f := vs) (fun j hj => (hm j (by omega)).2)]
        rfl
      · refine Rep.agg _ _ (by simp; omega) ?_ ?_
        · intro j u hu
          obtain ⟨hj, rfl⟩ := get_range hu
          exact hone j (by omega)
        · intro j u c hu hc
          obtain ⟨hj, rfl⟩ := get_range hu
          rw [List.getElem?_take, if_pos hj] at hc
          exact hr j c hc
    · rename_i hagg
      split at h
      · rename_i c rest
        obtain ⟨h1, rfl⟩ := h
        refine step_val rfl rfl fun E g a w hs => ?_
        have hev := hs.ev x
        rw [heq] at hev
        have hev' : Rep g.S w (a.eval x) (.ptr (c :: rest)) := hev
        cases hx : a.eval x <;> rw [hx] at hev' <;> try cases hev'
        rename_i b off vs hone hm hr
        refine ⟨vs 0, ?_, hr 0 c rfl⟩
        simp only [execOp, ho, hx, Instr.loadAt, Instr.sureAddr, Sem.run_bind, Sem.run_pure, Result.andThen_ok]
        rw [run_loadVar_one hagg h1 (by simpa using (hm 0 (by simp)).2)]
        rfl
      · exact h.elim
  · rename_i n off heq
    split at h
    · rename_i rr cs hB
      split at h
      · rename_i hagg
        obtain ⟨h1, h2, rfl⟩ := h
        refine step_val rfl rfl fun E g a w hs => ?_
        have hev := hs.ev x
        rw [heq] at hev
        have hev' : a.eval x = .pointer (some ⟨g.bk n, off, none⟩) := hev
        obtain ⟨_, _, vs, ty, hh, hl, hc, _⟩ := hs.box n _ hB
        have cell : ∀ j, j < P.cellsOf t → w.cell? ⟨g.bk n, off + j, none⟩ = some (vs.getD (off + j) undef) := fun j hj => by
          rw [cell_of_row w _ _ vs ty (0, 0) hh]
          have : off + j < vs.size := by omega
          simp [this]
        refine ⟨.agg ((List.range (P.cellsOf t)).map fun j => vs.getD (off + j) undef).toArray, ?_, ?_⟩
        · simp only [execOp, ho, hev', Instr.loadAt, Instr.sureAddr, Sem.run_bind, Sem.run_pure, Result.andThen_ok]
          rw [run_loadVar_agg hagg h2 cell]
          rfl
        · refine ⟨_, rfl, by simp; omega, fun j u c hu hc' => ?_⟩
          obtain ⟨hj, rfl⟩ := get_range hu
          have hlt : off + j < vs.size := by omega
          have e1 : vs[off + j]? = some vs[off + j] := Array.getElem?_eq_getElem hlt
          rw [List.getElem?_take, if_pos hj, List.getElem?_drop] at hc'
          have e2 : vs.getD (off + j) undef = vs[off + j] := by simp [hlt]
          rw [e2]
          exact hc (off + j) _ c e1 hc'
      · rename_i hagg
        obtain ⟨c, h1, h2, rfl⟩ := h
        refine step_val rfl rfl fun E g a w hs => ?_
        have hev := hs.ev x
        rw [heq] at hev
        have hev' : a.eval x = .pointer (some ⟨g.bk n, off, none⟩) := hev
        obtain ⟨_, _, vs, ty, hh, hl, hc, _⟩ := hs.box n _ hB
        have hlt : off < vs.size := by have := (List.getElem?_eq_some_iff.1 h1).1; omega
        have e1 : vs[off]? = some vs[off] := Array.getElem?_eq_getElem hlt
        have hrc := (hc off _ c e1 h1).2
        refine ⟨vs[off], ?_, ?_⟩
        · simp only [execOp, ho, hev', Instr.loadAt, Instr.sureAddr, Sem.run_bind, Sem.run_pure, Result.andThen_ok]
          rw [run_loadVar_one hagg h2 (v := vs[off]) (by rw [cell_of_row w _ _ vs ty (0, 0) hh]; exact e1)]
          rfl
        · cases c <;> first | exact hrc | exact hrc.elim
    · exact h.elim
  · exact h.elim

theorem ok_move {x : Operand} {o : Oper} {u : Upd} (ho : o.op = .move x ∨ o.op = .assign x) (h : ({ val := evo F x } : Upd) = u) : StepOk P o F B H u := by
  subst h
  refine step_val rfl rfl fun E g a w hs => ⟨a.eval x, ?_, hs.ev x⟩
  rcases ho with ho | ho <;> simp [execOp, ho]

theorem ok_pick {c x y : Operand} {o : Oper} {u : Upd} (ho : o.op = .pick c x y) (h : aPick (· = u) (evo F c) (evo F x) (evo F y)) : StepOk P o F B H u := by
  unfold aPick at h
  split at h
  · rename_i t heq
    by_cases ht : t = true
    · have := h.1 ht
      subst this
      refine step_val rfl rfl fun E g a w hs => ⟨a.eval x, ?_, hs.ev x⟩
      have hev := hs.ev c
      rw [heq, ht] at hev
      have hev' : Rep g.S w (a.eval c) (.bool true) := hev
      cases hx : a.eval c <;> rw [hx] at hev' <;> try cases hev'
      simp [execOp, ho, hx, asBool]
    · have := h.2 (by simpa using ht)
      subst this
      refine step_val rfl rfl fun E g a w hs => ⟨a.eval y, ?_, hs.ev y⟩
      have hev := hs.ev c
      rw [heq, show t = false by simpa using ht] at hev
      have hev' : Rep g.S w (a.eval c) (.bool false) := hev
      cases hx : a.eval c <;> rw [hx] at hev' <;> try cases hev'
      simp [execOp, ho, hx, asBool]
  · exact h.elim

end
end Go.Am
