/- The abstract machine, part 8: more operations; nothing is assumed of any program. -/
import Derived.Test.YtjbgfihkdeeonaaAmSeven
set_option linter.unusedSimpArgs false
set_option linter.unusedVariables false
namespace Go.Am
open Go.RowKit

section
variable {P : Program} {E : Env} {g : Gh} {a : Act} {w : World} {F : Nat → LV} {B : Nat → Option BO} {H : HT}

theorem int_inv {v : Value} {k : IntKind} {n : Int} (h : RepV g H w v (.pv (.int k n))) : v = .int k n := by
  have h' : Rep g.S w v (.int k n) := h
  cases h'; rfl
theorem bool_inv {v : Value} {b : Bool} (h : RepV g H w v (.pv (.bool b))) : v = .bool b := by
  have h' : Rep g.S w v (.bool b) := h
  cases h'; rfl
theorem str_inv {v : Value} {b : ByteArray} (h : RepV g H w v (.pv (.str b))) : v = .string b := by
  have h' : Rep g.S w v (.str b) := h
  cases h'; rfl

theorem run_indexAt_slice_ {t e : TypeId} (ht : P.underlying t = some (.slice e)) (hz : P.cellsOf e ≠ 0) {b off len cap : Nat} {k : IntKind} {n : Int} (h0 : 0 ≤ n) (h1 : n < len) (w : World) :
    (Instr.indexAt t (.slice (some ⟨b, off, none⟩) len cap) (.int k n)).run P w = .ok (.pointer (some ⟨b, off + n.toNat * P.cellsOf e, none⟩)) w := by
  simp only [Instr.indexAt, asIntOf, Sem.run_bind, Sem.run_pure, Result.andThen_ok, run_underlying ht]
  rw [if_pos ⟨h0, h1⟩, Sem.run_bind, run_sizeOf hz]
  simp [add_lit]

theorem run_indexAt_array_ {t e : TypeId} {len : Nat} (ht : P.underlying t = some (.array len e)) (hz : P.cellsOf e ≠ 0) {b off : Nat} {k : IntKind} {n : Int} (h0 : 0 ≤ n) (h1 : n < len) (w : World) :
    (Instr.indexAt t (.pointer (some ⟨b, off, none⟩)) (.int k n)).run P w = .ok (.pointer (some ⟨b, off + n.toNat * P.cellsOf e, none⟩)) w := by
  simp only [Instr.indexAt, asIntOf, Sem.run_bind, Sem.run_pure, Result.andThen_ok, run_underlying ht, Instr.sureAddr]
  rw [if_pos ⟨h0, h1⟩, Sem.run_bind, run_sizeOf hz]
  simp [add_lit]

theorem ok_indexAddr {t : TypeId} {x i : Operand} {o : Oper} {u : Upd} (ho : o.op = .indexAddr t x i) (h : aIndexAddr P (· = u) t (evo F x) (evo F i)) : StepOk P o F B H u := by
  unfold aIndexAddr at h
  split at h
  · rename_i k n hi
    split at h
    · rename_i e ht
      split at h
      · rename_i b len hx
        obtain ⟨h1, h2, h3, rfl⟩ := h
        refine step_val rfl rfl fun E g a w hs => ?_
        have hev := hs.ev x
        rw [hx] at hev
        obtain ⟨hv, _⟩ := hev
        have hi' := int_inv (hi ▸ hs.ev i)
        refine ⟨.pointer (some ⟨g.bk b, 0 + n.toNat * P.cellsOf e, none⟩), ?_, ?_⟩
        · simp only [execOp, ho, hv, hi', Sem.run_bind]
          rw [run_indexAt_slice_ ht h3 h1 h2]
          rfl
        · show _ = _; simp
      · split at h
        · rename_i l hl
          obtain ⟨h1, el, h2, h3, h4, rfl⟩ := h
          refine step_val rfl rfl fun E g a w hs => ?_
          have hr := (hs.ev x).list hl
          have hi' := int_inv (hi ▸ hs.ev i)
          have hlt := (List.getElem?_eq_some_iff.1 h2).1
          cases hx : a.eval x <;> rw [hx] at hr <;> try cases hr
          · simp at hlt
          · simp at hlt
          · rename_i b off sz vs ho' hm hlc hsz hr' hll
            have hes := hsz el (List.mem_of_getElem? h2)
            have hsz' : sz = P.cellsOf e := hes.symm.trans h3
            subst hsz'
            subst hll
            refine ⟨.pointer (some ⟨b, off + n.toNat * P.cellsOf e, none⟩), ?_, ?_⟩
            · simp only [execOp, ho, hx, hi', Sem.run_bind]
              rw [run_indexAt_slice_ ht h4 h1 (by omega)]
              rfl
            · have key : ∀ j, j < el.cells.length → n.toNat * P.cellsOf e + j < l.length * P.cellsOf e := fun j hj => mul_lt_of hlt (by omega)
              refine Rep.ptr b _ _ (fun j => vs (n.toNat * P.cellsOf e + j)) (fun j hj => ho' _ (key j hj)) (fun j hj => ?_) fun j c hc => hr' _ el j c h2 hc
              have := hm _ (key j hj)
              rwa [← Nat.add_assoc] at this
        · exact h.elim
    · rename_i len e ht
      split at h
      · rename_i b off hx
        obtain ⟨h1, h2, h3, rfl⟩ := h
        refine step_val rfl rfl fun E g a w hs => ?_
        have hev := hs.ev x
        rw [hx] at hev
        have hev' : a.eval x = .pointer (some ⟨g.bk b, off, none⟩) := hev
        have hi' := int_inv (hi ▸ hs.ev i)
        refine ⟨.pointer (some ⟨g.bk b, off + n.toNat * P.cellsOf e, none⟩), ?_, rfl⟩
        simp only [execOp, ho, hev', hi', Sem.run_bind]
        rw [run_indexAt_array_ ht h3 h1 h2]
        rfl
      · rename_i cs hx
        obtain ⟨h1, h2, h3, rfl⟩ := h
        refine step_val rfl rfl fun E g a w hs => ?_
        obtain ⟨b, off, hv, vs, k1, k2, k3⟩ := ptr_inv (hx ▸ hs.ev x)
        have hi' := int_inv (hi ▸ hs.ev i)
        refine ⟨.pointer (some ⟨b, off + n.toNat * P.cellsOf e, none⟩), ?_, ptr_drop (n.toNat * P.cellsOf e) k1 k2 k3⟩
        simp only [execOp, ho, hv, hi', Sem.run_bind]
        rw [run_indexAt_array_ ht h3 h1 h2]
        rfl
      · exact h.elim
    · exact h.elim
  · exact h.elim

theorem ok_index {t : TypeId} {x i : Operand} {o : Oper} {u : Upd} (ho : o.op = .index t x i) (h : aIndex P (· = u) t (evo F x) (evo F i)) : StepOk P o F B H u := by
  unfold aIndex at h
  split at h
  · rename_i k n hi
    split at h
    · rename_i len e ht
      split at h
      · rename_i cs hx
        obtain ⟨h1, h2, h3, h4, h5, c, h6, rfl⟩ := h
        refine step_val rfl rfl fun E g a w hs => ?_
        obtain ⟨vs, hv, hl, k1, k2⟩ := agg_inv (hx ▸ hs.ev x)
        have hi' := int_inv (hi ▸ hs.ev i)
        have hlt : n.toNat < vs.size := by have := (List.getElem?_eq_some_iff.1 h6).1; omega
        have e1 : vs[n.toNat]? = some vs[n.toNat] := Array.getElem?_eq_getElem hlt
        refine ⟨vs[n.toNat], ?_, k2 _ _ c e1 h6⟩
        simp only [execOp, ho, hv, hi', Sem.run_bind, Instr.index, asIntOf, Sem.run_pure, Result.andThen_ok, run_underlying ht]
        rw [if_pos ⟨h4, h5⟩, Sem.run_bind, run_sizeOf (by omega)]
        simp only [Result.andThen_ok, h2, Nat.mul_one]
        rw [run_part_one h1 h3 e1]
        rfl
      · exact h.elim
    · rename_i ht
      split at h
      · rename_i s hx
        obtain ⟨h1, c, h2, rfl⟩ := h
        refine step_val rfl rfl fun E g a w hs => ?_
        have hv := str_inv (hx ▸ hs.ev x)
        have hi' := int_inv (hi ▸ hs.ev i)
        refine ⟨.int .u8 c.toNat, ?_, Rep.int _ _⟩
        simp [execOp, ho, hv, hi', Instr.index, asIntOf, run_underlying ht, h1, h2]
      · exact h.elim
    · exact h.elim
  · exact h.elim

theorem bnd_inv {d : Int} {x : Option Operand} {n : Int} (h : bnd d (x.map (evo F)) = some n) (hs : Sim P E g a w F B H) : (x = none ∧ n = d) ∨ ∃ y k, x = some y ∧ a.eval y = .int k n := by
  cases x with
  | none => simp [bnd] at h; exact .inl ⟨rfl, h.symm⟩
  | some y =>
    simp only [Option.map_some] at h
    unfold bnd at h
    split at h
    · rename_i heq; cases heq
    · rename_i k m heq
      injection h with h
      subst h
      injection heq with heq
      exact .inr ⟨y, k, rfl, int_inv (heq ▸ hs.ev y)⟩
    · cases h

theorem SlcAt.nil (S : Nat → Nat → Prop) (w : World) (A : Option Addr) (sz : Nat) : SlcAt S w A [] sz [] := ⟨by simp, by simp, by simp, by simp, by simp⟩

theorem SlcAt.cut {S : Nat → Nat → Prop} {b off : Nat} {l : List PV} {sz p q : Nat} {xs : List Value} (h : SlcAt S w (some ⟨b, off, none⟩) l sz xs) (hpq : p ≤ q) (hq : q ≤ l.length) :
    SlcAt S w (some ⟨b, off + p * sz, none⟩) ((l.take q).drop p) sz ((xs.take (q * sz)).drop (p * sz)) := by
  have hle : q * sz ≤ l.length * sz := Nat.mul_le_mul_right _ hq
  have hx := h.len
  refine ⟨?_, ?_, ?_, ?_, ?_⟩
  · simp only [List.length_drop, List.length_take, hx]
    rw [Nat.min_eq_left hle, Nat.min_eq_left hq, Nat.sub_mul]
  · intro e he
    exact h.all e (List.mem_of_mem_take (List.mem_of_mem_drop he))
  · intro u hu
    exact h.one u (List.mem_of_mem_take (List.mem_of_mem_drop hu))
  · intro hne
    have hxn : xs ≠ [] := by rintro rfl; simp at hne
    obtain ⟨b', off', he, hc⟩ := h.cell hxn
    injection he with he
    injection he with h1 h2
    subst h1; subst h2
    refine ⟨b, _, rfl, fun j u hu => ?_⟩
    rw [List.getElem?_drop, List.getElem?_take] at hu
    split at hu
    · have := hc _ u hu
      rwa [← Nat.add_assoc] at this
    · cases hu
  · intro i e j c he hc
    rw [List.getElem?_drop, List.getElem?_take] at he
    split at he
    · rename_i hi
      obtain ⟨u, hu, hr⟩ := h.rep (p + i) e j c he hc
      have hj : j < sz := by rw [← h.all e (List.mem_of_getElem? he)]; exact (List.getElem?_eq_some_iff.1 hc).1
      refine ⟨u, ?_, hr⟩
      have e1 : p * sz + (i * sz + j) = (p + i) * sz + j := by rw [Nat.add_mul]; omega
      rw [List.getElem?_drop, List.getElem?_take, e1, if_pos (mul_lt_of hi hj)]
      exact hu
    · cases he

theorem ok_slice {t : TypeId} {x : Operand} {lo hi : Option Operand} {o : Oper} {u : Upd} (ho : o.op = .slice t x lo hi none) (h : aSlice P (· = u) t (evo F x) (lo.map (evo F)) (hi.map (evo F))) : StepOk P o F B H u := by
  unfold aSlice at h
  split at h
  · rename_i e ht
    split at h
    · rename_i n len hx
      split at h
      · rename_i p q hlo hhi
        obtain ⟨h1, h2, h3, h4, rfl⟩ := h
        subst h1
        refine step_val rfl rfl fun E g a w hs => ?_
        have hev := hs.ev x
        rw [hx] at hev
        obtain ⟨hv, hle⟩ := hev
        refine ⟨.slice (some ⟨g.bk n, 0, none⟩) q.toNat (g.cp n), ?_, rfl, by omega⟩
        simp only [execOp, ho, hv, Instr.sliceAt, Instr.slice, Sem.run_bind, run_underlying ht, Result.andThen_ok, Instr.sliceBounds, Sem.run_pure, Option.map_none]
        rcases bnd_inv hlo hs with ⟨rfl, _⟩ | ⟨y1, k1, rfl, e1⟩ <;> rcases bnd_inv hhi hs with ⟨rfl, rfl⟩ | ⟨y2, k2, rfl, e2⟩
        · simp [run_sizeOf h4, add_lit]
        · have : (0 : Int) ≤ q ∧ q ≤ (g.cp n : Int) := ⟨by omega, by omega⟩
          simp [e2, Instr.sliceBound, asIntOf, this, run_sizeOf h4, add_lit]
        · simp [e1, Instr.sliceBound, asIntOf, run_sizeOf h4, add_lit]
        · have t1 : (0 : Int) ≤ q ∧ q ≤ (g.cp n : Int) := ⟨by omega, by omega⟩
          have t2 : (0 : Int) ≤ 0 ∧ (0 : Int) ≤ q := ⟨by omega, by omega⟩
          have t3 : max q 0 = q := by omega
          simp [e1, e2, Instr.sliceBound, asIntOf, t1, t2, t3, run_sizeOf h4, add_lit]
      · exact h.elim
    split at h
    · rename_i l hl
      split at h
      · rename_i p q hlo hhi
        obtain ⟨h1, h2, h3, h4, h5, rfl⟩ := h
        refine step_val rfl rfl fun E g a w hs => ?_
        obtain ⟨A, cap, xs, hv, hc, hA0, hAs, hat⟩ := ((hs.ev x).list hl).slc_inv h4
        have hrun : (execOp a.eval o).run P w = .ok (.value (.slice (if cap = p.toNat then A else A.map (·.add (p.toNat * P.cellsOf e))) (q.toNat - p.toNat) (cap - p.toNat))) w := by
          simp only [execOp, ho, hv, Instr.sliceAt, Instr.slice, Sem.run_bind, run_underlying ht, Result.andThen_ok, Instr.sliceBounds, Sem.run_pure, Option.map_none]
          rcases bnd_inv hlo hs with ⟨rfl, rfl⟩ | ⟨y1, k1, rfl, e1⟩ <;> rcases bnd_inv hhi hs with ⟨rfl, rfl⟩ | ⟨y2, k2, rfl, e2⟩
          · simp [run_sizeOf h5]
          · have : (0 : Int) ≤ q ∧ q ≤ (cap : Int) := ⟨by omega, by omega⟩
            simp [e2, Instr.sliceBound, asIntOf, this, run_sizeOf h5]
          · have : (0 : Int) ≤ p ∧ p ≤ (l.length : Int) := ⟨by omega, by omega⟩
            simp [e1, Instr.sliceBound, asIntOf, this, run_sizeOf h5]
          · have t1 : (0 : Int) ≤ q ∧ q ≤ (cap : Int) := ⟨by omega, by omega⟩
            have t2 : (0 : Int) ≤ p ∧ p ≤ q := ⟨by omega, by omega⟩
            have t3 : max q 0 = q := by omega
            simp [e1, e2, Instr.sliceBound, asIntOf, t1, t2, t3, run_sizeOf h5]
        refine ⟨_, hrun, ?_⟩
        show Rep g.S w _ _
        have hlen : ((l.take q.toNat).drop p.toNat).length = q.toNat - p.toNat := by simp; omega
        cases A with
        | none =>
          have hc0 := hA0 rfl
          have hl0 : l = [] := List.eq_nil_of_length_eq_zero (by omega)
          subst hl0
          have e1 : p = 0 := by simp at h3; omega
          have e2 : q = 0 := by simp at h3; omega
          subst e1; subst e2; subst hc0
          simp
          exact Rep.nils
        | some ad =>
          obtain ⟨b, off, sp⟩ := ad
          rcases hAs _ rfl with hsp | hc0
          case inr =>
            have hl0 : l = [] := List.eq_nil_of_length_eq_zero (by omega)
            subst hl0
            have e1 : p = 0 := by simp at h3; omega
            have e2 : q = 0 := by simp at h3; omega
            subst e1; subst e2; subst hc0
            simp
            exact Rep.nilz _
          simp only at hsp
          subst hsp
          split
          · rename_i hcp
            have h0 : (l.take q.toNat).drop p.toNat = [] := List.eq_nil_of_length_eq_zero (by omega)
            rw [h0]
            have h1 : q.toNat - p.toNat = ([] : List PV).length := by simp; omega
            rw [h1]
            exact (SlcAt.nil g.S w _ 0).rep_ (by simp)
          · have := (hat.cut (p := p.toNat) (q := q.toNat) (by omega) (by omega)).rep_ (cap := cap - p.toNat) (by omega)
            rw [hlen] at this
            simpa [add_lit] using this
      · exact h.elim
    · exact h.elim
  · rename_i ht
    split at h
    · rename_i s hx
      split at h
      · rename_i p q hlo hhi
        obtain ⟨h1, h2, h3, rfl⟩ := h
        refine step_val rfl rfl fun E g a w hs => ?_
        have hv := str_inv (hx ▸ hs.ev x)
        refine ⟨.string (s.extract p.toNat q.toNat), ?_, Rep.str _⟩
        simp only [execOp, ho, hv, Instr.sliceAt, Instr.slice, Sem.run_bind, run_underlying ht, Result.andThen_ok, Instr.sliceBounds, Sem.run_pure, Option.map_none, Option.isSome_none, Bool.false_eq_true, if_false]
        rcases bnd_inv hlo hs with ⟨rfl, rfl⟩ | ⟨y1, k1, rfl, e1⟩ <;> rcases bnd_inv hhi hs with ⟨rfl, rfl⟩ | ⟨y2, k2, rfl, e2⟩
        · simp
        · have : (0 : Int) ≤ q ∧ q ≤ (s.size : Int) := ⟨by omega, by omega⟩
          simp [e2, Instr.sliceBound, asIntOf, this]
        · have : (0 : Int) ≤ p ∧ p ≤ (s.size : Int) := ⟨by omega, by omega⟩
          simp [e1, Instr.sliceBound, asIntOf, this]
        · have t1 : (0 : Int) ≤ q ∧ q ≤ (s.size : Int) := ⟨by omega, by omega⟩
          have t2 : (0 : Int) ≤ p ∧ p ≤ q := ⟨by omega, by omega⟩
          have t3 : max q 0 = q := by omega
          simp [e1, e2, Instr.sliceBound, asIntOf, t1, t2, t3]
      · exact h.elim
    · exact h.elim
  · exact h.elim

end
end Go.Am
