/- The abstract machine, part 17: what is read as data reads as pure values; nothing is assumed of any program. -/
import Derived.Test.YtjbgfihkdeeonaaAmSixteen
import Derived.ChangeSame
import Derived.ChangeArms
import Derived.ChangeOld
import Derived.Carry
import Derived.ProofKit
import Derived.OpenShut
import Derived.JoinedOf
set_option linter.unusedSimpArgs false
set_option linter.unusedVariables false
namespace Go.Am
open Go.RowKit Go.ChangeShapes Go.WideShapes

/-- What the cells of a type read as. -/
inductive HasT (P : Program) : TypeId → List PV → Prop
  | bool (t : TypeId) (b : Bool) (h : P.underlying t = some .bool) : HasT P t [.bool b]
  | int (t : TypeId) (k : IntKind) (n : Int) (h : P.underlying t = some (.int k)) (hw : (Lit.int k n).wf = true) : HasT P t [.int k n]
  | str (t : TypeId) (s : ByteArray) (h : P.underlying t = some .string) (hs : s.size ≤ maxLen) : HasT P t [.str s]
  | slc (t e : TypeId) (l : List PV) (h : P.underlying t = some (.slice e)) (hl : l.length ≤ maxLen) (hg : ∀ el ∈ l, el.one = !P.aggT e) (hc : ∀ el ∈ l, el.cells.length = P.cellsOf e) (he : ∀ el ∈ l, HasT P e el.cells) : HasT P t [.slc l]
  | struct (t : TypeId) (fs : Array Field) (parts : List (List PV)) (h : P.underlying t = some (.struct fs)) (hl : parts.length = fs.size) (hp : ∀ (i : Nat) (f : Field) (a : List PV), fs[i]? = some f → parts[i]? = some a → HasT P f.type a) : HasT P t parts.flatten
  | array (t e : TypeId) (n : Nat) (parts : List (List PV)) (h : P.underlying t = some (.array n e)) (hl : parts.length = n) (hp : ∀ a ∈ parts, HasT P e a) : HasT P t parts.flatten

theorem HasT.bool_inv {P : Program} {t : TypeId} {qs : List PV} (h : HasT P t qs) (ht : P.underlying t = some .bool) : ∃ b, qs = [.bool b] := by
  cases h <;> simp_all
theorem HasT.int_inv {P : Program} {t : TypeId} {qs : List PV} {k : IntKind} (h : HasT P t qs) (ht : P.underlying t = some (.int k)) : ∃ n, qs = [.int k n] ∧ (Lit.int k n).wf = true := by
  cases h <;> simp_all
theorem HasT.str_inv {P : Program} {t : TypeId} {qs : List PV} (h : HasT P t qs) (ht : P.underlying t = some .string) : ∃ s, qs = [.str s] ∧ s.size ≤ maxLen := by
  cases h <;> simp_all
theorem HasT.slc_inv {P : Program} {t e : TypeId} {qs : List PV} (h : HasT P t qs) (ht : P.underlying t = some (.slice e)) : ∃ l, qs = [.slc l] ∧ l.length ≤ maxLen ∧ (∀ el ∈ l, el.one = !P.aggT e) ∧ ∀ el ∈ l, HasT P e el.cells := by
  cases h with
  | slc _ e' l h hl hg hc he =>
    rw [h] at ht
    injection ht with ht
    injection ht with ht
    subst ht
    exact ⟨l, rfl, hl, hg, he⟩
  | _ => simp_all
theorem HasT.struct_inv {P : Program} {t : TypeId} {qs : List PV} {fs : Array Field} (h : HasT P t qs) (ht : P.underlying t = some (.struct fs)) : ∃ parts : List (List PV), qs = parts.flatten ∧ parts.length = fs.size ∧ ∀ (i : Nat) (f : Field) (a : List PV), fs[i]? = some f → parts[i]? = some a → HasT P f.type a := by
  cases h with
  | struct _ fs' parts h hl hp =>
    rw [h] at ht
    injection ht with ht
    injection ht with ht
    subst ht
    exact ⟨parts, rfl, hl, hp⟩
  | _ => simp_all
theorem HasT.array_inv {P : Program} {t e : TypeId} {n : Nat} {qs : List PV} (h : HasT P t qs) (ht : P.underlying t = some (.array n e)) : ∃ parts : List (List PV), qs = parts.flatten ∧ parts.length = n ∧ ∀ a ∈ parts, HasT P e a := by
  cases h with
  | array _ e' n' parts h hl hp =>
    rw [h] at ht
    injection ht with ht
    injection ht with ht1 ht2
    subst ht1; subst ht2
    exact ⟨parts, rfl, hl, hp⟩
  | _ => simp_all

/-- The fields of a struct lie one behind the other. -/
def tiles (P : Program) : List Field → Nat → Option Nat
  | [], off => some off
  | f :: r, off => if f.offset = off then tiles P r (off + P.cellsOf f.type) else none

/-- Types of plain data, closed under their parts. -/
def okTys (P : Program) (G : List TypeId) : Bool := G.all fun t => match P.underlying t with
  | some .bool | some (.int _) | some .string => P.cellsOf t == 1
  | some (.slice e) => G.contains e && P.cellsOf e != 0 && P.cellsOf t == 1
  | some (.struct fs) => fs.all (fun f => G.contains f.type) && tiles P fs.toList 0 == some (P.cellsOf t)
  | some (.array n e) => G.contains e && n * P.cellsOf e == P.cellsOf t
  | _ => false

def RepL (S : Nat → Nat → Prop) (w : World) : List Value → List PV → Prop
  | [], [] => True
  | v :: vs, q :: qs => (v.oneCell' = true ∧ Rep S w v q) ∧ RepL S w vs qs
  | _, _ => False

theorem RepL.append {S : Nat → Nat → Prop} {w : World} : ∀ {vs us : List Value} {qs rs : List PV}, RepL S w vs qs → RepL S w us rs → RepL S w (vs ++ us) (qs ++ rs)
  | [], us, [], rs, _, h => h
  | [], _, _ :: _, _, h, _ => h.elim
  | _ :: _, _, [], _, h, _ => h.elim
  | _ :: _, _, _ :: _, _, h, h' => ⟨h.1, RepL.append h.2 h'⟩
theorem RepL.len {S : Nat → Nat → Prop} {w : World} : ∀ {vs : List Value} {qs : List PV}, RepL S w vs qs → vs.length = qs.length
  | [], [], _ => rfl
  | [], _ :: _, h => h.elim
  | _ :: _, [], h => h.elim
  | _ :: _, _ :: _, h => by simp [RepL.len h.2]
theorem RepL.get {S : Nat → Nat → Prop} {w : World} : ∀ {vs : List Value} {qs : List PV}, RepL S w vs qs → ∀ (j : Nat) (v : Value) (q : PV), vs[j]? = some v → qs[j]? = some q → v.oneCell' = true ∧ Rep S w v q
  | [], [], _ => by simp
  | [], _ :: _, h => h.elim
  | _ :: _, [], h => h.elim
  | v :: vs, q :: qs, h => by
    intro j u p hu hp
    cases j with
    | zero => simp at hu hp; subst hu; subst hp; exact h.1
    | succ j => simp at hu hp; exact RepL.get h.2 j u p hu hp

theorem cells_one {q : PV} (h : q.one = true) : q.cells = [q] := by cases q <;> simp_all [PV.one, PV.cells]

variable {H : Type} {enc : TypeId × Value → H} {P : Program} {w : World}

theorem trod_array {spare : Nat → Bool} {held : Bool} {base fuel : Nat} {t e : TypeId} {n : Nat} {cs : List Value} {x : DataW H × List MemPlace} (ht : P.underlying t = some (.array n e)) (h : DataW.trod enc P w base spare held fuel t cs = some x) :
    ∃ m, fuel = m + 1 ∧ cs.length = P.cellsOf t ∧ ∀ i, i < n → ∃ y, DataW.trod enc P w base spare held m e ((cs.drop (i * P.cellsOf e)).take (P.cellsOf e)) = some y := by
  cases fuel with
  | zero => simp [DataW.trod] at h
  | succ m =>
    unfold DataW.trod at h
    rw [ht] at h
    refine ⟨m, rfl, ?_⟩
    have h' : (if cs.length = P.cellsOf t then ((List.range n).mapM fun i => DataW.trod enc P w base spare held m e ((cs.drop (i * P.cellsOf e)).take (P.cellsOf e))).map fun xs => ((DataW.agg (xs.map (·.1)), xs.flatMap (·.2)) : DataW H × List MemPlace) else none) = some x := by
      split at h <;> simp_all
    split at h'
    · rename_i hl
      refine ⟨hl, fun i hi => ?_⟩
      cases hm : (List.range n).mapM fun i => DataW.trod enc P w base spare held m e ((cs.drop (i * P.cellsOf e)).take (P.cellsOf e)) with
      | none => rw [hm] at h'; simp at h'
      | some ys =>
        have h1 := mapM_some_get hm i i (by simp [hi])
        have h2 := mapM_some_length hm
        have : i < ys.length := by rw [h2]; simpa using hi
        exact ⟨ys[i], by rw [h1]; simp [this]⟩
    · cases h'

theorem trod_nonzero {spare : Nat → Bool} {held : Bool} {base : Nat} {t : TypeId} {cs : List Value} {x : DataW H × List MemPlace} {fuel : Nat} (h : DataW.trod enc P w base spare held fuel t cs = some x) : 0 < fuel := by
  cases fuel with
  | zero => simp [DataW.trod] at h
  | succ n => omega

theorem aggT_struct {t : TypeId} {fs : Array Field} (h : P.underlying t = some (.struct fs)) : P.aggT t = true := by
  unfold Program.aggT; rw [h]
theorem aggT_array {t e : TypeId} {n : Nat} (h : P.underlying t = some (.array n e)) : P.aggT t = true := by
  unfold Program.aggT; rw [h]

theorem HasT.one_ {t : TypeId} {qs : List PV} (h : HasT P t qs) (ha : P.aggT t = false) : ∃ q, qs = [q] ∧ q.one = true := by
  cases h with
  | bool b h => exact ⟨_, rfl, rfl⟩
  | int k n h hw => exact ⟨_, rfl, rfl⟩
  | str s h hs => exact ⟨_, rfl, rfl⟩
  | slc e l h hl hg hc he => exact ⟨_, rfl, rfl⟩
  | struct _ _ _ h => rw [aggT_struct h] at ha; cases ha
  | array _ _ _ _ h => rw [aggT_array h] at ha; cases ha

/-- Parts that lie one behind the other. -/
theorem parts_tile {S : Nat → Nat → Prop} {cs : List Value} : ∀ (fs : List Field) (off : Nat) (T : Nat), tiles P fs off = some T → T = cs.length →
    (∀ (i : Nat) (f : Field), fs[i]? = some f → ∃ qs, RepL S w ((cs.drop f.offset).take (P.cellsOf f.type)) qs ∧ HasT P f.type qs ∧ ((cs.drop f.offset).take (P.cellsOf f.type)).length = P.cellsOf f.type) →
    ∃ parts : List (List PV), parts.length = fs.length ∧ RepL S w (cs.drop off) parts.flatten ∧ ∀ (i : Nat) (f : Field) (a : List PV), fs[i]? = some f → parts[i]? = some a → HasT P f.type a := by
  intro fs
  induction fs with
  | nil =>
    intro off T ht hT _
    simp [tiles] at ht
    refine ⟨[], rfl, ?_, by simp⟩
    rw [ht, hT, List.drop_length]
    trivial
  | cons f r ih =>
    intro off T ht hT h
    simp only [tiles] at ht
    split at ht
    · rename_i ho
      obtain ⟨qs, h1, h2, h3⟩ := h 0 f rfl
      obtain ⟨parts, h4, h5, h6⟩ := ih _ T ht hT fun i f' hf => h (i + 1) f' (by simpa using hf)
      refine ⟨qs :: parts, by simp [h4], ?_, ?_⟩
      · rw [ho] at h1
        have := h1.append h5
        rw [← List.drop_drop, List.take_append_drop] at this
        exact this
      · intro i f' a hf ha
        cases i with
        | zero => simp at hf ha; subst hf; subst ha; exact h2
        | succ i => simp at hf ha; exact h6 i f' a hf ha
    · cases ht

theorem parts_row {S : Nat → Nat → Prop} {e : TypeId} {cs : List Value} : ∀ (n k : Nat), (k + n) * P.cellsOf e = cs.length →
    (∀ i, k ≤ i → i < k + n → ∃ qs, RepL S w ((cs.drop (i * P.cellsOf e)).take (P.cellsOf e)) qs ∧ HasT P e qs) →
    ∃ parts : List (List PV), parts.length = n ∧ RepL S w (cs.drop (k * P.cellsOf e)) parts.flatten ∧ ∀ a ∈ parts, HasT P e a := by
  intro n
  induction n with
  | zero =>
    intro k hk _
    refine ⟨[], rfl, ?_, by simp⟩
    rw [Nat.add_zero] at hk
    rw [hk, List.drop_length]
    trivial
  | succ n ih =>
    intro k hk h
    obtain ⟨qs, h1, h2⟩ := h k (by omega) (by omega)
    obtain ⟨parts, h4, h5, h6⟩ := ih (k + 1) (by rw [← hk]; congr 1; omega) fun i h1 h2 => h i (by omega) (by omega)
    refine ⟨qs :: parts, by simp [h4], ?_, ?_⟩
    · have := h1.append h5
      rw [Nat.add_mul, Nat.one_mul, ← List.drop_drop, List.take_append_drop] at this
      exact this
    · intro a ha
      rcases List.mem_cons.1 ha with rfl | ha
      · exact h2
      · exact h6 a ha

/-- WHAT IS READ AS DATA READS AS PURE VALUES. -/
theorem trod_rep {G : List TypeId} (hG : okTys P G = true) : ∀ (fuel : Nat) (t : TypeId) (cs : List Value) (x : DataW H × List MemPlace), t ∈ G → DataW.trod enc P w 0 (fun _ => true) true fuel t cs = some x →
    ∃ qs, RepL (fun b _ => b < w.heap.size) w cs qs ∧ HasT P t qs ∧ cs.length = P.cellsOf t := by
  intro fuel
  induction fuel with
  | zero => intro t cs x _ h; simp [DataW.trod] at h
  | succ m ih =>
    intro t cs x htG h
    have hgt := List.all_eq_true.1 hG t htG
    cases hu : P.underlying t with
    | none => rw [hu] at hgt; cases hgt
    | some d =>
      rw [hu] at hgt
      cases d with
      | bool =>
        obtain ⟨b, rfl, rfl⟩ := DataW.trod_bool hu h
        exact ⟨[.bool b], ⟨⟨rfl, .bool b⟩, trivial⟩, .bool t b hu, by simpa using (beq_iff_eq.1 hgt).symm⟩
      | int k =>
        obtain ⟨n, rfl, rfl, hw⟩ := DataW.trod_int hu h
        exact ⟨[.int k n], ⟨⟨rfl, .int k n⟩, trivial⟩, .int t k n hu hw, by simpa using (beq_iff_eq.1 hgt).symm⟩
      | string =>
        obtain ⟨s, rfl, rfl, hs⟩ := DataW.trod_string hu h
        exact ⟨[.str s], ⟨⟨rfl, .str s⟩, trivial⟩, .str t s hu hs, by simpa using (beq_iff_eq.1 hgt).symm⟩
      | slice e =>
        simp only [Bool.and_eq_true, beq_iff_eq, bne_iff_ne, ne_eq, List.contains_eq_mem, decide_eq_true_eq] at hgt
        obtain ⟨⟨heG, hz⟩, hc1⟩ := hgt
        rcases DataW.trod_slice hu h with ⟨rfl, rfl⟩ | ⟨a, len, cap, elems, rest, n, hn, rfl, rfl, hb, hl, hm, hlen, hel, hsp, _⟩
        · exact ⟨[.slc []], ⟨⟨rfl, .nils⟩, trivial⟩, .slc t e [] hu (by simp) (by simp) (by simp) (by simp), by simpa using hc1.symm⟩
        · obtain rfl : m = n := by omega
          have each : ∀ i, i < len → ∃ el : PV, el.one = (!P.aggT e) ∧ el.cells.length = P.cellsOf e ∧ HasT P e el.cells ∧ ∃ ci, w.cells? 0 (a.add (i * P.cellsOf e)) (P.cellsOf e) = some ci ∧ RepL (fun b _ => b < w.heap.size) w ci el.cells := by
            intro i hi
            have h1 := hel i hi
            have h2 : i < elems.length := by omega
            rw [List.getElem?_eq_getElem h2, Option.bind_eq_some_iff] at h1
            obtain ⟨ci, h3, h4⟩ := h1
            obtain ⟨qs, h5, h6, h7⟩ := ih e ci _ heG h4
            cases hag : P.aggT e with
            | true => exact ⟨.agg qs, rfl, by rw [← h7]; exact h5.len.symm, h6, ci, h3, h5⟩
            | false =>
              obtain ⟨q, rfl, hq⟩ := h6.one_ hag
              exact ⟨q, by simp [hq], by rw [cells_one hq, ← h7]; exact h5.len.symm, by rw [cells_one hq]; exact h6, ci, h3, by rw [cells_one hq]; exact h5⟩
          have hspot : cap ≠ 0 → a.spot = none := by
            intro hc0
            have key : ∀ k, w.cells? 0 (a.add (0 * P.cellsOf e)) (P.cellsOf e) = some k → a.spot = none := by
              intro k hk
              obtain ⟨_, h1, h2⟩ := World.cells?_some hk
              have h3 := h2 0 (by omega)
              simp only [Nat.zero_mul, Addr.add, if_true] at h3
              have h4 : 0 < k.length := by omega
              rw [List.getElem?_eq_getElem h4] at h3
              unfold World.cell? at h3
              split at h3
              · split at h3
                · cases h3
                · rename_i hs; simpa using hs
              · cases h3
            by_cases hl0 : len = 0
            · obtain ⟨h1, h2⟩ := hsp rfl
              have h3 := h2 0 (by omega)
              have h4 : 0 < rest.length := by omega
              rw [List.getElem?_eq_getElem h4, Option.bind_eq_some_iff] at h3
              obtain ⟨ci, h5, _⟩ := h3
              subst hl0
              exact key ci (by simpa using h5)
            · obtain ⟨_, _, _, _, ci, h5, _⟩ := each 0 (by omega)
              exact key ci h5
          by_cases hc0 : cap = 0
          · have hl0 : len = 0 := by omega
            subst hc0; subst hl0
            exact ⟨[.slc []], ⟨⟨rfl, .nilz a⟩, trivial⟩, .slc t e [] hu (by simp) (by simp) (by simp) (by simp), by simpa using hc1.symm⟩
          · have hs := hspot hc0
            obtain ⟨b, off, sp⟩ := a
            simp only at hs
            subst hs
            let L : List PV := (List.range len).map fun i => if h : i < len then Classical.choose (each i h) else default
            have hLl : L.length = len := by simp [L]
            have hLg : ∀ i el, L[i]? = some el → ∃ h : i < len, el = Classical.choose (each i h) := by
              intro i el hi
              have h1 := (List.getElem?_eq_some_iff.1 hi).1
              have h2 : i < len := by omega
              refine ⟨h2, ?_⟩
              simp only [L, List.getElem?_map, List.getElem?_range h2, Option.map_some, Option.some.injEq] at hi
              rw [← hi, dif_pos h2]
            have hLm : ∀ el ∈ L, el.one = (!P.aggT e) ∧ el.cells.length = P.cellsOf e ∧ HasT P e el.cells := by
              intro el hel
              obtain ⟨i, hi⟩ := List.mem_iff_getElem?.1 hel
              obtain ⟨h1, rfl⟩ := hLg i el hi
              have := Classical.choose_spec (each i h1)
              exact ⟨this.1, this.2.1, this.2.2.1⟩
            -- the cells
            have hcell : ∀ i j, i < len → j < P.cellsOf e → ∃ u, w.cell? ⟨b, off + (i * P.cellsOf e + j), none⟩ = some u ∧ ∀ el c, L[i]? = some el → el.cells[j]? = some c → u.oneCell' = true ∧ Rep (fun b _ => b < w.heap.size) w u c := by
              intro i j hi hj
              obtain ⟨h1, h2, h3, ci, h4, h5⟩ := Classical.choose_spec (each i hi)
              obtain ⟨_, h6, h7⟩ := World.cells?_some h4
              have h8 : j < ci.length := by omega
              refine ⟨ci[j], ?_, ?_⟩
              · have := h7 j hj
                rw [List.getElem?_eq_getElem h8] at this
                rw [← this, Addr.add_lit, Addr.add_lit, Nat.add_assoc]
              · intro el c hel hc
                obtain ⟨_, rfl⟩ := hLg i el hel
                exact h5.get j _ c (List.getElem?_eq_getElem h8) hc
            let vs : Nat → Value := fun j => (w.cell? ⟨b, off + j, none⟩).getD undef
            have hsz : ∀ j, j < len * P.cellsOf e → j / P.cellsOf e < len ∧ j % P.cellsOf e < P.cellsOf e ∧ j = j / P.cellsOf e * P.cellsOf e + j % P.cellsOf e := by
              intro j hj
              have hp : 0 < P.cellsOf e := by omega
              exact ⟨Nat.div_lt_of_lt_mul (by rwa [Nat.mul_comm]), Nat.mod_lt _ hp, by rw [Nat.mul_comm]; exact (Nat.div_add_mod j _).symm⟩
            have hLi : ∀ i, i < len → ∃ el, L[i]? = some el := fun i hi => ⟨L[i]'(by omega), List.getElem?_eq_getElem _⟩
            refine ⟨[.slc L], ⟨⟨rfl, .slc b off len cap (P.cellsOf e) L vs hLl hl (fun el hel => (hLm el hel).2.1) ?_ ?_ ?_⟩, trivial⟩, .slc t e L hu (by omega) (fun el hel => (hLm el hel).1) (fun el hel => (hLm el hel).2.1) (fun el hel => (hLm el hel).2.2), by simpa using hc1.symm⟩
            · intro j hj
              obtain ⟨h1, h2, h3⟩ := hsz j hj
              obtain ⟨u, h4, h5⟩ := hcell _ _ h1 h2
              rw [← h3] at h4
              obtain ⟨el, hel⟩ := hLi _ h1
              have h6 := (hLm el (List.mem_of_getElem? hel)).2.1
              have : vs j = u := by simp [vs, h4]
              rw [this]
              exact (h5 el _ hel (List.getElem?_eq_getElem (by rw [h6]; exact h2))).1
            · intro j hj
              obtain ⟨h1, h2, h3⟩ := hsz j hj
              obtain ⟨u, h4, h5⟩ := hcell _ _ h1 h2
              rw [← h3] at h4
              refine ⟨?_, by simp [vs, h4]⟩
              simpa using World.block_lt_of_cell? w _ h4
            · intro i el j c hel hc
              have h1 : i < len := by have := (List.getElem?_eq_some_iff.1 hel).1; omega
              have h6 := (hLm el (List.mem_of_getElem? hel)).2.1
              have h2 : j < P.cellsOf e := by rw [← h6]; exact (List.getElem?_eq_some_iff.1 hc).1
              obtain ⟨u, h4, h5⟩ := hcell i j h1 h2
              have : vs (i * P.cellsOf e + j) = u := by simp [vs, h4]
              rw [this]
              exact (h5 el c hel hc).2
      | struct fs =>
        simp only [Bool.and_eq_true, beq_iff_eq, List.contains_eq_mem, Array.all_eq_true_iff_forall_mem, decide_eq_true_eq] at hgt
        obtain ⟨xs, n, hn, rfl, hcl, hxl, hx⟩ := DataW.trod_struct hu h
        obtain rfl : m = n := by omega
        obtain ⟨parts, h1, h2, h3⟩ := parts_tile (w := w) (P := P) (S := fun b _ => b < w.heap.size) (cs := cs) fs.toList 0 _ hgt.2 hcl.symm (by
          intro i f hf
          have hf' : fs[i]? = some f := by simpa using hf
          have h1 := hx i f hf'
          have h2 : i < xs.length := by rw [hxl]; exact (Array.getElem?_eq_some_iff.1 hf').1
          rw [List.getElem?_eq_getElem h2] at h1
          obtain ⟨qs, h5, h6, h7⟩ := ih f.type _ _ (hgt.1 f (Array.mem_of_getElem? hf')) h1
          exact ⟨qs, h5, h6, h7⟩)
        refine ⟨parts.flatten, by simpa using h2, .struct t fs parts hu (by simpa using h1) (fun i f a hf ha => h3 i f a (by simpa using hf) ha), hcl⟩
      | array n e =>
        simp only [Bool.and_eq_true, beq_iff_eq, List.contains_eq_mem, decide_eq_true_eq] at hgt
        obtain ⟨m', hm', hcl, hx⟩ := trod_array hu h
        obtain rfl : m = m' := by omega
        obtain ⟨parts, h1, h2, h3⟩ := parts_row (w := w) (P := P) (S := fun b _ => b < w.heap.size) (e := e) (cs := cs) n 0 (by rw [hcl, Nat.zero_add]; exact hgt.2) (by
          intro i _ hi
          obtain ⟨y, hy⟩ := hx i (by omega)
          obtain ⟨qs, h5, h6, h7⟩ := ih e _ _ hgt.1 hy
          exact ⟨qs, h5, h6⟩)
        exact ⟨parts.flatten, by simpa using h2, .array t e n parts hu h1 h3, hcl⟩
      | _ => simp at hgt

end Go.Am
