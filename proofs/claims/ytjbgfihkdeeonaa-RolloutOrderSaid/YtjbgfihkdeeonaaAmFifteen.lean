/- The abstract machine, part 15: code, loops, and the contract of a function out of its code; nothing is assumed of any program. -/
import Derived.Test.YtjbgfihkdeeonaaAmFourteen
set_option linter.unusedSimpArgs false
set_option linter.unusedVariables false
namespace Go.Am
open Go.RowKit

inductive AEx where
  | normal
  | exit (id : Nat)
  | ret
  deriving DecidableEq

/-- Only some slots, boxes and rows are kept. -/
def pickK {α : Type} : List Nat → List (Nat × α) → List (Nat × α)
  | [], _ => []
  | k :: ks, l => match lk k l with
    | some v => (k, v) :: pickK ks l
    | none => pickK ks l

/-- What a function's code keeps behind each region, and at the head of each loop; which names it changes, and what it freezes behind which region. -/
structure Keep where
  sl : List Nat
  bx : List Nat
  rw_ : List Nat
  ren : List (Nat × Nat) := []
  fz : List (Nat × List Nat) := []
  rf : List (Nat × Nat × TypeId) := []
  rb : List (Nat × Nat × Nat × TypeId) := []
  pu : List Nat := []

/-- The names that stand, of some. -/
def aliveK : List Nat → List (Nat × BO) → List Nat
  | [], _ => []
  | k :: ks, l => match (lk k l).bind BO.alive with
    | some _ => k :: aliveK ks l
    | none => aliveK ks l

/-- A word without what is kept no more. -/
def LV.clean1 (ns rs : List Nat) : LV → LV
  | .sl k l => if rs.contains k then .sl k l else .pv (.slc l)
  | .bp n o => if ns.contains n then .bp n o else .junk
  | .arr n l => if ns.contains n then .arr n l else .junk
  | .mr n => if ns.contains n then .mr n else .junk
  | .it n => if ns.contains n then .it n else .junk
  | .cl f c => if c.all fun x => ns.contains x.1 then .cl f c else .junk
  | x => x
def LV.clean (ns rs : List Nat) : LV → LV
  | .ag cs => .ag (cs.map (LV.clean1 ns rs))
  | x => x.clean1 ns rs
def BO.clean (ns rs : List Nat) : BO → BO
  | .cells r cs => .cells r (cs.map (LV.clean1 ns rs))
  | o => o

def pickF : List Nat → List (Nat × LV) → List Nat → List Nat → List (Nat × LV)
  | [], _, _, _ => []
  | k :: ks, l, ns, rs => match lk k l with
    | some v => (k, v.clean ns rs) :: pickF ks l ns rs
    | none => pickF ks l ns rs
def pickG : List Nat → List (Nat × BO) → List Nat → List Nat → List (Nat × BO)
  | [], _, _, _ => []
  | k :: ks, l, ns, rs => match lk k l with
    | some v => (k, v.clean ns rs) :: pickG ks l ns rs
    | none => pickG ks l ns rs

def St.gcN (σ : St) (k : Keep) (ns : List Nat) : St := { fr := pickF k.sl σ.fr ns k.rw_, bx := pickG ns σ.bx ns k.rw_, hw := pickK k.rw_ σ.hw }
def St.gc (σ : St) (k : Keep) : St := σ.gcN k (aliveK k.bx σ.bx)

/-- A name changes. -/
def LV.mv1 (n m : Nat) : LV → LV
  | .bp a o => .bp (if a = n then m else a) o
  | .arr a l => .arr (if a = n then m else a) l
  | .mr a => .mr (if a = n then m else a)
  | .it a => .it (if a = n then m else a)
  | .cl f c => .cl f (c.map fun x => (if x.1 = n then m else x.1, x.2))
  | x => x
def LV.mv (n m : Nat) : LV → LV
  | .ag cs => .ag (cs.map (LV.mv1 n m))
  | x => x.mv1 n m
def BO.mv (n m : Nat) : BO → BO
  | .cells r cs => .cells r (cs.map (LV.mv1 n m))
  | o => o
def St.mvU (σ : St) (n m : Nat) : St := { fr := σ.fr.map fun x => (x.1, x.2.mv n m), bx := σ.bx.map fun x => (if x.1 = n then m else x.1, x.2.mv n m), hw := σ.hw }
def St.mv (σ : St) (n m : Nat) : St := if (aliveK [n] σ.bx).contains n && (σ.bx.all fun x => x.1 != m) && σ.fresh m && decide (m < 1000) then σ.mvU n m else σ

/-- What is lent for good. -/
def LV.frz1 (B : Nat → Option BO) (ns : List Nat) (x : LV) : LV :=
  if ns.any fun n => x.men1 n then match x.arg? B with
    | some (p, ms) => if ms.all fun m => ns.contains m then (if p.one then .pv p else .junk) else .junk
    | none => .junk
  else x
def LV.frz (B : Nat → Option BO) (ns : List Nat) : LV → LV
  | .ag cs => .ag (cs.map (LV.frz1 B ns))
  | x => x.frz1 B ns
def BO.frz (B : Nat → Option BO) (ns : List Nat) : BO → BO
  | .cells r cs => .cells r (cs.map (LV.frz1 B ns))
  | o => o
def St.frz (σ : St) (ns : List Nat) : St := { fr := σ.fr.map fun x => (x.1, x.2.frz σ.b ns), bx := (σ.bx.filter fun x => !ns.contains x.1).map fun x => (x.1, x.2.frz σ.b ns), hw := σ.hw }

/-- A slice that nothing stands behind starts a row. -/
def St.rf (σ : St) (s k : Nat) (e : TypeId) : St :=
  match lk s σ.fr with
  | some (.full l) => if σ.fresh k && (lk k σ.hw).isNone then { fr := σ.fr.map fun x => (x.1, if x.1 = s then .sl k l else x.2), bx := σ.bx, hw := (k, l.length, e) :: σ.hw } else σ
  | _ => σ
def BO.rf (j k : Nat) (l : List PV) : BO → BO
  | .cells r cs => .cells r (cs.set j (.sl k l))
  | o => o
def St.rb (σ : St) (n j k : Nat) (e : TypeId) : St :=
  match lk n σ.bx with
  | some (.cells _ cs) => match cs[j]? with
    | some (.full l) => if σ.fresh k && (lk k σ.hw).isNone then { fr := σ.fr, bx := σ.bx.map fun x => (x.1, if x.1 = n then x.2.rf j k l else x.2), hw := (k, l.length, e) :: σ.hw } else σ
    | _ => σ
  | _ => σ

/-- A word, as the pure value that it has. -/
def LV.pur (x : LV) : LV := match x.pure? with
  | some p => .pv p
  | none => x
def St.pu (σ : St) (s : Nat) : St := { fr := σ.fr.map fun x => (x.1, if x.1 = s then x.2.pur else x.2), bx := σ.bx, hw := σ.hw }

def St.atEnd (σ : St) (k : Keep) (id : Nat) : St :=
  k.pu.foldl St.pu <| k.rb.foldl (fun σ x => σ.rb x.1 x.2.1 x.2.2.1 x.2.2.2) (k.rf.foldl (fun σ x => σ.rf x.1 x.2.1 x.2.2) (k.ren.foldl (fun σ x => σ.mv x.1 x.2) ((k.fz.foldl (fun σ x => if x.1 = id then σ.frz x.2 else σ) σ).gc k)))

theorem lk_pickK {α : Type} {s : Nat} {l : List (Nat × α)} : ∀ {ks : List Nat}, lk s (pickK ks l) = if s ∈ ks then lk s l else none
  | [] => by simp [pickK, lk]
  | k :: ks => by
    have ih := lk_pickK (s := s) (l := l) (ks := ks)
    simp only [pickK]
    split
    · rename_i v hv
      simp only [lk]
      by_cases h : k = s
      · subst h; simp [hv]
      · rw [if_neg h, ih]
        simp [Ne.symm h]
    · rename_i hv
      rw [ih]
      by_cases h : s = k
      · subst h; simp [hv]
      · simp [h]

theorem lk_pickF {s : Nat} {l : List (Nat × LV)} {ns rs : List Nat} : ∀ {ks : List Nat}, lk s (pickF ks l ns rs) = if s ∈ ks then (lk s l).map (LV.clean ns rs) else none
  | [] => by simp [pickF, lk]
  | k :: ks => by
    have ih := lk_pickF (s := s) (l := l) (ns := ns) (rs := rs) (ks := ks)
    simp only [pickF]
    split
    · rename_i v hv
      simp only [lk]
      by_cases h : k = s
      · subst h; simp [hv]
      · rw [if_neg h, ih]
        simp [Ne.symm h]
    · rename_i hv
      rw [ih]
      by_cases h : s = k
      · subst h; simp [hv]
      · simp [h]

theorem lk_pickG {s : Nat} {l : List (Nat × BO)} {ns rs : List Nat} : ∀ {ks : List Nat}, lk s (pickG ks l ns rs) = if s ∈ ks then (lk s l).map (BO.clean ns rs) else none
  | [] => by simp [pickG, lk]
  | k :: ks => by
    have ih := lk_pickG (s := s) (l := l) (ns := ns) (rs := rs) (ks := ks)
    simp only [pickG]
    split
    · rename_i v hv
      simp only [lk]
      by_cases h : k = s
      · subst h; simp [hv]
      · rw [if_neg h, ih]
        simp [Ne.symm h]
    · rename_i hv
      rw [ih]
      by_cases h : s = k
      · subst h; simp [hv]
      · simp [h]

theorem lk_mapv {α β : Type} {f : α → β} {k : Nat} : ∀ {l : List (Nat × α)}, lk k (l.map fun x => (x.1, f x.2)) = (lk k l).map f
  | [] => rfl
  | (j, v) :: r => by
    simp only [List.map_cons, lk]
    split
    · rfl
    · exact lk_mapv

section
variable {P : Program} {E : Env} {nt : Nat} {g : Gh} {H H' : HT} {w : World}

theorem RepC.clean {v : Value} {x : LV} {ns rs : List Nat} (h : RepC g H w v x) (hH : ∀ k y, H' k = some y → H k = some y) : RepC g H' w v (x.clean1 ns rs) := by
  have nm : ∀ k, NameOk g H g H' k := fun k => ⟨⟨rfl, rfl⟩, fun v n hv h e hk => hv h e (hH k _ hk)⟩
  have same : RepC g H' w v x := h.move (fun _ _ h => h) (Agree.refl _ _) fun k _ => nm k
  cases x with
  | sl k l =>
    simp only [LV.clean1]
    split
    · exact same
    · exact h.1
  | bp n o => simp only [LV.clean1]; split; exact same; trivial
  | arr n o => simp only [LV.clean1]; split; exact same; trivial
  | mr n => simp only [LV.clean1]; split; exact same; trivial
  | it n => simp only [LV.clean1]; split; exact same; trivial
  | cl f c => simp only [LV.clean1]; split; exact same; trivial
  | _ => exact same

theorem RepV.clean {v : Value} {x : LV} {ns rs : List Nat} (h : RepV g H w v x) (hH : ∀ k y, H' k = some y → H k = some y) : RepV g H' w v (x.clean ns rs) := by
  cases x with
  | ag cs =>
    obtain ⟨vs, h1, h2, h3⟩ := h
    refine ⟨vs, h1, by simpa using h2, fun j u c hu hc => ?_⟩
    rw [List.getElem?_map] at hc
    cases hcj : cs[j]? with
    | none => rw [hcj] at hc; cases hc
    | some d =>
      rw [hcj] at hc
      simp at hc
      subst hc
      exact ⟨(h3 j u d hu hcj).1, (h3 j u d hu hcj).2.clean hH⟩
  | tup l => exact h
  | sl k l => 
    have := RepC.clean (w := w) (H := H) (H' := H') (x := .sl k l) (ns := ns) (rs := rs) h hH
    simp only [LV.clean, LV.clean1] at this ⊢
    split at this <;> rename_i hc
    · rw [if_pos hc]; exact this
    · rw [if_neg hc]; exact this
  | bp n o =>
    have := RepC.clean (w := w) (H := H) (H' := H') (x := .bp n o) (ns := ns) (rs := rs) h hH
    simp only [LV.clean, LV.clean1] at this ⊢
    split at this <;> rename_i hc
    · rw [if_pos hc]; exact this
    · rw [if_neg hc]; exact this
  | arr n o =>
    have := RepC.clean (w := w) (H := H) (H' := H') (x := .arr n o) (ns := ns) (rs := rs) h hH
    simp only [LV.clean, LV.clean1] at this ⊢
    split at this <;> rename_i hc
    · rw [if_pos hc]; exact this
    · rw [if_neg hc]; exact this
  | mr n =>
    have := RepC.clean (w := w) (H := H) (H' := H') (x := .mr n) (ns := ns) (rs := rs) h hH
    simp only [LV.clean, LV.clean1] at this ⊢
    split at this <;> rename_i hc
    · rw [if_pos hc]; exact this
    · rw [if_neg hc]; exact this
  | it n =>
    have := RepC.clean (w := w) (H := H) (H' := H') (x := .it n) (ns := ns) (rs := rs) h hH
    simp only [LV.clean, LV.clean1] at this ⊢
    split at this <;> rename_i hc
    · rw [if_pos hc]; exact this
    · rw [if_neg hc]; exact this
  | cl f c =>
    have := RepC.clean (w := w) (H := H) (H' := H') (x := .cl f c) (ns := ns) (rs := rs) h hH
    simp only [LV.clean, LV.clean1] at this ⊢
    split at this <;> rename_i hc
    · rw [if_pos hc]; exact this
    · rw [if_neg hc]; exact this
  | undef => exact h
  | junk => trivial
  | pv p => exact h
  | full l => exact h

theorem BoxC.clean {n : Nat} {o : BO} {ns rs : List Nat} (h : BoxC g H w n o) (hH : ∀ k y, H' k = some y → H k = some y) : BoxC g H' w n (o.clean ns rs) := by
  cases o with
  | cells r cs =>
    obtain ⟨vs, t, h3, h4, h5, h6⟩ := h
    refine ⟨vs, t, h3, by simpa using h4, fun j u c hu hc => ?_, h6⟩
    rw [List.getElem?_map] at hc
    cases hcj : cs[j]? with
    | none => rw [hcj] at hc; cases hc
    | some d =>
      rw [hcj] at hc
      simp at hc
      subst hc
      exact ⟨(h5 j u d hu hcj).1, (h5 j u d hu hcj).2.clean hH⟩
  | _ => exact h

theorem BO.clean_dead {o : BO} {ns rs : List Nat} (h : o ≠ .dead) : o.clean ns rs ≠ .dead := by cases o <;> simp [BO.clean] at * 

theorem alive_clean {o : BO} {ns rs : List Nat} : (o.clean ns rs).alive = o.alive.map (BO.clean ns rs) := by cases o <;> rfl

theorem SimS.gc {a : Act} {w : World} {σ : St} (h : SimS P E nt a w σ) (kp : Keep) : SimS P E nt a w (σ.gc kp) := by
  obtain ⟨h0, g, h⟩ := h
  have eH : ∀ k x, (σ.gc kp).h k = some x → σ.h k = some x := fun k x hk => by
    simp only [St.gc, St.gcN, St.h, lk_pickK] at hk
    split at hk
    · exact hk
    · cases hk
  have eB : ∀ n cs, (σ.gc kp).b n = some cs → ∃ o, σ.b n = some o ∧ cs = o.clean (aliveK kp.bx σ.bx) kp.rw_ := fun n cs hn => by
    simp only [St.gc, St.gcN, St.b, lk_pickG] at hn
    split at hn
    · cases hl : lk n σ.bx with
      | none => rw [hl] at hn; cases hn
      | some o =>
        rw [hl] at hn
        simp only [Option.map_some, Option.bind_some, alive_clean, Option.map_eq_some_iff] at hn
        obtain ⟨o', h1, h2⟩ := hn
        exact ⟨o', by simp [St.b, hl, h1], h2.symm⟩
    · cases hn
  refine ⟨h0, g, h.defers, h.below, h.old, h.s0, h.snew, h.slt, fun s => ?_, fun n cs hn => ?_, fun n cs hn => ?_, fun n m cs cs' hn hm => ?_, fun n cs hn hL => ?_, fun k hh e hk => h.row k hh e (eH _ _ hk),
    fun k k' x x' b hk hk' => h.rdist k k' x x' b (eH _ _ hk) (eH _ _ hk'), fun k x b n cs hk hr hn => ?_⟩
  · simp only [St.gc, St.gcN, St.f, lk_pickF]
    split
    · have := h.slots s
      simp only [St.f] at this
      cases hl : lk s σ.fr with
      | none => trivial
      | some v => rw [hl] at this; exact RepV.clean this eH
    · trivial
  · obtain ⟨o, h1, rfl⟩ := eB n cs hn
    exact BO.clean_dead (h.alive n o h1)
  · obtain ⟨o, h1, rfl⟩ := eB n cs hn
    obtain ⟨k1, k2, k3⟩ := h.box n o h1
    exact ⟨k1, k2, k3.clean eH⟩
  · obtain ⟨o, h1, _⟩ := eB n cs hn
    obtain ⟨o', h2, _⟩ := eB m cs' hm
    exact h.dist n m o o' h1 h2
  · obtain ⟨o, h1, _⟩ := eB n cs hn
    exact h.lent n o h1 hL
  · obtain ⟨o, h1, _⟩ := eB n cs hn
    exact h.rbox k x b n o (eH _ _ hk) hr h1

/-! ### Names that change -/

theorem RepC.mv {v : Value} {x : LV} {n m : Nat} (h : RepC g H w v x) (hm : x.men1 m = false) : RepC { g with bk := up g.bk m (g.bk n), cp := up g.cp m (g.cp n) } H w v (x.mv1 n m) := by
  have e : ∀ a, a ≠ m → up g.bk m (g.bk n) (if a = n then m else a) = g.bk a ∧ up g.cp m (g.cp n) (if a = n then m else a) = g.cp a := by
    intro a ha
    by_cases han : a = n
    · subst han; simp [up]
    · simp [up, han, Ne.symm ha]
  cases x with
  | bp a o => have := e a (by simpa [LV.men1] using hm); show v = _; simp only [this.1]; exact h
  | arr a l => have := e a (by simpa [LV.men1] using hm); show v = _ ∧ _; simp only [this.1, this.2]; exact h
  | mr a => have := e a (by simpa [LV.men1] using hm); show v = _; simp only [this.1]; exact h
  | it a => have := e a (by simpa [LV.men1] using hm); show v = _; simp only [this.1]; exact h
  | cl f c =>
    have h' : v = _ := h
    show v = _
    rw [h']
    simp only [List.map_map]
    congr 2
    apply List.map_congr_left
    intro y hy
    simp only [LV.men1, List.any_eq_false] at hm
    have := e y.1 (by simpa using hm y hy)
    simp only [Function.comp, this.1]
  | _ => exact h

theorem RepV.mv {v : Value} {x : LV} {n m : Nat} (h : RepV g H w v x) (hm : x.men m = false) : RepV { g with bk := up g.bk m (g.bk n), cp := up g.cp m (g.cp n) } H w v (x.mv n m) := by
  cases x with
  | ag cs =>
    obtain ⟨vs, h1, h2, h3⟩ := h
    refine ⟨vs, h1, by simpa using h2, fun j u c hu hc => ?_⟩
    rw [List.getElem?_map] at hc
    cases hcj : cs[j]? with
    | none => rw [hcj] at hc; cases hc
    | some d =>
      rw [hcj] at hc
      simp at hc
      subst hc
      simp only [LV.men, List.any_eq_false] at hm
      exact ⟨(h3 j u d hu hcj).1, (h3 j u d hu hcj).2.mv (by simpa using hm d (List.mem_of_getElem? hcj))⟩
  | tup l => exact h
  | sl k l => exact RepC.mv (w := w) (H := H) (x := .sl k l) h hm
  | bp k l => exact RepC.mv (w := w) (H := H) (x := .bp k l) h hm
  | arr k l => exact RepC.mv (w := w) (H := H) (x := .arr k l) h hm
  | mr k => exact RepC.mv (w := w) (H := H) (x := .mr k) h hm
  | it k => exact RepC.mv (w := w) (H := H) (x := .it k) h hm
  | cl k l => exact RepC.mv (w := w) (H := H) (x := .cl k l) h hm
  | undef => exact h
  | junk => trivial
  | pv p => exact h
  | full l => exact h

theorem BoxC.mv {k : Nat} {o : BO} {n m : Nat} (h : BoxC g H w k o) (hk : k ≠ m) (hm : o.men m = false) : BoxC { g with bk := up g.bk m (g.bk n), cp := up g.cp m (g.cp n) } H w (if k = n then m else k) (o.mv n m) := by
  have e : up g.bk m (g.bk n) (if k = n then m else k) = g.bk k ∧ up g.cp m (g.cp n) (if k = n then m else k) = g.cp k := by
    by_cases han : k = n
    · subst han; simp [up]
    · simp [up, han, Ne.symm hk]
  cases o with
  | cells r cs =>
    obtain ⟨vs, t, h3, h4, h5, h6⟩ := h
    refine ⟨vs, t, by simp only [e.1]; exact h3, by simpa using h4, fun j u c hu hc => ?_, by simp only [e.2]; exact h6⟩
    rw [List.getElem?_map] at hc
    cases hcj : cs[j]? with
    | none => rw [hcj] at hc; cases hc
    | some d =>
      rw [hcj] at hc
      simp at hc
      subst hc
      simp only [BO.men, List.any_eq_false] at hm
      exact ⟨(h5 j u d hu hcj).1, (h5 j u d hu hcj).2.mv (by simpa using hm d (List.mem_of_getElem? hcj))⟩
  | map ks xs =>
    obtain ⟨es, ck, h1, h2⟩ := h
    exact ⟨es, ck, by simp only [e.1]; exact h1, h2⟩
  | iter ks xs c =>
    rcases h with ⟨h1, h2, h3, h4⟩ | ⟨bm, since, seen, c0, es, ck, h1, h2⟩
    · exact .inl ⟨h1, h2, h3, by simp only [e.1]; exact h4⟩
    · exact .inr ⟨bm, since, seen, c0, es, ck, by simp only [e.1]; exact h1, h2⟩
  | dead => trivial

theorem lk_mvU {n m k : Nat} {f : BO → BO} : ∀ {l : List (Nat × BO)}, (l.all fun x => x.1 != m) = true → lk k (l.map fun x => (if x.1 = n then m else x.1, f x.2)) = if k = m then (lk n l).map f else if k = n then none else (lk k l).map f
  | [], _ => by simp [lk]
  | (j, v) :: r, h => by
    simp only [List.all_cons, Bool.and_eq_true, bne_iff_ne] at h
    have ih := lk_mvU (n := n) (m := m) (k := k) (f := f) (l := r) h.2
    simp only [List.map_cons, lk, ih]
    by_cases hj : j = n
    · subst hj
      by_cases hk : k = m
      · subst hk; simp
      · by_cases hkj : k = j
        · subst hkj; simp [hk, Ne.symm hk]
        · simp [hk, hkj, Ne.symm hk, Ne.symm hkj]
    · by_cases hk : k = m
      · subst hk; simp [hj, h.1]
      · by_cases hkn : k = n
        · subst hkn; simp [hk, hj]
        · by_cases hjk : j = k
          · subst hjk; simp [hk, hkn]
          · simp [hk, hkn, hjk, hj]

theorem aliveK_one {n : Nat} {l : List (Nat × BO)} (h : (aliveK [n] l).contains n = true) : ∃ o, (lk n l).bind BO.alive = some o := by
  simp only [aliveK] at h
  split at h
  · rename_i o ho; exact ⟨o, ho⟩
  · simp at h

theorem BO.mv_alive {o : BO} {n m : Nat} : (o.mv n m).alive = o.alive.map (BO.mv n m) := by cases o <;> rfl

theorem SimS.mv (hL : ∀ n, E.L n → 1000 ≤ n) {a : Act} {w : World} {σ : St} (h : SimS P E nt a w σ) (n m : Nat) : SimS P E nt a w (σ.mv n m) := by
  unfold St.mv
  split
  · rename_i hc
    simp only [Bool.and_eq_true, decide_eq_true_eq] at hc
    obtain ⟨⟨⟨hal, hno⟩, hfr⟩, hlt⟩ := hc
    obtain ⟨h0, g, h⟩ := h
    obtain ⟨fF, fB⟩ := fresh_spec hfr
    obtain ⟨o0, ho0⟩ := aliveK_one hal
    have hB0 : σ.b n = some o0 := ho0
    have hmb : ∀ k o, σ.b k = some o → k ≠ m := by
      rintro k o hk rfl
      obtain ⟨o', h1, _⟩ := Option.bind_eq_some_iff.1 hk
      have := List.all_eq_true.1 hno _ (lk_mem h1)
      simp at this
    have eB : ∀ k o, (σ.mvU n m).b k = some o → ∃ k' o', σ.b k' = some o' ∧ o = o'.mv n m ∧ k = if k' = n then m else k' := by
      intro k o hk
      simp only [St.mvU, St.b] at hk
      rw [lk_mvU hno] at hk
      split at hk
      · rename_i hkm
        cases hl : lk n σ.bx with
        | none => rw [hl] at hk; cases hk
        | some q =>
          rw [hl] at hk
          simp only [Option.map_some, Option.bind_some, BO.mv_alive, Option.map_eq_some_iff] at hk
          obtain ⟨q', h1, h2⟩ := hk
          exact ⟨n, q', by simp [St.b, hl, h1], h2.symm, by simp [hkm]⟩
      · rename_i hkm
        split at hk
        · cases hk
        · rename_i hkn
          cases hl : lk k σ.bx with
          | none => rw [hl] at hk; cases hk
          | some q =>
            rw [hl] at hk
            simp only [Option.map_some, Option.bind_some, BO.mv_alive, Option.map_eq_some_iff] at hk
            obtain ⟨q', h1, h2⟩ := hk
            exact ⟨k, q', by simp [St.b, hl, h1], h2.symm, by simp [hkn]⟩
    have ek : ∀ k', k' ≠ m → up g.bk m (g.bk n) (if k' = n then m else k') = g.bk k' := by
      intro k' hk'
      by_cases han : k' = n
      · subst han; simp [up]
      · simp [up, han, Ne.symm hk']
    refine ⟨h0, { g with bk := up g.bk m (g.bk n), cp := up g.cp m (g.cp n) }, h.defers, h.below, h.old, h.s0, h.snew, h.slt, fun s => ?_, ?_, ?_, ?_, ?_, h.row, h.rdist, ?_⟩
    · simp only [St.mvU, St.f, lk_mapv]
      have h1 := h.slots s
      have h2 := fF s
      simp only [St.f] at h1 h2
      cases hl : lk s σ.fr with
      | none => trivial
      | some v => rw [hl] at h1 h2; exact RepV.mv h1 h2
    · intro k o hk
      obtain ⟨k', o', h1, rfl, rfl⟩ := eB k o hk
      have := h.alive k' o' h1
      cases o' <;> simp [BO.mv] at this ⊢
    · intro k o hk
      obtain ⟨k', o', h1, rfl, rfl⟩ := eB k o hk
      obtain ⟨k1, k2, k3⟩ := h.box k' o' h1
      have e1 := ek k' (hmb k' o' h1)
      exact ⟨by simp only [e1]; exact k1, by simp only [e1]; exact k2, k3.mv (hmb k' o' h1) (fB k' o' h1)⟩
    · intro k l o q hk hl hne
      obtain ⟨k', o', h1, rfl, rfl⟩ := eB k o hk
      obtain ⟨l', q', h2, rfl, rfl⟩ := eB l q hl
      simp only [ek k' (hmb k' o' h1), ek l' (hmb l' q' h2)]
      exact h.dist k' l' o' q' h1 h2 fun e => hne (by rw [e])
    · intro k o hk hl
      obtain ⟨k', o', h1, rfl, rfl⟩ := eB k o hk
      by_cases hkn : k' = n
      · simp only [if_pos hkn] at hl
        have := hL m hl
        omega
      · simp only [if_neg hkn] at hl ⊢
        have hkm := hmb k' o' h1
        simpa [up, Ne.symm hkm] using h.lent k' o' h1 hl
    · intro k x b l q hk hr hl
      obtain ⟨l', q', h2, rfl, rfl⟩ := eB l q hl
      simp only [ek l' (hmb l' q' h2)]
      exact h.rbox k x b l' q' hk hr h2
  · exact h

/-! ### What is lent for good -/

theorem RepC.frz {a : Act} {B : Nat → Option BO} {F : Nat → LV} (hs : Sim P E g a w F B H) {v : Value} {x : LV} {ns : List Nat} (h : RepC g H w v x) : RepC { g with S := Lent g w B ns } H w v (x.frz1 B ns) := by
  unfold LV.frz1
  split
  · split
    · rename_i p ms hp
      split
      · rename_i hms
        split
        · have hv : RepV g H w v x := by cases x <;> first | exact h | exact h.elim
          exact arg_ok hs hv hp fun n hn => by
            have := List.all_eq_true.1 hms n hn
            simpa using this
        · trivial
      · trivial
    · trivial
  · exact h.move (fun _ _ h => .inl h) (Agree.refl _ _) fun k _ => NameOk.sameS H k _

theorem RepV.frz {a : Act} {B : Nat → Option BO} {F : Nat → LV} (hs : Sim P E g a w F B H) {v : Value} {x : LV} {ns : List Nat} (h : RepV g H w v x) : RepV { g with S := Lent g w B ns } H w v (x.frz B ns) := by
  have toV : ∀ {y : LV}, (∀ cs, y ≠ .ag cs) → RepC g H w v y → RepV { g with S := Lent g w B ns } H w v (y.frz1 B ns) := by
    intro y hy hc
    have h1 := RepC.frz (ns := ns) hs hc
    generalize hz : y.frz1 B ns = z at h1 ⊢
    cases z with
    | ag cs => exact h1.elim
    | tup l => exact h1.elim
    | _ => exact h1
  cases x with
  | ag cs =>
    obtain ⟨vs, h1, h2, h3⟩ := h
    refine ⟨vs, h1, by simpa using h2, fun j u c hu hc => ?_⟩
    rw [List.getElem?_map] at hc
    cases hcj : cs[j]? with
    | none => rw [hcj] at hc; cases hc
    | some d =>
      rw [hcj] at hc
      simp at hc
      subst hc
      exact ⟨(h3 j u d hu hcj).1, (h3 j u d hu hcj).2.frz hs⟩
  | tup l =>
    obtain ⟨vs, h1, h2⟩ := h
    have e : (LV.tup l).frz B ns = .tup l := by simp [LV.frz, LV.frz1, LV.men1]
    rw [e]
    exact ⟨vs, h1, h2.mono (fun _ _ h => .inl h) (Agree.refl _ _)⟩
  | undef => exact toV (by simp) h
  | junk => exact toV (by simp) h
  | pv p => exact toV (by simp) h
  | full l => exact toV (by simp) h
  | sl k l => exact toV (by simp) h
  | bp k l => exact toV (by simp) h
  | arr k l => exact toV (by simp) h
  | mr k => exact toV (by simp) h
  | it k => exact toV (by simp) h
  | cl k l => exact toV (by simp) h

theorem BoxC.frz {a : Act} {B : Nat → Option BO} {F : Nat → LV} (hs : Sim P E g a w F B H) {k : Nat} {o : BO} {ns : List Nat} (h : BoxC g H w k o) : BoxC { g with S := Lent g w B ns } H w k (o.frz B ns) := by
  cases o with
  | cells r cs =>
    obtain ⟨vs, t, h3, h4, h5, h6⟩ := h
    refine ⟨vs, t, h3, by simpa using h4, fun j u c hu hc => ?_, h6⟩
    rw [List.getElem?_map] at hc
    cases hcj : cs[j]? with
    | none => rw [hcj] at hc; cases hc
    | some d =>
      rw [hcj] at hc
      simp at hc
      subst hc
      exact ⟨(h5 j u d hu hcj).1, (h5 j u d hu hcj).2.frz hs⟩
  | map ks xs =>
    exact BoxC.move (o := .map ks xs) h (fun _ _ h => .inl h) (Agree.refl _ _) ⟨rfl, rfl⟩ rfl fun k _ => NameOk.sameS H k _
  | iter ks xs c =>
    exact BoxC.move (o := .iter ks xs c) h (fun _ _ h => .inl h) (Agree.refl _ _) ⟨rfl, rfl⟩ rfl fun k _ => NameOk.sameS H k _
  | dead => trivial

theorem lk_filter {n : Nat} {ns : List Nat} : ∀ {l : List (Nat × BO)}, lk n (l.filter fun x => !ns.contains x.1) = if ns.contains n then none else lk n l
  | [] => by simp [lk]
  | (j, v) :: r => by
    have ih := lk_filter (n := n) (ns := ns) (l := r)
    simp only [List.filter_cons]
    by_cases hj : ns.contains j = true
    · simp only [hj, Bool.not_true, Bool.false_eq_true, if_false, ih, lk]
      by_cases hjn : j = n
      · subst hjn
        have : j ∈ ns := by simpa using hj
        simp [this]
      · simp [hjn]
    · have hj' : ns.contains j = false := by simpa using hj
      simp only [hj', Bool.not_false, if_true, lk, ih]
      by_cases hjn : j = n
      · subst hjn
        have : j ∉ ns := by simpa using hj'
        simp [this]
      · simp [hjn]

theorem BO.frz_alive {o : BO} {B : Nat → Option BO} {ns : List Nat} : (o.frz B ns).alive = o.alive.map (BO.frz B ns) := by cases o <;> rfl

theorem SimS.frz {a : Act} {w : World} {σ : St} (h : SimS P E nt a w σ) (ns : List Nat) : SimS P E nt a w (σ.frz ns) := by
  obtain ⟨h0, g, h⟩ := h
  have eB : ∀ k o, (σ.frz ns).b k = some o → k ∉ ns ∧ ∃ o', σ.b k = some o' ∧ o = o'.frz σ.b ns := by
    intro k o hk
    simp only [St.frz] at hk
    unfold St.b at hk
    simp only [lk_mapv] at hk
    rw [lk_filter] at hk
    split at hk
    · cases hk
    · rename_i hc
      cases hl : lk k σ.bx with
      | none => rw [hl] at hk; cases hk
      | some q =>
        rw [hl] at hk
        simp only [Option.map_some, Option.bind_some, BO.frz_alive, Option.map_eq_some_iff] at hk
        obtain ⟨q', h1, h2⟩ := hk
        exact ⟨by simpa using hc, q', by simp [St.b, hl, h1], h2.symm⟩
  have lent : ∀ b i, Lent g w σ.b ns b i → g.S b i ∨ ∃ n o, n ∈ ns ∧ σ.b n = some o ∧ b = g.bk n := by
    rintro b i (hb | ⟨n, hn, ho, rfl⟩)
    · exact .inl hb
    · obtain ⟨o, ho⟩ := Option.isSome_iff_exists.1 ho
      exact .inr ⟨n, o, hn, ho, rfl⟩
  refine ⟨h0, { g with S := Lent g w σ.b ns }, h.defers, h.below, h.old, fun b i hb => .inl (h.s0 b i hb), ?_, ?_, fun s => ?_, ?_, ?_, ?_, ?_, ?_, h.rdist, ?_⟩
  · intro b i hb
    rcases lent b i hb with h1 | ⟨n, o, _, ho, rfl⟩
    · exact h.snew b i h1
    · exact .inr (h.box n o ho).1
  · intro b i hb
    rcases lent b i hb with h1 | ⟨n, o, _, ho, rfl⟩
    · exact h.slt b i h1
    · exact h.boxBlock ho
  · simp only [St.frz, St.f, lk_mapv]
    have h1 := h.slots s
    simp only [St.f] at h1
    cases hl : lk s σ.fr with
    | none => trivial
    | some v => rw [hl] at h1; exact RepV.frz h h1
  · intro k o hk
    obtain ⟨_, o', h1, rfl⟩ := eB k o hk
    have := h.alive k o' h1
    cases o' <;> simp [BO.frz] at this ⊢
  · intro k o hk
    obtain ⟨hkn, o', h1, rfl⟩ := eB k o hk
    obtain ⟨k1, k2, k3⟩ := h.box k o' h1
    refine ⟨k1, fun i hb => ?_, k3.frz h⟩
    rcases lent _ i hb with h2 | ⟨n, q, hn, hq, he⟩
    · exact k2 i h2
    · exact h.dist k n o' q h1 hq (by rintro rfl; exact hkn hn) he
  · intro k l o q hk hl
    obtain ⟨_, o', h1, _⟩ := eB k o hk
    obtain ⟨_, q', h2, _⟩ := eB l q hl
    exact h.dist k l o' q' h1 h2
  · intro k o hk hl
    obtain ⟨_, o', h1, _⟩ := eB k o hk
    exact h.lent k o' h1 hl
  · intro k hh e hk
    obtain ⟨A, cap, h1, h2, h3⟩ := h.row k hh e hk
    refine ⟨A, cap, h1, h2, fun hlt => ?_⟩
    obtain ⟨b, cur, h4, h5, h6, h7, h8, h9⟩ := h3 hlt
    refine ⟨b, cur, h4, h5, h6, h7, h8, fun i hi hb => ?_⟩
    rcases lent _ i hb with h10 | ⟨n, q, _, hq, he⟩
    · exact h9 i hi h10
    · exact h.rbox k (hh, e) b n q hk ⟨hh, cap, by rw [h1, h4], hlt⟩ hq he.symm
  · intro k x b n o hk hr hn
    obtain ⟨_, o', h1, _⟩ := eB n o hn
    exact h.rbox k x b n o' hk hr h1

theorem Sim.rowify {a : Act} {B : Nat → Option BO} {F : Nat → LV} (h : Sim P E g a w F B H) {k : Nat} {v : Value} {l : List PV} {e : TypeId} (hv : RepC g H w v (.full l)) (hf : NoMen F B k) (hk : H k = none) :
    Sim P E { g with hd := up g.hd k v } a w F B (up H k (some (l.length, e))) ∧ RepC { g with hd := up g.hd k v } (up H k (some (l.length, e))) w v (.sl k l) ∧
      ∀ q, q ≠ k → NameOk g H { g with hd := up g.hd k v } (up H k (some (l.length, e))) q := by
  obtain ⟨hr, A, hA⟩ := hv
  have hnm : ∀ q, q ≠ k → NameOk g H { g with hd := up g.hd k v } (up H k (some (l.length, e))) q := fun q hq => ⟨⟨rfl, rfl⟩, fun v' n hv' hh e' hq' => by
    have e1 : up g.hd k v q = g.hd q := by simp [up, Ne.symm hq]
    simp only [e1]
    exact hv' hh e' (by simpa [up, Ne.symm hq] using hq')⟩
  have old : ∀ r y c, up H k (some (l.length, e)) r = some y → RB { g with hd := up g.hd k v } r c → H r = some y ∧ RB g r c := by
    intro r y c hr' hrb
    obtain ⟨hh, cap', h1, h2⟩ := hrb
    by_cases hrk : k = r
    · subst hrk
      simp [up, hA] at h1
      omega
    · exact ⟨by simpa [up, hrk] using hr', hh, cap', by simpa [up, hrk] using h1, h2⟩
  refine ⟨⟨h.defers, h.below, h.old, h.s0, h.snew, h.slt, fun s => (h.slots s).move (fun _ _ h => h) (Agree.refl _ _) fun q hq => hnm q ?_, h.alive, fun n cs hB => ?_, h.dist, h.lent, ?_, ?_, ?_⟩, ⟨hr, fun hh e' hq => ?_⟩, hnm⟩
  · rintro rfl
    rw [hf.1 s] at hq; cases hq
  · refine (h.box n cs hB).move (fun _ _ h => h) (Agree.refl _ _) ⟨rfl, rfl⟩ (h.box n cs hB).2.1 rfl fun q hq => hnm q ?_
    rintro rfl
    rw [hf.2 n cs hB] at hq; cases hq
  · intro q hh e' hq
    by_cases hqk : k = q
    · subst hqk
      have hq' : l.length = hh ∧ e = e' := by simpa [up] using hq
      obtain ⟨rfl, rfl⟩ := hq'
      exact ⟨A, l.length, by simp [up, hA], Nat.le_refl _, fun h => absurd h (Nat.lt_irrefl _)⟩
    · obtain ⟨A1, cap1, h1, h2, h3⟩ := h.row q hh e' (by simpa [up, hqk] using hq)
      exact ⟨A1, cap1, by simp [up, hqk]; exact h1, h2, h3⟩
  · intro p q y y' b hp hq h1 h2
    obtain ⟨h3, h4⟩ := old p y b hp h1
    obtain ⟨h5, h6⟩ := old q y' b hq h2
    exact h.rdist p q y y' b h3 h5 h4 h6
  · intro p y b n cs hp h1 hB
    obtain ⟨h3, h4⟩ := old p y b hp h1
    exact h.rbox p y b n cs h3 h4 hB
  · have : l.length = hh := by simp [up] at hq; exact hq.1
    exact ⟨by omega, fun _ => by simp [up]⟩

theorem lk_hw_up {hw : List (Nat × Nat × TypeId)} {k : Nat} {x : Nat × TypeId} : (fun q => lk q ((k, x) :: hw)) = up (fun q => lk q hw) k (some x) := by
  funext q
  simp only [lk, up]

theorem lk_if {α : Type} {s : Nat} {f : α → α} {t : Nat} : ∀ {l : List (Nat × α)}, lk t (l.map fun x => (x.1, if x.1 = s then f x.2 else x.2)) = if t = s then (lk t l).map f else lk t l
  | [] => by simp [lk]
  | (j, v) :: r => by
    simp only [List.map_cons, lk]
    by_cases hj : j = t
    · subst hj
      by_cases hs : j = s <;> simp [hs]
    · simp only [if_neg hj]
      exact lk_if

theorem SimS.rf {a : Act} {w : World} {σ : St} (h : SimS P E nt a w σ) (s k : Nat) (e : TypeId) : SimS P E nt a w (σ.rf s k e) := by
  unfold St.rf
  split
  · rename_i l hl
    split
    · rename_i hc
      simp only [Bool.and_eq_true, Option.isNone_iff_eq_none] at hc
      obtain ⟨h0, g, h⟩ := h
      have hs : RepV g σ.h w (a.tmps.getD s undef) (.full l) := by
        have := h.slots s
        simp only [St.f, hl, Option.getD_some] at this
        exact this
      obtain ⟨h1, h2, _⟩ := h.rowify (k := k) (e := e) hs (fresh_spec hc.1) hc.2
      refine ⟨h0, { g with hd := up g.hd k (a.tmps.getD s undef) }, ?_⟩
      have e1 : (St.h { fr := σ.fr.map fun x => (x.1, if x.1 = s then .sl k l else x.2), bx := σ.bx, hw := (k, l.length, e) :: σ.hw }) = up σ.h k (some (l.length, e)) := lk_hw_up
      rw [e1]
      refine ⟨h1.defers, h1.below, h1.old, h1.s0, h1.snew, h1.slt, fun t => ?_, h1.alive, h1.box, h1.dist, h1.lent, h1.row, h1.rdist, h1.rbox⟩
      have := h1.slots t
      simp only [St.f] at this ⊢
      rw [lk_if (f := fun _ => LV.sl k l)]
      by_cases ht : t = s
      · subst ht
        rw [if_pos rfl, hl]
        exact h2
      · rw [if_neg ht]; exact this
    · exact h
  · exact h

theorem SimS.rb {a : Act} {w : World} {σ : St} (h : SimS P E nt a w σ) (n j k : Nat) (e : TypeId) : SimS P E nt a w (σ.rb n j k e) := by
  unfold St.rb
  split
  · rename_i r cs hl
    split
    · rename_i l hj
      split
      · rename_i hc
        simp only [Bool.and_eq_true, Option.isNone_iff_eq_none] at hc
        obtain ⟨h0, g, h⟩ := h
        have hB : σ.b n = some (.cells r cs) := by simp [St.b, hl, BO.alive]
        obtain ⟨kb1, kb2, vs, t, h3, h4, h5, h6⟩ := h.box n _ hB
        have hjl := (List.getElem?_eq_some_iff.1 hj).1
        have hvj : vs[j]? = some (vs[j]'(by omega)) := Array.getElem?_eq_getElem _
        obtain ⟨h1, h2, hnm⟩ := h.rowify (k := k) (e := e) (h5 j _ _ hvj hj).2 (fresh_spec hc.1) hc.2
        refine ⟨h0, { g with hd := up g.hd k (vs[j]'(by omega)) }, ?_⟩
        have e1 : (St.h { fr := σ.fr, bx := σ.bx.map fun x => (x.1, if x.1 = n then x.2.rf j k l else x.2), hw := (k, l.length, e) :: σ.hw }) = up σ.h k (some (l.length, e)) := lk_hw_up
        rw [e1]
        have eB : ∀ m o, (St.b { fr := σ.fr, bx := σ.bx.map fun x => (x.1, if x.1 = n then x.2.rf j k l else x.2), hw := (k, l.length, e) :: σ.hw } m) = some o → (m = n ∧ o = .cells r (cs.set j (.sl k l))) ∨ (m ≠ n ∧ σ.b m = some o) := by
          intro m o hm
          simp only [St.b] at hm
          rw [lk_if (f := BO.rf j k l)] at hm
          by_cases hmn : m = n
          · subst hmn
            rw [if_pos rfl, hl] at hm
            simp [BO.rf, BO.alive] at hm
            exact .inl ⟨rfl, hm.symm⟩
          · rw [if_neg hmn] at hm
            exact .inr ⟨hmn, hm⟩
        have eB' : ∀ m o, (St.b { fr := σ.fr, bx := σ.bx.map fun x => (x.1, if x.1 = n then x.2.rf j k l else x.2), hw := (k, l.length, e) :: σ.hw } m) = some o → ∃ o', σ.b m = some o' := by
          intro m o hm
          rcases eB m o hm with ⟨rfl, _⟩ | ⟨_, h⟩
          · exact ⟨_, hB⟩
          · exact ⟨_, h⟩
        refine ⟨h1.defers, h1.below, h1.old, h1.s0, h1.snew, h1.slt, h1.slots, ?_, ?_, ?_, ?_, h1.row, h1.rdist, ?_⟩
        · intro m o hm
          rcases eB m o hm with ⟨_, rfl⟩ | ⟨_, h⟩
          · simp
          · exact h1.alive m o h
        · intro m o hm
          rcases eB m o hm with ⟨rfl, rfl⟩ | ⟨_, h⟩
          · refine ⟨kb1, kb2, vs, t, h3, by simpa using h4, fun i u c hu hci => ?_, h6⟩
            rw [List.getElem?_set] at hci
            split at hci
            · rename_i hij
              injection hci with hci
              subst hci; subst hij
              rw [hvj] at hu
              injection hu with hu
              subst hu
              exact ⟨(h5 j _ _ hvj hj).1, h2⟩
            · refine ⟨(h5 i u c hu hci).1, (h5 i u c hu hci).2.move (fun _ _ h => h) (Agree.refl _ _) fun q hq => hnm q ?_⟩
              rintro rfl
              have := (fresh_spec hc.1).2 _ _ hB
              simp only [BO.men, List.any_eq_false] at this
              exact absurd hq (by simpa using this c (List.mem_of_getElem? hci))
          · exact h1.box m o h
        · intro m m' o o' hm hm' hne
          obtain ⟨_, h2⟩ := eB' m o hm
          obtain ⟨_, h3⟩ := eB' m' o' hm'
          exact h.dist m m' _ _ h2 h3 hne
        · intro m o hm hL
          obtain ⟨_, h2⟩ := eB' m o hm
          exact h.lent m _ h2 hL
        · intro q x b m o hq hr hm
          obtain ⟨_, h2⟩ := eB' m o hm
          exact h1.rbox q x b m _ hq hr h2
      · exact h
    · exact h
  · exact h

theorem SimS.pu {a : Act} {w : World} {σ : St} (h : SimS P E nt a w σ) (s : Nat) : SimS P E nt a w (σ.pu s) := by
  obtain ⟨h0, g, h⟩ := h
  refine ⟨h0, g, h.defers, h.below, h.old, h.s0, h.snew, h.slt, fun t => ?_, h.alive, h.box, h.dist, h.lent, h.row, h.rdist, h.rbox⟩
  have := h.slots t
  simp only [St.pu, St.f] at this ⊢
  rw [lk_if (f := LV.pur)]
  split
  · cases hl : lk t σ.fr with
    | none => trivial
    | some v =>
      rw [hl] at this
      simp only [Option.map_some, Option.getD_some] at this ⊢
      unfold LV.pur
      split
      · rename_i p hp; exact RepV.pure this hp
      · exact this
  · exact this

theorem SimS.atEnd (hL : ∀ n, E.L n → 1000 ≤ n) {a : Act} {w : World} {σ : St} (h : SimS P E nt a w σ) (kp : Keep) (id : Nat) : SimS P E nt a w (σ.atEnd kp id) := by
  unfold St.atEnd
  have h1 : ∀ (l : List (Nat × List Nat)) (σ : St), SimS P E nt a w σ → SimS P E nt a w (l.foldl (fun σ x => if x.1 = id then σ.frz x.2 else σ) σ) := by
    intro l
    induction l with
    | nil => intro σ h; exact h
    | cons x r ih =>
      intro σ h
      simp only [List.foldl_cons]
      refine ih _ ?_
      split
      · exact h.frz _
      · exact h
  have h2 : ∀ (l : List (Nat × Nat)) (σ : St), SimS P E nt a w σ → SimS P E nt a w (l.foldl (fun σ x => σ.mv x.1 x.2) σ) := by
    intro l
    induction l with
    | nil => intro σ h; exact h
    | cons x r ih => intro σ h; exact ih _ (h.mv hL _ _)
  have h3 : ∀ (l : List (Nat × Nat × TypeId)) (σ : St), SimS P E nt a w σ → SimS P E nt a w (l.foldl (fun σ x => σ.rf x.1 x.2.1 x.2.2) σ) := by
    intro l
    induction l with
    | nil => intro σ h; exact h
    | cons x r ih => intro σ h; exact ih _ (h.rf _ _ _)
  have h4 : ∀ (l : List (Nat × Nat × Nat × TypeId)) (σ : St), SimS P E nt a w σ → SimS P E nt a w (l.foldl (fun σ x => σ.rb x.1 x.2.1 x.2.2.1 x.2.2.2) σ) := by
    intro l
    induction l with
    | nil => intro σ h; exact h
    | cons x r ih => intro σ h; exact ih _ (h.rb _ _ _ _)
  have h5 : ∀ (l : List Nat) (σ : St), SimS P E nt a w σ → SimS P E nt a w (l.foldl St.pu σ) := by
    intro l
    induction l with
    | nil => intro σ h; exact h
    | cons x r ih => intro σ h; exact ih _ (h.pu _)
  exact h5 _ _ (h4 _ _ (h3 _ _ (h2 _ _ ((h1 _ _ h).gc kp))))

/-- THE CODE, ON ABSTRACT STATES. -/
def acode (P : Program) (kp : Keep) : Code → St → (AEx → St → Prop) → Prop
  | .skip, σ, Q => Q .normal σ
  | .label _, σ, Q => Q .normal σ
  | .region id ops false, σ, Q => aops P ops ops.toList σ fun σ' => Q .normal (σ'.atEnd kp id)
  | .region id ops true, σ, Q => aDraw P ops σ fun σ' => Q .normal (σ'.atEnd kp id)
  | .seq a b, σ, Q => acode P kp a σ fun e σ' => match e with
    | .normal => acode P kp b σ' Q
    | .exit i => Q (.exit i) σ'
    | .ret => Q .ret σ'
  | .cond c x y, σ, Q => match evo σ.f c with
    | .pv (.bool t) => (t = true → acode P kp x σ Q) ∧ (t = false → acode P kp y σ Q)
    | _ => False
  | .block id body, σ, Q => acode P kp body σ fun e σ' => match e with
    | .normal => Q .normal σ'
    | .exit i => (i = id → Q .normal σ') ∧ (i ≠ id → Q (.exit i) σ')
    | .ret => Q .ret σ'
  | .loop body, σ, Q => ∃ (ks : Keep) (α : Type) (I : α → St → Prop) (μ : α → Nat), (∃ a, I a (σ.gc ks)) ∧ ∀ a σ, I a σ → acode P kp body σ fun e σ' => match e with
    | .normal => ∃ a', I a' (σ'.gc ks) ∧ μ a' < μ a
    | .exit i => Q (.exit i) σ'
    | .ret => Q .ret σ'
  | .exit i, σ, Q => Q (.exit i) σ
  | .ret, σ, Q => Q .ret σ
  | _, _, _ => False

/-- All slots that a code writes are slots of the frame. -/
def dstOk (nt : Nat) : Code → Bool
  | .region _ ops _ => ops.all fun o => match o.dst with | some d => d < nt | none => true
  | .seq a b => dstOk nt a && dstOk nt b
  | .cond _ a b => dstOk nt a && dstOk nt b
  | .block _ a => dstOk nt a
  | .loop a => dstOk nt a
  | .scope a => dstOk nt a
  | _ => true

def toQ (P : Program) (E : Env) (nt : Nat) (Q : AEx → St → Prop) : Exit → Act → World → Prop
  | .normal, a, w => ∃ σ, Q .normal σ ∧ SimS P E nt a w σ
  | .exit i, a, w => ∃ σ, Q (.exit i) σ ∧ SimS P E nt a w σ
  | .ret, a, w => ∃ σ, Q .ret σ ∧ SimS P E nt a w σ
  | _, _, _ => False

theorem dstOk_region {nt id : Nat} {ops : Array Oper} {dr : Bool} (h : dstOk nt (.region id ops dr) = true) : ∀ o ∈ ops, ∀ d, o.dst = some d → d < nt := by
  intro o ho d hd
  have := Array.all_eq_true_iff_forall_mem.1 h o ho
  simpa [hd] using this

theorem code_ok (hL : ∀ n, E.L n → 1000 ≤ n) (hm : P.follows .mixedOrders = true) {kp : Keep} : ∀ (c : Code) (σ : St) (Q : AEx → St → Prop) (a : Act) (w : World), dstOk nt c = true → acode P kp c σ Q → SimS P E nt a w σ → c.wp P (toQ P E nt Q) a w := by
  intro c
  induction c with
  | skip => intro σ Q a w _ h hs; exact wp_skip ⟨σ, h, hs⟩
  | label l => intro σ Q a w _ h hs; exact wp_label ⟨σ, h, hs⟩
  | exit i => intro σ Q a w _ h hs; exact wp_exit ⟨σ, h, hs⟩
  | ret => intro σ Q a w _ h hs; exact wp_ret ⟨σ, h, hs⟩
  | region id ops dr =>
    intro σ Q a w hd h hs
    have hd' := dstOk_region hd
    cases dr with
    | false =>
      refine wp_region ?_
      rw [List.range_eq_range']
      exact aops_ok hL hd' ops.size 0 σ _ a w (by simp) hs h fun σ' a' w' h2 hs' => ⟨_, h2, hs'.atEnd hL kp id⟩
    | true => exact draw_ok hL hm h hd' hs fun σ' a' w' hk hs' => ⟨_, hk, hs'.atEnd hL kp id⟩
  | seq x y ihx ihy =>
    intro σ Q a w hd h hs
    simp only [dstOk, Bool.and_eq_true] at hd
    refine wp_seq (wp_mono (ihx σ _ a w hd.1 h hs) ?_)
    intro e a' w' hq
    cases e with
    | normal => obtain ⟨σ', h1, h2⟩ := hq; exact ihy σ' Q a' w' hd.2 h1 h2
    | exit i => exact hq
    | ret => exact hq
    | goto l => exact hq.elim
    | panic c => exact hq.elim
    | outgrown => exact hq.elim
  | cond c x y ihx ihy =>
    intro σ Q a w hd h hs
    simp only [dstOk, Bool.and_eq_true] at hd
    simp only [acode] at h
    split at h
    · rename_i t ht
      have hb : a.eval c = .bool t := by
        obtain ⟨_, g, hg⟩ := hs
        exact bool_inv (ht ▸ hg.ev c)
      exact wp_cond_split hb (fun e => ihx σ Q a w hd.1 (h.1 e) hs) fun e => ihy σ Q a w hd.2 (h.2 e) hs
    · exact h.elim
  | block id body ih =>
    intro σ Q a w hd h hs
    refine wp_block (wp_mono (ih σ _ a w hd h hs) ?_)
    intro e a' w' hq
    cases e with
    | normal => exact hq
    | exit i =>
      obtain ⟨σ', ⟨h1, h2⟩, h3⟩ := hq
      by_cases hi : i = id
      · simp only [Exit.inBlock, hi, if_true]; exact ⟨σ', h1 hi, h3⟩
      · simp only [Exit.inBlock, hi, if_false]; exact ⟨σ', h2 hi, h3⟩
    | ret => exact hq
    | goto l => exact hq.elim
    | panic c => exact hq.elim
    | outgrown => exact hq.elim
  | loop body ih =>
    intro σ Q a w hd h hs
    obtain ⟨ks, α, I, μ, ⟨x0, h0⟩, hr⟩ := h
    -- the measure of the abstract state, by strong induction on it
    have key : ∀ (n : Nat) (x : α) (σ : St) (a : Act) (w : World), μ x = n → I x σ → SimS P E nt a w σ → ∀ (b : Frame) (k : List Item) (cs : List Frame),
        ∃ e a' w', toQ P E nt Q e a' w' ∧ Arrives P (lone (b.at a (.code body :: .inLoop body :: k)) cs w) b k cs e a' w' := by
      intro n
      induction n using Nat.strongRecOn with
      | _ n ihn =>
        intro x σ a w hn hI hs b k cs
        obtain ⟨e, a₁, w₁, hq, harr⟩ := ih σ _ a w hd (hr x σ hI) hs b (.inLoop body :: k) cs
        cases e with
        | normal =>
          obtain ⟨σ₁, ⟨x₁, hI₁, hlt⟩, hs₁⟩ := hq
          obtain ⟨e₂, a₂, w₂, hq₂, harr₂⟩ := ihn (μ x₁) (hn ▸ hlt) x₁ (σ₁.gc ks) a₁ w₁ rfl hI₁ (hs₁.gc ks) b k cs
          exact ⟨e₂, a₂, w₂, hq₂, .of_steps (Steps.trans harr (.one step_inLoop)) harr₂⟩
        | exit id => exact ⟨Exit.exit id, a₁, w₁, hq, .pass (x := .inLoop body) rfl (fun _ _ => .inl (by simp)) harr⟩
        | ret => exact ⟨Exit.ret, a₁, w₁, hq, .pass (x := .inLoop body) rfl (fun _ _ => .inl (by simp)) harr⟩
        | goto l => exact hq.elim
        | panic c => exact hq.elim
        | outgrown => exact hq.elim
    intro b k cs
    obtain ⟨e, a', w', hq, harr⟩ := key _ x0 (σ.gc ks) a w rfl h0 (hs.gc ks) b k cs
    exact ⟨e, a', w', hq, .of_steps (.one step_loop) harr⟩
  | _ => intro σ Q a w _ h _; exact h.elim

end

/-! ### A function's contract -/

/-- What a result variable holds at the end. -/
def resLV (P : Program) (σ : St) : ResultVar → Option LV
  | .tmp t => some (σ.f t)
  | .cell a t => match σ.f a with
    | .bp n off => match σ.b n with
      | some (.cells _ cs) => if P.aggT t = true ∧ P.cellsOf t ≠ 0 ∧ off + P.cellsOf t ≤ cs.length then some (LV.ag ((cs.drop off).take (P.cellsOf t))) else
          if P.aggT t = false ∧ (P.underlying t).isSome = true then cs[off]? else none
      | _ => none
    | _ => none

def resVal (P : Program) (σ : St) (r : ResultVar) : Option PV := (resLV P σ r).bind fun x => (x.arg? σ.b).map (·.1)

def resVals (P : Program) (σ : St) : List ResultVar → Option (List PV)
  | [] => some []
  | r :: rs => match resVal P σ r with
    | some p => match resVals P σ rs with
      | some ps => some (p :: ps)
      | none => none
    | none => none

def argFr : Nat → List PV → List (Nat × LV)
  | _, [] => []
  | n, p :: ps => (n, .pv p) :: argFr (n + 1) ps

def argFrX : Nat → List LV → List (Nat × LV)
  | _, [] => []
  | n, p :: ps => (n, p) :: argFrX (n + 1) ps

def endQ (P : Program) (rv : List ResultVar) (rs : List PV) : AEx → St → Prop
  | .exit _, _ => False
  | _, σ => resVals P σ rv = some rs

/-- What is so at the end of a function that turns what it is lent. -/
def resX (P : Program) (σ : St) : List ResultVar → LV → Prop
  | [r], y => ∃ x, resLV P σ r = some x ∧ x.wk y
  | rs, .tup ps => ∃ xs, rs.map (resLV P σ) = xs.map some ∧ wkL xs (ps.map .pv)
  | _, _ => False
def postX (σ : St) : List (Nat × BO) → Prop
  | [] => True
  | x :: r => (∃ o, σ.b x.1 = some o ∧ o.wk x.2) ∧ postX σ r
def endX (P : Program) (rv : List ResultVar) (rs : LV) (post : List (Nat × BO)) : AEx → St → Prop
  | .exit _, _ => False
  | _, σ => resX P σ rv rs ∧ postX σ post

theorem lk_argFr {s : Nat} {v : LV} : ∀ {n : Nat} {ps : List PV}, lk s (argFr n ps) = some v → ∃ p, v = .pv p ∧ n ≤ s ∧ ps[s - n]? = some p
  | n, [], h => by simp [argFr, lk] at h
  | n, p :: ps, h => by
    simp only [argFr, lk] at h
    split at h
    · rename_i hn
      injection h with h
      exact ⟨p, h.symm, by omega, by subst hn; simp⟩
    · obtain ⟨q, h1, h2, h3⟩ := lk_argFr h
      refine ⟨q, h1, by omega, ?_⟩
      rw [show s - n = (s - (n + 1)) + 1 by omega]
      simpa using h3

theorem lk_argFrX {s : Nat} {v : LV} : ∀ {n : Nat} {ps : List LV}, lk s (argFrX n ps) = some v → n ≤ s ∧ ps[s - n]? = some v
  | n, [], h => by simp [argFrX, lk] at h
  | n, p :: ps, h => by
    simp only [argFrX, lk] at h
    split at h
    · rename_i hn
      injection h with h
      exact ⟨by omega, by subst hn; simp [h]⟩
    · obtain ⟨h2, h3⟩ := lk_argFrX h
      refine ⟨by omega, ?_⟩
      rw [show s - n = (s - (n + 1)) + 1 by omega]
      simpa using h3

section
variable {P : Program} {E : Env}

def rvRun (a : Act) : ResultVar → Sem Value
  | .tmp t => pure (a.tmps.getD t undef)
  | .cell ad t => do loadVar t (← asAddr (a.tmps.getD ad undef))

theorem results_eq (fn : Func) (a : Act) : results fn a.tmps = (do let vs ← fn.results.mapM (rvRun a); pure (if h : vs.size = 1 then vs[0] else .tuple vs)) := by
  unfold results
  congr 1

theorem run_lv {g : Gh} {a : Act} {w : World} {σ : St} (hs : Sim P E g a w σ.f σ.b σ.h) {r : ResultVar} {x : LV} (h : resLV P σ r = some x) :
    ∃ v, (rvRun a r).run P w = .ok v w ∧ RepV g σ.h w v x := by
  cases r with
  | tmp t =>
    simp only [resLV] at h
    injection h with h
    subst h
    exact ⟨_, rfl, hs.slots t⟩
  | cell ad t =>
    simp only [resLV] at h
    split at h
    · rename_i n off hf
      have hv := hs.slots ad
      rw [hf] at hv
      have hv' : a.tmps.getD ad undef = .pointer (some ⟨g.bk n, off, none⟩) := hv
      split at h
      · rename_i rr cs hB
        obtain ⟨_, _, vs, ty, hh, hl, hc, _⟩ := hs.box n _ hB
        split at h
        · rename_i hcond
          obtain ⟨h1, h2, h3⟩ := hcond
          injection h with h
          subst h
          have cell : ∀ j, j < P.cellsOf t → w.cell? ⟨g.bk n, off + j, none⟩ = some (vs.getD (off + j) undef) := fun j hj => by
            rw [cell_of_row w _ _ vs ty (0, 0) hh]
            have : off + j < vs.size := by omega
            simp [this]
          refine ⟨.agg ((List.range (P.cellsOf t)).map fun j => vs.getD (off + j) undef).toArray, ?_, ?_⟩
          · simp only [rvRun, hv', Sem.run_bind, asAddr, Sem.run_pure, Result.andThen_ok]
            exact run_loadVar_agg h1 h2 cell
          · refine ⟨_, rfl, by simp; omega, fun j u c hu hc' => ?_⟩
            obtain ⟨hj, rfl⟩ := get_range hu
            have hlt : off + j < vs.size := by omega
            have e1 : vs[off + j]? = some vs[off + j] := Array.getElem?_eq_getElem hlt
            rw [List.getElem?_take, if_pos hj, List.getElem?_drop] at hc'
            have e2 : vs.getD (off + j) undef = vs[off + j] := by simp [hlt]
            rw [e2]
            exact hc (off + j) _ c e1 hc'
        · split at h
          · rename_i hcond
            obtain ⟨h1, h2⟩ := hcond
            have hlt : off < vs.size := by have := (List.getElem?_eq_some_iff.1 h).1; omega
            have e1 : vs[off]? = some vs[off] := Array.getElem?_eq_getElem hlt
            have hrc := (hc off _ x e1 h).2
            refine ⟨vs[off], ?_, by cases x <;> first | exact hrc | exact hrc.elim⟩
            simp only [rvRun, hv', Sem.run_bind, asAddr, Sem.run_pure, Result.andThen_ok]
            exact run_loadVar_one h1 h2 (by rw [cell_of_row w _ _ vs ty (0, 0) hh]; exact e1)
          · cases h
      · cases h
    · cases h

/-- All cells of what is lent beside S. -/
def LentAll (g : Gh) (B : Nat → Option BO) : Nat → Nat → Prop := fun b o => g.S b o ∨ ∃ n, (B n).isSome = true ∧ b = g.bk n

theorem run_resList {g : Gh} {a : Act} {w : World} {σ : St} (hs : Sim P E g a w σ.f σ.b σ.h) : ∀ (l : List ResultVar) (ps : List PV), resVals P σ l = some ps →
    ∃ vs, (l.mapM (rvRun a)).run P w = .ok vs w ∧ Reps (LentAll g σ.b) w vs ps
  | [], ps, h => by
    simp [resVals] at h
    subst h
    exact ⟨[], by simp, rfl, by simp⟩
  | r :: rs, ps, h => by
    simp only [resVals] at h
    split at h
    · rename_i p hp
      split at h
      · rename_i qs hq
        injection h with h
        subst h
        obtain ⟨x, hx, hxa⟩ := Option.bind_eq_some_iff.1 hp
        obtain ⟨⟨p', ns⟩, hxb, hpp⟩ := Option.map_eq_some_iff.1 hxa
        simp only at hpp
        subst hpp
        obtain ⟨v, h1, h2⟩ := run_lv hs hx
        have h2' : Rep (LentAll g σ.b) w v p' := (arg_ok hs h2 hxb fun n hn => hn).more (by
          rintro b i (h | ⟨n, _, h3, h4⟩)
          · exact .inl h
          · exact .inr ⟨n, h3, h4⟩)
        obtain ⟨vs, h3, h4⟩ := run_resList hs rs qs hq
        refine ⟨v :: vs, ?_, by simp [h4.1], fun i u q hu hq => ?_⟩
        · rw [List.mapM_cons]
          simp only [Sem.run_bind, h1, h3, Result.andThen_ok, Sem.run_pure]
        · cases i with
          | zero => simp at hu hq; subst hu; subst hq; exact h2'
          | succ i => exact h4.2 i u q (by simpa using hu) (by simpa using hq)
      · cases h
    · cases h

theorem run_resX {g : Gh} {a : Act} {w : World} {σ : St} (hs : Sim P E g a w σ.f σ.b σ.h) : ∀ (l : List ResultVar) (xs : List LV), l.map (resLV P σ) = xs.map some →
    ∃ vs, (l.mapM (rvRun a)).run P w = .ok vs w ∧ vs.length = xs.length ∧ ∀ (i : Nat) (v : Value) (x : LV), vs[i]? = some v → xs[i]? = some x → RepV g σ.h w v x
  | [], xs, h => by
    cases xs with
    | nil => exact ⟨[], by simp, rfl, by simp⟩
    | cons x r => simp at h
  | r :: rs, xs, h => by
    cases xs with
    | nil => simp at h
    | cons x xs =>
      simp only [List.map_cons, List.cons.injEq] at h
      obtain ⟨v, h1, h2⟩ := run_lv hs h.1
      obtain ⟨vs, h3, h4, h5⟩ := run_resX hs rs xs h.2
      refine ⟨v :: vs, ?_, by simp [h4], fun i u q hu hq => ?_⟩
      · rw [List.mapM_cons]
        simp only [Sem.run_bind, h1, h3, Result.andThen_ok, Sem.run_pure]
      · cases i with
        | zero => simp at hu hq; subst hu; subst hq; exact h2
        | succ i => exact h5 i u q (by simpa using hu) (by simpa using hq)

theorem run_results {fn : Func} {a : Act} {w : World} {us : List Value} (h1 : (fn.results.toList.mapM (rvRun a)).run P w = .ok us w) : (results fn a.tmps).run P w = .ok (if h : us.toArray.size = 1 then us.toArray[0] else .tuple us.toArray) w := by
  rw [results_eq, Array.mapM_eq_mapM_toList, Sem.run_bind, Sem.run_map, h1]
  rfl

theorem slots0 {g : Gh} {H : HT} {w : World} {nt : Nat} {vs : List Value} {xs : List LV} {fr : List (Nat × LV)} (hn : xs.length ≤ nt) (hl : vs.length = xs.length) (hfr : ∀ s x, lk s fr = some x → xs[s]? = some x) (hr : ∀ (i : Nat) (v : Value) (x : LV), vs[i]? = some v → xs[i]? = some x → RepV g H w v x) (s : Nat) :
    RepV g H w ((vs.toArray ++ Array.replicate (nt - vs.toArray.size) undef).getD s undef) ((lk s fr).getD .junk) := by
  cases hlk : lk s fr with
  | none => trivial
  | some x =>
    have hx := hfr s x hlk
    have hs : s < vs.length := by have := (List.getElem?_eq_some_iff.1 hx).1; omega
    have hv : vs[s]? = some vs[s] := List.getElem?_eq_getElem hs
    have he : (vs.toArray ++ Array.replicate (nt - vs.toArray.size) undef).getD s undef = vs[s] := by
      rw [Array.getD_eq_getD_getElem?, Array.getElem?_append_left (by simpa using hs)]
      simp [hs]
    rw [he]
    exact hr s _ x hv hx

/-- A CONTRACT OUT OF THE CODE. -/
theorem good_of {f : FuncId} {fn : Func} {c : Code} {args rs : List PV} (kp : Keep) (hm : P.follows .mixedOrders = true) (hcall : ∀ (as : Array Value) (w : World), (callFunc f as).run P w = .ok (.enter f as) w)
    (hf : P.funcs[f]? = some fn) (hb : fn.body = some c) (hd : dstOk fn.ntmps c = true) (hn : args.length ≤ fn.ntmps)
    (h : acode P kp c { fr := argFr 0 args, bx := [], hw := [] } (endQ P fn.results.toList rs)) : Good P false f args rs := by
  refine ⟨hcall, fun S w vs hS hr => ?_⟩
  refine calls_of_wp hf hb ?_
  let E : Env := ⟨fun b => b < w.heap.size, w, S, fun _ => False, fun _ => 0, fun _ => 0⟩
  have hsim : SimS P E fn.ntmps { tmps := vs.toArray ++ Array.replicate (fn.ntmps - vs.toArray.size) undef, defers := [] } w { fr := argFr 0 args, bx := [], hw := [] } := by
    have hl := hr.1
    refine ⟨by simp; omega, ⟨S, fun _ => 0, fun _ => undef, fun _ => 0⟩, rfl, BelowO.refl _ _, fun _ h => h, fun _ _ h => h, fun _ _ h => .inl h, hS, fun s => ?_, ?_, ?_, ?_, ?_, ?_, ?_, ?_⟩
    · refine slots0 (xs := args.map .pv) (by simpa using hn) (by simpa using hl) (fun s x hx => ?_) (fun i v x hv hx => ?_) s
      · obtain ⟨p, rfl, _, hp⟩ := lk_argFr hx
        rw [List.getElem?_map]
        simp only [Nat.sub_zero] at hp
        rw [hp]; rfl
      · rw [List.getElem?_map] at hx
        cases hp : args[i]? with
        | none => rw [hp] at hx; cases hx
        | some p => rw [hp] at hx; simp at hx; subst hx; exact hr.2 i v p hv hp
    · intro n cs h; simp [St.b, lk] at h
    · intro n cs h; simp [St.b, lk] at h
    · intro n m cs cs' h; simp [St.b, lk] at h
    · intro n cs h; simp [St.b, lk] at h
    · intro k h e hk; simp [St.h, lk] at hk
    · intro k k' x x' b hk; simp [St.h, lk] at hk
    · intro k x b n cs hk; simp [St.h, lk] at hk
  refine wp_mono (code_ok (E := E) (fun _ h => h.elim) hm c _ _ _ w hd h hsim) ?_
  have fin : ∀ (a : Act) (w' : World) (σ : St), resVals P σ fn.results.toList = some rs → SimS P E fn.ntmps a w' σ →
      a.defers = [] ∧ ∃ v, (results fn a.tmps).run P w' = .ok v w' ∧ ∃ v' S', Ending.returned v = .returned v' ∧ Res S' w' v' rs ∧ Below w.heap.size w w' ∧ (∀ b o, S' b o → b < w'.heap.size) ∧ ∀ b o, S' b o → (false = false ∧ S b o) ∨ w.heap.size ≤ b := by
    intro a w' σ hres hs
    obtain ⟨_, g, hg⟩ := hs
    obtain ⟨us, h1, h2⟩ := run_resList hg _ _ hres
    refine ⟨hg.defers, _, run_results h1, _, LentAll g σ.b, rfl, ?_, ⟨hg.below.os, hg.below.tape, hg.below.output, hg.below.size, hg.below.block⟩, ?_, ?_⟩
    · unfold Res
      split
      · rename_i r
        have hl : us.length = 1 := by simpa using h2.1
        have : (us.toArray.size = 1) := by simpa using hl
        rw [dif_pos this]
        exact h2.2 0 _ r (by simp) rfl
      · rename_i hne
        have : ¬ us.toArray.size = 1 := by
          intro h
          have hl : rs.length = 1 := by rw [← h2.1]; simpa using h
          match rs, hl with
          | [r], _ => exact hne r rfl
        rw [dif_neg this]
        exact ⟨us.toArray, rfl, by simpa using h2⟩
    · rintro b i (hb | ⟨n, hn, rfl⟩)
      · exact hg.slt b i hb
      · obtain ⟨o, ho⟩ := Option.isSome_iff_exists.1 hn
        exact hg.boxBlock ho
    · rintro b i (hb | ⟨n, hn, rfl⟩)
      · rcases hg.snew b i hb with h | h
        · exact .inl ⟨rfl, h⟩
        · exact .inr (Nat.le_of_not_lt h)
      · obtain ⟨o, ho⟩ := Option.isSome_iff_exists.1 hn
        exact .inr (Nat.le_of_not_lt (hg.box n o ho).1)
  intro e a' w' hq
  cases e with
  | normal => obtain ⟨σ, h1, h2⟩ := hq; exact fin a' w' σ h1 h2
  | ret => obtain ⟨σ, h1, h2⟩ := hq; exact fin a' w' σ h1 h2
  | exit i => obtain ⟨σ, h1, _⟩ := hq; exact h1.elim
  | goto l => exact hq.elim
  | panic c => exact hq.elim
  | outgrown => exact hq.elim

theorem postX_spec {σ : St} : ∀ {l : List (Nat × BO)}, postX σ l → ∀ n o, lk n l = some o → ∃ o', σ.b n = some o' ∧ o'.wk o
  | [], _, n, o, h => by cases h
  | x :: r, hp, n, o, h => by
    obtain ⟨j, v⟩ := x
    simp only [lk] at h
    split at h
    · rename_i hj
      injection h with h
      subst h; subst hj
      exact hp.1
    · exact postX_spec hp.2 n o h

theorem RepC.noH_ {g : Gh} {H : HT} {w : World} {v : Value} {x : LV} (h : RepC g H w v x) : RepC g noH w v x := h.move (fun _ _ h => h) (Agree.refl _ _) fun k _ => ⟨⟨rfl, rfl⟩, fun _ _ _ _ _ hk => by cases hk⟩
theorem RepV.noH_ {g : Gh} {H : HT} {w : World} {v : Value} {x : LV} (h : RepV g H w v x) : RepV g noH w v x := h.move (fun _ _ h => h) (Agree.refl _ _) fun k _ => ⟨⟨rfl, rfl⟩, fun _ _ _ _ _ hk => by cases hk⟩

theorem BoxC.wk_ {g : Gh} {H : HT} {w : World} {n : Nat} {o o' : BO} (h : BoxC g H w n o') (hw : o'.wk o) : BoxC g noH w n o := by
  cases o with
  | cells r cs =>
    cases o' with
    | cells r' ds =>
      obtain ⟨hr, hl⟩ := hw
      obtain ⟨h1, h2⟩ := wkL1_len hl
      obtain ⟨vs, t, h3, h4, h5, h6⟩ := h
      refine ⟨vs, t, h3, by omega, fun j u c hu hc => ?_, fun ri hri => ?_⟩
      · have hlt := (List.getElem?_eq_some_iff.1 hc).1
        have hd : ds[j]? = some (ds[j]'(by omega)) := List.getElem?_eq_getElem _
        obtain ⟨k1, k2⟩ := h5 j u _ hu hd
        exact ⟨k1, (k2.wk1 (h2 j _ c hd hc)).noH_⟩
      · rcases hr with hr | hr
        · rw [hr] at hri; cases hri
        · exact h6 ri (by rw [hr]; exact hri)
    | _ => exact hw.elim
  | map ks vs =>
    cases o' with
    | map ks' vs' =>
      obtain ⟨e1, e2⟩ := hw
      subst e1; subst e2
      exact h
    | _ => exact hw.elim
  | iter ks vs c => cases o' <;> exact hw.elim
  | dead => cases o' <;> exact hw.elim

def bigNames {α : Type} (l : List (Nat × α)) : Bool := l.all fun x => decide (1000 ≤ x.1) && decide (x.1 < 2000)

/-- A CONTRACT OUT OF THE CODE of a function that turns what it is lent. -/
theorem goodX_of {f : FuncId} {fn : Func} {c : Code} {cx : CX} (kp : Keep) (hm : P.follows .mixedOrders = true) (hcall : ∀ (as : Array Value) (w : World), (callFunc f as).run P w = .ok (.enter f as) w)
    (hf : P.funcs[f]? = some fn) (hb : fn.body = some c) (hd : dstOk fn.ntmps c = true) (hn : cx.args.length ≤ fn.ntmps) (hbig : bigNames cx.pre = true) (hpre : (cx.pre.all fun x => x.2.alive.isSome) = true)
    (h : acode P kp c { fr := argFrX 0 cx.args, bx := cx.pre, hw := [] } (endX P fn.results.toList cx.rs cx.post)) : GoodX P f cx := by
  refine ⟨hcall, fun g w vs hlent hvl hr => ?_⟩
  refine calls_of_wp hf hb ?_
  let E : Env := ⟨OldX g w (keys cx.pre), w, g.S, fun n => n ∈ keys cx.pre, g.bk, g.cp⟩
  have hL : ∀ n, E.L n → 1000 ≤ n := by
    intro n hn
    obtain ⟨o, ho⟩ := lk_key (show n ∈ keys cx.pre from hn)
    have := List.all_eq_true.1 hbig _ (key_lk ho).2
    simp at this
    exact this.1
  have eb : ∀ n o, (St.b { fr := argFrX 0 cx.args, bx := cx.pre, hw := [] } n) = some o → lk n cx.pre = some o := by
    intro n o h
    simp only [St.b] at h
    obtain ⟨o', h1, h2⟩ := Option.bind_eq_some_iff.1 h
    have := alive_some h2
    subst this
    exact h1
  have hsim : SimS P E fn.ntmps { tmps := vs.toArray ++ Array.replicate (fn.ntmps - vs.toArray.size) undef, defers := [] } w { fr := argFrX 0 cx.args, bx := cx.pre, hw := [] } := by
    refine ⟨by simp; omega, g, rfl, BelowO.refl _ _, fun _ h => h.1, fun _ _ h => h, fun _ _ h => .inl h, hlent.slt, fun s => ?_, ?_, ?_, ?_, ?_, ?_, ?_, ?_⟩
    · refine slots0 (xs := cx.args) hn hvl (fun s x hx => ?_) (fun i v x hv hx => ?_) s
      · obtain ⟨_, hp⟩ := lk_argFrX hx
        simpa using hp
      · exact (hr i v x hv hx).move (fun _ _ h => h) (Agree.refl _ _) fun k _ => ⟨⟨rfl, rfl⟩, fun _ _ _ _ _ hk => by simp [St.h, lk] at hk⟩
    · intro n o h
      have := List.all_eq_true.1 hpre _ (key_lk (eb n o h)).2
      rintro rfl
      simp [BO.alive] at this
    · intro n o h
      obtain ⟨k1, k2, k3⟩ := hlent.box n o (eb n o h)
      exact ⟨fun ho => ho.2 n (key_lk (eb n o h)).1 rfl, k1, k2.move (fun _ _ h => h) (Agree.refl _ _) ⟨rfl, rfl⟩ rfl fun k _ => ⟨⟨rfl, rfl⟩, fun _ _ _ _ _ hk => by simp [St.h, lk] at hk⟩⟩
    · intro n m o o' h h' hne
      exact hlent.dist n m (key_lk (eb n o h)).1 (key_lk (eb m o' h')).1 hne
    · intro n o h hl; exact ⟨rfl, rfl⟩
    · intro k h e hk; simp [St.h, lk] at hk
    · intro k k' x x' b hk; simp [St.h, lk] at hk
    · intro k x b n cs hk; simp [St.h, lk] at hk
  refine wp_mono (code_ok (E := E) hL hm c _ _ _ w hd h hsim) ?_
  have fin : ∀ (a : Act) (w' : World) (σ : St), (resX P σ fn.results.toList cx.rs ∧ postX σ cx.post) → SimS P E fn.ntmps a w' σ →
      a.defers = [] ∧ ∃ v, (results fn a.tmps).run P w' = .ok v w' ∧ ∃ v' g', Ending.returned v = .returned v' ∧ RepV g' noH w' v' cx.rs ∧ BelowO (OldX g w (keys cx.pre)) w w' ∧ LentOk g' w' cx.post ∧
      (∀ n, n ∈ keys cx.pre → n ∈ keys cx.post → g'.bk n = g.bk n ∧ g'.cp n = g.cp n) ∧ (∀ n, n ∈ keys cx.post → ¬ OldX g w (keys cx.pre) (g'.bk n)) ∧
      ∀ b i, g'.S b i → g.S b i ∨ ¬ OldX g w (keys cx.pre) b := by
    rintro a w' σ ⟨hres, hpost⟩ hs
    obtain ⟨_, g', hg⟩ := hs
    have hp := postX_spec hpost
    have hpk : ∀ n, n ∈ keys cx.post → ∃ o, σ.b n = some o := fun n hn => by
      obtain ⟨o, ho⟩ := lk_key hn
      obtain ⟨o', h, _⟩ := hp n o ho
      exact ⟨o', h⟩
    have hv : ∃ v, (results fn a.tmps).run P w' = .ok v w' ∧ RepV g' noH w' v cx.rs := by
      unfold resX at hres
      split at hres
      · rename_i r y hrv
        obtain ⟨x, hx, hw⟩ := hres
        obtain ⟨v, h1, h2⟩ := run_lv hg hx
        have h3 : (fn.results.toList.mapM (rvRun a)).run P w' = .ok [v] w' := by
          rw [hrv]
          simp [h1]
        exact ⟨v, by have := run_results h3; simpa using this, (h2.wk hw).noH_⟩
      · rename_i ps hrs hne
        obtain ⟨xs, hx, hw⟩ := hres
        obtain ⟨us, h1, h2, h3⟩ := run_resX hg _ _ hx
        obtain ⟨h4, h5⟩ := wkL_len hw
        have hl : xs.length = fn.results.toList.length := by have := congrArg List.length hx; simpa using this.symm
        have hnot : ¬ us.toArray.size = 1 := by
          intro h
          have hl1 : fn.results.toList.length = 1 := by rw [← hl, ← h2]; simpa using h
          match hq : fn.results.toList, hl1 with
          | [r], _ => exact hne r hq
        refine ⟨.tuple us.toArray, by have h6 := run_results h1; rwa [dif_neg hnot] at h6, ?_⟩
        rw [hrs]
        refine ⟨_, rfl, by simp at h4; simp; omega, fun i v p hv hpi => ?_⟩
        have hv' : us[i]? = some v := by simpa using hv
        have hi := (List.getElem?_eq_some_iff.1 hv').1
        have hxi : xs[i]? = some (xs[i]'(by omega)) := List.getElem?_eq_getElem _
        exact (h3 i v _ hv' hxi).wk (h5 i _ (.pv p) hxi (by rw [List.getElem?_map, hpi]; rfl))
      · exact hres.elim
    obtain ⟨v, hv1, hv2⟩ := hv
    refine ⟨hg.defers, v, hv1, v, g', rfl, hv2, hg.below, ⟨fun n o hn => ?_, fun n m hn hm hne => ?_, hg.slt⟩, fun n h1 h2 => ?_, fun n hn => ?_, fun b i hb => hg.snew b i hb⟩
    · obtain ⟨o', h1, h2⟩ := hp n o hn
      obtain ⟨k1, k2, k3⟩ := hg.box n o' h1
      exact ⟨k2, k3.wk_ h2, hg.boxBlock h1⟩
    · obtain ⟨o1, h1⟩ := hpk n hn
      obtain ⟨o2, h2⟩ := hpk m hm
      exact hg.dist n m o1 o2 h1 h2 hne
    · obtain ⟨o1, h3⟩ := hpk n h2
      exact hg.lent n o1 h3 h1
    · obtain ⟨o1, h3⟩ := hpk n hn
      exact (hg.box n o1 h3).1
  intro e a' w' hq
  cases e with
  | normal => obtain ⟨σ, h1, h2⟩ := hq; exact fin a' w' σ h1 h2
  | ret => obtain ⟨σ, h1, h2⟩ := hq; exact fin a' w' σ h1 h2
  | exit i => obtain ⟨σ, h1, _⟩ := hq; exact h1.elim
  | goto l => exact hq.elim
  | panic c => exact hq.elim
  | outgrown => exact hq.elim

end
end Go.Am
