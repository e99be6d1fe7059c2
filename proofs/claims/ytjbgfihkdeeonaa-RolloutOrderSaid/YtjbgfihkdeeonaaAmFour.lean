/- The abstract machine, part 4: a frame and a world in an abstract state, and how the state moves; nothing is assumed of any program. -/
import Derived.Test.YtjbgfihkdeeonaaAmThree
namespace Go.Am
open Go.RowKit

def NameOk (g : Gh) (H : HT) (g' : Gh) (H' : HT) (k : Nat) : Prop :=
  (g'.bk k = g.bk k ∧ g'.cp k = g.cp k) ∧ ∀ (v : Value) (n : Nat), (∀ h e, H k = some (h, e) → n ≤ h ∧ (n = h → v = g.hd k)) → ∀ h e, H' k = some (h, e) → n ≤ h ∧ (n = h → v = g'.hd k)

theorem NameOk.refl (g : Gh) (H : HT) (k : Nat) : NameOk g H g H k := ⟨⟨rfl, rfl⟩, fun _ _ h => h⟩
theorem NameOk.sameS {g : Gh} (H : HT) (k : Nat) (S' : Nat → Nat → Prop) : NameOk g H { g with S := S' } H k := ⟨⟨rfl, rfl⟩, fun _ _ h => h⟩

theorem RepC.move {g g' : Gh} {H H' : HT} {w w' : World} {v : Value} {x : LV} (h : RepC g H w v x) (hS : ∀ b o, g.S b o → g'.S b o) (ha : Agree g.S w w')
    (hn : ∀ k, x.men1 k = true → NameOk g H g' H' k) : RepC g' H' w' v x := by
  cases x with
  | undef => exact h
  | junk => trivial
  | pv p => exact Rep.mono (p := p) h hS ha
  | full l => exact ⟨h.1.mono hS ha, h.2⟩
  | sl k l => exact ⟨h.1.mono hS ha, (hn k (by simp [LV.men1])).2 v l.length h.2⟩
  | bp n off =>
    have := (hn n (by simp [LV.men1])).1
    simp only [RepC] at h ⊢
    rw [this.1]; exact h
  | arr n len =>
    have := (hn n (by simp [LV.men1])).1
    simp only [RepC] at h ⊢
    rw [this.1, this.2]; exact h
  | it n =>
    have := (hn n (by simp [LV.men1])).1
    simp only [RepC] at h ⊢
    rw [this.1]; exact h
  | mr n =>
    have := (hn n (by simp [LV.men1])).1
    simp only [RepC] at h ⊢
    rw [this.1]; exact h
  | cl f caps =>
    simp only [RepC] at h ⊢
    rw [h]
    congr 2
    apply List.map_congr_left
    intro c hc
    rw [(hn c.1 (by simp only [LV.men1, List.any_eq_true]; exact ⟨c, hc, by simp⟩)).1.1]
  | ag cs => exact h
  | tup l => exact h

theorem Reps.mono {S S' : Nat → Nat → Prop} {w w' : World} {vs : List Value} {ps : List PV} (h : Reps S w vs ps) (hS : ∀ b o, S b o → S' b o) (ha : Agree S w w') : Reps S' w' vs ps :=
  ⟨h.1, fun i v p h1 h2 => (h.2 i v p h1 h2).mono hS ha⟩

theorem RepV.move {g g' : Gh} {H H' : HT} {w w' : World} {v : Value} {x : LV} (h : RepV g H w v x) (hS : ∀ b o, g.S b o → g'.S b o) (ha : Agree g.S w w')
    (hn : ∀ k, x.men k = true → NameOk g H g' H' k) : RepV g' H' w' v x := by
  cases x with
  | ag cs =>
    obtain ⟨vs, h1, h2, h3⟩ := h
    refine ⟨vs, h1, h2, fun j u c hu hc => ⟨(h3 j u c hu hc).1, (h3 j u c hu hc).2.move hS ha fun k hk => hn k ?_⟩⟩
    simp only [LV.men, List.any_eq_true]
    exact ⟨c, List.mem_of_getElem? hc, hk⟩
  | tup l =>
    obtain ⟨vs, h1, h2⟩ := h
    exact ⟨vs, h1, h2.mono hS ha⟩
  | undef => exact RepC.move (x := .undef) h hS ha fun k hk => hn k hk
  | junk => trivial
  | pv p => exact RepC.move (x := .pv p) h hS ha fun k hk => hn k hk
  | full l => exact RepC.move (x := .full l) h hS ha fun k hk => hn k hk
  | sl n l => exact RepC.move (x := .sl n l) h hS ha fun k hk => hn k hk
  | bp n o => exact RepC.move (x := .bp n o) h hS ha fun k hk => hn k hk
  | arr n l => exact RepC.move (x := .arr n l) h hS ha fun k hk => hn k hk
  | mr n => exact RepC.move (x := .mr n) h hS ha fun k hk => hn k hk
  | it n => exact RepC.move (x := .it n) h hS ha fun k hk => hn k hk
  | cl f c => exact RepC.move (x := .cl f c) h hS ha fun k hk => hn k hk

structure Env where
  Old : Nat → Prop
  w0 : World
  S0 : Nat → Nat → Prop
  L : Nat → Prop
  bk0 : Nat → Nat
  cp0 : Nat → Nat

def BoxOk (Old : Nat → Prop) (g : Gh) (H : HT) (w : World) (n : Nat) (o : BO) : Prop :=
  ¬ Old (g.bk n) ∧ (∀ o, ¬ g.S (g.bk n) o) ∧ BoxC g H w n o

theorem BoxC.lt {g : Gh} {H : HT} {w : World} {n : Nat} {o : BO} (h : BoxC g H w n o) (hd : o ≠ .dead) : g.bk n < w.heap.size := by
  cases o with
  | cells r cs => obtain ⟨vs, t, h, _⟩ := h; exact (Array.getElem?_eq_some_iff.1 h).1
  | map ks xs => obtain ⟨es, ck, h, _⟩ := h; exact (Array.getElem?_eq_some_iff.1 h).1
  | iter ks xs c =>
    rcases h with ⟨_, _, _, h⟩ | ⟨bm, since, seen, c0, es, ck, h, _⟩
    · exact (Array.getElem?_eq_some_iff.1 h).1
    · exact (Array.getElem?_eq_some_iff.1 h).1
  | dead => exact absurd rfl hd

theorem BoxC.move {g g' : Gh} {H H' : HT} {w w' : World} {n : Nat} {o : BO} (h : BoxC g H w n o) (hS : ∀ b o, g.S b o → g'.S b o) (ha : Agree g.S w w')
    (hbk : g'.bk n = g.bk n ∧ g'.cp n = g.cp n) (hh : w'.heap[g.bk n]? = w.heap[g.bk n]?) (hn : ∀ k, o.men k = true → NameOk g H g' H' k) : BoxC g' H' w' n o := by
  cases o with
  | cells r cs =>
    obtain ⟨vs, t, h3, h4, h5, h6⟩ := h
    refine ⟨vs, t, by rw [hbk.1, hh]; exact h3, h4, fun j u c hu hc => ⟨(h5 j u c hu hc).1, (h5 j u c hu hc).2.move hS ha fun k hk => hn k ?_⟩, by rw [hbk.2]; exact h6⟩
    simp only [BO.men, List.any_eq_true]
    exact ⟨c, List.mem_of_getElem? hc, hk⟩
  | map ks xs =>
    obtain ⟨es, ck, h1, hb, h2, h3, h4, h5⟩ := h
    exact ⟨es, ck, by rw [hbk.1, hh]; exact h1, hb, h2, h3, fun i e k he hk => (h4 i e k he hk).mono hS ha, fun i e k he hk => (h5 i e k he hk).mono hS ha⟩
  | iter ks xs c =>
    rcases h with ⟨h1, h2, h3, h4⟩ | ⟨bm, since, seen, c0, es, ck, h1, h2, h3, h4, h5, h6, h7, h8, h9, h10, h11⟩
    · exact .inl ⟨h1, h2, h3, by rw [hbk.1, hh]; exact h4⟩
    · refine .inr ⟨bm, since, seen, c0, es, ck, by rw [hbk.1, hh]; exact h1, (ha bm 0 h3).2 _ _ h2, hS _ _ h3, h4, h5, h6, h7, h8, fun i e k he hk => (h9 i e k he hk).mono hS ha, fun i e k he hk => (h10 i e k he hk).mono hS ha, fun k v hkv => ?_⟩
      obtain ⟨e, he, sn, k1, k2, k3, k4⟩ := h11 k v hkv
      exact ⟨e, he, sn, k1, k2, k3.mono hS ha, k4.mono hS ha⟩
  | dead => trivial

theorem BoxOk.move {Old : Nat → Prop} {g g' : Gh} {H H' : HT} {w w' : World} {n : Nat} {o : BO} (h : BoxOk Old g H w n o) (hS : ∀ b o, g.S b o → g'.S b o) (ha : Agree g.S w w')
    (hbk : g'.bk n = g.bk n ∧ g'.cp n = g.cp n) (hno : ∀ o, ¬ g'.S (g.bk n) o) (hh : w'.heap[g.bk n]? = w.heap[g.bk n]?)
    (hn : ∀ k, o.men k = true → NameOk g H g' H' k) : BoxOk Old g' H' w' n o :=
  ⟨by rw [hbk.1]; exact h.1, by rw [hbk.1]; exact hno, h.2.2.move hS ha hbk hh hn⟩

def RowOk (P : Program) (Old : Nat → Prop) (g : Gh) (w : World) (k h : Nat) (e : TypeId) : Prop :=
  ∃ A cap, g.hd k = .slice A h cap ∧ h ≤ cap ∧ (h < cap → ∃ b cur, A = some ⟨b, 0, none⟩ ∧ cap ≤ maxLen ∧ ¬ Old b ∧ w.heap[b]? = some (.cells cur e (0, 0)) ∧
    cur.size = cap * P.cellsOf e ∧ ∀ o, h * P.cellsOf e ≤ o → ¬ g.S b o)

/-- Block b holds what row k has not used yet. -/
def RB (g : Gh) (k b : Nat) : Prop := ∃ h cap, g.hd k = .slice (some ⟨b, 0, none⟩) h cap ∧ h < cap

structure Sim (P : Program) (E : Env) (g : Gh) (a : Act) (w : World) (F : Nat → LV) (B : Nat → Option BO) (H : HT) : Prop where
  defers : a.defers = []
  below : BelowO E.Old E.w0 w
  old : ∀ b, E.Old b → b < w.heap.size
  s0 : ∀ b o, E.S0 b o → g.S b o
  snew : ∀ b o, g.S b o → E.S0 b o ∨ ¬ E.Old b
  slt : ∀ b o, g.S b o → b < w.heap.size
  slots : ∀ s, RepV g H w (a.tmps.getD s undef) (F s)
  alive : ∀ n cs, B n = some cs → cs ≠ .dead
  box : ∀ n cs, B n = some cs → BoxOk E.Old g H w n cs
  dist : ∀ n m cs cs', B n = some cs → B m = some cs' → n ≠ m → g.bk n ≠ g.bk m
  lent : ∀ n cs, B n = some cs → E.L n → g.bk n = E.bk0 n ∧ g.cp n = E.cp0 n
  row : ∀ k h e, H k = some (h, e) → RowOk P E.Old g w k h e
  rdist : ∀ k k' x x' b, H k = some x → H k' = some x' → RB g k b → RB g k' b → k = k'
  rbox : ∀ k x b n cs, H k = some x → RB g k b → B n = some cs → g.bk n ≠ b

def up {α : Type} (G : Nat → α) (d : Nat) (x : α) : Nat → α := fun s => if d = s then x else G s

def appF (F : Nat → LV) (dst : Option Nat) (u : Upd) : Nat → LV := match dst with | some d => up F d u.val | none => F
def appB (B : Nat → Option BO) (u : Upd) : Nat → Option BO := fun n => match lk n u.wb with | some o => o.alive | none => B n
def appH (H : HT) (u : Upd) : HT := match u.wh with | some x => up H x.1 (some x.2) | none => H

theorem lk_app {α : Type} {k : Nat} : ∀ {l m : List (Nat × α)}, lk k (l ++ m) = match lk k l with | some v => some v | none => lk k m
  | [], m => rfl
  | (j, v) :: r, m => by
    simp only [List.cons_append, lk]
    split
    · rfl
    · exact lk_app

theorem appB_nil {B : Nat → Option BO} {u : Upd} (h : u.wb = []) : appB B u = B := by
  funext n
  simp [appB, h, lk]
theorem appB_one {B : Nat → Option BO} {u : Upd} {n : Nat} {o : BO} (h : u.wb = [(n, o)]) (ho : o.alive = some o) : appB B u = up B n (some o) := by
  funext m
  simp only [appB, h, lk, up]
  by_cases hnm : n = m <;> simp [hnm, ho]

theorem St.app_f (σ : St) (dst : Option Nat) (u : Upd) : (σ.app dst u).f = appF σ.f dst u := by
  funext s
  cases dst with
  | none => rfl
  | some d =>
    simp only [St.app, St.f, appF, up, lk]
    split <;> rfl
theorem St.app_b (σ : St) (dst : Option Nat) (u : Upd) : (σ.app dst u).b = appB σ.b u := by
  funext s
  simp only [St.app, St.b, appB, lk_app]
  cases lk s u.wb <;> rfl
theorem St.app_h (σ : St) (dst : Option Nat) (u : Upd) : (σ.app dst u).h = appH σ.h u := by
  funext s
  cases h : u.wh with
  | none => simp [St.app, St.h, appH, h]
  | some x => simp [St.app, St.h, appH, up, lk, h]

section
variable {P : Program} {E : Env} {g : Gh} {a : Act} {w : World} {F : Nat → LV} {B : Nat → Option BO} {H : HT}

/-- A value is laid into a slot. -/
theorem Sim.put (h : Sim P E g a w F B H) {dst : Option Nat} (hd : ∀ d, dst = some d → d < a.tmps.size) {v : Value} {u : Upd} (hv : RepV g H w v u.val) :
    Sim P E g (a.put dst v) w (appF F dst u) B H := by
  refine ⟨?_, h.below, h.old, h.s0, h.snew, h.slt, fun s => ?_, h.alive, h.box, h.dist, h.lent, h.row, h.rdist, h.rbox⟩
  · cases dst <;> exact h.defers
  · cases dst with
    | none => exact h.slots s
    | some d =>
      simp only [appF, up]
      by_cases hs : d = s
      · subst hs
        have hlt := hd d rfl
        simp only [Act.put, if_true]
        rw [Array.getD_eq_getD_getElem?]
        simpa [hlt] using hv
      · simp only [if_neg hs]
        have := h.slots s
        simp only [Act.put, Array.getD_eq_getD_getElem?] at this ⊢
        rw [Array.getElem?_setIfInBounds_ne hs]
        exact this

/-- Nothing that a name stands for, and no old block, turns: only new blocks. -/
theorem Sim.grow (h : Sim P E g a w F B H) {w' : World} {S' : Nat → Nat → Prop} (hb : Below w.heap.size w w') (hS : ∀ b o, g.S b o → S' b o)
    (hn : ∀ b o, S' b o → g.S b o ∨ w.heap.size ≤ b) (hlt : ∀ b o, S' b o → b < w'.heap.size) : Sim P E { g with S := S' } a w' F B H := by
  have ha : Agree g.S w w' := Agree.of_heap fun b o hs => hb.block b (h.slt b o hs)
  have hnm : ∀ k, NameOk g H { g with S := S' } H k := fun k => NameOk.sameS H k S'
  have bl : ∀ n cs, B n = some cs → g.bk n < w.heap.size := fun n cs hB => (h.box n cs hB).2.2.lt (h.alive n cs hB)
  refine ⟨h.defers, h.below.trans (.of hb h.old), fun b hb' => Nat.lt_of_lt_of_le (h.old b hb') hb.size, fun b o hs => hS _ _ (h.s0 b o hs), fun b o hs => ?_, hlt, fun s => (h.slots s).move hS ha fun k _ => hnm k, h.alive, ?_, h.dist, h.lent, ?_, h.rdist, h.rbox⟩
  · rcases hn b o hs with h1 | h1
    · exact h.snew b o h1
    · exact .inr fun ho => by have := h.old b ho; omega
  · intro n cs hB
    refine (h.box n cs hB).move hS ha ⟨rfl, rfl⟩ (fun o hs => ?_) (hb.block _ (bl n cs hB)) fun k _ => hnm k
    rcases hn _ _ hs with h1 | h1
    · exact (h.box n cs hB).2.1 o h1
    · have := bl n cs hB; omega
  · intro k hh e hk
    obtain ⟨A, cap, h1, h2, h3⟩ := h.row k hh e hk
    refine ⟨A, cap, h1, h2, fun hlt' => ?_⟩
    obtain ⟨b, cur, h4, h5, h6, h7, h8, h9⟩ := h3 hlt'
    have hbl := (Array.getElem?_eq_some_iff.1 h7).1
    refine ⟨b, cur, h4, h5, h6, by rw [hb.block b hbl]; exact h7, h8, fun o ho hs => ?_⟩
    rcases hn _ _ hs with h10 | h10
    · exact h9 o ho h10
    · omega

theorem Sim.drew (h : Sim P E g a w F B H) : Sim P E g a w.drew F B H := by
  have := h.grow (w' := w.drew) (S' := g.S) ((Below.refl _ _).drew) (fun _ _ h => h) (fun _ _ h => .inl h) h.slt
  exact this

/-- A new thing in memory, named d, where nothing speaks of d. -/
theorem Sim.newObj (h : Sim P E g a w F B H) {d : Nat} {ob : Obj} {o : BO} {c : Nat}
    (hC : BoxC { g with bk := up g.bk d w.heap.size, cp := up g.cp d c } H (w.alloc ob) d o) (ho : o ≠ .dead)
    (fF : ∀ s, (F s).men d = false) (fB : ∀ n xs, B n = some xs → xs.men d = false) (fL : ¬ E.L d) :
    Sim P E { g with bk := up g.bk d w.heap.size, cp := up g.cp d c } a (w.alloc ob) F (up B d (some o)) H := by
  have hb : Below w.heap.size w (w.alloc ob) := (Below.refl _ _).alloc (Nat.le_refl _) _
  have ha : Agree g.S w (w.alloc ob) := Agree.of_heap fun b o hs => hb.block b (h.slt b o hs)
  have hnm : ∀ k, k ≠ d → NameOk g H { g with bk := up g.bk d w.heap.size, cp := up g.cp d c } H k := fun k hk => ⟨⟨by simp [up, Ne.symm hk], by simp [up, Ne.symm hk]⟩, fun _ _ h => h⟩
  have bl : ∀ n cs, B n = some cs → g.bk n < w.heap.size := fun n cs hB => (h.box n cs hB).2.2.lt (h.alive n cs hB)
  refine ⟨h.defers, h.below.trans (.of hb h.old), fun b hb' => Nat.lt_of_lt_of_le (h.old b hb') hb.size, h.s0, h.snew, fun b o hs => Nat.lt_of_lt_of_le (h.slt b o hs) hb.size, fun s => ?_, ?_, ?_, ?_, ?_, ?_, h.rdist, ?_⟩
  · refine (h.slots s).move (fun _ _ h => h) ha fun k hk => hnm k ?_
    rintro rfl
    rw [fF s] at hk; cases hk
  · intro n xs hB
    by_cases hn : d = n
    · subst hn
      have hx : o = xs := by simpa [up] using hB
      subst hx
      exact ho
    · exact h.alive n xs (by simpa [up, hn] using hB)
  · intro n xs hB
    by_cases hn : d = n
    · subst hn
      have hx : o = xs := by simpa [up] using hB
      subst hx
      refine ⟨fun ho => ?_, fun o hs => ?_, hC⟩
      · have : E.Old w.heap.size := by simpa [up] using ho
        exact absurd (h.old _ this) (Nat.lt_irrefl _)
      · have : g.S w.heap.size o := by simpa [up] using hs
        exact absurd (h.slt _ _ this) (Nat.lt_irrefl _)
    · have hB' : B n = some xs := by simpa [up, hn] using hB
      have e1 : up g.bk d w.heap.size n = g.bk n := by simp [up, hn]
      have e2 : up g.cp d c n = g.cp n := by simp [up, hn]
      refine (h.box n xs hB').move (fun _ _ h => h) ha ⟨e1, e2⟩ (h.box n xs hB').2.1 (hb.block _ (bl n xs hB')) fun k hk => hnm k ?_
      rintro rfl
      rw [fB n xs hB'] at hk; cases hk
  · intro n m xs ys hn hm hne
    by_cases h1 : d = n
    · by_cases h2 : d = m
      · exact absurd (h1.symm.trans h2) hne
      · have := bl m ys (by simpa [up, h2] using hm)
        simp [up, h1]
        subst h1
        simp [hne]
        omega
    · by_cases h2 : d = m
      · subst h2
        have := bl n xs (by simpa [up, h1] using hn)
        simp [up, h1]
        omega
      · simp [up, h1, h2]
        exact h.dist n m xs ys (by simpa [up, h1] using hn) (by simpa [up, h2] using hm) hne
  · intro n cs hn hL
    have hdn : d ≠ n := by rintro rfl; exact fL hL
    simpa [up, hdn] using h.lent n cs (by simpa [up, hdn] using hn) hL
  · intro k hh e hk
    obtain ⟨A, cap, h1, h2, h3⟩ := h.row k hh e hk
    refine ⟨A, cap, h1, h2, fun hlt' => ?_⟩
    obtain ⟨b, cur, h4, h5, h6, h7, h8, h9⟩ := h3 hlt'
    exact ⟨b, cur, h4, h5, h6, by rw [hb.block b (Array.getElem?_eq_some_iff.1 h7).1]; exact h7, h8, h9⟩
  · intro k x b n xs hk hr hB
    obtain ⟨hh, cap, h1, h2⟩ := hr
    obtain ⟨A, cap', h3, h4, h5⟩ := h.row k x.1 x.2 hk
    have h1' : g.hd k = .slice (some ⟨b, 0, none⟩) hh cap := h1
    rw [h1'] at h3
    cases h3
    obtain ⟨b', cur, h6, _, _, h7, _⟩ := h5 h2
    cases h6
    by_cases hn : d = n
    · subst hn
      have := (Array.getElem?_eq_some_iff.1 h7).1
      simp [up]
      omega
    · simp [up, hn]
      exact h.rbox k x b n xs hk ⟨_, _, h1', h2⟩ (by simpa [up, hn] using hB)

/-- New cells in memory, named d, where nothing speaks of d. -/
theorem Sim.newBox (h : Sim P E g a w F B H) {d : Nat} {vs : Array Value} {t : TypeId} {r : Option RowI} {c : Nat} {cs : List LV} (hl : cs.length ≤ vs.size)
    (hc : ∀ (j : Nat) (u : Value) (c : LV), vs[j]? = some u → cs[j]? = some c → u.oneCell' = true ∧ RepC g H w u c) (hr : ∀ ri, r = some ri → t = ri.e ∧ vs.size = c * ri.sz ∧ c ≤ maxLen)
    (fF : ∀ s, (F s).men d = false) (fB : ∀ n xs, B n = some xs → xs.men d = false) (fL : ¬ E.L d) (fc : ∀ c ∈ cs, c.men1 d = false) :
    Sim P E { g with bk := up g.bk d w.heap.size, cp := up g.cp d c } a (w.alloc (.cells vs t)) F (up B d (some (.cells r cs))) H := by
  have hb : Below w.heap.size w (w.alloc (.cells vs t)) := (Below.refl _ _).alloc (Nat.le_refl _) _
  have ha : Agree g.S w (w.alloc (.cells vs t)) := Agree.of_heap fun b o hs => hb.block b (h.slt b o hs)
  refine h.newObj ⟨vs, t, by simp only [up, if_true]; exact heap_alloc_new w _, hl, fun j u c hu hc' => ⟨(hc j u c hu hc').1, (hc j u c hu hc').2.move (fun _ _ h => h) ha fun k hk => ?_⟩, by simpa [up] using hr⟩ (by simp) fF fB fL
  have : k ≠ d := by
    rintro rfl
    rw [fc c (List.mem_of_getElem? hc')] at hk; cases hk
  exact ⟨⟨by simp [up, Ne.symm this], by simp [up, Ne.symm this]⟩, fun _ _ h => h⟩

end
end Go.Am
