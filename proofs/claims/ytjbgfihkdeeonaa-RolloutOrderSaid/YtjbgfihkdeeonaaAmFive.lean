/- The abstract machine, part 5: a store into a variable in memory, an append, and slices cell by cell; nothing is assumed of any program. -/
import Derived.Test.YtjbgfihkdeeonaaAmFour
namespace Go.Am
open Go.RowKit

/-- A slice, cell by cell. -/
structure SlcAt (S : Nat → Nat → Prop) (w : World) (A : Option Addr) (l : List PV) (sz : Nat) (xs : List Value) : Prop where
  len : xs.length = l.length * sz
  all : ∀ e ∈ l, e.cells.length = sz
  one : ∀ u ∈ xs, u.oneCell' = true
  cell : xs ≠ [] → ∃ b off, A = some ⟨b, off, none⟩ ∧ ∀ j u, xs[j]? = some u → S b (off + j) ∧ w.cell? ⟨b, off + j, none⟩ = some u
  rep : ∀ i e j c, l[i]? = some e → e.cells[j]? = some c → ∃ u, xs[i * sz + j]? = some u ∧ Rep S w u c

theorem mul_lt_of {n sz i j : Nat} (hi : i < n) (hj : j < sz) : i * sz + j < n * sz := by
  have h : (i + 1) * sz ≤ n * sz := Nat.mul_le_mul_right _ hi
  rw [Nat.add_mul] at h
  omega

theorem Rep.slc_inv {S : Nat → Nat → Prop} {w : World} {v : Value} {l : List PV} {sz : Nat} (h : Rep S w v (.slc l)) (hsz : ∀ e ∈ l, e.cells.length = sz) :
    ∃ A cap xs, v = .slice A l.length cap ∧ l.length ≤ cap ∧ (A = none → cap = 0) ∧ (∀ ad, A = some ad → ad.spot = none ∨ cap = 0) ∧ SlcAt S w A l sz xs := by
  cases h with
  | nils => exact ⟨none, 0, [], rfl, Nat.le_refl _, fun _ => rfl, (fun _ h => by cases h), by simp, hsz, by simp, by simp, by simp⟩
  | nilz a => exact ⟨some a, 0, [], rfl, Nat.le_refl _, (fun h => by cases h), (fun _ _ => .inr rfl), by simp, hsz, by simp, by simp, by simp⟩
  | slc b off len cap sz' _ vs hl hc hsz' ho hm hr =>
    subst hl
    have hlen : l.length * sz' = l.length * sz := by
      cases l with
      | nil => simp
      | cons e r => rw [← hsz e (by simp), ← hsz' e (by simp)]
    refine ⟨_, cap, (List.range (l.length * sz)).map vs, rfl, hc, by simp, (fun ad h => by cases h; exact .inl rfl), by simp, hsz, ?_, ?_, ?_⟩
    · intro u hu
      obtain ⟨j, hj, rfl⟩ := List.mem_map.1 hu
      exact ho j (by rw [hlen]; simpa using hj)
    · intro _
      refine ⟨b, off, rfl, fun j u hu => ?_⟩
      obtain ⟨hj, hu'⟩ := List.getElem?_eq_some_iff.1 hu
      simp at hu' hj
      subst hu'
      exact hm j (by rw [hlen]; exact hj)
    · intro i e j c he hc'
      have hi := (List.getElem?_eq_some_iff.1 he).1
      have hes := hsz e (List.mem_of_getElem? he)
      have hes' := hsz' e (List.mem_of_getElem? he)
      have hj : j < sz := by rw [← hes]; exact (List.getElem?_eq_some_iff.1 hc').1
      refine ⟨vs (i * sz + j), ?_, ?_⟩
      · simp [mul_lt_of hi hj]
      · have := hr i e j c he hc'
        rwa [show sz' = sz from hes'.symm.trans hes] at this

theorem SlcAt.rep_ {S : Nat → Nat → Prop} {w : World} {b off : Nat} {l : List PV} {sz cap : Nat} {xs : List Value} (h : SlcAt S w (some ⟨b, off, none⟩) l sz xs) (hc : l.length ≤ cap) :
    Rep S w (.slice (some ⟨b, off, none⟩) l.length cap) (.slc l) := by
  refine .slc b off _ cap sz l (fun j => xs.getD j undef) rfl hc h.all ?_ ?_ ?_
  · intro j hj
    have hj' : j < xs.length := by rw [h.len]; exact hj
    have : xs.getD j undef = xs[j] := by simp [List.getD, hj']
    simp only [this]
    exact h.one _ (List.getElem_mem hj')
  · intro j hj
    have hj' : j < xs.length := by rw [h.len]; exact hj
    have : xs.getD j undef = xs[j] := by simp [List.getD, hj']
    simp only [this]
    obtain ⟨b', off', he, hx⟩ := h.cell (by intro h0; rw [h0] at hj'; simp at hj')
    injection he with he
    injection he with h1 h2
    subst h1; subst h2
    exact hx j _ (List.getElem?_eq_getElem hj')
  · intro i e j c he hc'
    obtain ⟨u, hu, hr⟩ := h.rep i e j c he hc'
    simp only [List.getD, hu, Option.getD_some]
    exact hr

/-- Two slices one behind the other. -/
theorem SlcAt.append {S S' S'' : Nat → Nat → Prop} {w w' w'' : World} {A A' : Option Addr} {b : Nat} {l m : List PV} {sz : Nat} {xs ys : List Value} (h : SlcAt S w A l sz xs) (k : SlcAt S' w' A' m sz ys)
    (hl : ∀ u c, Rep S w u c → Rep S'' w'' u c) (hk : ∀ u c, Rep S' w' u c → Rep S'' w'' u c)
    (hc : ∀ j u, (xs ++ ys)[j]? = some u → S'' b j ∧ w''.cell? ⟨b, j, none⟩ = some u) : SlcAt S'' w'' (some ⟨b, 0, none⟩) (l ++ m) sz (xs ++ ys) := by
  refine ⟨by simp [h.len, k.len, Nat.add_mul], ?_, ?_, fun _ => ⟨b, 0, rfl, fun j u hu => by simpa using hc j u hu⟩, ?_⟩
  · intro e he
    rcases List.mem_append.1 he with he | he
    · exact h.all e he
    · exact k.all e he
  · intro u hu
    rcases List.mem_append.1 hu with hu | hu
    · exact h.one u hu
    · exact k.one u hu
  · intro i e j c he hc'
    rw [List.getElem?_append] at he
    split at he
    · rename_i hi
      obtain ⟨u, hu, hr⟩ := h.rep i e j c he hc'
      refine ⟨u, ?_, hl u c hr⟩
      rw [List.getElem?_append_left (List.getElem?_eq_some_iff.1 hu).1]; exact hu
    · rename_i hi
      obtain ⟨u, hu, hr⟩ := k.rep (i - l.length) e j c he hc'
      refine ⟨u, ?_, hk u c hr⟩
      have hge : xs.length ≤ i * sz + j := by
        rw [h.len]
        have := Nat.mul_le_mul_right sz (Nat.le_of_not_lt hi)
        omega
      rw [List.getElem?_append_right hge, h.len, ← hu]
      congr 1
      have : i * sz = l.length * sz + (i - l.length) * sz := by rw [← Nat.add_mul]; congr 1; omega
      omega

section
variable {P : Program} {E : Env} {g : Gh} {a : Act} {w : World} {F : Nat → LV} {B : Nat → Option BO} {H : HT}

theorem Sim.rowBlock (h : Sim P E g a w F B H) {k b : Nat} {x : Nat × TypeId} (hk : H k = some x) (hr : RB g k b) :
    ¬ E.Old b ∧ ∃ cur cap, g.hd k = .slice (some ⟨b, 0, none⟩) x.1 cap ∧ x.1 < cap ∧ cap ≤ maxLen ∧ w.heap[b]? = some (.cells cur x.2 (0, 0)) ∧ cur.size = cap * P.cellsOf x.2 ∧ ∀ o, x.1 * P.cellsOf x.2 ≤ o → ¬ g.S b o := by
  obtain ⟨hh, cap, h1, h2⟩ := hr
  obtain ⟨A, cap', h3, h4, h5⟩ := h.row k x.1 x.2 hk
  have h1' : g.hd k = .slice (some ⟨b, 0, none⟩) hh cap := h1
  rw [h1'] at h3
  cases h3
  obtain ⟨b', cur, h6, h7, h8, h9, h10, h11⟩ := h5 h2
  cases h6
  exact ⟨h8, cur, cap, h1', h2, h7, h9, h10, h11⟩

theorem Sim.boxBlock (h : Sim P E g a w F B H) {n : Nat} {cs : BO} (hB : B n = some cs) : g.bk n < w.heap.size := (h.box n cs hB).2.2.lt (h.alive n cs hB)

/-- A named thing in memory turns, and nothing else. -/
theorem Sim.setObj (h : Sim P E g a w F B H) {n : Nat} {o o' : BO} (hB : B n = some o) {w' : World} (hos : w'.os = w.os) (htp : w'.tape = w.tape) (hou : w'.output = w.output) (hsz : w'.heap.size = w.heap.size)
    (oth : ∀ k, k ≠ g.bk n → w'.heap[k]? = w.heap[k]?) (hC : BoxC g H w' n o') (hd : o' ≠ .dead) : Sim P E g a w' F (up B n (some o')) H := by
  obtain ⟨hb1, hb2, hb3⟩ := h.box n o hB
  have ha : Agree g.S w w' := Agree.of_heap fun b o hs => oth b (by rintro rfl; exact hb2 o hs)
  have hbel : BelowO E.Old w w' := ⟨hos, htp, hou, by omega, fun k hk => oth k (by rintro rfl; exact hb1 hk)⟩
  refine ⟨h.defers, h.below.trans hbel, fun b hb => by rw [hsz]; exact h.old b hb, h.s0, h.snew, fun b o hs => by rw [hsz]; exact h.slt b o hs, fun s => (h.slots s).move (fun _ _ h => h) ha fun k _ => NameOk.refl g H k, ?_, ?_, ?_, ?_, ?_, h.rdist, ?_⟩
  · intro m xs hm
    by_cases hnm : n = m
    · subst hnm
      have hx : o' = xs := by simpa [up] using hm
      subst hx
      exact hd
    · exact h.alive m xs (by simpa [up, hnm] using hm)
  · intro m xs hm
    by_cases hnm : n = m
    · subst hnm
      have hx : o' = xs := by simpa [up] using hm
      subst hx
      exact ⟨hb1, hb2, hC⟩
    · have hm' : B m = some xs := by simpa [up, hnm] using hm
      exact (h.box m xs hm').move (fun _ _ h => h) ha ⟨rfl, rfl⟩ (h.box m xs hm').2.1 (oth _ (h.dist m n xs o hm' hB (Ne.symm hnm))) fun k _ => NameOk.refl g H k
  · intro p q xs ys hp hq hne
    have ex : ∀ r zs, up B n (some o') r = some zs → ∃ zs', B r = some zs' := fun r zs hr => by
      by_cases hnr : n = r
      · subst hnr; exact ⟨o, hB⟩
      · exact ⟨zs, by simpa [up, hnr] using hr⟩
    obtain ⟨_, h1⟩ := ex p xs hp
    obtain ⟨_, h2⟩ := ex q ys hq
    exact h.dist p q _ _ h1 h2 hne
  · intro m xs hm hL
    by_cases hnm : n = m
    · subst hnm; exact h.lent n o hB hL
    · exact h.lent m xs (by simpa [up, hnm] using hm) hL
  · intro k hh e hk
    obtain ⟨A, cap, h1, h2, h3⟩ := h.row k hh e hk
    refine ⟨A, cap, h1, h2, fun hlt => ?_⟩
    obtain ⟨b, cur, h4, h5, h6, h7, h8, h9⟩ := h3 hlt
    refine ⟨b, cur, h4, h5, h6, ?_, h8, h9⟩
    rw [oth b (Ne.symm (h.rbox k (hh, e) b n o hk ⟨hh, cap, by rw [h1, h4], hlt⟩ hB))]
    exact h7
  · intro k x b m xs hk hr hm
    by_cases hnm : n = m
    · subst hnm; exact h.rbox k x b n o hk hr hB
    · exact h.rbox k x b m xs hk hr (by simpa [up, hnm] using hm)

/-- A store into a variable in memory. -/
theorem Sim.setBox (h : Sim P E g a w F B H) {n : Nat} {r : Option RowI} {cs cs' : List LV} (hB : B n = some (.cells r cs)) {vs' : Array Value} (hl : cs'.length ≤ vs'.size)
    (hsz : ∀ vs t, w.heap[g.bk n]? = some (.cells vs t (0, 0)) → vs'.size = vs.size)
    (hc : ∀ (j : Nat) (u : Value) (c : LV), vs'[j]? = some u → cs'[j]? = some c → u.oneCell' = true ∧ RepC g H w u c) :
    Sim P E g a (w.setRow (g.bk n) vs') F (up B n (some (.cells r cs'))) H := by
  obtain ⟨hb1, hb2, vs, t, hb3, hb4, hb5, hb6⟩ := h.box n _ hB
  have oth : ∀ k, k ≠ g.bk n → (w.setRow (g.bk n) vs').heap[k]? = w.heap[k]? := fun k hk => setRow_other w _ k _ hk
  have ha : Agree g.S w (w.setRow (g.bk n) vs') := Agree.of_heap fun b o hs => oth b (by rintro rfl; exact hb2 o hs)
  exact h.setObj hB rfl rfl rfl (by simp) oth ⟨vs', t, setRow_heap w _ vs _ t _ hb3, hl, fun j u c hu hc' => ⟨(hc j u c hu hc').1, (hc j u c hu hc').2.move (fun _ _ h => h) ha fun k _ => NameOk.refl g H k⟩, by rw [hsz vs t hb3]; exact hb6⟩ (by simp)

/-- An append that writes in place into row k. -/
theorem Sim.rowPut (h : Sim P E g a w F B H) {k n m b cap : Nat} {e : TypeId} {l ms : List PV} {cur : Array Value} {xs ys : List Value} {A' : Option Addr}
    (hk : H k = some (n, e)) (hl : l.length = n) (hhd : g.hd k = .slice (some ⟨b, 0, none⟩) n cap) (hcap : n + m ≤ cap) (hm : 0 < m) (hml : ms.length = m)
    (hcm : cap ≤ maxLen) (hbb : ¬ E.Old b) (hcur : w.heap[b]? = some (.cells cur e (0, 0))) (hsz : cur.size = cap * P.cellsOf e) (hno : ∀ o, n * P.cellsOf e ≤ o → ¬ g.S b o)
    (hx : SlcAt g.S w (some ⟨b, 0, none⟩) l (P.cellsOf e) xs) (hy : SlcAt g.S w A' ms (P.cellsOf e) ys) :
    let S' : Nat → Nat → Prop := fun c o => g.S c o ∨ (c = b ∧ o < (n + m) * P.cellsOf e)
    let g' : Gh := { S := S', bk := g.bk, cp := g.cp, hd := up g.hd k (.slice (some ⟨b, 0, none⟩) (n + m) cap) }
    let w' := w.setRow b (cur.toList.take (n * P.cellsOf e) ++ ys ++ cur.toList.drop (n * P.cellsOf e + ys.length)).toArray
    Sim P E g' a w' F B (up H k (some (n + m, e))) ∧ Rep S' w' (.slice (some ⟨b, 0, none⟩) (n + m) cap) (.slc (l ++ ms)) := by
  intro S' g' w'
  have hyl : ys.length = m * P.cellsOf e := by rw [hy.len, hml]
  have hfit : n * P.cellsOf e + ys.length ≤ cur.size := by rw [hyl, hsz, ← Nat.add_mul]; exact Nat.mul_le_mul_right _ hcap
  have hnew := setRow_heap w b cur (cur.toList.take (n * P.cellsOf e) ++ ys ++ cur.toList.drop (n * P.cellsOf e + ys.length)).toArray e (0, 0) hcur
  have hblt := (Array.getElem?_eq_some_iff.1 hcur).1
  have oth : ∀ c, c ≠ b → w'.heap[c]? = w.heap[c]? := fun c hc => setRow_other w b c _ hc
  have hszw : w'.heap.size = w.heap.size := by simp [w']
  have cell' : ∀ o, w'.cell? ⟨b, o, none⟩ = (cur.toList.take (n * P.cellsOf e) ++ ys ++ cur.toList.drop (n * P.cellsOf e + ys.length))[o]? := fun o => by
    rw [cell_of_row w' b o _ e (0, 0) hnew]; simp
  have hlt : (cur.toList.take (n * P.cellsOf e)).length = n * P.cellsOf e := by simp; omega
  have ha : Agree g.S w w' := by
    intro c o hs
    by_cases hc : c = b
    · subst hc
      have ho : o < n * P.cellsOf e := Nat.lt_of_not_le fun hge => hno o hge hs
      refine ⟨?_, fun es ck hmap => by rw [hcur] at hmap; cases hmap⟩
      rw [cell' o, cell_of_row w c o cur e (0, 0) hcur, List.append_assoc, List.getElem?_append_left (by omega), List.getElem?_take, if_pos ho]
      simp
    · have := oth c hc
      exact ⟨by simp [World.cell?, this], fun es ck hmap => by rw [this]; exact hmap⟩
  have hbel : BelowO E.Old w w' := ⟨rfl, rfl, rfl, by simp [w'], fun c hc => oth c (by rintro rfl; exact hbb hc)⟩
  have hSS : ∀ c o, g.S c o → S' c o := fun c o hs => .inl hs
  have hnm : ∀ q, NameOk g H g' (up H k (some (n + m, e))) q := by
    intro q
    refine ⟨⟨rfl, rfl⟩, fun v c hv hh e' hq => ?_⟩
    by_cases hqk : k = q
    · subst hqk
      have hq' : n + m = hh ∧ e = e' := by simpa [up] using hq
      have := (hv n e hk).1
      exact ⟨by omega, fun hc => by omega⟩
    · have e1 : g'.hd q = g.hd q := by simp [g', up, hqk]
      rw [e1]
      exact hv hh e' (by simpa [up, hqk] using hq)
  refine ⟨⟨h.defers, h.below.trans hbel, fun c hc => by rw [hszw]; exact h.old c hc, fun c o hs => .inl (h.s0 c o hs), ?_, ?_, fun s => (h.slots s).move hSS ha fun q _ => hnm q, h.alive, ?_, h.dist, h.lent, ?_, ?_, ?_⟩, ?_⟩
  · rintro c o (hs | ⟨rfl, _⟩)
    · exact h.snew c o hs
    · exact .inr hbb
  · rintro c o (hs | ⟨rfl, _⟩)
    · rw [hszw]; exact h.slt c o hs
    · rw [hszw]; exact hblt
  · intro q zs hq
    have hne : g.bk q ≠ b := h.rbox k (n, e) b q zs hk ⟨n, cap, hhd, by omega⟩ hq
    refine (h.box q zs hq).move hSS ha ⟨rfl, rfl⟩ ?_ (oth _ hne) fun q' _ => hnm q'
    rintro o (hs | ⟨h1, _⟩)
    · exact (h.box q zs hq).2.1 o hs
    · exact hne h1
  · intro q hh e' hq
    by_cases hqk : k = q
    · subst hqk
      have hq' : n + m = hh ∧ e = e' := by simpa [up] using hq
      obtain ⟨rfl, rfl⟩ := hq'
      refine ⟨_, cap, by simp [g', up], hcap, fun _ => ⟨b, _, rfl, hcm, hbb, hnew, ?_, ?_⟩⟩
      · simp only [List.size_toArray, List.length_append, hlt, List.length_drop, Array.length_toList]; omega
      · rintro o ho (hs | ⟨_, hlt'⟩)
        · exact hno o (Nat.le_trans (Nat.mul_le_mul_right _ (by omega)) ho) hs
        · omega
    · have hq' : H q = some (hh, e') := by simpa [up, hqk] using hq
      have e1 : g'.hd q = g.hd q := by simp [g', up, hqk]
      obtain ⟨A, cap', h1, h2, h3⟩ := h.row q hh e' hq'
      refine ⟨A, cap', by rw [e1]; exact h1, h2, fun hlt' => ?_⟩
      obtain ⟨b', cur', h4, h5, h6, h7, h8, h9⟩ := h3 hlt'
      have hne : b' ≠ b := fun he => hqk (h.rdist k q (n, e) (hh, e') b hk hq' ⟨n, cap, hhd, by omega⟩ ⟨hh, cap', by rw [h1, h4, he], hlt'⟩)
      refine ⟨b', cur', h4, h5, h6, by rw [oth b' hne]; exact h7, h8, ?_⟩
      rintro o ho (hs | ⟨h10, _⟩)
      · exact h9 o ho hs
      · exact hne h10
  · intro p q x y c hp hq hrp hrq
    have old : ∀ r z, up H k (some (n + m, e)) r = some z → RB g' r c → ∃ z', H r = some z' ∧ RB g r c := by
      intro r z hr hrb
      by_cases hrk : k = r
      · subst hrk
        obtain ⟨hh, cap', h1, h2⟩ := hrb
        simp [g', up] at h1
        exact ⟨_, hk, n, cap, by rw [hhd, h1.1], by omega⟩
      · obtain ⟨hh, cap', h1, h2⟩ := hrb
        exact ⟨z, by simpa [up, hrk] using hr, hh, cap', by simpa [g', up, hrk] using h1, h2⟩
    obtain ⟨_, h1, h2⟩ := old p x hp hrp
    obtain ⟨_, h3, h4⟩ := old q y hq hrq
    exact h.rdist p q _ _ c h1 h3 h2 h4
  · intro p x c q zs hp hrp hq
    by_cases hpk : k = p
    · subst hpk
      obtain ⟨hh, cap', h1, h2⟩ := hrp
      simp [g', up] at h1
      exact h.rbox k _ c q zs hk ⟨n, cap, by rw [hhd, h1.1], by omega⟩ hq
    · obtain ⟨hh, cap', h1, h2⟩ := hrp
      exact h.rbox p x c q zs (by simpa [up, hpk] using hp) ⟨hh, cap', by simpa [g', up, hpk] using h1, h2⟩ hq
  · have hap := hx.append (S'' := S') (w'' := w') (b := b) hy (fun u c hr => hr.mono hSS ha) (fun u c hr => hr.mono hSS ha) (fun j u hu => by
      have hj := (List.getElem?_eq_some_iff.1 hu).1
      rw [List.length_append, hx.len, hl, hyl, ← Nat.add_mul] at hj
      refine ⟨.inr ⟨rfl, hj⟩, ?_⟩
      rw [cell' j]
      rw [List.getElem?_append] at hu
      have hxl : xs.length = n * P.cellsOf e := by rw [hx.len, hl]
      split at hu
      · rename_i hjx
        rw [List.append_assoc, List.getElem?_append_left (by omega), List.getElem?_take, if_pos (by omega)]
        obtain ⟨b', off', he, hcell⟩ := hx.cell (by intro h0; rw [h0] at hjx; simp at hjx)
        injection he with he
        injection he with h1 h2
        subst h1; subst h2
        have := (hcell j u hu).2
        rw [Nat.zero_add, cell_of_row w b j cur e (0, 0) hcur] at this
        simpa using this
      · rename_i hjx
        rw [List.append_assoc, List.getElem?_append_right (by omega), hlt, List.getElem?_append_left (by rw [hyl]; rw [Nat.add_mul] at hj; omega), ← hxl]
        exact hu)
    have := hap.rep_ (cap := cap) (by simp [hl, hml]; exact hcap)
    simpa [hl, hml] using this

/-- An append that makes a new block: for a new name, or for row k. -/
theorem Sim.rowNew (h : Sim P E g a w F B H) {k n m cap : Nat} {e : TypeId} {l ms : List PV} {tail : Array Value} {xs ys : List Value} {A A' : Option Addr}
    (hl : l.length = n) (hml : ms.length = m) (hcap : n + m ≤ cap) (hcm : cap ≤ maxLen) (htail : tail.size = (cap - (n + m)) * P.cellsOf e)
    (hx : SlcAt g.S w A l (P.cellsOf e) xs) (hy : SlcAt g.S w A' ms (P.cellsOf e) ys)
    (hold : (∃ n' e', H k = some (n', e') ∧ n' < n + m) ∨ ((∀ s, (F s).men k = false) ∧ ∀ n xs, B n = some xs → xs.men k = false)) :
    let S' : Nat → Nat → Prop := fun c o => g.S c o ∨ (c = w.heap.size ∧ o < (n + m) * P.cellsOf e)
    let V : Value := .slice (some ⟨w.heap.size, 0, none⟩) (n + m) cap
    let g' : Gh := { S := S', bk := g.bk, cp := g.cp, hd := up g.hd k V }
    let w' := w.drew.alloc (.cells (xs.toArray ++ ys.toArray ++ tail) e)
    Sim P E g' a w' F B (up H k (some (n + m, e))) ∧ Rep S' w' V (.slc (l ++ ms)) := by
  intro S' V g' w'
  have hb : Below w.heap.size w w' := ((Below.refl _ _).drew).alloc (Nat.le_refl _) _
  have hnew : w'.heap[w.heap.size]? = some (.cells (xs.toArray ++ ys.toArray ++ tail) e (0, 0)) := heap_alloc_new w.drew _
  have hszw : w'.heap.size = w.heap.size + 1 := by simp [w']
  have ha : Agree g.S w w' := Agree.of_heap fun b o hs => hb.block b (h.slt b o hs)
  have hSS : ∀ c o, g.S c o → S' c o := fun c o hs => .inl hs
  have hnm : ∀ q, (q = k → ∃ n' e', H k = some (n', e') ∧ n' < n + m) → NameOk g H g' (up H k (some (n + m, e))) q := by
    intro q hq0
    refine ⟨⟨rfl, rfl⟩, fun v c hv hh e' hq => ?_⟩
    by_cases hqk : k = q
    · subst hqk
      have hq' : n + m = hh ∧ e = e' := by simpa [up] using hq
      obtain ⟨n', e'', h1, h2⟩ := hq0 rfl
      have := (hv n' e'' h1).1
      exact ⟨by omega, fun hc => by omega⟩
    · have e1 : g'.hd q = g.hd q := by simp [g', up, hqk]
      rw [e1]
      exact hv hh e' (by simpa [up, hqk] using hq)
  have slotOk : ∀ s q, (F s).men q = true → NameOk g H g' (up H k (some (n + m, e))) q := fun s q hq => hnm q (by
    rintro rfl
    rcases hold with h1 | ⟨h1, _⟩
    · exact h1
    · rw [h1 s] at hq; cases hq)
  have boxOk : ∀ r zs, B r = some zs → ∀ q, zs.men q = true → NameOk g H g' (up H k (some (n + m, e))) q := fun r zs hr q hq => hnm q (by
    rintro rfl
    rcases hold with h1 | ⟨_, h1⟩
    · exact h1
    · rw [h1 r zs hr] at hq; cases hq)
  have hcursz : (xs.toArray ++ ys.toArray ++ tail).size = cap * P.cellsOf e := by
    simp only [Array.size_append, List.size_toArray, htail, hx.len, hy.len, hl, hml, ← Nat.add_mul]
    congr 1; omega
  refine ⟨⟨h.defers, h.below.trans (.of hb h.old), fun c hc => Nat.lt_of_lt_of_le (h.old c hc) hb.size, fun c o hs => .inl (h.s0 c o hs), ?_, ?_, fun s => (h.slots s).move hSS ha (slotOk s), h.alive, ?_, h.dist, h.lent, ?_, ?_, ?_⟩, ?_⟩
  · rintro c o (hs | ⟨rfl, _⟩)
    · exact h.snew c o hs
    · exact .inr fun ho => absurd (h.old _ ho) (Nat.lt_irrefl _)
  · rintro c o (hs | ⟨rfl, _⟩)
    · exact Nat.lt_of_lt_of_le (h.slt c o hs) hb.size
    · omega
  · intro q zs hq
    have hlt := h.boxBlock hq
    refine (h.box q zs hq).move hSS ha ⟨rfl, rfl⟩ ?_ (hb.block _ hlt) (boxOk q zs hq)
    rintro o (hs | ⟨h1, _⟩)
    · exact (h.box q zs hq).2.1 o hs
    · omega
  · intro q hh e' hq
    by_cases hqk : k = q
    · subst hqk
      have hq' : n + m = hh ∧ e = e' := by simpa [up] using hq
      obtain ⟨rfl, rfl⟩ := hq'
      refine ⟨_, cap, by simp [g', up, V], hcap, fun _ => ⟨w.heap.size, _, rfl, hcm, fun ho => absurd (h.old _ ho) (Nat.lt_irrefl _), hnew, hcursz, ?_⟩⟩
      rintro o ho (hs | ⟨_, hlt'⟩)
      · exact absurd (h.slt _ _ hs) (Nat.lt_irrefl _)
      · omega
    · have hq' : H q = some (hh, e') := by simpa [up, hqk] using hq
      have e1 : g'.hd q = g.hd q := by simp [g', up, hqk]
      obtain ⟨A, cap', h1, h2, h3⟩ := h.row q hh e' hq'
      refine ⟨A, cap', by rw [e1]; exact h1, h2, fun hlt' => ?_⟩
      obtain ⟨b', cur', h4, h5, h6, h7, h8, h9⟩ := h3 hlt'
      have hbl := (Array.getElem?_eq_some_iff.1 h7).1
      refine ⟨b', cur', h4, h5, h6, by rw [hb.block b' hbl]; exact h7, h8, ?_⟩
      rintro o ho (hs | ⟨h10, _⟩)
      · exact h9 o ho hs
      · omega
  · intro p q x y c hp hq hrp hrq
    have old : ∀ r z, up H k (some (n + m, e)) r = some z → RB g' r c → (k = r ∧ c = w.heap.size) ∨ (k ≠ r ∧ H r = some z ∧ RB g r c ∧ c < w.heap.size) := by
      intro r z hr hrb
      by_cases hrk : k = r
      · subst hrk
        obtain ⟨hh, cap', h1, h2⟩ := hrb
        simp [g', up, V] at h1
        exact .inl ⟨rfl, h1.1.symm⟩
      · obtain ⟨hh, cap', h1, h2⟩ := hrb
        have hr' : H r = some z := by simpa [up, hrk] using hr
        have hrb' : RB g r c := ⟨hh, cap', by simpa [g', up, hrk] using h1, h2⟩
        obtain ⟨_, cur, cap'', _, _, _, h7, _⟩ := h.rowBlock hr' hrb'
        exact .inr ⟨hrk, hr', hrb', (Array.getElem?_eq_some_iff.1 h7).1⟩
    rcases old p x hp hrp with ⟨h1, h2⟩ | ⟨h1, h2, h3, h4⟩ <;> rcases old q y hq hrq with ⟨h5, h6⟩ | ⟨h5, h6, h7, h8⟩
    · exact h1.symm.trans h5
    · omega
    · omega
    · exact h.rdist p q _ _ c h2 h6 h3 h7
  · intro p x c q zs hp hrp hq
    have hlt := h.boxBlock hq
    by_cases hpk : k = p
    · subst hpk
      obtain ⟨hh, cap', h1, h2⟩ := hrp
      simp [g', up, V] at h1
      have h3 := h1.1
      show g.bk q ≠ c
      omega
    · obtain ⟨hh, cap', h1, h2⟩ := hrp
      exact h.rbox p x c q zs (by simpa [up, hpk] using hp) ⟨hh, cap', by simpa [g', up, hpk] using h1, h2⟩ hq
  · have hap := hx.append (S'' := S') (w'' := w') (b := w.heap.size) hy (fun u c hr => hr.mono hSS ha) (fun u c hr => hr.mono hSS ha) (fun j u hu => by
      have hj := (List.getElem?_eq_some_iff.1 hu).1
      have hj' : j < (n + m) * P.cellsOf e := by rw [List.length_append, hx.len, hl, hy.len, hml, ← Nat.add_mul] at hj; exact hj
      refine ⟨.inr ⟨rfl, hj'⟩, ?_⟩
      rw [cell_of_row w' w.heap.size j _ e (0, 0) hnew]
      rw [Array.getElem?_append_left (by simpa using hj)]
      simpa using hu)
    have := hap.rep_ (cap := cap) (by simp [hl, hml]; exact hcap)
    simpa [hl, hml, V] using this

end
end Go.Am
