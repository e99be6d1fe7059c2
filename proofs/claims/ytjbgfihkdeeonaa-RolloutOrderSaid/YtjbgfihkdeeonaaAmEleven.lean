/- The abstract machine, part 11: appends and calls, and every step; nothing is assumed of any program. -/
import Derived.Test.YtjbgfihkdeeonaaAmTen
set_option linter.unusedSimpArgs false
set_option linter.unusedVariables false
namespace Go.Am
open Go.RowKit

section
variable {P : Program} {E : Env} {g : Gh} {a : Act} {w : World} {F : Nat → LV} {B : Nat → Option BO} {H : HT}

theorem sliceCells {S : Nat → Nat → Prop} {b off : Nat} {l : List PV} {sz : Nat} {xs : List Value} (h : SlcAt S w (some ⟨b, off, none⟩) l sz xs) : ∀ j u, xs[j]? = some u → w.cell? ((⟨b, off, none⟩ : Addr).add j) = some u := by
  intro j u hu
  obtain ⟨b', off', he, hc⟩ := h.cell (by rintro rfl; simp at hu)
  injection he with he
  injection he with h1 h2
  subst h1; subst h2
  rw [add_lit]
  exact (hc j u hu).2

/-- An append of nothing. -/
theorem run_append_zero {t ty e : TypeId} {i : TypeInfo} (ht : P.underlying t = some (.slice e)) (hi : P.info? e = some i) (A A' : Option Addr) {n cap c : Nat} (hn : n ≤ cap) (w : World) :
    (Builtin.append_ #[t, t] ty #[.slice A n cap, .slice A' 0 c]).run P w = .ok (.slice A n cap) w := by
  cases A <;> cases A' <;> simp [Builtin.append_, run_underlying ht, sizeOf, typeInfo, hi, Builtin.lenOf, hn, Builtin.firstCells, loadCells, loadCellsFrom, storeCells]

theorem bytes_info {e : TypeId} {i : TypeInfo} (hi : P.info? e = some i) : P.bytesOf e = i.bytes := by simp [Program.bytesOf, hi]

/-- What append does: to a base that has nothing behind its end, or that owns what stands there. -/
theorem append_any (hs : Sim P E g a w F B H) {t ty e : TypeId} (ht : P.underlying t = some (.slice e)) (hz : P.cellsOf e ≠ 0) (hok : P.zOk e = true) {s x : Value} {l ms : List PV} {k : Nat}
    (hls : ∀ q ∈ l, q.cells.length = P.cellsOf e) (hms : ∀ q ∈ ms, q.cells.length = P.cellsOf e) (hb : (l.length + ms.length) * P.bytesOf e ≤ 140737488355328) (hm : l.length + ms.length ≤ maxLen)
    (hrs : Rep g.S w s (.slc l)) (hrx : Rep g.S w x (.slc ms))
    (hbase : (∃ A, s = .slice A l.length l.length) ∧ ((∀ s, (F s).men k = false) ∧ ∀ n xs, B n = some xs → xs.men k = false) ∨ (H k = some (l.length, e) ∧ s = g.hd k)) :
    ∃ v w' g', (Builtin.append_ #[t, t] ty #[s, x]).run P w = .ok v w' ∧ Sim P E g' a w' F B (up H k (some (l.length + ms.length, e))) ∧ Rep g'.S w' v (.slc (l ++ ms)) ∧ v = g'.hd k := by
  obtain ⟨A, cap, xs, rfl, hcap, hA0, hAs, hat⟩ := hrs.slc_inv hls
  obtain ⟨A', c', ys, rfl, hc', hA0', hAs', hat'⟩ := hrx.slc_inv hms
  obtain ⟨z, hzo⟩ : ∃ z, P.zeroOf e = some z := by
    unfold Program.zOk at hok
    split at hok
    · rename_i z hz; exact ⟨z, hz⟩
    · cases hok
  obtain ⟨hzs, _, i, hi, hiz⟩ := zOk_spec hzo hok
  have his : i.size = P.cellsOf e := by simp [Program.cellsOf, hi]
  have hib := bytes_info hi
  rw [hib] at hb
  -- the facts on the row, if it is one
  have hold : (∃ n' e', H k = some (n', e') ∧ n' < l.length + ms.length) ∨ ((∀ s, (F s).men k = false) ∧ ∀ n xs, B n = some xs → xs.men k = false) ∨ ms.length = 0 := by
    rcases hbase with ⟨_, h⟩ | ⟨h, _⟩
    · exact .inr (.inl h)
    · rcases Nat.eq_zero_or_pos ms.length with h0 | h0
      · exact .inr (.inr h0)
      · exact .inl ⟨_, e, h, by omega⟩
  by_cases h0 : ms.length = 0
  · -- nothing is appended
    have hms0 : ms = [] := List.eq_nil_of_length_eq_zero h0
    subst hms0
    simp only [List.length_nil, Nat.add_zero, List.append_nil]
    have hrun := run_append_zero (P := P) (ty := ty) ht hi A A' (c := c') hcap w
    rcases hbase with ⟨⟨A0, hA⟩, hfree⟩ | ⟨hk, hhd⟩
    · injection hA with hA1 hA2 hA3
      subst hA3
      -- a new name for it
      let g' : Gh := { S := g.S, bk := g.bk, cp := g.cp, hd := up g.hd k (.slice A l.length l.length) }
      have hnm : ∀ q, q ≠ k → NameOk g H g' (up H k (some (l.length, e))) q := fun q hq => ⟨⟨rfl, rfl⟩, fun v n hv hh e' hq' => by
        have e1 : g'.hd q = g.hd q := by simp [g', up, Ne.symm hq]
        rw [e1]
        exact hv hh e' (by simpa [up, Ne.symm hq] using hq')⟩
      have old : ∀ r y c, up H k (some (l.length, e)) r = some y → RB g' r c → H r = some y ∧ RB g r c := by
        intro r y c hr hrb
        obtain ⟨hh, cap', h1, h2⟩ := hrb
        by_cases hrk : k = r
        · subst hrk
          simp [g', up] at h1
          omega
        · exact ⟨by simpa [up, hrk] using hr, hh, cap', by simpa [g', up, hrk] using h1, h2⟩
      refine ⟨_, w, g', hrun, ⟨hs.defers, hs.below, hs.old, hs.s0, hs.snew, hs.slt, fun s => (hs.slots s).move (fun _ _ h => h) (Agree.refl _ _) fun q hq => hnm q ?_, hs.alive, fun n cs hB => ?_, hs.dist, hs.lent, ?_, ?_, ?_⟩, hrs, by simp [g', up]⟩
      · rintro rfl
        rw [hfree.1 s] at hq; cases hq
      · refine (hs.box n cs hB).move (fun _ _ h => h) (Agree.refl _ _) ⟨rfl, rfl⟩ (hs.box n cs hB).2.1 rfl fun q hq => hnm q ?_
        rintro rfl
        rw [hfree.2 n cs hB] at hq; cases hq
      · intro q hh e' hq
        by_cases hqk : k = q
        · subst hqk
          have hq' : l.length = hh ∧ e = e' := by simpa [up] using hq
          obtain ⟨rfl, rfl⟩ := hq'
          exact ⟨A, l.length, by simp [g', up], Nat.le_refl _, fun h => absurd h (Nat.lt_irrefl _)⟩
        · obtain ⟨A1, cap1, h1, h2, h3⟩ := hs.row q hh e' (by simpa [up, hqk] using hq)
          exact ⟨A1, cap1, by simp [g', up, hqk]; exact h1, h2, h3⟩
      · intro p q y y' b hp hq h1 h2
        obtain ⟨h3, h4⟩ := old p y b hp h1
        obtain ⟨h5, h6⟩ := old q y' b hq h2
        exact hs.rdist p q y y' b h3 h5 h4 h6
      · intro p y b n cs hp h1 hB
        obtain ⟨h3, h4⟩ := old p y b hp h1
        exact hs.rbox p y b n cs h3 h4 hB
    · have e1 : up H k (some (l.length, e)) = H := by
        funext q
        by_cases hqk : k = q
        · subst hqk; simp [up, hk]
        · simp [up, hqk]
      rw [e1]
      exact ⟨_, w, g, hrun, hs, hrs, hhd⟩
  · have hA' : ∃ b off, A' = some ⟨b, off, none⟩ := by
      cases A' with
      | none => have := hA0' rfl; omega
      | some ad =>
        obtain ⟨b, off, sp⟩ := ad
        have := (hAs' _ rfl).resolve_right (by omega)
        simp only at this
        subst this
        exact ⟨b, off, rfl⟩
    obtain ⟨b', off', rfl⟩ := hA'
    have hold' : (∃ n' e', H k = some (n', e') ∧ n' < l.length + ms.length) ∨ ((∀ s, (F s).men k = false) ∧ ∀ n xs, B n = some xs → xs.men k = false) := by
      rcases hold with h | h | h
      · exact .inl h
      · exact .inr h
      · exact absurd h h0
    have hyl : ys.length = ms.length * i.size := by rw [his]; exact hat'.len
    have h63 : ((l.length + ms.length : Nat) : Int) ≤ 9223372036854775807 := by simp only [maxLen] at hm; omega
    by_cases hroom : l.length + ms.length ≤ cap
    · -- in place
      rcases hbase with ⟨⟨A0, hA⟩, hfree⟩ | ⟨hk, hhd⟩
      · injection hA with hA1 hA2 hA3
        omega
      · obtain ⟨A1, cap1, h1, h2, h3⟩ := hs.row k _ e hk
        rw [← hhd] at h1
        injection h1 with hA1 hA2 hA3
        subst hA3
        have hpos : 0 < ms.length := Nat.pos_of_ne_zero h0
        obtain ⟨b, cur, h4, h5, h6, h7, h8, h9⟩ := h3 (by clear hold hold'; omega)
        rw [← hA1] at h4
        subst h4
        have hfit : l.length * i.size + ys.length ≤ cur.size := by rw [hyl, his, h8, ← Nat.add_mul]; exact Nat.mul_le_mul_right _ hroom
        have hrun := run_append_room (P := P) w t ty e i ht hi b l.length cap cur h7 ⟨b', off', none⟩ ms.length c' ys hyl (sliceCells hat') (hat'.one) hroom hfit
        have hput := hs.rowPut (m := ms.length) (ms := ms) hk rfl hhd.symm hroom hpos rfl h5 h6 h7 h8 h9 hat hat'
        rw [his] at hrun
        exact ⟨_, _, _, hrun, hput.1, hput.2, by simp [up]⟩
    · -- a new block
      have hge := grownCap_ge w (l.length + ms.length) cap e
      have hcm := grownCap_le_maxLen w (l.length + ms.length) cap e hm
      have htail : (Builtin.zeroCells z.cells (grownCap w (l.length + ms.length) cap e - (l.length + ms.length))).size = (grownCap w (l.length + ms.length) cap e - (l.length + ms.length)) * P.cellsOf e := by rw [size_zeroCells, hzs]
      have hnew := hs.rowNew (k := k) (n := l.length) (m := ms.length) rfl rfl hge hcm htail hat hat' hold'
      cases A with
      | none =>
        have hc0 := hA0 rfl
        subst hc0
        have hl0 : l = [] := List.eq_nil_of_length_eq_zero (by omega)
        subst hl0
        have hxs0 : xs = [] := List.eq_nil_of_length_eq_zero (by rw [hat.len]; simp)
        subst hxs0
        have hrun := run_append_nil (P := P) w t ty e i z ht hi hiz ⟨b', off', none⟩ ms.length c' ys hyl (sliceCells hat') (by omega) (by simpa using h63) (by simp only [List.length_nil, Nat.zero_add] at hb; omega)
        simp only [List.length_nil, Nat.zero_add, List.nil_append, Array.empty_append] at hnew ⊢
        exact ⟨_, _, _, hrun, hnew.1, hnew.2, by simp [up]⟩
      | some ad =>
        obtain ⟨b, off, sp⟩ := ad
        rcases hAs _ rfl with this | hc0
        case inr =>
          have hl0 : l = [] := List.eq_nil_of_length_eq_zero (by omega)
          have hxs0 : xs = [] := List.eq_nil_of_length_eq_zero (by rw [hat.len, hl0]; simp)
          have hrun := run_append_grow (P := P) w t ty e i z ht hi hiz ⟨b, off, sp⟩ l.length cap xs (by rw [his]; exact hat.len) (by rw [hxs0]; simp) ⟨b', off', none⟩ ms.length c' ys hyl (sliceCells hat') (by omega) h63 (growslice_fits (by omega) hb)
          exact ⟨_, _, _, hrun, hnew.1, hnew.2, by simp [up]⟩
        simp only at this
        subst this
        have hrun := run_append_grow (P := P) w t ty e i z ht hi hiz ⟨b, off, none⟩ l.length cap xs (by rw [his]; exact hat.len) (sliceCells hat) ⟨b', off', none⟩ ms.length c' ys hyl (sliceCells hat') (by omega) h63 (growslice_fits (by omega) hb)
        exact ⟨_, _, _, hrun, hnew.1, hnew.2, by simp [up]⟩

/-- What the cells of an appended list read as. -/
theorem pcells_len {l : List PV} {sz : Nat} (h : ∀ q ∈ l, q.cells.length = sz) : (pcells l).length = l.length * sz := by
  induction l with
  | nil => simp [pcells]
  | cons q r ih =>
    have := ih fun q hq => h q (by simp [hq])
    simp only [pcells, List.flatMap_cons, List.length_append, List.length_map] at this ⊢
    rw [this, h q (by simp), List.length_cons, Nat.add_mul]; omega

theorem pcells_get {l : List PV} {sz : Nat} (h : ∀ q ∈ l, q.cells.length = sz) : ∀ (j : Nat) (c : LV), (pcells l)[j]? = some c → ∃ i r q p, l[i]? = some q ∧ q.cells[r]? = some p ∧ j = i * sz + r ∧ c = .pv p := by
  induction l with
  | nil => intro j c hc; simp [pcells] at hc
  | cons q r ih =>
    intro j c hc
    have hq := h q (by simp)
    simp only [pcells, List.flatMap_cons] at hc
    rw [List.getElem?_append] at hc
    split at hc
    · rename_i hj
      simp only [List.length_map] at hj
      rw [List.getElem?_map] at hc
      cases hp : q.cells[j]? with
      | none => rw [hp] at hc; cases hc
      | some p => rw [hp] at hc; simp at hc; exact ⟨0, j, q, p, rfl, hp, by simp, hc.symm⟩
    · rename_i hj
      simp only [List.length_map] at hj hc
      obtain ⟨i, k, q', p, h1, h2, h3, h4⟩ := ih (fun q hq => h q (by simp [hq])) (j - q.cells.length) c hc
      refine ⟨i + 1, k, q', p, by simpa using h1, h2, ?_, h4⟩
      rw [Nat.add_mul]
      omega

theorem SlcAt.pcells_ {S : Nat → Nat → Prop} {A : Option Addr} {l : List PV} {sz : Nat} {xs : List Value} (h : SlcAt S w A l sz xs) : ∀ (j : Nat) (u : Value) (c : LV), xs[j]? = some u → (pcells l)[j]? = some c → u.oneCell' = true ∧ ∃ p, c = .pv p ∧ Rep S w u p := by
  intro j u c hu hc
  refine ⟨h.one u (List.mem_of_getElem? hu), ?_⟩
  obtain ⟨i, r, q, p, h1, h2, rfl, rfl⟩ := pcells_get h.all j c hc
  obtain ⟨v, hv, hr⟩ := h.rep i q r p h1 h2
  rw [hu] at hv
  injection hv with hv
  subst hv
  exact ⟨p, rfl, hr⟩

/-- An element's zero, of a known type. -/
theorem zOk_get {e : TypeId} (hok : P.zOk e = true) : ∃ z i, P.zeroOf e = some z ∧ P.info? e = some i ∧ i.zero = some z ∧ i.size = P.cellsOf e ∧ z.cells.size = P.cellsOf e ∧ (∀ (j : Nat) (v : Value), z.cells[j]? = some v → v.oneCell' = true) := by
  obtain ⟨z, hzo⟩ : ∃ z, P.zeroOf e = some z := by
    unfold Program.zOk at hok
    split at hok
    · rename_i z hz; exact ⟨z, hz⟩
    · cases hok
  obtain ⟨hzs, h1, i, hi, hiz⟩ := zOk_spec hzo hok
  exact ⟨z, i, hzo, hi, hiz, by simp [Program.cellsOf, hi], hzs, h1⟩

theorem addr_some {A : Option Addr} {cap n : Nat} (hA0 : A = none → cap = 0) (hAs : ∀ ad, A = some ad → ad.spot = none ∨ cap = 0) (h : n ≤ cap) (hn : n ≠ 0) : ∃ b off, A = some ⟨b, off, none⟩ := by
  cases A with
  | none => have := hA0 rfl; omega
  | some ad =>
    obtain ⟨b, off, sp⟩ := ad
    have := (hAs _ rfl).resolve_right (by omega)
    simp only at this
    subst this
    exact ⟨b, off, rfl⟩

/-- Cells of a list, then others. -/
theorem cells_two {R : Value → LV → Prop} {xs ys tl : List Value} {cs ds : List LV} (hl : xs.length = cs.length) (h1 : ∀ (j : Nat) (u : Value) (c : LV), xs[j]? = some u → cs[j]? = some c → R u c) (hy : ys.length = ds.length)
    (h2 : ∀ (j : Nat) (u : Value) (c : LV), ys[j]? = some u → ds[j]? = some c → R u c) : ∀ (j : Nat) (u : Value) (c : LV), (xs ++ ys ++ tl)[j]? = some u → (cs ++ ds)[j]? = some c → R u c := by
  intro j u c hu hc
  rw [List.append_assoc] at hu
  rw [List.getElem?_append] at hu hc
  rw [← hl] at hc
  split at hu
  · rename_i hj; rw [if_pos hj] at hc; exact h1 j u c hu hc
  · rename_i hj
    rw [if_neg hj] at hc
    have hlt := (List.getElem?_eq_some_iff.1 hc).1
    rw [List.getElem?_append_left (by omega)] at hu
    exact h2 _ u c hu hc

theorem pcells_append (l m : List PV) : pcells (l ++ m) = pcells l ++ pcells m := by simp [pcells]

theorem men_pcells {l : List PV} {d : Nat} : ∀ c ∈ pcells l, c.men1 d = false := by
  intro c hc
  simp only [pcells, List.mem_flatMap, List.mem_map] at hc
  obtain ⟨_, _, q, _, rfl⟩ := hc
  rfl

/-- An append to a slice that nothing stands behind: a slice of one's own. -/
theorem append_full {s x : Operand} {t e : TypeId} {o : Oper} {d : Nat} {l m : List PV} (run : ∀ (a : Act) (w w' : World) (v : Value), (Builtin.append_ #[t, t] o.type #[a.eval s, a.eval x]).run P w = .ok v w' → (execOp a.eval o).run P w = .ok (.value v) w')
    (ht : P.underlying t = some (.slice e)) (hz : P.cellsOf e ≠ 0) (hok : P.zOk e = true) (hd : o.dst = some d) (hm : (evo F x).list? = some m) (hl : evo F s = .full l) (hls : ∀ q ∈ l, q.cells.length = P.cellsOf e) (hms : ∀ q ∈ m, q.cells.length = P.cellsOf e)
    (hb : (l.length + m.length) * P.bytesOf e ≤ 140737488355328) (hmx : l.length + m.length ≤ maxLen) (hne : m ≠ []) :
    StepOk P o F B H { val := .arr d (l.length + m.length), wb := [(d, .cells (some (P.rowI e)) (pcells (l ++ m)))], new := [d] } := by
  intro E g a w hs hdst hnew K Q hK
  obtain ⟨⟨n1, n2⟩, n3⟩ := hnew d (by simp)
  have hes := hs.ev s
  rw [hl] at hes
  obtain ⟨hrs, A0, hA⟩ := hes
  obtain ⟨A, cap, xs, hvs, hcap, hA0, hAs, hat⟩ := hrs.slc_inv hls
  obtain ⟨A', c', ys, hvx, hc', hA0', hAs', hat'⟩ := ((hs.ev x).list hm).slc_inv hms
  rw [hA] at hvs
  injection hvs with e1 e2 e3
  subst e1; subst e3
  obtain ⟨z, i, hzo, hi, hiz, his, hzs, hz1⟩ := zOk_get hok
  rw [bytes_info hi] at hb
  have hm0 : m.length ≠ 0 := fun h => hne (List.eq_nil_of_length_eq_zero h)
  obtain ⟨b', off', rfl⟩ := addr_some hA0' hAs' hc' hm0
  have hyl : ys.length = m.length * i.size := by rw [his]; exact hat'.len
  have h63 : ((l.length + m.length : Nat) : Int) ≤ 9223372036854775807 := by simp only [maxLen] at hmx; omega
  have hge := grownCap_ge w (l.length + m.length) l.length e
  have hcm := grownCap_le_maxLen w (l.length + m.length) l.length e hmx
  let cap' := grownCap w (l.length + m.length) l.length e
  let vs : Array Value := xs.toArray ++ ys.toArray ++ Builtin.zeroCells z.cells (cap' - (l.length + m.length))
  have hvsz : vs.size = cap' * P.cellsOf e := by
    simp only [vs, Array.size_append, List.size_toArray, size_zeroCells, hzs, hat.len, hat'.len, ← Nat.add_mul]
    congr 1
    show l.length + m.length + (cap' - (l.length + m.length)) = cap'
    have : l.length + m.length ≤ cap' := hge
    omega
  have hr : (Builtin.append_ #[t, t] o.type #[a.eval s, a.eval x]).run P w = .ok (.slice (some ⟨w.heap.size, 0, none⟩) (l.length + m.length) cap') (w.drew.alloc (.cells vs e)) := by
    rw [hA, hvx]
    cases A0 with
    | none =>
      have hc0 := hA0 rfl
      have hl0 : l = [] := List.eq_nil_of_length_eq_zero hc0
      subst hl0
      have hxs0 : xs = [] := List.eq_nil_of_length_eq_zero (by rw [hat.len]; simp)
      subst hxs0
      have hrun := run_append_nil (P := P) w t o.type e i z ht hi hiz ⟨b', off', none⟩ m.length c' ys hyl (sliceCells hat') (by omega) (by simpa using h63) (by simp only [List.length_nil, Nat.zero_add] at hb; omega)
      simpa [vs, cap'] using hrun
    | some ad =>
      obtain ⟨b, off, sp⟩ := ad
      rcases hAs _ rfl with this | hc0
      case inr =>
        have hl0 : l = [] := List.eq_nil_of_length_eq_zero (by omega)
        have hxs0 : xs = [] := List.eq_nil_of_length_eq_zero (by rw [hat.len, hl0]; simp)
        exact run_append_grow (P := P) w t o.type e i z ht hi hiz ⟨b, off, sp⟩ l.length l.length xs (by rw [his]; exact hat.len) (by rw [hxs0]; simp) ⟨b', off', none⟩ m.length c' ys hyl (sliceCells hat') (by omega) h63 (growslice_fits (by omega) hb)
      simp only at this
      subst this
      exact run_append_grow (P := P) w t o.type e i z ht hi hiz ⟨b, off, none⟩ l.length l.length xs (by rw [his]; exact hat.len) (sliceCells hat) ⟨b', off', none⟩ m.length c' ys hyl (sliceCells hat') (by omega) h63 (growslice_fits (by omega) hb)
  have h1 := hs.drew.newBox (d := d) (vs := vs) (t := e) (r := some (P.rowI e)) (c := cap') (cs := pcells (l ++ m)) (by
      rw [pcells_append, List.length_append, pcells_len hls, pcells_len hms, ← Nat.add_mul, hvsz]
      exact Nat.mul_le_mul_right _ hge) (by
      intro j u c hu hc
      rw [pcells_append] at hc
      have hu' : (xs ++ ys ++ (Builtin.zeroCells z.cells (cap' - (l.length + m.length))).toList)[j]? = some u := by rw [← hu, ← Array.getElem?_toList]; simp [vs]
      refine cells_two (R := fun u c => u.oneCell' = true ∧ RepC g H w.drew u c) (by rw [hat.len, pcells_len hls]) (fun j u c hu hc => ?_) (by rw [hat'.len, pcells_len hms]) (fun j u c hu hc => ?_) j u c hu' hc
      · obtain ⟨h1, p, rfl, h2⟩ := hat.pcells_ j u c hu hc
        exact ⟨h1, h2.agree (Agree.of_heap fun _ _ _ => rfl)⟩
      · obtain ⟨h1, p, rfl, h2⟩ := hat'.pcells_ j u c hu hc
        exact ⟨h1, h2.agree (Agree.of_heap fun _ _ _ => rfl)⟩) (by
      intro ri hri
      injection hri with hri
      subst hri
      exact ⟨rfl, hvsz, hcm⟩) n1 n2 n3 men_pcells
  have h2 := h1.put hdst (v := .slice (some ⟨w.heap.size, 0, none⟩) (l.length + m.length) cap') (u := { val := .arr d (l.length + m.length), wb := [(d, .cells (some (P.rowI e)) (pcells (l ++ m)))], new := [d] }) (by
    show _ ∧ _
    simp only [up, if_true]
    exact ⟨rfl, hge⟩)
  exact step_fin (run a w _ _ hr) hK h2 (appB_one rfl rfl)

/-- A name takes over the block of another one, and its content turns. -/
theorem Sim.takeBox (h : Sim P E g a w F B H) {n d : Nat} {o o' : BO} (hB : B n = some o) {w' : World} (hos : w'.os = w.os) (htp : w'.tape = w.tape) (hou : w'.output = w.output) (hsz : w'.heap.size = w.heap.size)
    (oth : ∀ k, k ≠ g.bk n → w'.heap[k]? = w.heap[k]?) (fF : ∀ s, (F s).men d = false) (fB : ∀ n xs, B n = some xs → xs.men d = false) (fL : ¬ E.L d)
    (hC : BoxC { g with bk := up g.bk d (g.bk n), cp := up g.cp d (g.cp n) } H w' d o') (hd : o' ≠ .dead) :
    Sim P E { g with bk := up g.bk d (g.bk n), cp := up g.cp d (g.cp n) } a w' F (fun k => if d = k then some o' else if n = k then none else B k) H := by
  obtain ⟨hb1, hb2, hb3⟩ := h.box n o hB
  have ha : Agree g.S w w' := Agree.of_heap fun b o hs => oth b (by rintro rfl; exact hb2 o hs)
  have hbel : BelowO E.Old w w' := ⟨hos, htp, hou, by omega, fun k hk => oth k (by rintro rfl; exact hb1 hk)⟩
  have hnm : ∀ k, k ≠ d → NameOk g H { g with bk := up g.bk d (g.bk n), cp := up g.cp d (g.cp n) } H k := fun k hk => ⟨⟨by simp [up, Ne.symm hk], by simp [up, Ne.symm hk]⟩, fun _ _ h => h⟩
  have old : ∀ m xs, d ≠ m → (if d = m then some o' else if n = m then none else B m) = some xs → n ≠ m ∧ B m = some xs := by
    intro m xs hdm hm
    rw [if_neg hdm] at hm
    split at hm
    · cases hm
    · rename_i hnm; exact ⟨hnm, hm⟩
  refine ⟨h.defers, h.below.trans hbel, fun b hb => by rw [hsz]; exact h.old b hb, h.s0, h.snew, fun b o hs => by rw [hsz]; exact h.slt b o hs, fun s => (h.slots s).move (fun _ _ h => h) ha fun k hk => hnm k ?_, ?_, ?_, ?_, ?_, ?_, h.rdist, ?_⟩
  · rintro rfl
    rw [fF s] at hk; cases hk
  · intro m xs hm
    by_cases hdm : d = m
    · simp only [if_pos hdm] at hm; injection hm with hm; subst hm; exact hd
    · exact h.alive m xs (old m xs hdm hm).2
  · intro m xs hm
    by_cases hdm : d = m
    · simp only [if_pos hdm] at hm
      injection hm with hm
      subst hm; subst hdm
      exact ⟨by simpa [up] using hb1, by simpa [up] using hb2, hC⟩
    · obtain ⟨hnm', hm'⟩ := old m xs hdm hm
      refine (h.box m xs hm').move (fun _ _ h => h) ha ⟨by simp [up, hdm], by simp [up, hdm]⟩ (h.box m xs hm').2.1 (oth _ (h.dist m n xs o hm' hB (Ne.symm hnm'))) fun k hk => hnm k ?_
      rintro rfl
      rw [fB m xs hm'] at hk; cases hk
  · intro p q xs ys hp hq hne
    by_cases hdp : d = p
    · have hdq : d ≠ q := fun h => hne (hdp.symm.trans h)
      obtain ⟨hnq, hq'⟩ := old q ys hdq hq
      simp [up, hdp]
      subst hdp
      simp [hdq]
      exact h.dist n q o ys hB hq' hnq
    · obtain ⟨hnp, hp'⟩ := old p xs hdp hp
      by_cases hdq : d = q
      · subst hdq
        simp [up, hdp]
        exact h.dist p n xs o hp' hB (Ne.symm hnp)
      · obtain ⟨hnq, hq'⟩ := old q ys hdq hq
        simp [up, hdp, hdq]
        exact h.dist p q xs ys hp' hq' hne
  · intro m xs hm hL
    have hdm : d ≠ m := by rintro rfl; exact fL hL
    simpa [up, hdm] using h.lent m xs (old m xs hdm hm).2 hL
  · intro k hh e hk
    obtain ⟨A, cap, h1, h2, h3⟩ := h.row k hh e hk
    refine ⟨A, cap, h1, h2, fun hlt => ?_⟩
    obtain ⟨b, cur, h4, h5, h6, h7, h8, h9⟩ := h3 hlt
    refine ⟨b, cur, h4, h5, h6, ?_, h8, h9⟩
    rw [oth b (Ne.symm (h.rbox k (hh, e) b n o hk ⟨hh, cap, by rw [h1, h4], hlt⟩ hB))]
    exact h7
  · intro k x b m xs hk hr hm
    by_cases hdm : d = m
    · subst hdm
      have := h.rbox k x b n o hk hr hB
      simpa [up] using this
    · have := h.rbox k x b m xs hk hr (old m xs hdm hm).2
      simpa [up, hdm] using this

theorem setRow_same {b : Nat} {cur : Array Value} {e : TypeId} (hh : w.heap[b]? = some (.cells cur e (0, 0))) : w.setRow b cur = w := by
  obtain ⟨hlt, hget⟩ := Array.getElem?_eq_some_iff.1 hh
  have : (w.setRow b cur).heap = w.heap := by
    apply Array.ext_getElem?
    intro i
    by_cases hi : i = b
    · subst hi; rw [setRow_heap w i cur cur e (0, 0) hh, hh]
    · exact setRow_other w b i cur hi
  unfold World.setRow at this ⊢
  simp only at this
  rw [this]

/-- A name is forgotten. -/
theorem Sim.kill (h : Sim P E g a w F B H) (D : Nat → Prop) {B' : Nat → Option BO} (hB : ∀ k o, B' k = some o → B k = some o) : Sim P E g a w F B' H :=
  ⟨h.defers, h.below, h.old, h.s0, h.snew, h.slt, h.slots, fun n cs hn => h.alive n cs (hB n cs hn), fun n cs hn => h.box n cs (hB n cs hn), fun n m cs cs' hn hm => h.dist n m cs cs' (hB n cs hn) (hB m cs' hm),
    fun n cs hn => h.lent n cs (hB n cs hn), h.row, h.rdist, fun k x b n cs hk hr hn => h.rbox k x b n cs hk hr (hB n cs hn)⟩

theorem evo_men {x : Operand} {v : LV} {d : Nat} (h : evo F x = v) (hm : v.men d = true) (hF : ∀ s, (F s).men d = false) : False := by
  have := men_evo hF x
  rw [h, hm] at this
  cases this

/-- An append to a slice of one's own. -/
theorem append_arr {s x : Operand} {t e : TypeId} {o : Oper} {d n len : Nat} {m : List PV} {r : RowI} {cs : List LV} (run : ∀ (a : Act) (w w' : World) (v : Value), (Builtin.append_ #[t, t] o.type #[a.eval s, a.eval x]).run P w = .ok v w' → (execOp a.eval o).run P w = .ok (.value v) w')
    (ht : P.underlying t = some (.slice e)) (hz : P.cellsOf e ≠ 0) (hok : P.zOk e = true) (hd : o.dst = some d) (hm : (evo F x).list? = some m) (hl : evo F s = .arr n len) (hB : B n = some (.cells (some r) cs)) (hr : r = P.rowI e) (hlc : len * P.cellsOf e ≤ cs.length)
    (hms : ∀ q ∈ m, q.cells.length = P.cellsOf e) (hb : (len + m.length) * P.bytesOf e ≤ 140737488355328) (hmx : len + m.length ≤ maxLen) :
    StepOk P o F B H { val := .arr d (len + m.length), rb := [n], wb := [(n, .dead), (d, .cells (some r) (cs.take (len * P.cellsOf e) ++ pcells m))], new := [d] } := by
  subst hr
  intro E g a w hs hdst hnew K Q hK
  obtain ⟨⟨n1, n2⟩, n3⟩ := hnew d (by simp)
  have hdn : d ≠ n := by rintro rfl; exact evo_men hl (by simp [LV.men, LV.men1]) n1
  have hes := hs.ev s
  rw [hl] at hes
  obtain ⟨hvs, hcap⟩ := hes
  obtain ⟨A', c', ys, hvx, hc', hA0', hAs', hat'⟩ := ((hs.ev x).list hm).slc_inv hms
  obtain ⟨hb1, hb2, cur, ty, hh, hcl, hcc, hri⟩ := hs.box n _ hB
  obtain ⟨hty, hcsz, hcpm⟩ := hri _ rfl
  simp only [Program.rowI] at hty hcsz
  subst hty
  obtain ⟨z, i, hzo, hi, hiz, his, hzs, hz1⟩ := zOk_get hok
  rw [bytes_info hi] at hb
  have hyl : ys.length = m.length * i.size := by rw [his]; exact hat'.len
  have h63 : ((len + m.length : Nat) : Int) ≤ 9223372036854775807 := by simp only [maxLen] at hmx; omega
  have hlcur : len * P.cellsOf ty ≤ cur.size := by omega
  have eB : (fun k => if d = k then some (BO.cells (some (P.rowI ty)) (cs.take (len * P.cellsOf ty) ++ pcells m)) else if n = k then none else B k) =
      appB B { val := .arr d (len + m.length), rb := [n], wb := [(n, .dead), (d, .cells (some (P.rowI ty)) (cs.take (len * P.cellsOf ty) ++ pcells m))], new := [d] } := by
    funext k
    simp only [appB, lk]
    by_cases hnk : n = k
    · subst hnk; simp [hdn, BO.alive]
    · by_cases hdk : d = k <;> simp [hnk, hdk, BO.alive]
  -- the old cells that stay
  have hold : ∀ (W : World) (j : Nat) (u : Value) (c : LV), Agree g.S w W → (cur.toList.take (len * P.cellsOf ty))[j]? = some u → (cs.take (len * P.cellsOf ty))[j]? = some c → u.oneCell' = true ∧ RepC g H W u c := by
    intro W j u c hW hu hc
    rw [List.getElem?_take] at hu hc
    split at hu
    · rename_i hj
      rw [if_pos hj] at hc
      obtain ⟨k1, k2⟩ := hcc j u c (by simpa using hu) hc
      exact ⟨k1, k2.move (fun _ _ h => h) hW fun k _ => NameOk.refl g H k⟩
    · cases hu
  have hnew' : ∀ (W : World) (j : Nat) (u : Value) (c : LV), Agree g.S w W → ys[j]? = some u → (pcells m)[j]? = some c → u.oneCell' = true ∧ RepC g H W u c := by
    intro W j u c hW hu hc
    obtain ⟨h1, p, rfl, h2⟩ := hat'.pcells_ j u c hu hc
    exact ⟨h1, h2.agree hW⟩
  have fc : ∀ (c : LV), c ∈ cs.take (len * P.cellsOf ty) ++ pcells m → c.men1 d = false := by
    intro c hc
    rcases List.mem_append.1 hc with hc | hc
    · have := n2 n _ hB
      simp only [BO.men] at this
      simpa using List.any_eq_false.1 this c (List.mem_of_mem_take hc)
    · exact men_pcells c hc
  by_cases h0 : len + m.length ≤ g.cp n
  · -- in place
    have hrun : (Builtin.append_ #[t, t] o.type #[a.eval s, a.eval x]).run P w = .ok (.slice (some ⟨g.bk n, 0, none⟩) (len + m.length) (g.cp n)) (w.setRow (g.bk n) (cur.toList.take (len * P.cellsOf ty) ++ ys ++ cur.toList.drop (len * P.cellsOf ty + ys.length)).toArray) := by
      rw [hvs, hvx]
      by_cases hm0 : m.length = 0
      · have hys0 : ys = [] := List.eq_nil_of_length_eq_zero (by rw [hyl, hm0]; simp)
        subst hys0
        have h1 := run_append_zero (P := P) (ty := o.type) ht hi (some ⟨g.bk n, 0, none⟩) A' (c := c') hcap w
        rw [hm0]
        simp only [Nat.add_zero, List.append_nil, List.length_nil, List.take_append_drop, Array.toArray_toList]
        rw [h1]
        congr 1
        exact (setRow_same hh).symm
      · obtain ⟨b', off', rfl⟩ := addr_some hA0' hAs' hc' hm0
        have hfit : len * i.size + ys.length ≤ cur.size := by rw [hyl, his, hcsz, ← Nat.add_mul]; exact Nat.mul_le_mul_right _ h0
        have h1 := run_append_room (P := P) w t o.type ty i ht hi (g.bk n) len (g.cp n) cur hh ⟨b', off', none⟩ m.length c' ys hyl (sliceCells hat') hat'.one h0 hfit
        rw [his] at h1
        exact h1
    have hfit : len * P.cellsOf ty + ys.length ≤ cur.size := by rw [hyl, his, hcsz, ← Nat.add_mul]; exact Nat.mul_le_mul_right _ h0
    have oth : ∀ k, k ≠ g.bk n → (w.setRow (g.bk n) (cur.toList.take (len * P.cellsOf ty) ++ ys ++ cur.toList.drop (len * P.cellsOf ty + ys.length)).toArray).heap[k]? = w.heap[k]? := fun k hk => setRow_other w _ k _ hk
    have ha : Agree g.S w (w.setRow (g.bk n) (cur.toList.take (len * P.cellsOf ty) ++ ys ++ cur.toList.drop (len * P.cellsOf ty + ys.length)).toArray) := Agree.of_heap fun b o hs => oth b (by rintro rfl; exact hb2 o hs)
    have h1 := hs.takeBox (d := d) (o' := .cells (some (P.rowI ty)) (cs.take (len * P.cellsOf ty) ++ pcells m)) hB (w' := w.setRow (g.bk n) (cur.toList.take (len * P.cellsOf ty) ++ ys ++ cur.toList.drop (len * P.cellsOf ty + ys.length)).toArray)
      rfl rfl rfl (by simp) oth n1 n2 n3 ⟨_, ty, by simp only [up, if_true]; exact setRow_heap w _ cur _ ty _ hh, ?_, ?_, ?_⟩ (by simp)
    · have h2 := h1.put hdst (v := .slice (some ⟨g.bk n, 0, none⟩) (len + m.length) (g.cp n)) (u := { val := .arr d (len + m.length), rb := [n], wb := [(n, .dead), (d, .cells (some (P.rowI ty)) (cs.take (len * P.cellsOf ty) ++ pcells m))], new := [d] }) (by
        show _ = _ ∧ _ ≤ _
        simp only [up, if_true, true_and]
        exact h0)
      exact step_fin (run a w _ _ hrun) hK h2 eB.symm
    · simp only [List.length_append, List.length_take, pcells_len hms, List.size_toArray, List.length_drop, Array.length_toList, hyl, his] at hfit ⊢
      omega
    · intro j u c hu hc
      have hu' : (cur.toList.take (len * P.cellsOf ty) ++ ys ++ cur.toList.drop (len * P.cellsOf ty + ys.length))[j]? = some u := by simpa using hu
      refine ⟨?_, ?_⟩
      · exact (cells_two (R := fun u c => u.oneCell' = true ∧ RepC g H _ u c) (by simp; omega) (fun j u c => hold _ j u c ha) (by rw [hat'.len, pcells_len hms]) (fun j u c => hnew' _ j u c ha) j u c hu' hc).1
      · refine (cells_two (R := fun u c => u.oneCell' = true ∧ RepC g H _ u c) (by simp; omega) (fun j u c => hold _ j u c ha) (by rw [hat'.len, pcells_len hms]) (fun j u c => hnew' _ j u c ha) j u c hu' hc).2.move (fun _ _ h => h) (Agree.refl _ _) fun k hk => ?_
        have hkd : k ≠ d := by
          rintro rfl
          rw [fc c (List.mem_of_getElem? hc)] at hk; cases hk
        exact ⟨⟨by simp [up, Ne.symm hkd], by simp [up, Ne.symm hkd]⟩, fun _ _ h => h⟩
    · intro ri hri
      injection hri with hri
      subst hri
      refine ⟨rfl, ?_, by simpa [up] using hcpm⟩
      simp only [up, if_true, Program.rowI]
      rw [← hcsz]
      simp; omega
  · -- a new block
    have hm0 : m.length ≠ 0 := by intro h; omega
    obtain ⟨b', off', rfl⟩ := addr_some hA0' hAs' hc' hm0
    have hge := grownCap_ge w (len + m.length) (g.cp n) ty
    have hcm := grownCap_le_maxLen w (len + m.length) (g.cp n) ty hmx
    let cap' := grownCap w (len + m.length) (g.cp n) ty
    let vs : Array Value := (cur.toList.take (len * P.cellsOf ty)).toArray ++ ys.toArray ++ Builtin.zeroCells z.cells (cap' - (len + m.length))
    have hvsz : vs.size = cap' * P.cellsOf ty := by
      have e1 : (cur.toList.take (len * P.cellsOf ty)).length = len * P.cellsOf ty := by simp; omega
      simp only [vs, Array.size_append, List.size_toArray, size_zeroCells, hzs, e1, hat'.len, ← Nat.add_mul]
      congr 1
      show len + m.length + (cap' - (len + m.length)) = cap'
      have : len + m.length ≤ cap' := hge
      omega
    have hrun : (Builtin.append_ #[t, t] o.type #[a.eval s, a.eval x]).run P w = .ok (.slice (some ⟨w.heap.size, 0, none⟩) (len + m.length) cap') (w.drew.alloc (.cells vs ty)) := by
      rw [hvs, hvx]
      exact run_append_grow (P := P) w t o.type ty i z ht hi hiz ⟨g.bk n, 0, none⟩ len (g.cp n) (cur.toList.take (len * P.cellsOf ty)) (by rw [his]; simp; omega) (fun j u hu => by
        rw [List.getElem?_take] at hu
        split at hu
        · rw [add_lit, cell_of_row w _ _ cur ty (0, 0) hh]; simpa using hu
        · cases hu) ⟨b', off', none⟩ m.length c' ys hyl (sliceCells hat') (by omega) h63 (growslice_fits (by omega) hb)
    have had : Agree g.S w w.drew := Agree.of_heap fun _ _ _ => rfl
    have h1 := hs.drew.newBox (d := d) (vs := vs) (t := ty) (r := some (P.rowI ty)) (c := cap') (cs := cs.take (len * P.cellsOf ty) ++ pcells m) (by
        rw [List.length_append, pcells_len hms, hvsz, List.length_take]
        have : (len + m.length) * P.cellsOf ty ≤ cap' * P.cellsOf ty := Nat.mul_le_mul_right _ hge
        rw [Nat.add_mul] at this
        omega) (by
        intro j u c hu hc
        have hu' : (cur.toList.take (len * P.cellsOf ty) ++ ys ++ (Builtin.zeroCells z.cells (cap' - (len + m.length))).toList)[j]? = some u := by rw [← hu, ← Array.getElem?_toList]; simp [vs]
        exact cells_two (R := fun u c => u.oneCell' = true ∧ RepC g H w.drew u c) (by simp; omega) (fun j u c => hold _ j u c had) (by rw [hat'.len, pcells_len hms]) (fun j u c => hnew' _ j u c had) j u c hu' hc) (by
        intro ri hri
        injection hri with hri
        subst hri
        exact ⟨rfl, hvsz, hcm⟩) n1 n2 n3 fc
    have h1' := h1.kill (fun _ => True) (B' := fun k => if d = k then some (BO.cells (some (P.rowI ty)) (cs.take (len * P.cellsOf ty) ++ pcells m)) else if n = k then none else B k) (by
      intro k o' hk
      simp only [up]
      split at hk
      · rename_i hdk; rw [if_pos hdk]; exact hk
      · rename_i hdk
        rw [if_neg hdk]
        split at hk
        · cases hk
        · exact hk)
    have h2 := h1'.put hdst (v := .slice (some ⟨w.heap.size, 0, none⟩) (len + m.length) cap') (u := { val := .arr d (len + m.length), rb := [n], wb := [(n, .dead), (d, .cells (some (P.rowI ty)) (cs.take (len * P.cellsOf ty) ++ pcells m))], new := [d] }) (by
      show _ ∧ _
      simp only [up, if_true]
      exact ⟨rfl, hge⟩)
    exact step_fin (run a w _ _ hrun) hK h2 eB.symm

theorem ok_append {c : Call} {s x : Operand} {t : TypeId} {o : Oper} {u : Upd} (ho : o.op = .call c) (hc : c.callee = .builtin .append) (ha : c.args.toList = [s, x]) (hat : c.argTypes.toList = [t, t])
    (h : aAppend P B H o.dst (· = u) t (evo F s) (evo F x)) : StepOk P o F B H u := by
  have ha' : c.args = #[s, x] := Array.ext' ha
  have hat' : c.argTypes = #[t, t] := Array.ext' hat
  have run : ∀ (a : Act) (w w' : World) (v : Value), (Builtin.append_ #[t, t] o.type #[a.eval s, a.eval x]).run P w = .ok v w' → (execOp a.eval o).run P w = .ok (.value v) w' := by
    intro a w w' v hr
    simp only [execOp, ho, resolve, hc, ha', hat', invoke, builtin, List.map_toArray, List.map_cons, List.map_nil, Sem.run_bind, Sem.run_pure, Result.andThen_ok, hr]
  unfold aAppend at h
  split at h
  · rename_i e ht
    split at h
    · rename_i d m hd hm
      obtain ⟨h1, h2, h3, h⟩ := h
      split at h
      · rename_i l hl
        obtain ⟨h4, h5, h6, h7⟩ := h
        rcases h7.symm with ⟨h8, rfl⟩ | rfl
        · exact append_full run ht h2 h3 hd hm hl h4 h1 h5 h6 h8
        intro E g a w hs hdst hnew K Q hK
        have hes := hs.ev s
        rw [hl] at hes
        obtain ⟨v, w', g', hr, hsim, hrep, hv⟩ := append_any (ty := o.type) (k := d) hs ht h2 h3 h4 h1 h5 h6 hes.1 ((hs.ev x).list hm) (.inl ⟨hes.2, (hnew d (by simp)).1⟩)
        refine wp_val (run a w w' v hr) (hK v w' g' (hsim.put hdst ⟨hrep, fun h e hh => ?_⟩))
        have : l.length + m.length = h := by simp [up] at hh; exact hh.1
        exact ⟨by simp; omega, fun _ => hv⟩
      · rename_i k l hl
        obtain ⟨h4, h5, h6, h7, rfl⟩ := h
        intro E g a w hs hdst hnew K Q hK
        have hes := hs.ev s
        rw [hl] at hes
        obtain ⟨v, w', g', hr, hsim, hrep, hv⟩ := append_any (ty := o.type) (k := k) hs ht h2 h3 h5 h1 h6 h7 hes.1 ((hs.ev x).list hm) (.inr ⟨h4, (hes.2 _ _ h4).2 rfl⟩)
        refine wp_val (run a w w' v hr) (hK v w' g' (hsim.put hdst ⟨hrep, fun h e hh => ?_⟩))
        have : l.length + m.length = h := by simp [up] at hh; exact hh.1
        exact ⟨by simp; omega, fun _ => hv⟩
      · rename_i n len hl
        split at h
        · rename_i r cs hB
          obtain ⟨h4, h5, h6, h7, rfl⟩ := h
          exact append_arr run ht h2 h3 hd hm hl hB h4 h5 h1 h6 h7
        · exact h.elim
      · exact h.elim
    · exact h.elim
  · exact h.elim

/-- The cells of a set of boxes beside S. -/
def Lent (g : Gh) (w : World) (B : Nat → Option BO) (ns : List Nat) : Nat → Nat → Prop := fun b o => g.S b o ∨ ∃ n ∈ ns, (B n).isSome = true ∧ b = g.bk n

theorem lent_box (hs : Sim P E g a w F B H) {n off : Nat} {cs : List LV} {ps : List PV} {r : Option RowI} (hB : B n = some (.cells r cs)) (hp : ones? (cs.drop off) = some ps) {ns : List Nat} (hn : n ∈ ns) :
    Rep (Lent g w B ns) w (.pointer (some ⟨g.bk n, off, none⟩)) (.ptr ps) := by
  obtain ⟨_, _, vs, t, h3, h4, h5, _⟩ := hs.box n _ hB
  obtain ⟨h6, h7⟩ := ones_spec hp
  have hj' : ∀ j, j < ps.length → off + j < vs.size := fun j hj => by simp at h6; omega
  refine .ptr _ off ps (fun j => vs.getD (off + j) undef) (fun j hj => ?_) (fun j hj => ⟨.inr ⟨n, hn, by simp [hB], rfl⟩, ?_⟩) fun j c hc => ?_
  · have hlj := hj' j hj
    have e1 : vs[off + j]? = some vs[off + j] := Array.getElem?_eq_getElem hlj
    have e2 : vs.getD (off + j) undef = vs[off + j] := by simp [hlj]
    have hcs : cs[off + j]? = some (cs[off + j]'(by simp at h6; omega)) := List.getElem?_eq_getElem _
    rw [e2]
    exact (h5 _ _ _ e1 hcs).1
  · rw [cell_of_row w _ _ vs t (0, 0) h3]
    simp [hj' j hj]
  · have hj := (List.getElem?_eq_some_iff.1 hc).1
    have hlj := hj' j hj
    have e1 : vs[off + j]? = some vs[off + j] := Array.getElem?_eq_getElem hlj
    have e2 : vs.getD (off + j) undef = vs[off + j] := by simp [hlj]
    have hcs : cs[off + j]? = some (cs[off + j]'(by simp at h6; omega)) := List.getElem?_eq_getElem _
    simp only [e2]
    have hone := h7 j _ c (by rw [List.getElem?_drop]; exact hcs) hc
    exact ((h5 _ _ _ e1 hcs).2.one hone).more fun b o h => .inl h

theorem lent_caps (hs : Sim P E g a w F B H) : ∀ (caps : List (Nat × Nat)) (ps : List PV) (ns ms : List Nat), caps.foldr (fun c r => match r, B c.1 with
    | some (ps, ns), some (.cells _ cs) => match ones? (cs.drop c.2) with
      | some qs => some (PV.ptr qs :: ps, c.1 :: ns)
      | none => none
    | _, _ => none) (some ([], [])) = some (ps, ns) → (∀ n ∈ ns, n ∈ ms) →
    Reps (Lent g w B ms) w (caps.map fun c => Value.pointer (some ⟨g.bk c.1, c.2, none⟩)) ps
  | [], ps, ns, ms, h, _ => by
    simp at h
    rw [h.1]
    exact ⟨rfl, by simp⟩
  | c :: r, ps, ns, ms, h, hm => by
    simp only [List.foldr_cons] at h
    split at h
    · rename_i qs ks r' cs hr hB
      split at h
      · rename_i zs hz
        injection h with h
        injection h with h1 h2
        subst h1
        subst h2
        have ih := lent_caps hs r qs ks ms hr fun n hn => hm n (by simp [hn])
        refine ⟨by simp [ih.1], fun i v p hv hp => ?_⟩
        cases i with
        | zero =>
          simp at hv hp
          subst hv; subst hp
          exact lent_box hs hB hz (hm _ (by simp))
        | succ i => exact ih.2 i v p (by simpa using hv) (by simpa using hp)
      · cases h
    · cases h

theorem chunks_ok {sz : Nat} {ag : Bool} : ∀ (len : Nat) (ps l : List PV), chunks sz ag len ps = some l → l.length = len ∧ len * sz ≤ ps.length ∧ (∀ q ∈ l, q.cells.length = sz) ∧
    ∀ i q r c, l[i]? = some q → q.cells[r]? = some c → ps[i * sz + r]? = some c
  | 0, ps, l, h => by simp [chunks] at h; subst h; simp
  | k + 1, ps, l, h => by
    simp only [chunks] at h
    split at h
    · split at h
      · rename_i hle
        rw [Option.map_eq_some_iff] at h
        obtain ⟨r, hr, rfl⟩ := h
        obtain ⟨h1, h2, h3, h4⟩ := chunks_ok k _ r hr
        rw [List.length_drop] at h2
        refine ⟨by simp [h1], by rw [Nat.add_mul]; omega, ?_, ?_⟩
        · intro q hq
          rcases List.mem_cons.1 hq with rfl | hq
          · simp [PV.cells]; omega
          · exact h3 q hq
        · intro i q j c hi hj
          cases i with
          | zero =>
            simp at hi
            subst hi
            simp only [PV.cells] at hj
            rw [List.getElem?_take] at hj
            split at hj
            · simpa using hj
            · cases hj
          | succ i =>
            simp at hi
            have := h4 i q j c hi hj
            rw [List.getElem?_drop] at this
            rw [Nat.add_mul, ← this]
            congr 1; omega
      · cases h
    · split at h
      · rename_i p r
        split at h
        · rename_i hp
          obtain ⟨h1, h2⟩ := hp
          subst h1
          rw [Option.map_eq_some_iff] at h
          obtain ⟨r', hr, rfl⟩ := h
          obtain ⟨k1, k2, k3, k4⟩ := chunks_ok k _ r' hr
          have hcp : p.cells = [p] := by cases p <;> simp [PV.one] at h2 <;> rfl
          refine ⟨by simp [k1], by simp at k2 ⊢; omega, ?_, ?_⟩
          · intro q hq
            rcases List.mem_cons.1 hq with rfl | hq
            · simp [hcp]
            · exact k3 q hq
          · intro i q j c hi hj
            cases i with
            | zero =>
              simp at hi
              subst hi
              rw [hcp] at hj
              cases j with
              | zero => simpa using hj
              | succ j => simp at hj
            | succ i =>
              simp at hi
              have := k4 i q j c hi hj
              rw [show (i + 1) * 1 + j = (i * 1 + j) + 1 by omega]
              simpa using this
        · cases h
      · cases h

theorem lent_arr (hs : Sim P E g a w F B H) {n len : Nat} {r : RowI} {cs : List LV} {ps l : List PV} (hB : B n = some (.cells (some r) cs)) (hp : ones? (cs.take (len * r.sz)) = some ps) (hc : chunks r.sz r.ag len ps = some l) {v : Value} (hv : RepV g H w v (.arr n len)) {ns : List Nat} (hn : n ∈ ns) :
    Rep (Lent g w B ns) w v (.slc l) := by
  obtain ⟨hv, hcap⟩ := hv
  rw [hv]
  obtain ⟨_, _, vs, t, h3, h4, h5, h6⟩ := hs.box n _ hB
  obtain ⟨h7, h8⟩ := ones_spec hp
  obtain ⟨k1, k2, k3, k4⟩ := chunks_ok len ps l hc
  have hpl : ps.length = min (len * r.sz) cs.length := by rw [h7]; simp
  have hget : ∀ j p, ps[j]? = some p → j < len * r.sz → ∃ u, vs[j]? = some u ∧ u.oneCell' = true ∧ Rep (Lent g w B ns) w u p := by
    intro j p hj hlt
    have hjl := (List.getElem?_eq_some_iff.1 hj).1
    have e1 : vs[j]? = some (vs[j]'(by omega)) := Array.getElem?_eq_getElem _
    have e2 : cs[j]? = some (cs[j]'(by omega)) := List.getElem?_eq_getElem _
    obtain ⟨g1, g2⟩ := h5 j _ _ e1 e2
    exact ⟨_, e1, g1, (g2.one (h8 j _ p (by rw [List.getElem?_take, if_pos hlt]; exact e2) hj)).more fun b o h => .inl h⟩
  refine .slc _ 0 len (g.cp n) r.sz l (fun j => vs.getD j undef) k1 hcap k3 (fun j hj => ?_) (fun j hj => ?_) fun i q j c hi hj => ?_
  · have : j < ps.length := by omega
    obtain ⟨u, hu, ho, _⟩ := hget j _ (List.getElem?_eq_getElem this) hj
    rw [Array.getD_eq_getD_getElem?, hu]
    exact ho
  · refine ⟨.inr ⟨n, hn, by simp [hB], rfl⟩, ?_⟩
    have : j < ps.length := by omega
    obtain ⟨u, hu, ho, _⟩ := hget j _ (List.getElem?_eq_getElem this) hj
    rw [cell_of_row w _ _ vs t (0, 0) h3, Array.getD_eq_getD_getElem?]
    simp [hu]
  · have hj' := k4 i q j c hi hj
    have hil := (List.getElem?_eq_some_iff.1 hi).1
    have hjl := (List.getElem?_eq_some_iff.1 hj).1
    rw [k3 q (List.mem_of_getElem? hi)] at hjl
    obtain ⟨u, hu, _, hr⟩ := hget _ c hj' (by rw [← k1]; exact mul_lt_of hil hjl)
    simp only [Array.getD_eq_getD_getElem?, hu, Option.getD_some]
    exact hr

theorem arg_ok (hs : Sim P E g a w F B H) {v : Value} {x : LV} {p : PV} {ns ms : List Nat} (hv : RepV g H w v x) (h : x.arg? B = some (p, ns)) (hm : ∀ n ∈ ns, n ∈ ms) : Rep (Lent g w B ms) w v p := by
  have other : x.pure? = some p → Rep (Lent g w B ms) w v p := fun h1 => (hv.pure h1).more fun b o h => .inl h
  have pick : (match x.pure? with | some p => some (p, ([] : List Nat)) | none => none) = some (p, ns) → Rep (Lent g w B ms) w v p := by
    intro h
    split at h
    · rename_i q hq
      injection h with h
      injection h with h1 h2
      subst h1
      exact other hq
    · cases h
  cases x with
  | bp n off =>
    simp only [LV.arg?] at h
    split at h
    · rename_i r cs hB
      split at h
      · rename_i ps hp
        injection h with h
        injection h with h1 h2
        subst h1; subst h2
        have hv' : v = _ := hv
        rw [hv']
        exact lent_box hs hB hp (hm n (by simp))
      · cases h
    · cases h
  | arr n len =>
    simp only [LV.arg?] at h
    split at h
    · rename_i r cs hB
      split at h
      · rename_i ps hp
        split at h
        · rename_i l hl
          injection h with h
          injection h with h1 h2
          subst h1; subst h2
          exact lent_arr hs hB hp hl hv (hm n (by simp))
        · cases h
      · cases h
    · cases h
  | cl f c =>
    simp only [LV.arg?, Option.map_eq_some_iff] at h
    obtain ⟨⟨ps, ks⟩, h1, h2⟩ := h
    injection h2 with h2 h3
    subst h2; subst h3
    have hv' : v = _ := hv
    rw [hv']
    have := lent_caps hs c ps ks ms h1 hm
    exact .clo f _ ps (by simpa using this.1) fun j u q hu hq => this.2 j u q (by simpa using hu) hq
  | mr n =>
    simp only [LV.arg?] at h
    split at h
    · rename_i ks xs hB
      injection h with h
      injection h with h1 h2
      subst h1; subst h2
      have hv' : v = _ := hv
      rw [hv']
      obtain ⟨_, _, es, ck, h3, ⟨h8, h9⟩, h4, h5, h6, h7⟩ := hs.box n _ hB
      exact .map _ es ck ks xs (.inr ⟨n, hm n (by simp), by simp [hB], rfl⟩) h3 h8 h9 h4 h5 (fun i e k he hk => (h6 i e k he hk).more fun b o h => .inl h) fun i e k he hk => (h7 i e k he hk).more fun b o h => .inl h
    · cases h
  | _ => exact pick h

theorem args_ok (hs : Sim P E g a w F B H) : ∀ (vs : List Value) (xs : List LV) (ps : List PV) (ns ms : List Nat), vs.length = xs.length → (∀ (i : Nat) (v : Value) (x : LV), vs[i]? = some v → xs[i]? = some x → RepV g H w v x) →
    argsL B xs = some (ps, ns) → (∀ n ∈ ns, n ∈ ms) → Reps (Lent g w B ms) w vs ps
  | [], [], ps, ns, ms, _, _, h, _ => by
    simp [argsL] at h
    rw [h.1]
    exact ⟨rfl, by simp⟩
  | v :: vs, x :: xs, ps, ns, ms, hl, hr, h, hm => by
    simp only [argsL] at h
    split at h
    · rename_i p ks qs js h1 h2
      injection h with h
      injection h with h3 h4
      subst h3; subst h4
      have ih := args_ok hs vs xs qs js ms (by simpa using hl) (fun i v x hv hx => hr (i + 1) v x (by simpa using hv) (by simpa using hx)) h2 fun n hn => hm n (by simp [hn])
      refine ⟨by simp [ih.1], fun i u q hu hq => ?_⟩
      cases i with
      | zero =>
        simp at hu hq
        subst hu; subst hq
        exact arg_ok hs (hr 0 v x rfl rfl) h1 fun n hn => hm n (by simp [hn])
      | succ i => exact ih.2 i u q (by simpa using hu) (by simpa using hq)
    · cases h
  | [], _ :: _, _, _, _, hl, _, _, _ => by simp at hl
  | _ :: _, [], _, _, _, hl, _, _, _ => by simp at hl

theorem Res.repV {S' : Nat → Nat → Prop} {v : Value} {rs : List PV} (g : Gh) (h : Res S' w v rs) (hS : ∀ b o, S' b o → g.S b o) : RepV g H w v (resL rs) := by
  unfold Res at h
  split at h
  · exact Rep.more h hS
  · rename_i hne
    obtain ⟨vs, hv, hl, hr⟩ := h
    have e1 : resL rs = .tup rs := by
      unfold resL
      split
      · rename_i r; exact absurd rfl (hne r)
      · rfl
    rw [e1]
    exact ⟨vs, hv, hl, fun i u p h1 h2 => (hr i u p h1 h2).more hS⟩

/-- A call of a function whose contract is known. -/
theorem call_ok {o : Oper} {f : FuncId} {ps rs : List PV} {ns : List Nat} {na : Bool} (hg : Good P na f ps rs) (hna : ns = [] ∨ na = true)
    (hrun : ∀ (E : Env) (g : Gh) (a : Act) (w : World), Sim P E g a w F B H → ∃ vs : List Value, (execOp a.eval o).run P w = (callFunc f vs.toArray).run P w ∧ Reps (Lent g w B ns) w vs ps) :
    StepOk P o F B H { val := resL rs, rb := ns } := by
  intro E g a w hs hd _ K Q hK
  obtain ⟨vs, hr, hrep⟩ := hrun E g a w hs
  have hlt : ∀ b o, Lent g w B ns b o → b < w.heap.size := by
    rintro b o (h | ⟨n, _, hB, rfl⟩)
    · exact hs.slt b o h
    · obtain ⟨cs, hB⟩ := Option.isSome_iff_exists.1 hB
      exact hs.boxBlock hB
  have hcall := hg.2 (Lent g w B ns) w vs hlt hrep
  unfold Oper.wp
  rw [hr, hg.1 vs.toArray w]
  refine hcall.mono ?_
  rintro e w' ⟨v, S', rfl, hres, hb, hlt', hS'⟩
  have hsim := hs.grow (S' := fun b o => g.S b o ∨ S' b o) hb (fun _ _ h => .inl h) (fun b o h => ?_) (fun b o h => ?_)
  · exact hK v w' _ (hsim.put hd (hres.repV _ fun b o h => .inr h))
  · rcases h with h | h
    · exact .inl h
    · rcases hS' b o h with ⟨h1, h2⟩ | h2
      · rcases h2 with h2 | ⟨n, hn, _⟩
        · exact .inl h2
        · rcases hna with h3 | h3
          · rw [h3] at hn; cases hn
          · rw [h3] at h1; cases h1
      · exact .inr h2
  · rcases h with h | h
    · exact Nat.lt_of_lt_of_le (hs.slt b o h) hb.size
    · exact hlt' b o h

theorem lent_nil_ok {ps : List PV} {vs : List Value} {ns : List Nat} (h : Reps g.S w vs ps) : Reps (Lent g w B ns) w vs ps := h.mono (fun _ _ h => .inl h) (Agree.refl _ _)

theorem ok_callP {c : Call} {fo : Operand} {o : Oper} {u : Upd} (ho : o.op = .call c) (hc : c.callee = .value fo) (h : aCallP P B (· = u) (evo F fo) (c.args.toList.map (evo F))) : StepOk P o F B H u := by
  have argv : ∀ {E : Env} {g : Gh} {a : Act} {w : World}, Sim P E g a w F B H →
      ∀ (i : Nat) (v : Value) (x : LV), (c.args.toList.map a.eval)[i]? = some v → (c.args.toList.map (evo F))[i]? = some x → RepV g H w v x := by
    intro E g a w hs i v x hv hx
    rw [List.getElem?_map] at hv hx
    cases hi : c.args.toList[i]? with
    | none => rw [hi] at hv; cases hv
    | some y =>
      rw [hi] at hv hx
      simp at hv hx
      subst hv; subst hx
      exact hs.ev y
  have run : ∀ (a : Act) (w : World) (f : FuncId) (cv : Array Value), a.eval fo = .func (.func f) #[] cv → (execOp a.eval o).run P w = (callFunc f ((c.args.toList.map a.eval).toArray ++ cv)).run P w := by
    intro a w f cv hf
    have e1 : c.args.map a.eval = (c.args.toList.map a.eval).toArray := by apply Array.ext'; simp
    simp only [execOp, ho, resolve, hc, hf, Sem.run_bind, Sem.run_pure, Result.andThen_ok]
    simp [Deferred.ofValue, invoke, e1]
  unfold aCallP at h
  split at h
  · rename_i f cap hf
    split at h
    · rename_i ps ns hps
      obtain ⟨na, rs, h1, h2, rfl⟩ := h
      refine call_ok h1 h2 fun E g a w hs => ?_
      have hev : Rep g.S w (a.eval fo) (.clo f cap) := by have := hs.ev fo; rw [hf] at this; exact this
      cases hx : a.eval fo <;> rw [hx] at hev <;> try cases hev
      rename_i cv hcl hcr
      refine ⟨c.args.toList.map a.eval ++ cv.toList, ?_, ?_⟩
      · rw [run a w f cv hx]
        congr 2
        apply Array.ext'
        simp
      · have ha := args_ok hs _ _ ps ns ns (by simp) (argv hs) hps fun n h => h
        refine ⟨by simp [ha.1, hcl], fun i v p hv hp => ?_⟩
        rw [List.getElem?_append] at hv hp
        rw [ha.1] at hv
        split at hv
        · rename_i hi
          rw [if_pos hi] at hp
          exact ha.2 i v p hv hp
        · rename_i hi
          rw [if_neg hi] at hp
          exact (hcr (i - ps.length) v p (by simpa using hv) hp).more fun b o h => .inl h
    · exact h.elim
  · rename_i f caps hf
    split at h
    · rename_i ps ns hps
      obtain ⟨na, rs, h1, h2, rfl⟩ := h
      refine call_ok h1 h2 fun E g a w hs => ?_
      have hev := hs.ev fo
      rw [hf] at hev
      have hev' : a.eval fo = .func (.func f) #[] (caps.map fun c => Value.pointer (some ⟨g.bk c.1, c.2, none⟩)).toArray := hev
      refine ⟨c.args.toList.map a.eval ++ caps.map fun c => Value.pointer (some ⟨g.bk c.1, c.2, none⟩), ?_, ?_⟩
      · rw [run a w f _ hev']
        congr 2
        apply Array.ext'
        simp
      · refine args_ok hs _ _ ps ns ns (by simp) (fun i v x hv hx => ?_) hps fun n h => h
        rw [List.getElem?_append] at hv hx
        simp only [List.length_map] at hv hx
        split at hv
        · rename_i hi
          rw [if_pos hi] at hx
          exact argv hs i v x hv hx
        · rename_i hi
          rw [if_neg hi] at hx
          rw [List.getElem?_map] at hv hx
          cases hq : caps[i - c.args.toList.length]? with
          | none => rw [hq] at hv; cases hv
          | some q =>
            rw [hq] at hv hx
            simp at hv hx
            subst hv; subst hx
            rfl
    · exact h.elim
  · exact h.elim

/-! ### Maps -/

theorem ba_beq {a b : ByteArray} : (a == b) = true ↔ a = b := by
  constructor
  · intro h
    have h' : (a.data == b.data) = true := h
    cases a; cases b; simp at h'; simp [h']
  · rintro rfl
    show (a.data == a.data) = true
    simp

theorem sameNow_ok {S : Nat → Nat → Prop} {d : TypeDesc} {u v : Value} {x y : PV} (hu : Rep S w u x) (hv : Rep S w v y) (hx : keyOk d x = true) (hy : keyOk d y = true) : Instr.sameNow d u v = some (keyEq x y) := by
  cases x <;> try (simp [keyOk] at hx; done)
  all_goals cases d <;> try (simp [keyOk] at hx; done)
  all_goals cases y <;> try (simp [keyOk] at hy; done)
  all_goals (cases hu; cases hv)
  · simp [keyOk] at hx hy
    subst hx; subst hy
    simp [Instr.sameNow, keyEq]
  · simp [Instr.sameNow, keyEq]
  · simp [Instr.sameNow, keyEq]

theorem sameBits_ok {S : Nat → Nat → Prop} {d : TypeDesc} {u v : Value} {x y : PV} (hu : Rep S w u x) (hv : Rep S w v y) (hx : keyOk d x = true) (hy : keyOk d y = true) (n : Nat) (he : keyEq x y = true) : Instr.sameBits n v u = true := by
  cases x <;> try (simp [keyOk] at hx; done)
  all_goals cases d <;> try (simp [keyOk] at hx; done)
  all_goals cases y <;> try (simp [keyOk] at hy; done)
  all_goals (cases hu; cases hv)
  all_goals
    simp only [keyEq, Bool.and_eq_true, beq_iff_eq, ba_beq] at he
    simp [Instr.sameBits, he, ba_beq]

theorem checkKey_ok {kt : TypeId} {d : TypeDesc} {k : PV} (hd : P.underlying kt = some d) (hk : keyOk d k = true) (v : Value) (e : Bool) (n : Nat) : (Instr.checkKey e (n + 1) kt v).run P w = .ok () w := by
  cases k <;> try (simp [keyOk] at hk; done)
  all_goals cases d <;> try (simp [keyOk] at hk; done)
  all_goals simp [Instr.checkKey, run_underlying hd]

/-- Where a key stands. -/
theorem find_ok {S : Nat → Nat → Prop} {d : TypeDesc} {u : Value} {k v : PV} (hu : Rep S w u k) (hk : keyOk d k = true) : ∀ (es : List MapEntry) (ks vs : List PV) (i : Nat), es.length = ks.length → es.length = vs.length →
    (∀ (j : Nat) (e : MapEntry) (x : PV), es[j]? = some e → ks[j]? = some x → Rep S w e.key x) → (∀ x ∈ ks, keyOk d x = true) →
    (Instr.findNow d u es i = some none ∧ mget k ks vs = none ∧ mset k v ks vs = (ks ++ [k], vs ++ [v]) ∧ mdel k ks vs = (ks, vs)) ∨
    ∃ j e x y, es[j]? = some e ∧ ks[j]? = some x ∧ vs[j]? = some y ∧ Instr.findNow d u es i = some (some (i + j, e.val)) ∧ mget k ks vs = some y ∧ mset k v ks vs = (ks.set j k, vs.set j v) ∧ mdel k ks vs = (ks.eraseIdx j, vs.eraseIdx j) ∧ keyEq k x = true
  | [], [], [], i, _, _, _, _ => .inl ⟨rfl, rfl, rfl, rfl⟩
  | e :: es, x :: ks, y :: vs, i, h1, h2, hr, hko => by
    have hs := sameNow_ok hu (hr 0 e x rfl rfl) hk (hko x (by simp))
    by_cases hx : keyEq k x = true
    · refine .inr ⟨0, e, x, y, rfl, rfl, rfl, ?_, by simp [mget, hx], by simp [mset, hx], by simp [mdel, hx], hx⟩
      simp [Instr.findNow, hs, hx]
    · have hx' : keyEq k x = false := by simpa using hx
      have e1 : Instr.findNow d u (e :: es) i = Instr.findNow d u es (i + 1) := by simp [Instr.findNow, hs, hx']
      rcases find_ok (v := v) hu hk es ks vs (i + 1) (by simpa using h1) (by simpa using h2) (fun j e x he hx => hr (j + 1) e x (by simpa using he) (by simpa using hx)) (fun x hx => hko x (by simp [hx])) with ⟨a1, a2, a3, a4⟩ | ⟨j, e', x', y', b1, b2, b3, b4, b5, b6, b7, b8⟩
      · exact .inl ⟨by rw [e1, a1], by simp [mget, hx', a2], by simp [mset, hx', a3], by simp [mdel, hx', a4]⟩
      · exact .inr ⟨j + 1, e', x', y', by simpa using b1, by simpa using b2, by simpa using b3, by rw [e1, b4]; congr 3; omega, by simp [mget, hx', b5], by simp [mset, hx', b6], by simp [mdel, hx', b7], b8⟩
  | [], _ :: _, _, _, h, _, _, _ => by simp at h
  | _ :: _, [], _, _, h, _, _, _ => by simp at h
  | [], [], _ :: _, _, _, h, _, _ => by simp at h
  | _ :: _, _ :: _, [], _, _, h, _, _ => by simp at h

theorem run_findKey {kt : TypeId} {d : TypeDesc} (hd : P.underlying kt = some d) {u : Value} {es : List MapEntry} {r : Option (Nat × Value)} (h : Instr.findNow d u es 0 = some r) : (Instr.findKey kt u es).run P w = .ok r w := by
  simp [Instr.findKey, run_underlying hd, h]

theorem ok_makeMap {t : TypeId} {r : Option Operand} {o : Oper} {u : Upd} (ho : o.op = .makeMap t r) (h : aMakeMap o.dst (· = u) (r.map (evo F))) : StepOk P o F B H u := by
  unfold aMakeMap at h
  split at h
  · rename_i d hdst hr
    subst h
    have hr' : r = none := by cases r <;> simp at hr <;> rfl
    subst hr'
    intro E g a w hs hd hnew K Q hK
    obtain ⟨⟨n1, n2⟩, n3⟩ := hnew d (by simp)
    have hrun : (execOp a.eval o).run P w = .ok (.value (.map (some w.heap.size))) (w.alloc (.map #[] 0)) := by
      simp [execOp, ho, Instr.makeMap]
    have h1 := hs.newObj (d := d) (ob := .map #[] 0) (o := .map [] []) (c := 0) ⟨#[], 0, by simp only [up, if_true]; exact heap_alloc_new w _, ⟨by simp, by simp⟩, rfl, rfl, by simp, by simp⟩ (by simp) n1 n2 n3
    have h2 := h1.put hd (v := .map (some w.heap.size)) (u := { val := .mr d, wb := [(d, .map [] [])], new := [d] }) (by show _ = _; simp [up])
    exact step_fin hrun hK h2 (appB_one rfl rfl)
  · exact h.elim

theorem putMap_heap (w : World) (b : Nat) (ob ob' : Obj) (h : w.heap[b]? = some ob) : ({ w with heap := w.heap.setIfInBounds b ob' } : World).heap[b]? = some ob' := by
  have := (Array.getElem?_eq_some_iff.1 h).1
  simp [this]

theorem born_push {es : Array MapEntry} {ck : Nat} {k v : Value} (h1 : (es.toList.map (·.born)).Nodup) (h2 : ∀ x ∈ es.toList, x.born < ck) :
    (((es.push { key := k, val := v, born := ck }).toList.map (·.born)).Nodup) ∧ ∀ x ∈ (es.push { key := k, val := v, born := ck }).toList, x.born < ck + 1 := by
  refine ⟨?_, fun x hx => ?_⟩
  · simp only [Array.toList_push, List.map_append, List.map_cons, List.map_nil]
    refine List.nodup_append.2 ⟨h1, by simp, ?_⟩
    intro a ha b hb
    simp at hb
    subst hb
    obtain ⟨x, hx, rfl⟩ := List.mem_map.1 ha
    have := h2 x hx
    omega
  · simp only [Array.toList_push, List.mem_append, List.mem_singleton] at hx
    rcases hx with hx | rfl
    · have := h2 x hx; omega
    · simp

theorem born_modify {es : Array MapEntry} {ck j : Nat} {k v : Value} (h1 : (es.toList.map (·.born)).Nodup) (h2 : ∀ x ∈ es.toList, x.born < ck) :
    (((es.modify j fun e => { e with key := k, val := v }).toList.map (·.born)).Nodup) ∧ ∀ x ∈ (es.modify j fun e => { e with key := k, val := v }).toList, x.born < ck := by
  have e1 : (es.modify j fun e => { e with key := k, val := v }).toList.map (·.born) = es.toList.map (·.born) := by
    apply List.ext_getElem?
    intro i
    rw [List.getElem?_map, List.getElem?_map, Array.getElem?_toList, Array.getElem?_toList, Array.getElem?_modify]
    split
    · cases es[i]? <;> rfl
    · rfl
  refine ⟨by rw [e1]; exact h1, fun x hx => ?_⟩
  have : x.born ∈ es.toList.map (·.born) := by rw [← e1]; exact List.mem_map.2 ⟨x, hx, rfl⟩
  obtain ⟨y, hy, h⟩ := List.mem_map.1 this
  rw [← h]; exact h2 y hy

theorem born_erase {es : Array MapEntry} {ck j : Nat} (h1 : (es.toList.map (·.born)).Nodup) (h2 : ∀ x ∈ es.toList, x.born < ck) :
    (((es.toList.eraseIdx j).toArray.toList.map (·.born)).Nodup) ∧ ∀ x ∈ (es.toList.eraseIdx j).toArray.toList, x.born < ck := by
  refine ⟨?_, fun x hx => h2 x (List.mem_of_mem_eraseIdx (by simpa using hx))⟩
  exact h1.sublist (List.Sublist.map _ (by simpa using List.eraseIdx_sublist es.toList j))

/-- A map turns. -/
theorem Sim.setMap (hs : Sim P E g a w F B H) {n : Nat} {ks xs ks' xs' : List PV} {es' : Array MapEntry} {ck' : Nat} (hB : B n = some (.map ks xs)) (hn : (es'.toList.map (·.born)).Nodup ∧ ∀ x ∈ es'.toList, x.born < ck') (h1 : es'.size = ks'.length) (h2 : es'.size = xs'.length)
    (h3 : ∀ (i : Nat) (e : MapEntry) (k : PV), es'[i]? = some e → ks'[i]? = some k → Rep g.S w e.key k) (h4 : ∀ (i : Nat) (e : MapEntry) (v : PV), es'[i]? = some e → xs'[i]? = some v → Rep g.S w e.val v) :
    Sim P E g a { w with heap := w.heap.setIfInBounds (g.bk n) (.map es' ck') } F (up B n (some (.map ks' xs'))) H := by
  obtain ⟨_, hno, es, ck, hh, _⟩ := hs.box n _ hB
  have oth : ∀ k, k ≠ g.bk n → ({ w with heap := w.heap.setIfInBounds (g.bk n) (.map es' ck') } : World).heap[k]? = w.heap[k]? := fun k hk => by simp [Array.getElem?_setIfInBounds_ne (Ne.symm hk)]
  have ha : Agree g.S w { w with heap := w.heap.setIfInBounds (g.bk n) (.map es' ck') } := Agree.of_heap fun b o hS => oth b (by rintro rfl; exact hno o hS)
  exact hs.setObj hB rfl rfl rfl (by simp) oth ⟨es', ck', putMap_heap w _ _ _ hh, hn, h1, h2, fun i e k he hk => (h3 i e k he hk).agree ha, fun i e k he hk => (h4 i e k he hk).agree ha⟩ (by simp)

theorem ok_mapUpdate {t : TypeId} {m k v : Operand} {o : Oper} {u : Upd} (ho : o.op = .mapUpdate t m k v) (h : aMapUpdate P B (· = u) t (evo F m) (evo F k) (evo F v)) : StepOk P o F B H u := by
  unfold aMapUpdate at h
  split at h
  · rename_i kt et ht
    split at h
    · rename_i n kp vp hm hk hv
      split at h
      · rename_i ks vs hB
        obtain ⟨⟨d, hd, hko, hks⟩, rfl⟩ := h
        intro E g a w hs hdst _ K Q hK
        have hev := hs.ev m
        rw [hm] at hev
        have hev' : a.eval m = .map (some (g.bk n)) := hev
        have hkr := (hs.ev k).pure hk
        have hvr := (hs.ev v).pure hv
        obtain ⟨_, _, es, ck, hh, ⟨hnd, hbn⟩, h1, h2, h3, h4⟩ := hs.box n _ hB
        have hget : (getObj (g.bk n)).run P w = .ok (.map es ck) w := by simp [getObj, Sem.run, hh]
        have hset : ∀ ob, (setObj (g.bk n) ob).run P w = .ok () { w with heap := w.heap.setIfInBounds (g.bk n) ob } := fun ob => by simp [setObj, Sem.run, hh]
        have hck := checkKey_ok (w := w) hd hko (a.eval k) false 9999
        rcases find_ok (v := vp) hkr hko es.toList ks vs 0 (by simpa using h1) (by simpa using h2) (fun j e x he hx => h3 j e x (by simpa using he) hx) hks with ⟨a1, a2, a3, a4⟩ | ⟨j, e, x, y, b1, b2, b3, b4, b5, b6, b7, b8⟩
        · have hrun : (execOp a.eval o).run P w = .ok .skip { w with heap := w.heap.setIfInBounds (g.bk n) (.map (es.push { key := a.eval k, val := a.eval v, born := ck }) (ck + 1)) } := by
            simp only [execOp, ho, Instr.mapUpdate, Sem.run_bind, run_underlying ht, Result.andThen_ok, hev', hget, hck, run_findKey hd a1, hset]
            rfl
          have h5 := hs.setMap (ks' := ks ++ [kp]) (xs' := vs ++ [vp]) (es' := es.push { key := a.eval k, val := a.eval v, born := ck }) (ck' := ck + 1) hB (born_push hnd hbn) (by simp [h1]) (by simp [h2]) ?_ ?_
          · rw [a3] at hK
            exact step_finS hrun hK (h5.put hdst (v := undef) (u := { val := .undef, rb := [n], wb := [(n, .map (ks ++ [kp]) (vs ++ [vp]))] }) rfl) (appB_one rfl rfl)
          · intro i e x he hx
            rw [Array.getElem?_push] at he
            split at he
            · rename_i hi
              injection he with he
              subst he
              rw [hi, h1, List.getElem?_append_right (Nat.le_refl _)] at hx
              simp at hx
              subst hx
              exact hkr
            · rw [List.getElem?_append_left (by have := (Array.getElem?_eq_some_iff.1 he).1; omega)] at hx
              exact h3 i e x he hx
          · intro i e x he hx
            rw [Array.getElem?_push] at he
            split at he
            · rename_i hi
              injection he with he
              subst he
              rw [hi, h2, List.getElem?_append_right (Nat.le_refl _)] at hx
              simp at hx
              subst hx
              exact hvr
            · rw [List.getElem?_append_left (by have := (Array.getElem?_eq_some_iff.1 he).1; omega)] at hx
              exact h4 i e x he hx
        · have b1' : es[j]? = some e := by simpa using b1
          have hj := (Array.getElem?_eq_some_iff.1 b1').1
          have hsb := sameBits_ok hkr (h3 j e x b1' b2) hko (hks x (List.mem_of_getElem? b2)) 10000 b8
          have hrun : (execOp a.eval o).run P w = .ok .skip { w with heap := w.heap.setIfInBounds (g.bk n) (.map (es.modify j fun e => { e with key := a.eval k, val := a.eval v }) ck) } := by
            simp only [Nat.zero_add] at b4
            simp only [execOp, ho, Instr.mapUpdate, Sem.run_bind, run_underlying ht, Result.andThen_ok, hev', hget, hck, run_findKey hd b4, Instr.keyThatStays, b1', Option.map_some, Option.getD_some, hsb, if_true, Sem.run_pure, hset]
          have h5 := hs.setMap (ks' := ks.set j kp) (xs' := vs.set j vp) (es' := es.modify j fun e => { e with key := a.eval k, val := a.eval v }) (ck' := ck) hB (born_modify hnd hbn) (by simp [h1]) (by simp [h2]) ?_ ?_
          · rw [b6] at hK
            exact step_finS hrun hK (h5.put hdst (v := undef) (u := { val := .undef, rb := [n], wb := [(n, .map (ks.set j kp) (vs.set j vp))] }) rfl) (appB_one rfl rfl)
          · intro i e' x' he hx
            rw [Array.getElem?_modify] at he
            by_cases hij : j = i
            · subst hij
              rw [if_pos rfl, b1'] at he
              simp at he
              subst he
              rw [List.getElem?_set, if_pos rfl, if_pos (by omega)] at hx
              injection hx with hx
              subst hx
              exact hkr
            · rw [if_neg hij] at he
              rw [List.getElem?_set, if_neg hij] at hx
              exact h3 i e' x' he hx
          · intro i e' x' he hx
            rw [Array.getElem?_modify] at he
            by_cases hij : j = i
            · subst hij
              rw [if_pos rfl, b1'] at he
              simp at he
              subst he
              rw [List.getElem?_set, if_pos rfl, if_pos (by omega)] at hx
              injection hx with hx
              subst hx
              exact hvr
            · rw [if_neg hij] at he
              rw [List.getElem?_set, if_neg hij] at hx
              exact h4 i e' x' he hx
      · exact h.elim
    · exact h.elim
  · exact h.elim

theorem ofZ_ok {t : TypeId} {p : PV} (h : ofZ P t = some p) (S : Nat → Nat → Prop) (w : World) : ∃ z, (zeroValue t).run P w = .ok z w ∧ Rep S w z p := by
  unfold ofZ at h
  have one : ∀ {v : Value} {q : PV}, (ofC v).one? = some q → Rep S w v q := fun {v q} hq => (repV_ofC ⟨S, fun _ => 0, fun _ => undef, fun _ => 0⟩ (fun _ => none) w v).one hq
  split at h
  · rename_i cs hz
    split at h
    · rename_i ps hps
      split at h
      · rename_i hok
        injection h with h
        subst h
        obtain ⟨h1, h2, _⟩ := zOk_spec hz hok
        obtain ⟨h3, h4⟩ := ones_spec hps
        refine ⟨_, run_zeroValue hz w, .agg cs ps (by simpa using h3.symm) h2 fun j v c hv hc => one (h4 j _ c (by rw [List.getElem?_map]; simp [hv]) hc)⟩
      · cases h
    · cases h
  · rename_i z hne hz
    exact ⟨z, run_zeroValue hz w, one h⟩
  · cases h

theorem ok_lookup {t : TypeId} {m k : Operand} {ok : Bool} {o : Oper} {u : Upd} (ho : o.op = .lookup t m k ok) (h : aLookup P B (· = u) t (evo F m) (evo F k) ok) : StepOk P o F B H u := by
  unfold aLookup at h
  split at h
  · rename_i kt et ht
    split at h
    · rename_i ks vs ns kp zp hm hk hz
      obtain ⟨⟨d, hd, hko, hks⟩, rfl⟩ := h
      refine step_val rfl rfl fun E g a w hs => ?_
      have hkr := (hs.ev k).pure hk
      obtain ⟨z, hz1, hz2⟩ := ofZ_ok hz g.S w
      -- the entries that are read
      have hes : ∃ es : Array MapEntry, (∀ {α : Type} (K : Array MapEntry → Sem α), (do
            let es ← match a.eval m with
              | .map none => pure #[]
              | .map (some r) => do
                let .map es _ ← getObj r | stuck "Lookup: map expected"
                pure es
              | _ => stuck "Lookup: map expected"
            K es : Sem α).run P w = (K es).run P w) ∧ es.size = ks.length ∧ es.size = vs.length ∧
          (∀ (i : Nat) (e : MapEntry) (k : PV), es[i]? = some e → ks[i]? = some k → Rep g.S w e.key k) ∧ ∀ (i : Nat) (e : MapEntry) (v : PV), es[i]? = some e → vs[i]? = some v → Rep g.S w e.val v := by
        have hev := hs.ev m
        unfold LV.map? at hm
        split at hm
        · rename_i ks' vs' hmm
          injection hm with hm
          injection hm with hm1 hm2
          injection hm2 with hm2 hm3
          subst hm1; subst hm2
          rw [hmm] at hev
          have hev' : Rep g.S w (a.eval m) (.map ks' vs') := hev
          cases hx : a.eval m <;> rw [hx] at hev' <;> try cases hev'
          · exact ⟨#[], fun K => by simp, rfl, rfl, by simp, by simp⟩
          · rename_i b es ck hS hh hnd hbn h1 h3 h2 h4
            exact ⟨es, fun K => by simp [getObj, Sem.run, hh], h1, h2, h3, h4⟩
        · rename_i n hmm
          split at hm
          · rename_i ks' vs' hB
            injection hm with hm
            injection hm with hm1 hm2
            injection hm2 with hm2 hm3
            subst hm1; subst hm2
            rw [hmm] at hev
            have hev' : a.eval m = .map (some (g.bk n)) := hev
            obtain ⟨_, _, es, ck, hh, ⟨hnd, hbn⟩, h1, h2, h3, h4⟩ := hs.box n _ hB
            exact ⟨es, fun K => by rw [hev']; simp [getObj, Sem.run, hh], h1, h2, h3, h4⟩
          · cases hm
        · cases hm
      obtain ⟨es, hes1, h1, h2, h3, h4⟩ := hes
      have hrun : ∀ (r : Option (Nat × Value)), Instr.findNow d (a.eval k) es.toList 0 = some r →
          (execOp a.eval o).run P w = .ok (.value (if ok then .tuple #[(r.map (·.2)).getD z, .bool r.isSome] else (r.map (·.2)).getD z)) w := by
        intro r hr
        have hck := checkKey_ok (w := w) hd hko (a.eval k) es.isEmpty 9999
        have : (Instr.lookup t (a.eval m) (a.eval k) ok).run P w = .ok (if ok then .tuple #[(r.map (·.2)).getD z, .bool r.isSome] else (r.map (·.2)).getD z) w := by
          unfold Instr.lookup
          rw [Sem.run_bind, run_underlying ht]
          simp only [Result.andThen_ok]
          refine (hes1 _).trans ?_
          cases r with
          | none => cases ok <;> simp [hck, run_findKey hd hr, hz1]
          | some x => cases ok <;> simp [hck, run_findKey hd hr]
        simp only [execOp, ho, Sem.run_bind, this, Result.andThen_ok, Sem.run_pure]
      rcases find_ok (v := kp) hkr hko es.toList ks vs 0 (by simpa using h1) (by simpa using h2) (fun j e x he hx => h3 j e x (by simpa using he) hx) hks with ⟨a1, a2, a3, a4⟩ | ⟨j, e, x, y, b1, b2, b3, b4, b5, b6, b7, b8⟩
      · refine ⟨_, hrun none a1, ?_⟩
        rw [a2]
        cases ok
        · exact hz2
        · refine ⟨_, rfl, rfl, fun i v p hv hp => ?_⟩
          match i with
          | 0 => simp at hv hp; subst hv; subst hp; exact hz2
          | 1 => simp at hv hp; subst hv; subst hp; exact Rep.bool _
          | i + 2 => simp at hv
      · refine ⟨_, hrun _ b4, ?_⟩
        have hyr := h4 j e y (by simpa using b1) b3
        rw [b5]
        cases ok
        · exact hyr
        · refine ⟨_, rfl, rfl, fun i v p hv hp => ?_⟩
          match i with
          | 0 => simp at hv hp; subst hv; subst hp; exact hyr
          | 1 => simp at hv hp; subst hv; subst hp; exact Rep.bool _
          | i + 2 => simp at hv
    · exact h.elim
  · exact h.elim

theorem ok_delete {c : Call} {m k : Operand} {t t' : TypeId} {o : Oper} {u : Upd} (ho : o.op = .call c) (hc : c.callee = .builtin .delete) (ha : c.args.toList = [m, k]) (hat : c.argTypes.toList = [t, t'])
    (h : aDelete P B (· = u) t (evo F m) (evo F k)) : StepOk P o F B H u := by
  have ha' : c.args = #[m, k] := Array.ext' ha
  have hat' : c.argTypes = #[t, t'] := Array.ext' hat
  unfold aDelete at h
  split at h
  · rename_i kt et ht
    split at h
    · rename_i n kp hm hk
      split at h
      · rename_i ks vs hB
        obtain ⟨⟨d, hd, hko, hks⟩, rfl⟩ := h
        intro E g a w hs hdst _ K Q hK
        have hev := hs.ev m
        rw [hm] at hev
        have hev' : a.eval m = .map (some (g.bk n)) := hev
        have hkr := (hs.ev k).pure hk
        obtain ⟨_, _, es, ck, hh, ⟨hnd, hbn⟩, h1, h2, h3, h4⟩ := hs.box n _ hB
        have hget : (getObj (g.bk n)).run P w = .ok (.map es ck) w := by simp [getObj, Sem.run, hh]
        have hset : ∀ ob, (setObj (g.bk n) ob).run P w = .ok () { w with heap := w.heap.setIfInBounds (g.bk n) ob } := fun ob => by simp [setObj, Sem.run, hh]
        have hck := checkKey_ok (w := w) hd hko (a.eval k) es.isEmpty 9999
        have fin : ∀ (es' : Array MapEntry), ((es'.toList.map (·.born)).Nodup ∧ ∀ x ∈ es'.toList, x.born < ck) → es'.size = (mdel kp ks vs).1.length → es'.size = (mdel kp ks vs).2.length →
            (∀ (i : Nat) (e : MapEntry) (k : PV), es'[i]? = some e → (mdel kp ks vs).1[i]? = some k → Rep g.S w e.key k) → (∀ (i : Nat) (e : MapEntry) (v : PV), es'[i]? = some e → (mdel kp ks vs).2[i]? = some v → Rep g.S w e.val v) →
            (execOp a.eval o).run P w = .ok (.value (.tuple #[])) { w with heap := w.heap.setIfInBounds (g.bk n) (.map es' ck) } → o.wp P a w K Q := by
          intro es' e0 e1 e2 e3 e4 hrun
          have h5 := hs.setMap (ck' := ck) hB e0 e1 e2 e3 e4
          exact step_fin hrun hK (h5.put hdst (v := .tuple #[]) (u := { val := .tup [], rb := [n], wb := [(n, .map (mdel kp ks vs).1 (mdel kp ks vs).2)] }) ⟨_, rfl, rfl, by simp⟩) (appB_one rfl rfl)
        have run0 : ∀ (r : Option (Nat × Value)) (es' : Array MapEntry), Instr.findNow d (a.eval k) es.toList 0 = some r → (match r with | some (i, _) => es.eraseIdxIfInBounds i | none => es) = es' →
            (execOp a.eval o).run P w = .ok (.value (.tuple #[])) { w with heap := w.heap.setIfInBounds (g.bk n) (.map es' ck) } := by
          intro r es' hr he
          subst he
          simp only [execOp, ho, resolve, hc, ha', hat', invoke, builtin, Builtin.delete_, List.map_toArray, List.map_cons, List.map_nil, Sem.run_bind, Sem.run_pure, Result.andThen_ok]
          cases r with
          | none => simp [run_underlying ht, hev', hget, hck, run_findKey hd hr, hset]
          | some x => simp [run_underlying ht, hev', hget, hck, run_findKey hd hr, hset]
        rcases find_ok (v := kp) hkr hko es.toList ks vs 0 (by simpa using h1) (by simpa using h2) (fun j e x he hx => h3 j e x (by simpa using he) hx) hks with ⟨a1, a2, a3, a4⟩ | ⟨j, e, x, y, b1, b2, b3, b4, b5, b6, b7, b8⟩
        · exact fin es ⟨hnd, hbn⟩ (by rw [a4]; exact h1) (by rw [a4]; exact h2) (by rw [a4]; exact h3) (by rw [a4]; exact h4) (run0 none es a1 rfl)
        · have hj : j < es.size := by have := (List.getElem?_eq_some_iff.1 b1).1; simpa using this
          have he : es.eraseIdxIfInBounds j = (es.toList.eraseIdx j).toArray := by
            apply Array.ext'
            simp [Array.eraseIdxIfInBounds, hj]
          simp only [Nat.zero_add] at b4
          refine fin _ (born_erase hnd hbn) ?_ ?_ ?_ ?_ (run0 _ (es.toList.eraseIdx j).toArray b4 he)
          · rw [b7]; simp [List.length_eraseIdx, h1]
          · rw [b7]; simp [List.length_eraseIdx, h2]
          · rw [b7]
            intro i e' x' hi hx'
            rw [List.getElem?_toArray, List.getElem?_eraseIdx] at hi
            rw [List.getElem?_eraseIdx] at hx'
            split at hi
            · rename_i hlt; rw [if_pos hlt] at hx'; exact h3 i e' x' (by simpa using hi) hx'
            · rename_i hlt; rw [if_neg hlt] at hx'; exact h3 _ e' x' (by simpa using hi) hx'
          · rw [b7]
            intro i e' x' hi hx'
            rw [List.getElem?_toArray, List.getElem?_eraseIdx] at hi
            rw [List.getElem?_eraseIdx] at hx'
            split at hi
            · rename_i hlt; rw [if_pos hlt] at hx'; exact h4 i e' x' (by simpa using hi) hx'
            · rename_i hlt; rw [if_neg hlt] at hx'; exact h4 _ e' x' (by simpa using hi) hx'
      · exact h.elim
    · exact h.elim
  · exact h.elim

theorem ok_clear {c : Call} {m : Operand} {t : TypeId} {o : Oper} {u : Upd} (ho : o.op = .call c) (hc : c.callee = .builtin .clear) (ha : c.args.toList = [m]) (hat : c.argTypes.toList = [t])
    (h : aClear P B (· = u) t (evo F m)) : StepOk P o F B H u := by
  have ha' : c.args = #[m] := Array.ext' ha
  have hat' : c.argTypes = #[t] := Array.ext' hat
  unfold aClear at h
  split at h
  · rename_i kt et ht
    split at h
    · rename_i n hm
      split at h
      · rename_i ks vs hB
        subst h
        intro E g a w hs hdst _ K Q hK
        have hev := hs.ev m
        rw [hm] at hev
        have hev' : a.eval m = .map (some (g.bk n)) := hev
        obtain ⟨_, _, es, ck, hh, ⟨hnd, hbn⟩, h1, h2, h3, h4⟩ := hs.box n _ hB
        have hget : (getObj (g.bk n)).run P w = .ok (.map es ck) w := by simp [getObj, Sem.run, hh]
        have hset : ∀ ob, (setObj (g.bk n) ob).run P w = .ok () { w with heap := w.heap.setIfInBounds (g.bk n) ob } := fun ob => by simp [setObj, Sem.run, hh]
        have hrun : (execOp a.eval o).run P w = .ok (.value (.tuple #[])) { w with heap := w.heap.setIfInBounds (g.bk n) (.map #[] ck) } := by
          simp only [execOp, ho, resolve, hc, ha', hat', invoke, builtin, Builtin.clear_, List.map_toArray, List.map_cons, List.map_nil, Sem.run_bind, Sem.run_pure, Result.andThen_ok]
          simp [run_underlying ht, hev', hget, hset]
        have h5 := hs.setMap (ks' := []) (xs' := []) (es' := #[]) (ck' := ck) hB ⟨by simp, by simp⟩ rfl rfl (by simp) (by simp)
        exact step_fin hrun hK (h5.put hdst (v := .tuple #[]) (u := { val := .tup [], rb := [n], wb := [(n, .map [] [])] }) ⟨_, rfl, rfl, by simp⟩) (appB_one rfl rfl)
      · exact h.elim
    · exact h.elim
  · exact h.elim

end
end Go.Am
