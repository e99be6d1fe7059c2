/- The abstract machine, part 20: contracts of the library's functions that sort a slice in place and that make room; what they do in memory is a hypothesis here. -/
import Derived.Test.YtjbgfihkdeeonaaAmSixteen
import Derived.Sort.OwnSortedInts
set_option linter.unusedSimpArgs false
set_option linter.unusedVariables false
namespace Go.Am
open Go.RowKit Go.Sort

def ints (l : List Int) : List LV := l.map fun n => .pv (.int .i64 n)

theorem sortX {P : Program} {f : FuncId} (hcall : ∀ (as : Array Value) (w : World), (callFunc f as).run P w = .ok (.enter f as) w)
    (hsort : ∀ (blk off cap : Nat) (zs : List Int) (w : World), Holds (Value.int .i64) w blk off zs.toArray → blk < w.heap.size → zs.length < 4611686018427387904 →
      Calls P f #[.slice (some ⟨blk, off, none⟩) zs.length cap] w fun e w' => e = .returned (.tuple #[]) ∧ ∃ n os, w' = grow (putRow (Value.int .i64) (Sort.ahead w n) blk off (zs.mergeSort fun x y => decide (x ≤ y)).toArray) os)
    (l : List Int) (hl : l.length < 4611686018427387904) (ri : RowI) :
    GoodX P f ⟨[.arr 1000 l.length], [(1000, .cells (some ri) (ints l))], .tup [], [(1000, .cells (some ri) (ints (l.mergeSort fun x y => decide (x ≤ y))))]⟩ := by
  refine ⟨hcall, fun g w vs hlent hvl hr => ?_⟩
  obtain ⟨v, rfl⟩ : ∃ v, vs = [v] := by
    cases vs with
    | nil => simp at hvl
    | cons v r => cases r with
      | nil => exact ⟨v, rfl⟩
      | cons _ _ => simp at hvl
  have hv := hr 0 v (.arr 1000 l.length) rfl rfl
  obtain ⟨rfl, hcp⟩ := hv
  obtain ⟨h1, ⟨cur, t, hh, hcl, hcc, hri⟩, h3⟩ := hlent.box 1000 _ rfl
  have hlen : (ints l).length = l.length := by simp [ints]
  have hcells : ∀ j, (hj : j < l.length) → cur[j]? = some (.int .i64 l[j]) := by
    intro j hj
    have hj' : j < cur.size := by omega
    obtain ⟨u, hu⟩ : ∃ u, cur[j]? = some u := ⟨cur[j], by simp [hj']⟩
    have h2 : Rep g.S w u (.int .i64 l[j]) := (hcc j u (.pv (.int .i64 l[j])) hu (by simp [ints, hj])).2
    cases h2
    exact hu
  have hH : Holds (Value.int .i64) w (g.bk 1000) 0 l.toArray := by
    intro j hj
    have hj' : j < l.length := by simpa using hj
    refine ⟨?_, by simp [World.frozen?, hh]⟩
    simp only [World.cell?, hh, Nat.zero_add, Option.isSome_none, Bool.false_eq_true, if_false, hcells j hj']
    simp [hj']
  refine (hsort (g.bk 1000) 0 (g.cp 1000) l w hH h3 hl).mono ?_
  rintro e w' ⟨rfl, n, os, rfl⟩
  have hbk := heap_sortedI (n := n) (os := os) (l.mergeSort fun x y => decide (x ≤ y)).toArray hh
  have hg := grownBy_sortedI (w := w) (g := g.bk 1000) (n := n) (os := os) (l.mergeSort fun x y => decide (x ≤ y)).toArray
  have hml : (l.mergeSort fun x y => decide (x ≤ y)).length = l.length := List.length_mergeSort _
  have hag : Agree g.S w (grow (putRow (Value.int .i64) (Sort.ahead w n) (g.bk 1000) 0 (l.mergeSort fun x y => decide (x ≤ y)).toArray) os) := by
    refine Agree.of_heap fun b o hs => hg.block b (hlent.slt b o hs) ?_
    rintro e
    injection e with e
    subst e
    exact h1 o hs
  refine ⟨_, g, rfl, ⟨#[], rfl, rfl, by simp⟩, ⟨hg.os, hg.tape, hg.output, hg.size, fun k hk => hg.block k hk.1 ?_⟩, ⟨?_, ?_, ?_⟩, fun _ _ _ => ⟨rfl, rfl⟩, ?_, fun b i hs => .inl hs⟩
  · rintro e
    injection e with e
    exact hk.2 1000 (by simp [keys]) e
  · intro m o hm
    have : m = 1000 ∧ o = .cells (some ri) (ints (l.mergeSort fun x y => decide (x ≤ y))) := by
      simp only [lk] at hm
      split at hm
      · rename_i e; injection hm with hm; exact ⟨e.symm, hm.symm⟩
      · cases hm
    obtain ⟨rfl, rfl⟩ := this
    refine ⟨h1, ⟨_, t, hbk, by simp [ints, putCells]; omega, ?_, ?_⟩, by have := hg.size; omega⟩
    · intro j u c hu hc
      simp only [ints, List.getElem?_map] at hc
      cases hq : (l.mergeSort fun x y => decide (x ≤ y))[j]? with
      | none => rw [hq] at hc; cases hc
      | some q =>
        rw [hq] at hc
        injection hc with hc
        subst hc
        have hj := (List.getElem?_eq_some_iff.1 hq).1
        obtain ⟨_, hq'⟩ := List.getElem?_eq_some_iff.1 hq
        have hjc : j < cur.size := by omega
        have : u = .int .i64 q := by
          simp [putCells, hj, hjc] at hu
          rw [← hu, ← hq', if_pos (by omega), List.getElem?_eq_getElem hj]
          rfl
        subst this
        exact ⟨rfl, Rep.int _ _⟩
    · intro r hr'
      obtain ⟨e1, e2, e3⟩ := hri r hr'
      exact ⟨e1, by simpa [putCells] using e2, e3⟩
  · intro a b ha hb hne
    simp [keys] at ha hb
    omega
  · intro b i hs
    have := hlent.slt b i hs
    have := hg.size
    omega
  · intro m hm ho
    simp [keys] at hm
    subst hm
    exact ho.2 1000 (by simp [keys]) rfl

/-- Room for none: the empty slice itself. -/
theorem growX_zero {P : Program} {f : FuncId} (hcall : ∀ (as : Array Value) (w : World), (callFunc f as).run P w = .ok (.enter f as) w)
    (hroom : ∀ (base : Option Addr) (l c n : Nat) (w : World), l ≤ c → c ≤ 9223372036854775807 → n ≤ 9223372036854775807 → l + n ≤ c → Calls P f #[.slice base l c, .int .i64 n] w fun e w' => e = .returned (.slice base l c) ∧ w' = w) :
    GoodX P f ⟨[.full [], .pv (.int .i64 0)], [], .full [], []⟩ := by
  refine ⟨hcall, fun g w vs hlent hvl hr => ?_⟩
  obtain ⟨v, u, rfl⟩ : ∃ v u, vs = [v, u] := by
    match vs, hvl with
    | [v, u], _ => exact ⟨v, u, rfl⟩
  obtain ⟨hrep, A, rfl⟩ := hr 0 v (.full []) rfl rfl
  have hu : Rep g.S w u (.int .i64 0) := hr 1 u (.pv (.int .i64 0)) rfl rfl
  cases hu
  refine (hroom A 0 0 0 w (Nat.le_refl _) (by omega) (by omega) (Nat.le_refl _)).mono ?_
  rintro e w' ⟨rfl, rfl⟩
  exact ⟨_, g, rfl, ⟨hrep, A, rfl⟩, BelowO.refl _ _, hlent, fun n hn => by simp [keys] at hn, fun n hn => by simp [keys] at hn, fun b i h => .inl h⟩

/-- Room for some: a new array. -/
theorem growX_some {P : Program} {f : FuncId} {t : TypeId} {i0 : TypeInfo} {z : Value} (hcall : ∀ (as : Array Value) (w : World), (callFunc f as).run P w = .ok (.enter f as) w)
    (hgrow : ∀ (base : Option Addr) (l c n : Nat) (cs : List Value) (w : World), l ≤ c → c < l + n → (l + n) * i0.bytes ≤ 140737488355328 → l + n ≤ 4611686018427387904 → cs.length = c * i0.size → (base = none → c = 0) →
      (∀ a, base = some a → ∀ j v, cs[j]? = some v → w.cell? (a.add j) = some v) → Calls P f #[.slice base l c, .int .i64 n] w fun e w' => e = .returned (.slice (some ⟨w.heap.size, 0, none⟩) l (grownCap w (l + n) c t)) ∧
        w' = w.drew.alloc (.cells (cs.toArray ++ Builtin.zeroCells z.cells (l + n - c) ++ Builtin.zeroCells z.cells (grownCap w (l + n) c t - (l + n))) t))
    (hz : z.cells.size = P.cellsOf t) (n : Nat) (hn : 0 < n) (hb : n * i0.bytes ≤ 140737488355328) (h63 : n ≤ 4611686018427387904) :
    GoodX P f ⟨[.full [], .pv (.int .i64 n)], [], .arr 6 0, [(6, .cells (some (P.rowI t)) [])]⟩ := by
  refine ⟨hcall, fun g w vs hlent hvl hr => ?_⟩
  obtain ⟨v, u, rfl⟩ : ∃ v u, vs = [v, u] := by
    match vs, hvl with
    | [v, u], _ => exact ⟨v, u, rfl⟩
  obtain ⟨hrep, A, rfl⟩ := hr 0 v (.full []) rfl rfl
  have hu : Rep g.S w u (.int .i64 n) := hr 1 u (.pv (.int .i64 n)) rfl rfl
  cases hu
  refine (hgrow A 0 0 n [] w (Nat.le_refl _) (by omega) (by simpa using hb) (by simpa using h63) (by simp) (fun _ => rfl) (by simp)).mono ?_
  rintro e w' ⟨rfl, rfl⟩
  have hge := grownCap_ge w n 0 t
  have hmx := grownCap_le_maxLen w n 0 t (by simp only [maxLen]; omega)
  simp only [Nat.zero_add, Nat.sub_zero, List.length_nil] at *
  have hsz : (w.drew.alloc (.cells (#[] ++ Builtin.zeroCells z.cells n ++ Builtin.zeroCells z.cells (grownCap w n 0 t - n)) t)).heap.size = w.heap.size + 1 := by simp [World.alloc]
  have hold : ∀ k, k < w.heap.size → (w.drew.alloc (.cells (#[] ++ Builtin.zeroCells z.cells n ++ Builtin.zeroCells z.cells (grownCap w n 0 t - n)) t)).heap[k]? = w.heap[k]? := fun k hk => Below.heap_alloc w.drew _ _ hk
  have hnew : (w.drew.alloc (.cells (#[] ++ Builtin.zeroCells z.cells n ++ Builtin.zeroCells z.cells (grownCap w n 0 t - n)) t)).heap[w.heap.size]? = some (.cells (#[] ++ Builtin.zeroCells z.cells n ++ Builtin.zeroCells z.cells (grownCap w n 0 t - n)) t (0, 0)) := by
    show (w.drew.heap.push _)[w.heap.size]? = _
    exact Array.getElem?_push_size
  refine ⟨_, ⟨g.S, fun k => if k = 6 then w.heap.size else g.bk k, g.hd, fun k => if k = 6 then grownCap w n 0 t else g.cp k⟩, rfl, ⟨by simp, by simp⟩, ⟨rfl, rfl, rfl, by omega, fun k hk => hold k hk.1⟩, ⟨?_, ?_, ?_⟩, fun m hm => by simp [keys] at hm, ?_, fun b i h => .inl h⟩
  · intro m o hm
    have : m = 6 ∧ o = .cells (some (P.rowI t)) [] := by
      simp only [lk] at hm
      split at hm
      · rename_i e; injection hm with hm; exact ⟨e.symm, hm.symm⟩
      · cases hm
    obtain ⟨rfl, rfl⟩ := this
    refine ⟨fun i hs => by have := hlent.slt _ _ hs; simp at this, ⟨_, t, by simpa using hnew, by simp, by simp, ?_⟩, by simp [hsz]⟩
    intro r hr'
    injection hr' with hr'
    subst hr'
    refine ⟨rfl, ?_, by simpa using hmx⟩
    simp only [Program.rowI, if_true, Array.size_append, Array.size_empty, Nat.zero_add]
    rw [size_zeroCells, size_zeroCells, hz, ← Nat.add_mul]
    congr 1
    omega
  · intro a b ha hb hne
    simp [keys] at ha hb
    omega
  · intro b i hs
    have := hlent.slt b i hs
    omega
  · intro m hm ho
    simp [keys] at hm
    subst hm
    have := ho.1
    simp at this

/-- A new slice of numbers is a result that reaches new memory alone. -/
theorem good_new {P : Program} {f : FuncId} {args : List PV} {l : List Int} {d : Nat} {ri : RowI} (hri : ri.sz = 1) (h : GoodX P f ⟨args.map .pv, [], .arr d l.length, [(d, .cells (some ri) (ints l))]⟩) : Good P true f args [.slc (l.map fun n => .int .i64 n)] := by
  refine ⟨h.1, fun S w vs hS hr => ?_⟩
  refine (h.2 ⟨S, fun _ => 0, fun _ => undef, fun _ => 0⟩ w vs ⟨fun n o hn => by simp [lk] at hn, fun n m hn => by simp [keys] at hn, hS⟩ (by simpa using hr.1) (fun i v x hv hx => ?_)).mono ?_
  · rw [List.getElem?_map] at hx
    cases hp : args[i]? with
    | none => rw [hp] at hx; cases hx
    | some p => rw [hp] at hx; injection hx with hx; subst hx; exact hr.2 i v p hv hp
  · rintro e w' ⟨v, g', he, hv, hb, hl, _, hn, _⟩
    obtain ⟨rfl, hcp⟩ := hv
    obtain ⟨h1, ⟨cur, t, hh, hcl, hcc, hr'⟩, h3⟩ := hl.box d (.cells (some ri) (ints l)) (by simp [lk])
    have hlen : (ints l).length = l.length := by simp [ints]
    have hnew : w.heap.size ≤ g'.bk d := by
      have := hn d (by simp [keys])
      simp only [OldX, keys, List.map_nil, List.not_mem_nil, false_implies, implies_true, and_true] at this
      omega
    refine ⟨_, fun b _ => b = g'.bk d, he, ?_, ⟨hb.os, hb.tape, hb.output, hb.size, fun k hk => hb.block k ⟨hk, by simp [keys]⟩⟩, fun b o h => by simp only at h; omega, fun b o h => .inr (by simp only at h; omega)⟩
    refine Rep.slc (g'.bk d) 0 l.length (g'.cp d) 1 _ (fun j => .int .i64 (l.getD j 0)) (by simp) hcp (by intro e he; obtain ⟨n, _, rfl⟩ := List.mem_map.1 he; rfl) (fun _ _ => rfl) (fun j hj => ⟨rfl, ?_⟩) (fun i e j c he hc => ?_)
    · have hj' : j < l.length := by simpa using hj
      have hjc : j < cur.size := by omega
      obtain ⟨u, hu⟩ : ∃ u, cur[j]? = some u := ⟨cur[j], by simp [hjc]⟩
      have h2 : Rep g'.S w' u (.int .i64 l[j]) := (hcc j u (.pv (.int .i64 l[j])) hu (by simp [ints, hj'])).2
      cases h2
      simp only [World.cell?, hh, Nat.zero_add, Option.isSome_none, Bool.false_eq_true, if_false, hu]
      simp [List.getD, hj']
    · rw [List.getElem?_map] at he
      cases hq : l[i]? with
      | none => rw [hq] at he; cases he
      | some q =>
        rw [hq] at he
        injection he with he
        subst he
        cases j with
        | succ j => simp [PV.cells] at hc
        | zero =>
          simp [PV.cells] at hc
          subst hc
          simp only [Nat.mul_one, Nat.add_zero, List.getD, hq, Option.getD_some]
          exact Rep.int _ _

theorem ints_clean {l : List Int} {a b : List Nat} : (ints l).map (LV.clean1 a b) = ints l := by simp [ints, LV.clean1]
theorem ints_mv {l : List Int} {n m : Nat} : (ints l).map (LV.mv1 n m) = ints l := by simp [ints, LV.mv1]
theorem ints_men {l : List Int} {d : Nat} : (ints l).any (LV.men1 d) = false := by simp [ints, LV.men1]
theorem ints_ren {l : List Int} {ρ : Nat → Nat} : (ints l).map (LV.ren1 ρ) = ints l := by simp [ints, LV.ren1]
theorem ints_only {l : List Int} {ns : List Nat} : (ints l).all (LV.only1 ns) = true := by simp [ints, LV.only1]
theorem wkL1_refl : ∀ {l : List LV}, wkL1 l l
  | [] => trivial
  | x :: l => ⟨.inl rfl, wkL1_refl⟩
theorem wkL_refl : ∀ {l : List LV}, wkL l l
  | [] => trivial
  | x :: l => ⟨.inl rfl, wkL_refl⟩
theorem next_rule {B : Nat → Option BO} {K : Upd → Prop} {n : Nat} {ks vs : List PV} {c : Option (PV × PV)} (hB : B n = some (.iter ks vs c)) (h0 : ks = [] → K ⟨.tup [.bool false], [n], [], [], none, []⟩)
    (h1 : ∀ i k v, ks[i]? = some k → vs[i]? = some v → K ⟨.tup [.bool true, k, v], [n], [(n, .iter (ks.eraseIdx i) (vs.eraseIdx i) (some (k, v)))], [], none, []⟩) : aNext B K (.it n) := by
  simp only [aNext, hB]; exact ⟨h0, h1⟩

end Go.Am
