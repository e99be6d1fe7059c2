/- The abstract machine, part 14: a region whose order is open, whatever order is drawn; nothing is assumed of any program. -/
import Derived.Test.YtjbgfihkdeeonaaAmThirteen
set_option linter.unusedSimpArgs false
set_option linter.unusedVariables false
namespace Go.Am
open Go.RowKit

/-- The operations of a region whose order is open: in the text's order, with what they touch. -/
def aopsD (P : Program) (ops : Array Oper) : List Oper → St → List TE → (St → List TE → Prop) → Prop
  | [], σ, tr, K => K σ tr
  | o :: os, σ, tr, K =>
    match o.guard with
    | none => aop P σ.f σ.b σ.h o fun u => aopsD P ops os (σ.app o.dst u) (te u :: tr) K
    | some (j, b) => match (ops[j]?).bind (·.dst) with
      | some s => match σ.f s with
        | .pv (.bool t) => (t = b → aop P σ.f σ.b σ.h o fun u => aopsD P ops os (σ.app o.dst u) (te u :: tr) K) ∧ (t = !b → aopsD P ops os (σ.app o.dst { val := .undef }) (te { val := .undef } :: tr) K)
        | .undef => aopsD P ops os (σ.app o.dst { val := .undef }) (te { val := .undef } :: tr) K
        | _ => False
      | none => False

def RunD (P : Program) (ops : Array Oper) : List Oper → St → List Upd → Prop
  | [], _, us => us = []
  | o :: os, σ, us => ∃ u us', us = u :: us' ∧ Step1 P ops σ o u ∧ RunD P ops os (σ.app o.dst u) us'

theorem aopsD_run {P : Program} {ops : Array Oper} : ∀ (os : List Oper) (σ : St) (tr : List TE) (K : St → List TE → Prop), aopsD P ops os σ tr K → ∃ us, RunD P ops os σ us ∧ K (appAll os us σ) ((us.map te).reverse ++ tr)
  | [], σ, tr, K, h => ⟨[], rfl, h⟩
  | o :: os, σ, tr, K, h => by
    have fin : ∀ u us, K (appAll os us (σ.app o.dst u)) ((us.map te).reverse ++ te u :: tr) → K (appAll (o :: os) (u :: us) σ) (((u :: us).map te).reverse ++ tr) := fun u us h => by simpa [appAll] using h
    simp only [aopsD] at h
    split at h
    · rename_i hg
      obtain ⟨u, h1, h3⟩ := aop_ex h
      obtain ⟨us, h4, h5⟩ := aopsD_run os _ _ K h3
      exact ⟨u :: us, ⟨u, us, rfl, .inl ⟨by simp [wantedA, hg], h1⟩, h4⟩, fin u us h5⟩
    · rename_i j b hg
      split at h
      · rename_i s hd
        split at h
        · rename_i t hf
          by_cases ht : t = b
          · obtain ⟨u, h1, h3⟩ := aop_ex (h.1 ht)
            obtain ⟨us, h4, h5⟩ := aopsD_run os _ _ K h3
            exact ⟨u :: us, ⟨u, us, rfl, .inl ⟨by simp [wantedA, hg, hd, hf, ht], h1⟩, h4⟩, fin u us h5⟩
          · obtain ⟨us, h4, h5⟩ := aopsD_run os _ _ K (h.2 (by cases t <;> cases b <;> simp_all))
            exact ⟨_ :: us, ⟨_, us, rfl, .inr ⟨by simp [wantedA, hg, hd, hf, ht], rfl⟩, h4⟩, fin _ us h5⟩
        · rename_i hf
          obtain ⟨us, h4, h5⟩ := aopsD_run os _ _ K h
          exact ⟨_ :: us, ⟨_, us, rfl, .inr ⟨by simp [wantedA, hg, hd, hf], rfl⟩, h4⟩, fin _ us h5⟩
        · exact h.elim
      · exact h.elim

def newsOk (σ : St) (tr : List TE) : Bool := tr.all fun t => t.new.all fun d => σ.fresh d && decide (d < 1000)

def aDraw (P : Program) (ops : Array Oper) (σ : St) (K : St → Prop) : Prop :=
  regOk ops = true ∧ aopsD P ops ops.toList σ [] fun σ' tr => chk ops tr.reverse = true ∧ newsOk σ tr = true ∧ K σ'

def St.fs (σ : St) : Fs := ⟨σ.f, σ.b, σ.h⟩

theorem St.app_fs (σ : St) (d : Option Nat) (u : Upd) : (σ.app d u).fs = σ.fs.app d u := by
  simp only [St.fs, Fs.app, St.app_f, St.app_b, St.app_h]

def Step1F (P : Program) (ops : Array Oper) (s : Fs) (o : Oper) (u : Upd) : Prop :=
  (wantedA ops s.F o = some true ∧ aop P s.F s.B s.H o (· = u)) ∨ (wantedA ops s.F o = some false ∧ u = { val := .undef })

theorem runD_len {P : Program} {ops : Array Oper} : ∀ (os : List Oper) (σ : St) (us : List Upd), RunD P ops os σ us → us.length = os.length
  | [], _, _, h => by simp [RunD] at h; simp [h]
  | o :: os, σ, us, h => by
    obtain ⟨u, us', rfl, _, h2⟩ := h
    simp [runD_len os _ us' h2]

theorem runD_steps {P : Program} {ops : Array Oper} {O : Nat → Oper} {U : Nat → Upd} {s0 : Fs} : ∀ (os : List Oper) (i : Nat) (σ : St) (us : List Upd), RunD P ops os σ us → (∀ k o, os[k]? = some o → O (i + k) = o) → (∀ k u, us[k]? = some u → U (i + k) = u) →
    σ.fs = stX O U s0 (fun _ => true) i → (∀ k, k < os.length → Step1F P ops (stX O U s0 (fun _ => true) (i + k)) (O (i + k)) (U (i + k))) ∧ (appAll os us σ).fs = stX O U s0 (fun _ => true) (i + os.length)
  | [], i, σ, us, h, _, _, he => by
    simp [RunD] at h
    subst h
    exact ⟨by simp, by simpa [appAll] using he⟩
  | o :: os, i, σ, us, h, hO, hU, he => by
    obtain ⟨u, us', rfl, h1, h2⟩ := h
    have e1 : O i = o := hO 0 o rfl
    have e2 : U i = u := hU 0 u rfl
    have he' : (σ.app o.dst u).fs = stX O U s0 (fun _ => true) (i + 1) := by
      rw [St.app_fs, he]
      simp [stX, e1, e2]
    obtain ⟨h3, h4⟩ := runD_steps os (i + 1) _ us' h2 (fun k x hk => by rw [show i + 1 + k = i + (k + 1) by omega]; exact hO (k + 1) x (by simpa using hk))
      (fun k x hk => by rw [show i + 1 + k = i + (k + 1) by omega]; exact hU (k + 1) x (by simpa using hk)) he'
    refine ⟨fun k hk => ?_, ?_⟩
    · cases k with
      | zero =>
        rw [Nat.add_zero, ← he, e1, e2]
        exact h1
      | succ k =>
        have := h3 k (by simpa using hk)
        rwa [show i + 1 + k = i + (k + 1) by omega] at this
    · simp only [appAll, List.length_cons]
      rw [h4]
      congr 1
      omega

theorem stX_cut {O : Nat → Oper} {U : Nat → Upd} {s0 : Fs} (i : Nat) : ∀ (m : Nat), stX O U s0 (fun k => decide (k < i)) (i + m) = stX O U s0 (fun _ => true) i
  | 0 => stX_same fun k hk => by simpa using hk
  | m + 1 => by
    have ih := stX_cut (O := O) (U := U) (s0 := s0) i m
    show (if decide (i + m < i) = true then _ else stX O U s0 (fun k => decide (k < i)) (i + m)) = _
    rw [if_neg (by simp), ih]

section
variable {P : Program} {E : Env}

/-- The facts of a region that has been checked. -/
structure Checked (P : Program) (E : Env) (ops : Array Oper) (O : Nat → Oper) (U : Nat → Upd) (s0 : Fs) (nt : Nat) : Prop where
  get : ∀ i, i < ops.size → ops[i]? = some (O i)
  edge : ∀ i, i < ops.size → ∀ e ∈ (O i).after, Region.binds .any e = true → e.on < i
  apart : ∀ i j, i < j → j < ops.size → ((bef ops).getD j 0).testBit i = false → Oper.apart ops (O i) (O j) = true
  indep : ∀ i j, i < j → j < ops.size → ((bef ops).getD j 0).testBit i = false → indepTE (te (U i)) (te (U j)) = true
  fresh : ∀ i j, i < j → j < ops.size → ∀ d ∈ (U j).new, d ∉ (te (U i)).ment
  new0 : ∀ j, j < ops.size → ∀ d ∈ (U j).new, NoMen s0.F s0.B d ∧ ¬ E.L d
  step : ∀ i, i < ops.size → Step1F P ops (stX O U s0 (fun _ => true) i) (O i) (U i)
  dst : ∀ i, i < ops.size → ∀ d, (O i).dst = some d → d < nt

variable {ops : Array Oper} {O : Nat → Oper} {U : Nat → Upd} {s0 : Fs} {nt : Nat}

def Closed (ops : Array Oper) (O : Nat → Oper) (L : Nat → Bool) : Prop := ∀ i, i < ops.size → L i = true → ∀ e ∈ (O i).after, Region.binds .any e = true → L e.on = true

theorem bef_closed (hc : Checked P E ops O U s0 nt) {L : Nat → Bool} (hL : Closed ops O L) : ∀ (i k : Nat), i < ops.size → (∀ e ∈ (O i).after, Region.binds .any e = true → L e.on = true) → ((bef ops).getD i 0).testBit k = true → L k = true := by
  intro i
  induction i using Nat.strongRecOn with
  | _ i ih =>
    intro k hi hli hb
    obtain ⟨e, he, h1, h2⟩ := befs_spec ops.toList [] i k (O i) (by simpa using hc.get i hi) (fun e he hb => by simpa using hc.edge i hi e he hb) (by simpa [bef] using hb)
    have hle := hli e he h1
    rcases h2 with h2 | h2
    · rw [← h2]; exact hle
    · have hlt := hc.edge i hi e he h1
      exact ih e.on hlt k (by omega) (hL e.on (by omega) hle) h2

/-- Two operations of which neither waits for the other: in either order. -/
theorem two_ways (hc : Checked P E ops O U s0 nt) {i j : Nat} (hi : i < ops.size) (hj : j < ops.size) (hne : i ≠ j) (h1 : i < j → ((bef ops).getD j 0).testBit i = false) (h2 : j < i → ((bef ops).getD i 0).testBit j = false) :
    (∀ d, (O i).dst = some d → d ∉ (O j).looksAt ops) ∧ (∀ d, (O i).dst = some d → (O j).dst ≠ some d) ∧ indepTE (te (U i)) (te (U j)) = true := by
  rcases Nat.lt_or_gt_of_ne hne with h | h
  · obtain ⟨a1, a2, a3⟩ := Oper.apart_spec (hc.apart i j h hj (h1 h))
    exact ⟨a1, a2, hc.indep i j h hj (h1 h)⟩
  · obtain ⟨a1, a2, a3⟩ := Oper.apart_spec (hc.apart j i h hi (h2 h))
    refine ⟨a3, fun d hd hd' => a2 d hd' hd, ?_⟩
    have := hc.indep j i h hi (h2 h)
    simp only [indepTE, Bool.or_eq_true, Bool.and_eq_true] at this ⊢
    rcases this with h | h
    · exact .inl h.symm
    · exact .inr h.symm

theorem indep_spec {u u' : Upd} (h : indepTE (te u) (te u') = true) : (∀ n, n ∈ keys u.wb → n ∉ u'.rb) ∧ (∀ n, n ∈ keys u.wb → n ∉ keys u'.wb) ∧ (∀ x, u.wh = some x → x.1 ∉ u'.rh) ∧
    (∀ x y, u.wh = some x → u'.wh = some y → x.1 ≠ y.1) ∧ (∀ d ∈ u'.new, d ∉ (te u).ment) := by
  simp only [indepTE, Bool.or_eq_true, Bool.and_eq_true, effNone, oneWay] at h
  rcases h with ⟨h1, h2⟩ | ⟨⟨⟨h1, h2⟩, h3⟩, ⟨h4, h5⟩, h6⟩
  · obtain ⟨⟨a1, a2⟩, a3⟩ := h1
    obtain ⟨⟨b1, b2⟩, b3⟩ := h2
    simp only [te, List.isEmpty_iff, Option.isNone_iff_eq_none, Option.map_eq_none_iff] at a1 a2 a3 b1 b2 b3
    rw [a1, a2, b3]
    simp
  · have h1' := List.all_eq_true.1 h1
    refine ⟨fun n hn => ?_, fun n hn => ?_, fun x hx => ?_, fun x y hx hy => ?_, fun d hd => ?_⟩
    · have := h1' n hn; simp [te] at this; exact this.1
    · have := h1' n hn; simp [te] at this; exact this.2
    · simp [te, hx] at h2; exact h2.1
    · simp [te, hx, hy] at h2; exact fun e => h2.2 e.symm
    · have := List.all_eq_true.1 h6 d hd
      simpa using this

theorem wantedA_congr {F F' : Nat → LV} {o : Oper} (h : ∀ s ∈ o.looksAt ops, F' s = F s) : wantedA ops F' o = wantedA ops F o := by
  unfold wantedA
  cases hg : o.guard with
  | none => rfl
  | some x =>
    obtain ⟨j, b⟩ := x
    simp only
    cases hd : (ops[j]?).bind (·.dst) with
    | none => rfl
    | some s =>
      simp only
      rw [h s]
      simp [Oper.looksAt, hg, hd]

/-- An operation that may come now does what it does in the text's order. -/
theorem step_any (hc : Checked P E ops O U s0 nt) {L : Nat → Bool} (hL : Closed ops O L) {j : Nat} (hj : j < ops.size) (hjL : L j = false) (hpre : ∀ e ∈ (O j).after, Region.binds .any e = true → L e.on = true) :
    Step1F P ops (stX O U s0 L ops.size) (O j) (U j) ∧ (∀ d ∈ (U j).new, NoMen (stX O U s0 L ops.size).F (stX O U s0 L ops.size).B d ∧ ¬ E.L d) ∧
      stX O U s0 (fun i => i == j || L i) ops.size = (stX O U s0 L ops.size).app (O j).dst (U j) := by
  have notBefore : ∀ i, i < ops.size → L i = true → ((bef ops).getD i 0).testBit j = false := fun i hi hli => by
    refine Bool.eq_false_iff.2 fun h => ?_
    have := bef_closed hc hL i j hi (hL i hi hli) h
    rw [hjL] at this; cases this
  have notAfter : ∀ i, L i = false → ((bef ops).getD j 0).testBit i = false := fun i hli => by
    refine Bool.eq_false_iff.2 fun h => ?_
    have := bef_closed hc hL j i hj hpre h
    rw [hli] at this; cases this
  -- where the sets differ, the operation is apart from j
  have diff : ∀ i, i < ops.size → L i ≠ decide (i < j) → i ≠ j ∧ (i < j → ((bef ops).getD j 0).testBit i = false) ∧ (j < i → ((bef ops).getD i 0).testBit j = false) := by
    intro i hi hd
    refine ⟨?_, fun h => ?_, fun h => ?_⟩
    · rintro rfl; simp [hjL] at hd
    · have e : decide (i < j) = true := by simp [h]
      rw [e] at hd
      exact notAfter i (by simpa using hd)
    · have e : decide (i < j) = false := by simp; omega
      rw [e] at hd
      exact notBefore i hi (by simpa using hd)
  have hcut : stX O U s0 (fun _ => true) j = stX O U s0 (fun k => decide (k < j)) ops.size := by
    have := stX_cut (O := O) (U := U) (s0 := s0) j (ops.size - j)
    rw [show j + (ops.size - j) = ops.size by omega] at this
    exact this.symm
  have eF : ∀ s ∈ (O j).looksAt ops, (stX O U s0 L ops.size).F s = (stX O U s0 (fun _ => true) j).F s := fun s hs => by
    rw [hcut]
    refine stX_F fun i hi hd hds => ?_
    obtain ⟨h1, h2, h3⟩ := diff i hi hd
    exact (two_ways hc hi hj h1 h2 h3).1 s hds hs
  have eB : ∀ n ∈ (U j).rb, (stX O U s0 L ops.size).B n = (stX O U s0 (fun _ => true) j).B n := fun n hn => by
    rw [hcut]
    refine stX_B fun i hi hd hx => ?_
    obtain ⟨h1, h2, h3⟩ := diff i hi hd
    exact (indep_spec (two_ways hc hi hj h1 h2 h3).2.2).1 n hx hn
  have eH : ∀ n ∈ (U j).rh, (stX O U s0 L ops.size).H n = (stX O U s0 (fun _ => true) j).H n := fun n hn => by
    rw [hcut]
    refine stX_H fun i hi hd x hx hxn => ?_
    obtain ⟨h1, h2, h3⟩ := diff i hi hd
    exact (indep_spec (two_ways hc hi hj h1 h2 h3).2.2).2.2.1 x hx (by rw [hxn]; exact hn)
  refine ⟨?_, fun d hd => ?_, ?_⟩
  · rcases hc.step j hj with ⟨h1, h2⟩ | ⟨h1, h2⟩
    · refine .inl ⟨by rw [wantedA_congr eF]; exact h1, aop_congr h2 (fun x hx => evo_congr fun t ht => eF t ?_) eB eH⟩
      subst ht
      exact List.mem_append_left _ (List.mem_filterMap.2 ⟨.tmp t, by simpa using hx, rfl⟩)
    · exact .inr ⟨by rw [wantedA_congr eF]; exact h1, h2⟩
  · refine ⟨stX_noMen (hc.new0 j hj d hd).1 fun i hi hli => ?_, (hc.new0 j hj d hd).2⟩
    by_cases hij : i < j
    · exact hc.fresh i j hij hj d hd
    · have hne : j ≠ i := by rintro rfl; rw [hjL] at hli; cases hli
      have := two_ways hc hi hj hne.symm (fun h => absurd h hij) fun h => notBefore i hi hli
      exact (indep_spec this.2.2).2.2.2.2 d hd
  · refine stX_insert hjL hj fun i h1 h2 h3 => ?_
    have := two_ways hc h2 hj (by omega) (fun h => absurd h (by omega)) fun h => notBefore i h2 h3
    exact ⟨this.2.1, (indep_spec this.2.2).2.1, (indep_spec this.2.2).2.2.2.1⟩

abbrev SimF (P : Program) (E : Env) (nt : Nat) (a : Act) (w : World) (s : Fs) : Prop := a.tmps.size = nt ∧ ∃ g, Sim P E g a w s.F s.B s.H

theorem count_lt {l : List Nat} {f g : Nat → Bool} {j : Nat} (hj : j ∈ l) (h : ∀ i, g i = true → f i = true) (h1 : f j = true) (h2 : g j = false) : l.countP g < l.countP f := by
  induction l with
  | nil => cases hj
  | cons x r ih =>
    have hle : r.countP g ≤ r.countP f := List.countP_mono_left fun i _ => h i
    simp only [List.countP_cons]
    rcases List.mem_cons.1 hj with rfl | hj
    · simp [h1, h2]; omega
    · have := ih hj
      cases hg : g x with
      | false => simp; omega
      | true => simp [h x hg]; omega

theorem any_ok (hc : Checked P E ops O U s0 nt) {Q : Exit → Act → World → Prop} (hQ : ∀ a w, SimF P E nt a w (stX O U s0 (fun _ => true) ops.size) → Q .normal a w) :
    ∀ (fuel : Nat) (listed : Array Bool) (a : Act) (w : World), listed.size = ops.size → (List.range ops.size).countP (fun i => !listed.getD i false) ≤ fuel → Closed ops O (fun i => listed.getD i false) →
      SimF P E nt a w (stX O U s0 (fun i => listed.getD i false) ops.size) → wpAny P .any ops Q fuel listed a w := by
  have hall : ∀ (listed : Array Bool), listed.size = ops.size → Region.ready .any ops listed = [] → ∀ i, i < ops.size → listed.getD i false = true := by
    intro listed hsz hr i
    induction i using Nat.strongRecOn with
    | _ i ih =>
      intro hi
      by_cases hl : listed.getD i false = true
      · exact hl
      · have : i ∈ Region.ready .any ops listed := by
          refine mem_ready.2 ⟨?_, O i, hc.get i hi, fun e he hb => ih e.on (hc.edge i hi e he hb) (by have := hc.edge i hi e he hb; omega)⟩
          have hlt : i < listed.size := by omega
          simp [hlt] at hl ⊢
          exact hl
        rw [hr] at this; cases this
  have fin : ∀ (listed : Array Bool) (a : Act) (w : World), listed.size = ops.size → Region.ready .any ops listed = [] → SimF P E nt a w (stX O U s0 (fun i => listed.getD i false) ops.size) → Q .normal a w := by
    intro listed a w hsz hr hs
    refine hQ a w ?_
    rw [stX_same (L' := fun i => listed.getD i false) fun i hi => (hall listed hsz hr i hi).symm]
    exact hs
  intro fuel
  induction fuel with
  | zero =>
    intro listed a w hsz hf hcl hs
    have hr : Region.ready .any ops listed = [] := by
      refine List.eq_nil_iff_forall_not_mem.2 fun j hj => ?_
      obtain ⟨h1, o, h2, _⟩ := mem_ready.1 hj
      have hlt : j < ops.size := (Array.getElem?_eq_some_iff.1 h2).1
      have h0 : (List.range ops.size).countP (fun i => !listed.getD i false) = 0 := by omega
      have := List.countP_eq_zero.1 h0 j (by simpa using hlt)
      have hlt' : j < listed.size := by omega
      simp [hlt'] at this h1
      rw [this] at h1; cases h1
    exact ⟨hr, fin listed a w hsz hr hs⟩
  | succ fuel ih =>
    intro listed a w hsz hf hcl hs
    refine ⟨fun hr => fin listed a w hsz hr hs, fun j hj => ?_⟩
    obtain ⟨h1, o, h2, h3⟩ := mem_ready.1 hj
    have hlt : j < ops.size := (Array.getElem?_eq_some_iff.1 h2).1
    have hlt' : j < listed.size := by omega
    have ho : o = O j := by have := hc.get j hlt; rw [h2] at this; injection this
    subst ho
    have hjL : listed.getD j false = false := by simp [hlt'] at h1 ⊢; exact h1
    obtain ⟨k1, k2, k3⟩ := step_any hc hcl hlt hjL h3
    have hset : ∀ i, (listed.setIfInBounds j true).getD i false = (i == j || listed.getD i false) := by
      intro i
      by_cases hij : i = j
      · subst hij; simp [hlt']
      · have : (i == j) = false := by simp [hij]
        rw [getD_set_ne false (Ne.symm hij), this]; simp
    have next : ∀ a' w', SimF P E nt a' w' ((stX O U s0 (fun i => listed.getD i false) ops.size).app (O j).dst (U j)) → wpAny P .any ops Q fuel (listed.setIfInBounds j true) a' w' := by
      intro a' w' hs'
      refine ih _ a' w' (by simpa using hsz) ?_ ?_ ?_
      · have := count_lt (l := List.range ops.size) (f := fun i => !listed.getD i false) (g := fun i => !(listed.setIfInBounds j true).getD i false) (j := j) (by simpa using hlt) (fun i hi => by
          rw [hset i] at hi
          simp only [Bool.not_eq_true', Bool.or_eq_false_iff] at hi ⊢
          exact hi.2) (by simp [hjL]) (by rw [hset j]; simp)
        omega
      · intro i hi hl e he hb
        simp only [hset, Bool.or_eq_true, beq_iff_eq] at hl ⊢
        rcases hl with rfl | hl
        · exact .inr (h3 e he hb)
        · exact .inr (hcl i hi hl e he hb)
      · have e1 : (fun i => (listed.setIfInBounds j true).getD i false) = fun i => i == j || listed.getD i false := funext hset
        rw [e1, k3]
        exact hs'
    unfold wpOp
    simp only [h2]
    obtain ⟨hsz', g, hg⟩ := hs
    rcases k1 with ⟨k1, k4⟩ | ⟨k1, k4⟩
    · rw [wanted_ok hg k1]
      simp only [if_true]
      refine .inl (aop_ok k4 E g a w hg (fun d hd => by rw [hsz']; exact hc.dst j hlt d hd) k2 _ Q fun v w' g' hs' => next _ _ ⟨by rw [size_put]; exact hsz', g', hs'⟩)
    · rw [wanted_ok hg k1]
      simp only [Bool.false_eq_true, if_false]
      refine next _ _ ⟨by rw [size_put]; exact hsz', g, ?_⟩
      have := hg.put (v := undef) (u := { val := .undef }) (fun d hd => by rw [hsz']; exact hc.dst j hlt d hd) rfl
      rw [k4]
      simp only [Fs.app]
      rw [appB_nil rfl]
      exact this

theorem all_range {n : Nat} {p : Nat → Bool} (h : (List.range n).all p = true) {i : Nat} (hi : i < n) : p i = true := List.all_eq_true.1 h i (by simpa using hi)

/-- A REGION WHOSE ORDER IS OPEN. -/
theorem draw_ok (hL : ∀ n, E.L n → 1000 ≤ n) (hm : P.follows .mixedOrders = true) {σ : St} {K : St → Prop} (h : aDraw P ops σ K) (hd : ∀ o ∈ ops, ∀ d, o.dst = some d → d < nt) {id : Nat} {Q : Exit → Act → World → Prop} {a : Act} {w : World} (hs : SimS P E nt a w σ)
    (hQ : ∀ σ' a' w', K σ' → SimS P E nt a' w' σ' → Q .normal a' w') : (Code.region id ops true).wp P Q a w := by
  obtain ⟨hreg, h⟩ := h
  obtain ⟨us, hrun, hchk, hnew, hK⟩ := aopsD_run _ _ _ _ h
  simp only [List.append_nil] at hchk hnew
  have hlen := runD_len _ _ _ hrun
  have hlen' : us.length = ops.size := by simpa using hlen
  let O : Nat → Oper := fun i => ops.getD i default
  let U : Nat → Upd := fun i => us.getD i { val := .undef }
  have hO : ∀ i, i < ops.size → ops[i]? = some (O i) := fun i hi => by simp [O, hi]
  have hU : ∀ i, i < ops.size → us[i]? = some (U i) := fun i hi => by
    have : i < us.length := by omega
    simp [U, this]
  obtain ⟨hsteps, hfin⟩ := runD_steps (O := O) (U := U) (s0 := σ.fs) ops.toList 0 σ us hrun (fun k o hk => by
      have : ops[k]? = some o := by simpa using hk
      simp [O, this]) (fun k u hk => by simp [U, hk]) rfl
  simp only [Nat.zero_add, Array.length_toList] at hsteps hfin
  have htr : ∀ i, i < ops.size → (((us.map te).reverse).reverse).getD i default = te (U i) := fun i hi => by
    rw [List.reverse_reverse, List.getD_eq_getElem?_getD, List.getElem?_map, hU i hi]; rfl
  have hreg' : ∀ j, j < ops.size → (∀ e ∈ (O j).after, Region.binds .any e = true → e.on < j) ∧ ∀ i, i < j → ((bef ops).getD j 0).testBit i = true ∨ Oper.apart ops (O i) (O j) = true := fun j hj => by
    have := all_range hreg hj
    rw [hO j hj] at this
    simp only [Bool.and_eq_true] at this
    refine ⟨fun e he hb => ?_, fun i hi => ?_⟩
    · have h1 := Array.all_eq_true_iff_forall_mem.1 this.1 e he
      simpa [hb] using h1
    · have h1 := all_range this.2 hi
      rw [hO i (by omega)] at h1
      simpa using h1
  have hchk' : ∀ i j, i < j → j < ops.size → (∀ d ∈ (U j).new, d ∉ (te (U i)).ment) ∧ (((bef ops).getD j 0).testBit i = true ∨ indepTE (te (U i)) (te (U j)) = true) := fun i j hij hj => by
    have := all_range (all_range hchk hj) hij
    rw [htr i (by omega), htr j hj] at this
    simp only [Bool.and_eq_true, Bool.or_eq_true] at this
    refine ⟨fun d hd' => ?_, this.2⟩
    have h1 := List.all_eq_true.1 this.1 d hd'
    simpa using h1
  have hc : Checked P E ops O U σ.fs nt := by
    refine ⟨hO, fun i hi => (hreg' i hi).1, fun i j hij hj hb => ?_, fun i j hij hj hb => ?_, fun i j hij hj => (hchk' i j hij hj).1, fun j hj d hd' => ?_, hsteps, fun i hi d hd' => hd (O i) (Array.mem_of_getElem? (hO i hi)) d hd'⟩
    · rcases (hreg' j hj).2 i hij with h | h
      · rw [h] at hb; cases hb
      · exact h
    · rcases (hchk' i j hij hj).2 with h | h
      · rw [h] at hb; cases hb
      · exact h
    · have hmem : te (U j) ∈ (us.map te).reverse := by
        simp only [List.mem_reverse, List.mem_map]
        exact ⟨U j, List.mem_of_getElem? (hU j hj), rfl⟩
      have := List.all_eq_true.1 (List.all_eq_true.1 hnew _ hmem) d hd'
      simp only [Bool.and_eq_true, decide_eq_true_eq] at this
      exact ⟨fresh_spec this.1, fun hl => by have := hL d hl; omega⟩
  refine wp_region_any hm ?_
  obtain ⟨hsz, g, hg⟩ := hs
  have hF : ∀ i, (Array.replicate ops.size false).getD i false = false := fun i => by
    by_cases hi : i < ops.size <;> simp [hi]
  refine any_ok (E := E) hc ?_ ops.size _ a _ (by simp) ?_ (fun i hi hl => ?_) ⟨hsz, g, ?_⟩
  · intro a' w' hs'
    refine hQ _ a' w' hK ?_
    rw [← hfin] at hs'
    exact hs'
  · exact Nat.le_trans List.countP_le_length (by simp)
  · have := hF i
    simp only [this] at hl
    cases hl
  · have e1 : ∀ n, stX O U σ.fs (fun i => (Array.replicate ops.size false).getD i false) n = σ.fs := by
      intro n
      induction n with
      | zero => rfl
      | succ n ih => simp only [stX, hF n, Bool.false_eq_true, if_false, ih]
    rw [e1]
    exact hg.drew

end
end Go.Am
