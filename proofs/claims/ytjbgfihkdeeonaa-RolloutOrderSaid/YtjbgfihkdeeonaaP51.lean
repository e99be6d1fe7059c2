/- Plain facts on strictly increasing lists and on rollouts as data; no program in sight. -/
import Derived.Test.YtjbgfihkdeeonaaT8
set_option linter.unusedSimpArgs false
set_option linter.unusedVariables false
namespace Go.Proofs.Ytjbgfihkdeeonaa

def Inc (l : List Int) : Prop := l.Pairwise (· < ·)
instance (l : List Int) : Decidable (Inc l) := inferInstanceAs (Decidable (l.Pairwise (· < ·)))

theorem mem_put {l : List Int} {n x : Int} : x ∈ put l n ↔ x ∈ l ∨ x = n := by
  unfold put
  split
  · rename_i h
    constructor
    · exact .inl
    · rintro (h' | rfl); exact h'; exact h
  · have := congrArg (x ∈ ·) (List.takeWhile_append_dropWhile (p := fun x => decide (x < n)) (l := l))
    simp only [List.mem_append, eq_iff_iff] at this
    simp only [List.mem_append, List.mem_singleton]
    constructor
    · rintro ((h | h) | h)
      · exact .inl (this.1 (.inl h))
      · exact .inr h
      · exact .inl (this.1 (.inr h))
    · rintro (h | h)
      · rcases this.2 h with h | h
        · exact .inl (.inl h)
        · exact .inr h
      · exact .inl (.inr h)

theorem mem_foldl_put {m : List Int} : ∀ {l : List Int} {x : Int}, x ∈ m.foldl put l ↔ x ∈ l ∨ x ∈ m := by
  induction m with
  | nil => simp
  | cons a r ih =>
    intro l x
    simp only [List.foldl_cons, ih, mem_put, List.mem_cons]
    constructor
    · rintro ((h | h) | h); exact .inl h; exact .inr (.inl h); exact .inr (.inr h)
    · rintro (h | h | h); exact .inl (.inl h); exact .inl (.inr h); exact .inr h

theorem inc_put {l : List Int} (h : Inc l) (n : Int) : Inc (put l n) := by
  unfold put
  split
  · exact h
  · rename_i hn
    induction l with
    | nil => simp [Inc]
    | cons a r ih =>
      simp only [Inc, List.pairwise_cons] at h
      simp only [List.mem_cons, not_or] at hn
      by_cases ha : a < n
      · simp only [List.takeWhile_cons, ha, decide_true, ↓reduceIte, List.dropWhile_cons, List.cons_append]
        have := ih h.2 hn.2
        refine List.pairwise_cons.2 ⟨fun x hx => ?_, this⟩
        simp only [List.mem_append, List.mem_singleton] at hx
        rcases hx with (hx | hx) | hx
        · exact h.1 x ((List.takeWhile_sublist _).subset hx)
        · omega
        · exact h.1 x ((List.dropWhile_sublist _).subset hx)
      · simp only [List.takeWhile_cons, ha, decide_false, Bool.false_eq_true, ↓reduceIte, List.dropWhile_cons, List.nil_append, List.cons_append]
        refine List.pairwise_cons.2 ⟨fun x hx => ?_, List.pairwise_cons.2 h⟩
        rcases List.mem_cons.1 hx with rfl | hx
        · omega
        · have := h.1 x hx; omega

theorem inc_foldl_put {m : List Int} : ∀ {l : List Int}, Inc l → Inc (m.foldl put l) := by
  induction m with
  | nil => intro l h; exact h
  | cons a r ih => intro l h; exact ih (inc_put h a)

def srt (l : List Int) : List Int := l.foldl put []
theorem mem_srt {l : List Int} {x : Int} : x ∈ srt l ↔ x ∈ l := by simp [srt, mem_foldl_put]
theorem inc_srt (l : List Int) : Inc (srt l) := inc_foldl_put (by simp [Inc])

theorem inc_ext : ∀ {a b : List Int}, Inc a → Inc b → (∀ x, x ∈ a ↔ x ∈ b) → a = b
  | [], [], _, _, _ => rfl
  | [], b :: m, _, _, h => absurd ((h b).2 (by simp)) (by simp)
  | a :: l, [], _, _, h => absurd ((h a).1 (by simp)) (by simp)
  | a :: l, b :: m, ha, hb, h => by
    simp only [Inc, List.pairwise_cons] at ha hb
    have hab : a = b := by
      rcases List.mem_cons.1 ((h a).1 (by simp)) with e | e
      · exact e
      · rcases List.mem_cons.1 ((h b).2 (by simp)) with e' | e'
        · exact e'.symm
        · have := ha.1 b e'; have := hb.1 a e; omega
    subst hab
    congr 1
    refine inc_ext ha.2 hb.2 fun x => ?_
    have := h x
    simp only [List.mem_cons] at this
    constructor
    · intro hx
      rcases this.1 (.inr hx) with e | e
      · subst e; exact absurd (ha.1 x hx) (by omega)
      · exact e
    · intro hx
      rcases this.2 (.inr hx) with e | e
      · subst e; exact absurd (hb.1 x hx) (by omega)
      · exact e

theorem inc_nodup {l : List Int} (h : Inc l) : l.Nodup := h.imp fun h => by omega
theorem srt_inc {l : List Int} (h : Inc l) : srt l = l := inc_ext (inc_srt l) h fun x => mem_srt
theorem srt_ext {l m : List Int} (h : ∀ x, x ∈ l ↔ x ∈ m) : srt l = srt m := inc_ext (inc_srt l) (inc_srt m) fun x => by simp [mem_srt, h]
theorem put_eq {l : List Int} (h : Inc l) (n : Int) : put l n = srt (n :: l) := inc_ext (inc_put h n) (inc_srt _) fun x => by
  simp [mem_put, mem_srt, or_comm]
theorem uptoF_eq (ws : List (List Int)) : uptoF ws = srt ws.flatten := rfl

theorem srt_len {l : List Int} (h : l.Nodup) : (srt l).length = l.length := by
  have : (srt l).Perm l := (List.perm_ext_iff_of_nodup (inc_nodup (inc_srt l)) h).2 fun x => mem_srt
  exact this.length_eq
theorem srt_filter {p : Int → Bool} {l : List Int} : srt (l.filter p) = (srt l).filter p :=
  inc_ext (inc_srt _) (List.Pairwise.filter p (inc_srt l)) fun x => by simp [mem_srt]

/-! ### Rollouts -/
def upl (r : Roll) (k : Int) : List Int := (r.waves.take k.toNat).flatten
def hasAll (s l : List Int) : Bool := l.all fun x => decide (x ∈ s)
theorem hasAll_iff {s l : List Int} : hasAll s l = true ↔ ∀ x ∈ l, x ∈ s := by simp [hasAll]
theorem hasAll_congr {s s' l l' : List Int} (h : ∀ x, x ∈ s ↔ x ∈ s') (h' : ∀ x, x ∈ l ↔ x ∈ l') : hasAll s l = hasAll s' l' := by
  rw [Bool.eq_iff_iff, hasAll_iff, hasAll_iff]; simp [h, h']
def wv (r : Roll) (c : Int) : Int := idxOr (r.waves.findIdx? fun w => decide (c ∈ w))

def wavesB (W : List (List Int)) : Bool :=
  decide (1 ≤ W.length) && decide (W.length ≤ 64) && W.all (fun w => !w.isEmpty) && W.flatten.all (fun c => decide (0 ≤ c ∧ c < 64)) && decide W.flatten.Nodup
structure Wv (W : List (List Int)) : Prop where
  len : 1 ≤ W.length ∧ W.length ≤ 64
  ne : ∀ w ∈ W, w ≠ []
  rng : ∀ c ∈ W.flatten, 0 ≤ c ∧ c < 64
  nd : W.flatten.Nodup
theorem wavesB_iff {W : List (List Int)} : wavesB W = true ↔ Wv W := by
  simp only [wavesB, Bool.and_eq_true, decide_eq_true_eq, List.all_eq_true]
  constructor
  · rintro ⟨⟨⟨⟨h1, h2⟩, h3⟩, h4⟩, h5⟩
    exact ⟨⟨h1, h2⟩, fun w hw => by simpa using h3 w hw, h4, h5⟩
  · rintro ⟨⟨h1, h2⟩, h3, h4, h5⟩
    exact ⟨⟨⟨⟨h1, h2⟩, fun w hw => by simpa using h3 w hw⟩, h4⟩, h5⟩

def V (r : Roll) : Bool :=
  decide (1 ≤ r.fr) && decide (1 ≤ r.to) && decide (r.fr ≠ r.to) && decide (0 ≤ r.slack) && wavesB r.waves && decide (Inc r.done) && decide (0 ≤ r.st ∧ r.st ≤ 4) &&
  if r.st = 3 then decide (r.ix = r.waves.length) && hasAll r.done (upl r r.waves.length) && hasAll (upl r r.waves.length) r.done
  else decide (0 ≤ r.ix ∧ r.ix < r.waves.length) && hasAll (upl r (r.ix + 1)) r.done &&
    if r.st = 4 then hasAll r.done (upl r (r.ix + 1))
    else !hasAll r.done (upl r (r.ix + 1)) && (decide (r.st = 2) || hasAll r.done (upl r r.ix))

structure VR (r : Roll) : Prop where
  fr : 1 ≤ r.fr
  to : 1 ≤ r.to
  ne : r.fr ≠ r.to
  sl : 0 ≤ r.slack
  wv : Wv r.waves
  inc : Inc r.done
  st : r.st = 0 ∨ r.st = 1 ∨ r.st = 2 ∨ r.st = 3 ∨ r.st = 4
  fin : r.st = 3 → r.ix = r.waves.length ∧ ∀ x, x ∈ r.done ↔ x ∈ r.waves.flatten
  ix : r.st ≠ 3 → 0 ≤ r.ix ∧ r.ix < r.waves.length
  sub : r.st ≠ 3 → ∀ x ∈ r.done, x ∈ upl r (r.ix + 1)
  und : r.st = 4 → ∀ x ∈ upl r (r.ix + 1), x ∈ r.done
  not : r.st ≠ 3 → r.st ≠ 4 → ¬ ∀ x ∈ upl r (r.ix + 1), x ∈ r.done
  ahd : r.st = 0 ∨ r.st = 1 → ∀ x ∈ upl r r.ix, x ∈ r.done

theorem upl_all (r : Roll) : upl r r.waves.length = r.waves.flatten := by simp [upl]

theorem V_iff {r : Roll} : V r = true ↔ VR r := by
  simp only [V, Bool.and_eq_true, decide_eq_true_eq, wavesB_iff]
  constructor
  · rintro ⟨⟨⟨⟨⟨⟨⟨h1, h2⟩, h3⟩, h4⟩, h5⟩, h6⟩, h7⟩, h8⟩
    by_cases h3' : r.st = 3
    · rw [if_pos h3'] at h8
      simp only [Bool.and_eq_true, decide_eq_true_eq, hasAll_iff, upl_all] at h8
      exact ⟨h1, h2, h3, h4, h5, h6, by omega, fun _ => ⟨h8.1.1, fun x => ⟨h8.2 x, h8.1.2 x⟩⟩, by omega, by omega, by omega, by omega, by omega⟩
    · rw [if_neg h3'] at h8
      simp only [Bool.and_eq_true, decide_eq_true_eq, hasAll_iff] at h8
      by_cases h4' : r.st = 4
      · rw [if_pos h4'] at h8
        rw [hasAll_iff] at h8
        exact ⟨h1, h2, h3, h4, h5, h6, by omega, by omega, fun _ => h8.1.1, fun _ => h8.1.2, fun _ => h8.2, by omega, by omega⟩
      · rw [if_neg h4'] at h8
        simp only [Bool.and_eq_true, Bool.or_eq_true, decide_eq_true_eq, Bool.not_eq_true', ← Bool.not_eq_true, hasAll_iff] at h8
        exact ⟨h1, h2, h3, h4, h5, h6, by omega, by omega, fun _ => h8.1.1, fun _ => h8.1.2, by omega, fun _ _ => h8.2.1, fun h => h8.2.2.resolve_left (by omega)⟩
  · intro h
    refine ⟨⟨⟨⟨⟨⟨⟨h.fr, h.to⟩, h.ne⟩, h.sl⟩, h.wv⟩, h.inc⟩, by have := h.st; omega⟩, ?_⟩
    by_cases h3' : r.st = 3
    · rw [if_pos h3']
      simp only [Bool.and_eq_true, decide_eq_true_eq, hasAll_iff, upl_all]
      exact ⟨⟨(h.fin h3').1, fun x => ((h.fin h3').2 x).2⟩, fun x => ((h.fin h3').2 x).1⟩
    · rw [if_neg h3']
      simp only [Bool.and_eq_true, decide_eq_true_eq, hasAll_iff]
      refine ⟨⟨h.ix h3', h.sub h3'⟩, ?_⟩
      by_cases h4' : r.st = 4
      · rw [if_pos h4', hasAll_iff]; exact h.und h4'
      · rw [if_neg h4']
        simp only [Bool.and_eq_true, Bool.or_eq_true, decide_eq_true_eq, Bool.not_eq_true', ← Bool.not_eq_true, hasAll_iff]
        refine ⟨h.not h3' h4', ?_⟩
        rcases h.st with h' | h' | h' | h' | h'
        · exact .inr (h.ahd (.inl h'))
        · exact .inr (h.ahd (.inr h'))
        · exact .inl h'
        · exact absurd h' h3'
        · exact absurd h' h4'

def bad (p : Rep51) (r : Roll) : Bool := !(p.runs && (p.same && decide (r.slack ≤ p.slack)))

/-- A report of an active rollout. -/
def activeF (r : Roll) (p : Rep51) : Roll :=
  if p.no = r.fr then (if p.chip ∈ r.done then { r with st := 1 } else r)
  else if bad p r || decide (r.ix < wv r p.chip) then { r with st := 1 }
  else
    let d := put r.done p.chip
    if hasAll d (r.waves.getD r.ix.toNat []) then { r with done := d, ix := r.ix + 1, st := if r.ix + 1 = r.waves.length then 3 else r.st }
    else { r with done := d }
/-- A report of a rollout that is turned back. -/
def turnedF (r : Roll) (p : Rep51) : Roll :=
  if p.no = r.fr ∧ p.runs = true ∧ wv r p.chip ≤ r.ix then
    let d := put r.done p.chip
    if hasAll d (upl r (r.ix + 1)) then { r with done := d, st := 4 } else { r with done := d }
  else r
def Roll0 : Roll := ⟨0, 0, [], 0, 0, [], 0⟩
def seeF (r : Roll) (p : Rep51) : Roll × Int :=
  if wv r p.chip < 0 ∨ (p.no ≠ r.fr ∧ p.no ≠ r.to) then (Roll0, 510)
  else if r.st = 0 then (activeF r p, 0) else if r.st = 2 then (turnedF r p, 0) else (r, 0)
def resumeF (r : Roll) : Roll × Int := if r.st = 1 then ({ r with st := 0 }, 0) else (Roll0, 510)
def backF (r : Roll) : Roll × Int :=
  if r.st = 2 ∨ r.st = 4 then (Roll0, 510) else ({ r with st := 2, done := [], ix := if (r.waves.length : Int) - 1 < r.ix then r.waves.length - 1 else r.ix }, 0)
def readyF (r : Roll) : List Int := if r.st = 0 ∨ r.st = 2 then (srt (upl r (r.ix + 1))).filter (fun x => !decide (x ∈ r.done)) else []
def newF (fr to : Int) (W : List (List Int)) (sl : Int) : Roll × Int :=
  let r : Roll := ⟨fr, to, W, sl, 0, [], 0⟩
  if V r then (r, 0) else (Roll0, 510)

end Go.Proofs.Ytjbgfihkdeeonaa
