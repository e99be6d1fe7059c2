/- Plain facts on rollouts as data: each step keeps what is valid valid; no program in sight. -/
import Derived.Test.YtjbgfihkdeeonaaP51
set_option linter.unusedSimpArgs false
set_option linter.unusedVariables false
namespace Go.Proofs.Ytjbgfihkdeeonaa

theorem mem_take_flat {W : List (List Int)} {c : Int} {k : Nat} : c ∈ (W.take k).flatten ↔ ∃ j, ∃ h : j < W.length, j < k ∧ c ∈ W[j] := by
  simp only [List.mem_flatten, List.mem_take_iff_getElem]
  constructor
  · rintro ⟨l, ⟨j, hj, rfl⟩, hc⟩; exact ⟨j, by omega, by omega, hc⟩
  · rintro ⟨j, hj, hk, hc⟩; exact ⟨W[j], ⟨j, by omega, rfl⟩, hc⟩

theorem wv_none {r : Roll} {c : Int} : wv r c < 0 ↔ c ∉ r.waves.flatten := by
  unfold wv
  cases h : r.waves.findIdx? fun w => decide (c ∈ w) with
  | none =>
    simp only [idxOr]
    rw [List.findIdx?_eq_none_iff] at h
    simp only [List.mem_flatten, not_exists, not_and]
    constructor
    · intro _ l hl hc; simpa [hc] using h l hl
    · intro _; omega
  | some i =>
    simp only [idxOr]
    rw [List.findIdx?_eq_some_iff_getElem] at h
    obtain ⟨hi, hp, _⟩ := h
    constructor
    · intro h; omega
    · intro h; exact absurd (List.mem_flatten.2 ⟨_, List.getElem_mem hi, by simpa using hp⟩) h

theorem wv_le {r : Roll} {c k : Int} (hk : 0 ≤ k) (hc : c ∈ r.waves.flatten) : wv r c ≤ k ↔ c ∈ upl r (k + 1) := by
  have h0 : ¬ wv r c < 0 := by rw [wv_none]; simpa using hc
  unfold wv at h0 ⊢
  unfold upl
  rw [mem_take_flat]
  cases h : r.waves.findIdx? fun w => decide (c ∈ w) with
  | none => rw [h] at h0; simp [idxOr] at h0
  | some i =>
    simp only [idxOr]
    rw [List.findIdx?_eq_some_iff_getElem] at h
    obtain ⟨hi, hp, hq⟩ := h
    constructor
    · intro h; exact ⟨i, hi, by omega, by simpa using hp⟩
    · rintro ⟨j, hj, hjk, hcj⟩
      have : ¬ j < i := by
        intro hji
        have := hq j hji
        simp [hcj] at this
      omega

theorem wv_at {r : Roll} {c k : Int} (hk : 0 ≤ k) (hnd : r.waves.flatten.Nodup) (h1 : c ∈ upl r (k + 1)) (h2 : c ∉ upl r k) : wv r c = k := by
  have hc : c ∈ r.waves.flatten := by
    unfold upl at h1
    obtain ⟨l, hl, hcl⟩ := List.mem_flatten.1 h1
    exact List.mem_flatten.2 ⟨l, List.mem_of_mem_take hl, hcl⟩
  have h3 := (wv_le hk hc).2 h1
  by_cases h : k = 0
  · have h0 : ¬ wv r c < 0 := by rw [wv_none]; simpa using hc
    omega
  · have h4 : ¬ wv r c ≤ k - 1 := by
      rw [wv_le (by omega) hc]
      have e : k - 1 + 1 = k := by omega
      rw [e]; exact h2
    omega

theorem upl_sub {r : Roll} {k : Int} : ∀ x ∈ upl r k, x ∈ r.waves.flatten := by
  intro x hx
  obtain ⟨l, hl, hcl⟩ := List.mem_flatten.1 hx
  exact List.mem_flatten.2 ⟨l, List.mem_of_mem_take hl, hcl⟩
theorem upl_mono {r : Roll} {k m : Int} (h : k ≤ m) : ∀ x ∈ upl r k, x ∈ upl r m := by
  intro x hx
  unfold upl at hx ⊢
  rw [mem_take_flat] at hx ⊢
  obtain ⟨j, h1, h2, h3⟩ := hx
  exact ⟨j, h1, by omega, h3⟩
theorem upl_succ {r : Roll} {k : Int} (h0 : 0 ≤ k) (h1 : k < r.waves.length) : upl r (k + 1) = upl r k ++ r.waves.getD k.toNat [] := by
  unfold upl
  have e : (k + 1).toNat = k.toNat + 1 := by omega
  have hlt : k.toNat < r.waves.length := by omega
  rw [e, List.take_succ_eq_append_getElem hlt, List.flatten_append]
  simp [List.getD, hlt]
theorem upl_last {r : Roll} {k : Int} (h : (r.waves.length : Int) ≤ k) : upl r k = r.waves.flatten := by
  unfold upl
  rw [List.take_of_length_le (by omega)]
theorem upl_congr {r q : Roll} (h : r.waves = q.waves) (k : Int) : upl r k = upl q k := by simp [upl, h]
theorem wv_congr {r q : Roll} (h : r.waves = q.waves) (c : Int) : wv r c = wv q c := by simp [wv, h]

/-- The chips of the next wave are new, and there are some. -/
theorem next_wave {r : Roll} {k : Int} (hw : Wv r.waves) (h0 : 0 ≤ k) (h1 : k < r.waves.length) : ∃ x ∈ upl r (k + 1), x ∉ upl r k := by
  have hlt : k.toNat < r.waves.length := by omega
  have hne : r.waves[k.toNat] ≠ [] := hw.ne _ (List.getElem_mem hlt)
  obtain ⟨x, hx⟩ := List.exists_mem_of_ne_nil _ hne
  refine ⟨x, ?_, ?_⟩
  · rw [upl_succ h0 h1]; simp [List.getD, hlt, hx]
  · intro hx'
    have hnd := hw.nd
    have hs : (upl r (k + 1)).Nodup := by
      unfold upl
      rw [← List.take_append_drop (k + 1).toNat r.waves, List.flatten_append] at hnd
      exact hnd.sublist (List.sublist_append_left _ _)
    rw [upl_succ h0 h1, List.nodup_append] at hs
    exact hs.2.2 x hx' x (by simp [List.getD, hlt, hx]) rfl

theorem active_valid {r : Roll} {p : Rep51} (h : VR r) (hs : r.st = 0) (hc : p.chip ∈ r.waves.flatten) : VR (activeF r p) := by
  have hold : VR { r with st := 1 } := ⟨h.fr, h.to, h.ne, h.sl, h.wv, h.inc, .inr (.inl rfl), fun h => by simp at h, fun _ => h.ix (by omega), fun _ => h.sub (by omega), fun h => by simp at h, fun _ _ => h.not (by omega) (by omega), fun _ => h.ahd (.inl hs)⟩
  have hix := h.ix (by omega)
  have hsub := h.sub (by omega)
  have hnot := h.not (by omega) (by omega)
  have hahd := h.ahd (.inl hs)
  unfold activeF
  split
  · split
    · exact hold
    · exact h
  split
  · exact hold
  · rename_i hb
    have hwv : wv r p.chip ≤ r.ix := by simp at hb; omega
    have hin := (wv_le hix.1 hc).1 hwv
    simp only
    have hd : ∀ x ∈ put r.done p.chip, x ∈ upl r (r.ix + 1) := by
      intro x hx
      rcases mem_put.1 hx with hx | rfl
      · exact hsub x hx
      · exact hin
    split
    · rename_i hall
      rw [hasAll_iff] at hall
      have hall' : ∀ x ∈ upl r (r.ix + 1), x ∈ put r.done p.chip := by
        intro x hx
        rw [upl_succ hix.1 hix.2, List.mem_append] at hx
        rcases hx with hx | hx
        · exact mem_put.2 (.inl (hahd x hx))
        · exact hall x hx
      by_cases hl : r.ix + 1 = r.waves.length
      · simp only [hl, ↓reduceIte]
        refine ⟨h.fr, h.to, h.ne, h.sl, h.wv, inc_put h.inc _, .inr (.inr (.inr (.inl rfl))), fun _ => ⟨rfl, fun x => ⟨fun hx => upl_sub x (hd x hx), fun hx => hall' x ?_⟩⟩, fun h => absurd rfl h, fun h => absurd rfl h, fun h => by simp at h, fun h => absurd rfl h, fun h => by simp at h⟩
        rw [hl, upl_all]; exact hx
      · simp only [hl, ↓reduceIte]
        refine ⟨h.fr, h.to, h.ne, h.sl, h.wv, inc_put h.inc _, h.st, fun h => by simp only at h; omega, fun _ => ⟨by simp only; omega, by simp only; omega⟩, fun _ x hx => ?_, fun h => by simp only at h; omega, fun _ _ => ?_, fun _ x hx => ?_⟩
        · exact upl_mono (r := r) (by simp only; omega) x (hd x hx)
        · intro hh
          obtain ⟨x, hx1, hx2⟩ := next_wave (k := r.ix + 1) h.wv (by omega) (by omega)
          exact hx2 (hd x (hh x hx1))
        · exact hall' x hx
    · rename_i hall
      rw [hasAll_iff] at hall
      refine ⟨h.fr, h.to, h.ne, h.sl, h.wv, inc_put h.inc _, h.st, fun h => by simp only at h; omega, fun _ => hix, fun _ x hx => hd x hx, fun h => by simp only at h; omega, fun _ _ hh => hall fun x hx => hh x ?_, fun _ x hx => mem_put.2 (.inl (hahd x hx))⟩
      show x ∈ upl r (r.ix + 1)
      rw [upl_succ hix.1 hix.2, List.mem_append]
      exact .inr hx

theorem turned_valid {r : Roll} {p : Rep51} (h : VR r) (hs : r.st = 2) (hc : p.chip ∈ r.waves.flatten) : VR (turnedF r p) := by
  have hix := h.ix (by omega)
  have hsub := h.sub (by omega)
  unfold turnedF
  split
  · rename_i hb
    have hin := (wv_le hix.1 hc).1 hb.2.2
    have hd : ∀ x ∈ put r.done p.chip, x ∈ upl r (r.ix + 1) := by
      intro x hx
      rcases mem_put.1 hx with hx | rfl
      · exact hsub x hx
      · exact hin
    simp only
    split
    · rename_i hall
      rw [hasAll_iff] at hall
      exact ⟨h.fr, h.to, h.ne, h.sl, h.wv, inc_put h.inc _, .inr (.inr (.inr (.inr rfl))), fun h => by simp at h, fun _ => hix, fun _ x hx => hd x hx, fun _ x hx => hall x hx, fun _ h => absurd rfl h, fun h => by simp at h⟩
    · rename_i hall
      rw [hasAll_iff] at hall
      exact ⟨h.fr, h.to, h.ne, h.sl, h.wv, inc_put h.inc _, h.st, fun h => by simp only at h; omega, fun _ => hix, fun _ x hx => hd x hx, fun h => by simp only at h; omega, fun _ _ hh => hall hh, fun h => by simp only at h; omega⟩
  · exact h

theorem see_ok {r : Roll} {p : Rep51} : (seeF r p).2 = 0 ↔ p.chip ∈ r.waves.flatten ∧ (p.no = r.fr ∨ p.no = r.to) := by
  unfold seeF
  split
  · rename_i h
    simp only [wv_none] at h
    constructor
    · intro h'; simp at h'
    · rintro ⟨h1, h2⟩
      rcases h with h | h
      · exact absurd h1 h
      · omega
  · rename_i h
    simp only [wv_none, not_or, Classical.not_not] at h
    have h1 : p.chip ∈ r.waves.flatten ∧ (p.no = r.fr ∨ p.no = r.to) := ⟨h.1, by omega⟩
    split
    · simp [h1]
    · split <;> simp [h1]
theorem see_bad {r : Roll} {p : Rep51} (h : (seeF r p).2 ≠ 0) : seeF r p = (Roll0, 510) := by
  unfold seeF at h ⊢
  split
  · rfl
  · rename_i h'
    rw [if_neg h'] at h
    split at h
    · simp at h
    · split at h <;> simp at h
theorem see_good {r : Roll} {p : Rep51} (h : (seeF r p).2 = 0) : seeF r p = (if r.st = 0 then activeF r p else if r.st = 2 then turnedF r p else r, 0) := by
  have h' := see_ok.1 h
  unfold seeF
  rw [if_neg]
  · split
    · rfl
    · split <;> rfl
  · rw [wv_none]; simp only [not_or, Classical.not_not]; exact ⟨h'.1, by omega⟩
theorem see_valid {r : Roll} {p : Rep51} (h : VR r) (he : (seeF r p).2 = 0) : VR (seeF r p).1 := by
  rw [see_good he]
  have hc := (see_ok.1 he).1
  simp only
  split
  · exact active_valid h (by assumption) hc
  · split
    · exact turned_valid h (by assumption) hc
    · exact h
theorem resume_valid {r : Roll} (h : VR r) (he : (resumeF r).2 = 0) : VR (resumeF r).1 := by
  unfold resumeF at he ⊢
  split
  · rename_i hs
    exact ⟨h.fr, h.to, h.ne, h.sl, h.wv, h.inc, .inl rfl, fun h => by simp at h, fun _ => h.ix (by omega), fun _ => h.sub (by omega), fun h => by simp at h, fun _ _ => h.not (by omega) (by omega), fun _ => h.ahd (.inr hs)⟩
  · rename_i hs; rw [if_neg hs] at he; simp at he
theorem back_valid {r : Roll} (h : VR r) (he : (backF r).2 = 0) : VR (backF r).1 := by
  unfold backF at he ⊢
  split
  · rename_i hs; rw [if_pos hs] at he; simp at he
  · rename_i hs
    have hl := h.wv.len
    have hix : 0 ≤ r.ix := by
      by_cases h3 : r.st = 3
      · have := (h.fin h3).1; omega
      · exact (h.ix h3).1
    have hb : 0 ≤ (if (r.waves.length : Int) - 1 < r.ix then (r.waves.length : Int) - 1 else r.ix) ∧ (if (r.waves.length : Int) - 1 < r.ix then (r.waves.length : Int) - 1 else r.ix) < r.waves.length := by split <;> omega
    refine ⟨h.fr, h.to, h.ne, h.sl, h.wv, by simp [Inc], .inr (.inr (.inl rfl)), fun h => by simp at h, fun _ => hb, fun _ x hx => by simp at hx, fun h => by simp at h, fun _ _ hh => ?_, fun h => by simp at h⟩
    obtain ⟨x, hx, _⟩ := next_wave h.wv hb.1 hb.2
    exact absurd (hh x hx) (by simp)

end Go.Proofs.Ytjbgfihkdeeonaa
