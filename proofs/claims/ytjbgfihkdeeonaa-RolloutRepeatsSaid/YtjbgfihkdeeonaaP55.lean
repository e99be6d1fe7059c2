/- Repeats: a report that is seen twice changes nothing more; two good reports of ready chips commute. Plain Lean; nothing is assumed. -/
import Derived.Test.YtjbgfihkdeeonaaP54
set_option linter.unusedSimpArgs false
set_option linter.unusedVariables false
open Go Go.Am Go.RowKit
namespace Go.Proofs.Ytjbgfihkdeeonaa

theorem put_mem {l : List Int} (h : Inc l) {n : Int} (hn : n ∈ l) : put l n = l :=
  inc_ext (inc_put h n) h fun x => by rw [mem_put]; exact ⟨fun h => h.elim id (fun e => e ▸ hn), .inl⟩
theorem put_put {l : List Int} (h : Inc l) (m n : Int) : put (put l m) n = put (put l n) m :=
  inc_ext (inc_put (inc_put h m) n) (inc_put (inc_put h n) m) fun x => by
    simp only [mem_put]
    exact ⟨fun h => h.elim (fun h => h.elim (.inl ∘ .inl) .inr) (.inl ∘ .inr), fun h => h.elim (fun h => h.elim (.inl ∘ .inl) .inr) (.inl ∘ .inr)⟩
theorem see_stop {r : Roll} {p : Rep51} (hc : p.chip ∈ r.waves.flatten) (hn : p.no = r.fr ∨ p.no = r.to) (h0 : r.st ≠ 0) (h2 : r.st ≠ 2) : seeF r p = (r, 0) := by
  rw [see_good (see_ok.2 ⟨hc, hn⟩), if_neg h0, if_neg h2]

theorem bad_congr {p : Rep51} {r q : Roll} (h : q.slack = r.slack) : bad p q = bad p r := by simp [bad, h]

theorem active_idem {r : Roll} {p : Rep51} (h : VR r) (hs : r.st = 0) (hc : p.chip ∈ r.waves.flatten) (hn : p.no = r.fr ∨ p.no = r.to) :
    seeF (activeF r p) p = (activeF r p, 0) := by
  have hv := active_valid h hs hc
  obtain ⟨q, hq⟩ : ∃ q, q = activeF r p := ⟨_, rfl⟩
  have hw := active_waves r p
  rw [← hq] at hv hw ⊢
  have hcq : p.chip ∈ q.waves.flatten := by rw [hw.1]; exact hc
  have hnq : p.no = q.fr ∨ p.no = q.to := by rw [hw.2.1, hw.2.2.1]; exact hn
  by_cases h0 : q.st = 0
  rotate_left
  · by_cases h2 : q.st = 2
    · exfalso
      rw [hq] at h2
      unfold activeF at h2
      split at h2
      · split at h2
        · simp at h2
        · omega
      · split at h2
        · simp at h2
        · simp only at h2
          split at h2
          · simp only at h2; split at h2 <;> omega
          · simp only at h2; omega
    · exact see_stop hcq hnq h0 h2
  rw [see_good (see_ok.2 ⟨hcq, hnq⟩), if_pos h0]
  have hix := h.ix (by omega)
  have hixq := hv.ix (by omega)
  have hnot := hv.not (by omega) (by omega)
  have hahd := hv.ahd (.inl h0)
  congr 1
  unfold activeF at hq
  by_cases h1 : p.no = r.fr
  · rw [if_pos h1] at hq
    by_cases h3 : p.chip ∈ r.done
    · rw [if_pos h3] at hq
      rw [hq] at h0; simp at h0
    · rw [if_neg h3] at hq
      subst hq
      unfold activeF
      rw [if_pos h1, if_neg h3]
  · rw [if_neg h1] at hq
    by_cases h3 : (bad p r || decide (r.ix < wv r p.chip)) = true
    · rw [if_pos h3] at hq
      rw [hq] at h0; simp at h0
    · rw [if_neg h3] at hq
      have hb : bad p r = false ∧ wv r p.chip ≤ r.ix := by
        simp only [Bool.or_eq_true, decide_eq_true_eq, not_or, Bool.not_eq_true] at h3
        exact ⟨h3.1, by omega⟩
      have hqd : q.done = put r.done p.chip ∧ r.ix ≤ q.ix := by
        rw [hq]; simp only; split
        · exact ⟨rfl, by simp only; omega⟩
        · exact ⟨rfl, by simp only; omega⟩
      have hdp : p.chip ∈ q.done := by rw [hqd.1]; exact mem_put.2 (.inr rfl)
      unfold activeF
      rw [if_neg (by rw [hw.2.1]; exact h1), if_neg]
      · simp only
        rw [put_mem hv.inc hdp, if_neg]
        rw [hasAll_iff]
        intro hh
        refine hnot fun x hx => ?_
        rw [upl_succ hixq.1 hixq.2, List.mem_append] at hx
        exact hx.elim (hahd x) (hh x)
      · rw [bad_congr hw.2.2.2, wv_congr hw.1]
        have e : decide (q.ix < wv r p.chip) = false := decide_eq_false (by omega)
        rw [hb.1, e]; simp

theorem turned_idem {r : Roll} {p : Rep51} (h : VR r) (hs : r.st = 2) (hc : p.chip ∈ r.waves.flatten) (hn : p.no = r.fr ∨ p.no = r.to) :
    seeF (turnedF r p) p = (turnedF r p, 0) := by
  have hv := turned_valid h hs hc
  have hw := turned_waves r p
  obtain ⟨q, hq⟩ : ∃ q, q = turnedF r p := ⟨_, rfl⟩
  rw [← hq] at hv hw ⊢
  have hcq : p.chip ∈ q.waves.flatten := by rw [hw.1]; exact hc
  have hnq : p.no = q.fr ∨ p.no = q.to := by rw [hw.2.1, hw.2.2.1]; exact hn
  unfold turnedF at hq
  by_cases h1 : p.no = r.fr ∧ p.runs = true ∧ wv r p.chip ≤ r.ix
  · rw [if_pos h1] at hq
    simp only at hq
    by_cases h2 : hasAll (put r.done p.chip) (upl r (r.ix + 1)) = true
    · rw [if_pos h2] at hq
      exact see_stop hcq hnq (by rw [hq]; simp) (by rw [hq]; simp)
    · rw [if_neg h2] at hq
      have h0 : q.st = 2 := by rw [hq]; exact hs
      have hdp : p.chip ∈ q.done := by rw [hq]; exact mem_put.2 (.inr rfl)
      have hqx : q.ix = r.ix := by rw [hq]
      have hnot := hv.not (by omega) (by omega)
      rw [see_good (see_ok.2 ⟨hcq, hnq⟩), if_neg (by omega), if_pos h0]
      congr 1
      unfold turnedF
      rw [if_pos (by rw [hw.2.1, wv_congr hw.1, hqx]; exact h1)]
      simp only
      rw [put_mem hv.inc hdp, if_neg]
      rw [hasAll_iff]
      exact hnot
  · rw [if_neg h1] at hq
    subst hq
    rw [see_good (see_ok.2 ⟨hcq, hnq⟩), if_neg (by omega), if_pos hs]
    congr 1
    unfold turnedF
    rw [if_neg h1]

theorem see_idem {r : Roll} {p : Rep51} (h : VR r) (he : (seeF r p).2 = 0) : seeF (seeF r p).1 p = seeF r p := by
  obtain ⟨hc, hn⟩ := see_ok.1 he
  rw [see_good he]
  simp only
  by_cases h0 : r.st = 0
  · rw [if_pos h0]; exact active_idem h h0 hc hn
  · rw [if_neg h0]
    by_cases h2 : r.st = 2
    · rw [if_pos h2]; exact turned_idem h h2 hc hn
    · rw [if_neg h2]; exact see_stop hc hn h0 h2

theorem good_first {r : Roll} (h : VR r) (hs : r.st = 0) {c d : Int} (hc : c ∈ readyF r) (hd : d ∈ readyF r) (hcd : d ≠ c) :
    seeF r (goodF r c) = ({ r with done := put r.done c }, 0) ∧ d ∈ readyF { r with done := put r.done c } := by
  have hm := (mem_ready.1 hd).2
  have hix := h.ix (by omega)
  have hnd : d ∉ put r.done c := fun e => (mem_put.1 e).elim hm.2 hcd
  constructor
  · rw [see_good (good_ok h hc), if_pos hs, good_active h hs hc, if_neg]
    rw [hasAll_iff]
    intro hh
    refine hnd (hh d ?_)
    have := hm.1
    rw [upl_succ hix.1 hix.2, List.mem_append] at this
    exact this.resolve_left fun e => hm.2 (h.ahd (.inl hs) d e)
  · exact mem_ready.2 ⟨.inl hs, hm.1, hnd⟩

theorem good_comm {r : Roll} (h : VR r) (hs : r.st = 0) {c d : Int} (hc : c ∈ readyF r) (hd : d ∈ readyF r) :
    seeF (seeF r (goodF r c)).1 (goodF r d) = seeF (seeF r (goodF r d)).1 (goodF r c) := by
  by_cases hcd : d = c
  · rw [hcd]
  · obtain ⟨h1, h2⟩ := good_first h hs hc hd hcd
    obtain ⟨h3, h4⟩ := good_first h hs hd hc (Ne.symm hcd)
    have v1 := (good_step h hs hc).1
    have v2 := (good_step h hs hd).1
    rw [h1] at v1 ⊢
    rw [h3] at v2 ⊢
    have e1 : goodF r d = goodF { r with done := put r.done c } d := rfl
    have e2 : goodF r c = goodF { r with done := put r.done d } c := rfl
    simp only
    rw [e1, e2, see_good (good_ok v1 h2), see_good (good_ok v2 h4)]
    rw [if_pos (show ({ r with done := put r.done c } : Roll).st = 0 from hs), if_pos (show ({ r with done := put r.done d } : Roll).st = 0 from hs)]
    rw [good_active v1 hs h2, good_active v2 hs h4]
    simp only [put_put h.inc c d]

end Go.Proofs.Ytjbgfihkdeeonaa
