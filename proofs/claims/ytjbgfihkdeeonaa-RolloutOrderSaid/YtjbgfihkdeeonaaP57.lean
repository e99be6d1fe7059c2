/- Order: what a rollout has done was proven, and what is ready stands in the next wave. Plain Lean; nothing is assumed. -/
import Derived.Test.YtjbgfihkdeeonaaP54
set_option linter.unusedSimpArgs false
set_option linter.unusedVariables false
open Go Go.Am Go.RowKit
namespace Go.Proofs.Ytjbgfihkdeeonaa

structure Ord (r : Roll) (pv : List Int) : Prop where
  vr : VR r
  sub : r.st = 0 ∨ r.st = 1 ∨ r.st = 3 → ∀ x ∈ r.done, x ∈ pv
theorem ord_more {r : Roll} {pv pw : List Int} (h : Ord r pv) (hs : ∀ x ∈ pv, x ∈ pw) : Ord r pw := ⟨h.vr, fun hst x hx => hs x (h.sub hst x hx)⟩
theorem ord_resume {r : Roll} {pv : List Int} (h : Ord r pv) (he : (resumeF r).2 = 0) : Ord (resumeF r).1 pv := by
  refine ⟨resume_valid h.vr he, ?_⟩
  unfold resumeF at he ⊢
  split
  · rename_i hs
    exact fun _ => h.sub (.inr (.inl hs))
  · rename_i hs; rw [if_neg hs] at he; simp at he
theorem ord_back {r : Roll} {pv : List Int} (h : Ord r pv) (he : (backF r).2 = 0) : Ord (backF r).1 pv := by
  refine ⟨back_valid h.vr he, ?_⟩
  unfold backF at he ⊢
  split
  · rename_i hs; rw [if_pos hs] at he; simp at he
  · intro hst; simp at hst
theorem ord_see {r : Roll} {p : Rep51} {pv pw : List Int} (h : Ord r pv) (he : (seeF r p).2 = 0) (hs : ∀ x ∈ pv, x ∈ pw) (hg : p.no = r.to → p.runs = true → p.same = true → r.slack ≤ p.slack → p.chip ∈ pw) : Ord (seeF r p).1 pw := by
  have hv := see_valid h.vr he
  refine ⟨hv, ?_⟩
  obtain ⟨hc, hno⟩ := see_ok.1 he
  rw [see_good he]
  simp only
  by_cases h0 : r.st = 0
  · rw [if_pos h0]
    have hold : ∀ x ∈ r.done, x ∈ pw := fun x hx => hs x (h.sub (.inl h0) x hx)
    unfold activeF
    by_cases h1 : p.no = r.fr
    · rw [if_pos h1]
      split
      · exact fun _ => hold
      · exact fun _ => hold
    · rw [if_neg h1]
      have hto : p.no = r.to := by omega
      split
      · exact fun _ => hold
      · rename_i hb
        have hgood : p.runs = true ∧ p.same = true ∧ r.slack ≤ p.slack := by
          cases h2 : p.runs <;> cases h3 : p.same <;> simp_all [bad]
        have hput : ∀ x ∈ put r.done p.chip, x ∈ pw := by
          intro x hx
          rcases mem_put.1 hx with hx | rfl
          · exact hold x hx
          · exact hg hto hgood.1 hgood.2.1 hgood.2.2
        simp only
        split
        · exact fun _ => hput
        · exact fun _ => hput
  · rw [if_neg h0]
    by_cases h2 : r.st = 2
    · rw [if_pos h2]
      intro hst
      exfalso
      unfold turnedF at hst
      split at hst
      · simp only at hst
        split at hst
        · simp at hst
        · simp only at hst; omega
      · omega
    · rw [if_neg h2]
      exact fun hst x hx => hs x (h.sub hst x hx)
theorem ord_ready {r : Roll} {pv : List Int} (h : Ord r pv) (hs : r.st = 0) {c : Int} (hc : c ∈ readyF r) : wv r c = r.ix ∧ c ∉ r.done := by
  obtain ⟨_, h1, h2⟩ := mem_ready.1 hc
  have hix := h.vr.ix (by omega)
  exact ⟨wv_at hix.1 h.vr.wv.nd h1 fun e => h2 (h.vr.ahd (.inl hs) c e), h2⟩
theorem ord_ahead {r : Roll} {pv : List Int} (h : Ord r pv) (hs : r.st = 0) : ∀ x ∈ uptoF (r.waves.take r.ix.toNat), x ∈ pv := by
  intro x hx
  have : x ∈ srt (upl r r.ix) := hx
  exact h.sub (.inl hs) x (h.vr.ahd (.inl hs) x (mem_srt.1 this))
theorem ord_start (x : Raw51) : Ord (startF x) [] := ⟨start_valid x, fun _ y hy => by simp [startF] at hy⟩

end Go.Proofs.Ytjbgfihkdeeonaa
