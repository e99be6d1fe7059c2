/- Progress: good reports of ready chips carry a rollout to its end. Plain Lean; nothing is assumed. -/
import Derived.Test.YtjbgfihkdeeonaaP53
import Derived.Test.YtjbgfihkdeeonaaT16
set_option linter.unusedSimpArgs false
set_option linter.unusedVariables false
open Go Go.Am Go.RowKit
namespace Go.Proofs.Ytjbgfihkdeeonaa

theorem nd_sub : ∀ {a b : List Int}, a.Nodup → (∀ x ∈ a, x ∈ b) → a.length ≤ b.length
  | [], _, _, _ => by simp
  | x :: a, b, h, hs => by
    rw [List.nodup_cons] at h
    have hx := hs x (by simp)
    have := nd_sub (a := a) (b := b.erase x) h.2 fun y hy => by
      have hne : y ≠ x := fun e => h.1 (e ▸ hy)
      exact (List.mem_erase_of_ne hne).2 (hs y (by simp [hy]))
    rw [List.length_erase_of_mem hx] at this
    have hp := List.length_pos_of_mem hx
    simp only [List.length_cons]
    omega
theorem mem_ready {r : Roll} {c : Int} : c ∈ readyF r ↔ (r.st = 0 ∨ r.st = 2) ∧ c ∈ upl r (r.ix + 1) ∧ c ∉ r.done := by
  unfold readyF
  split <;> simp_all [mem_srt]
theorem ready_ne {r : Roll} (h : VR r) (hs : r.st = 0 ∨ r.st = 2) : readyF r ≠ [] := by
  intro he
  refine h.not (by omega) (by omega) fun x hx => ?_
  by_cases hd : x ∈ r.done
  · exact hd
  · have : x ∈ readyF r := mem_ready.2 ⟨hs, hx, hd⟩
    rw [he] at this
    simp at this
theorem ready_end {r : Roll} (hs : r.st = 3) : readyF r = [] := by simp [readyF, hs]

theorem good_ok {r : Roll} (h : VR r) {c : Int} (hc : c ∈ readyF r) : (seeF r (goodF r c)).2 = 0 :=
  see_ok.2 ⟨upl_sub _ (mem_ready.1 hc).2.1, .inr rfl⟩
theorem good_active {r : Roll} (h : VR r) (hs : r.st = 0) {c : Int} (hc : c ∈ readyF r) : activeF r (goodF r c) =
    if hasAll (put r.done c) (r.waves.getD r.ix.toNat []) then { r with done := put r.done c, ix := r.ix + 1, st := if r.ix + 1 = r.waves.length then 3 else r.st } else { r with done := put r.done c } := by
  have hm := (mem_ready.1 hc).2
  have hix := h.ix (by omega)
  have hwv := (wv_le hix.1 (upl_sub _ hm.1)).2 hm.1
  unfold activeF
  have hne : ¬ (goodF r c).no = r.fr := fun e => h.ne e.symm
  rw [if_neg hne, if_neg]
  · rfl
  · have e : decide (r.ix < wv r c) = false := decide_eq_false (by omega)
    simp [bad, goodF]; exact e
theorem good_step {r : Roll} (h : VR r) (hs : r.st = 0) {c : Int} (hc : c ∈ readyF r) :
    VR (seeF r (goodF r c)).1 ∧ (seeF r (goodF r c)).1.waves = r.waves ∧ ((seeF r (goodF r c)).1.st = 0 ∨ (seeF r (goodF r c)).1.st = 3) ∧ (∀ x, x ∈ (seeF r (goodF r c)).1.done ↔ x ∈ r.done ∨ x = c) ∧ c ∉ r.done := by
  have hok := good_ok h hc
  refine ⟨see_valid h hok, ?_⟩
  rw [see_good hok, if_pos hs, good_active h hs hc]
  refine ⟨?_, ?_, ?_, (mem_ready.1 hc).2.2⟩
  · simp only; split <;> rfl
  · simp only; split
    · simp only; split
      · exact .inr rfl
      · exact .inl hs
    · exact .inl hs
  · intro x; simp only; split <;> exact mem_put

structure Prog (W : List (List Int)) (r : Roll) (s : List Int) : Prop where
  vr : VR r
  wv : r.waves = W
  st : r.st = 0 ∨ r.st = 3
  nd : s.Nodup
  dn : ∀ x, x ∈ r.done ↔ x ∈ s
theorem Prog.sub {W : List (List Int)} {r : Roll} {s : List Int} (h : Prog W r s) : ∀ x ∈ s, x ∈ W.flatten := by
  intro x hx
  rw [← h.wv]
  have hd := (h.dn x).2 hx
  rcases h.st with hs | hs
  · exact upl_sub _ (h.vr.sub (by omega) x hd)
  · exact ((h.vr.fin hs).2 x).1 hd
theorem Prog.len {W : List (List Int)} {r : Roll} {s : List Int} (h : Prog W r s) : s.length ≤ W.flatten.length := nd_sub h.nd h.sub
theorem Prog.go {W : List (List Int)} {r : Roll} {s : List Int} (h : Prog W r s) (hl : s.length < W.flatten.length) : r.st = 0 := by
  rcases h.st with hs | hs
  · exact hs
  · exfalso
    have hnd := h.vr.wv.nd
    rw [h.wv] at hnd
    have := nd_sub hnd fun x hx => (h.dn x).1 (((h.vr.fin hs).2 x).2 (by rw [h.wv]; exact hx))
    omega
theorem Prog.fin {W : List (List Int)} {r : Roll} {s : List Int} (h : Prog W r s) (hl : s.length = W.flatten.length) : r.st = 3 ∧ r.done = srt W.flatten := by
  have h3 : r.st = 3 := by
    rcases h.st with hs | hs
    · exfalso
      obtain ⟨c, hc⟩ := List.exists_mem_of_ne_nil _ (ready_ne h.vr (.inl hs))
      have hm := (mem_ready.1 hc).2
      have hcw := upl_sub _ hm.1
      rw [h.wv] at hcw
      have := nd_sub (a := c :: s) (b := W.flatten) (List.nodup_cons.2 ⟨fun e => hm.2 ((h.dn c).2 e), h.nd⟩) fun x hx => by
        rcases List.mem_cons.1 hx with rfl | hx
        · exact hcw
        · exact h.sub x hx
      simp only [List.length_cons] at this; omega
    · exact hs
  refine ⟨h3, inc_ext h.vr.inc (inc_srt _) fun x => ?_⟩
  rw [mem_srt, (h.vr.fin h3).2, h.wv]
theorem Prog.step {W : List (List Int)} {r : Roll} {s : List Int} (h : Prog W r s) (hs : r.st = 0) {c : Int} (hc : c ∈ readyF r) : c ∉ s ∧ Prog W (seeF r (goodF r c)).1 (s ++ [c]) := by
  obtain ⟨h1, h2, h3, h4, h5⟩ := good_step h.vr hs hc
  have hcs : c ∉ s := fun e => h5 ((h.dn c).2 e)
  refine ⟨hcs, h1, h2.trans h.wv, h3, ?_, ?_⟩
  · rw [List.nodup_append]
    exact ⟨h.nd, by simp, fun x hx y hy => by simp at hy; subst hy; exact fun e => hcs (e ▸ hx)⟩
  · intro x; rw [h4, h.dn]; simp
theorem Prog.start (x : Raw51) : Prog (startF x).waves (startF x) [] := ⟨start_valid x, rfl, .inl rfl, by simp, by simp [startF]⟩

end Go.Proofs.Ytjbgfihkdeeonaa
