/- RolloutRepeats: for every input the law returns true, and its arguments read as they did; nothing is assumed. -/
import Derived.Test.YtjbgfihkdeeonaaT26
import Derived.Test.YtjbgfihkdeeonaaT30
set_option linter.unusedSimpArgs false
set_option linter.unusedVariables false
open Go Go.Am Go.RowKit Go.ChangeShapes Go.WideShapes
namespace Go.Proofs.Ytjbgfihkdeeonaa

theorem arg61 {q : PV} (h : HasT Try.prog 61 q.cells ∧ q.one = !Try.prog.aggT 61) : ∃ m n, q = B2 m n ∧ (0 ≤ m ∧ m < 256) ∧ (0 ≤ n ∧ n < 256) := by
  obtain ⟨parts, h1, hl, hp⟩ := h.1.array_inv Try.underlying61
  match parts, hl with
  | [a, b], _ =>
    obtain ⟨m, rfl, hm⟩ := u8_inv5 (hp _ (List.mem_cons_self ..))
    obtain ⟨n, rfl, hn⟩ := u8_inv5 (hp _ (List.mem_cons_of_mem _ (List.mem_cons_self ..)))
    exact ⟨m, n, (agg_of h.2 ag61).trans (by rw [h1]; rfl), hm, hn⟩

set_option maxRecDepth 100000 in
theorem repeats_holds_lifted (os : Os) (started : os.Started) (H : Type) (enc : TypeId × Value → H) :
    ReturnsInHanded {} Try.checked os 8 .any (Rows.rolloutRepeatsSpec.pre6 enc Try.prog Try.f8 Rows.rolloutRepeatsRow.domain false) (Rows.rolloutRepeatsSpec.post enc Try.prog Try.f8 false true false false) := by
  refine returnsInHanded_of_change (C := Try.checked) own_none started (by kernel_rfl) Try.func8
    (ChangeSpec.witness6 (enc := enc) (C := Try.checked) false ⟨#[], #[.agg #[.slice none 0 0, .int .u8 0, .slice none 0 0], .agg #[.int .u8 0, .int .u8 0, .int .u8 0, .bool false, .bool false, .bool false], .agg #[.int .u8 0, .int .u8 0]], []⟩ 8 (by kernel_rfl) (by kernel_rfl) (by kernel_rfl) (by kernel_rfl)) ?_
  intro W base args ds gs before hval hW _ _
  refine law_contract (P := Try.prog) (G := tys) (tb := 4) tys_ok ?_ laid_ok ?_ (by kernel_rfl) Try.underlying4 rfl ?_ ?_ W base args ds gs before hval hW
  · rw [Try.params8]; decide
  · rw [Try.params8]
    intro t ht
    simp only [List.mem_cons, List.not_mem_nil, or_false] at ht
    rcases ht with rfl | rfl | rfl <;> exact ⟨by kernel_rfl, of_decide_eq_true (by kernel_rfl)⟩
  · intro ds hds
    rw [Try.params8] at hds
    match ds, hds with
    | [d1, d2, d3], _ => exact ⟨rfl, rfl, rfl⟩
  · intro qs hqs
    rw [Try.params8] at hqs
    match qs, hqs with
    | [q1, q2, q3], ⟨h1, h2, h3, _⟩ =>
      obtain ⟨x, rfl, hx⟩ := arg25 h1
      obtain ⟨s, rfl, hs⟩ := arg45 h2
      obtain ⟨m, n, rfl, hm, hn⟩ := arg61 h3
      exact repeats_good x s m n hx hs hm hn

theorem repeats_holds : Rows.RolloutRepeatsSaid :=
  OpenClaim.holds_of_wide 8 Try.f8 rfl rfl rfl rfl rfl rfl rfl ⟨rfl, rfl, rfl, rfl, rfl⟩ rfl rfl rfl rfl rfl (by kernel_rfl) Try.func8 (by kernel_rfl)
    (of_decide_eq_true (by kernel_rfl)) (by unfold Func.isWrapper; first | (rw [if_pos (by decide +kernel)]; kernel_rfl) | (rw [if_neg (by decide +kernel)]; exact ⟨rfl, rfl⟩))
    (fun os started H enc _ => repeats_holds_lifted os started H enc)

end Go.Proofs.Ytjbgfihkdeeonaa
#print axioms Go.Proofs.Ytjbgfihkdeeonaa.repeats_holds
