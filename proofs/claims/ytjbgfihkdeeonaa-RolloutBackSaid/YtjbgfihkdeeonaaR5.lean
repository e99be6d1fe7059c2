/- RolloutBack: for every input the law returns true, and its arguments read as they did; nothing is assumed. -/
import Derived.Test.YtjbgfihkdeeonaaT26
import Derived.Test.YtjbgfihkdeeonaaT32
set_option linter.unusedSimpArgs false
set_option linter.unusedVariables false
open Go Go.Am Go.RowKit Go.ChangeShapes Go.WideShapes
namespace Go.Proofs.Ytjbgfihkdeeonaa

set_option maxRecDepth 100000 in
theorem back_holds_lifted (os : Os) (started : os.Started) (H : Type) (enc : TypeId × Value → H) :
    ReturnsInHanded {} Try.checked os 6 .any (Rows.rolloutBackSpec.pre6 enc Try.prog Try.f6 Rows.rolloutBackRow.domain false) (Rows.rolloutBackSpec.post enc Try.prog Try.f6 false true false false) := by
  refine returnsInHanded_of_change (C := Try.checked) own_none started (by kernel_rfl) Try.func6
    (ChangeSpec.witness6 (enc := enc) (C := Try.checked) false ⟨#[], #[.agg #[.slice none 0 0, .int .u8 0, .slice none 0 0], .slice none 0 0], []⟩ 8 (by kernel_rfl) (by kernel_rfl) (by kernel_rfl) (by kernel_rfl)) ?_
  intro W base args ds gs before hval hW _ _
  refine law_contract (P := Try.prog) (G := tys) (tb := 4) tys_ok ?_ laid_ok ?_ (by kernel_rfl) Try.underlying4 rfl ?_ ?_ W base args ds gs before hval hW
  · rw [Try.params6]; decide
  · rw [Try.params6]
    intro t ht
    simp only [List.mem_cons, List.not_mem_nil, or_false] at ht
    rcases ht with rfl | rfl <;> exact ⟨by kernel_rfl, of_decide_eq_true (by kernel_rfl)⟩
  · intro ds hds
    rw [Try.params6] at hds
    match ds, hds with
    | [d1, d2], _ => exact ⟨rfl, rfl, rfl⟩
  · intro qs hqs
    rw [Try.params6] at hqs
    match qs, hqs with
    | [q1, q2], ⟨h1, h2, _⟩ =>
      obtain ⟨x, rfl, hx⟩ := arg25 h1
      obtain ⟨l, rfl, hl, hb⟩ := arg22 h2
      exact backl_good x l hx hl hb

theorem back_holds : Rows.RolloutBackSaid :=
  OpenClaim.holds_of_wide 6 Try.f6 rfl rfl rfl rfl rfl rfl rfl ⟨rfl, rfl, rfl, rfl, rfl⟩ rfl rfl rfl rfl rfl (by kernel_rfl) Try.func6 (by kernel_rfl)
    (of_decide_eq_true (by kernel_rfl)) (by unfold Func.isWrapper; first | (rw [if_pos (by decide +kernel)]; kernel_rfl) | (rw [if_neg (by decide +kernel)]; exact ⟨rfl, rfl⟩))
    (fun os started H enc _ => back_holds_lifted os started H enc)

end Go.Proofs.Ytjbgfihkdeeonaa
#print axioms Go.Proofs.Ytjbgfihkdeeonaa.back_holds
