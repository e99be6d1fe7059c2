/- RolloutOrder: for every input the law returns true, and its arguments read as they did; nothing is assumed. -/
import Derived.Test.YtjbgfihkdeeonaaT26
import Derived.Test.YtjbgfihkdeeonaaT33
set_option linter.unusedSimpArgs false
set_option linter.unusedVariables false
open Go Go.Am Go.RowKit Go.ChangeShapes Go.WideShapes
namespace Go.Proofs.Ytjbgfihkdeeonaa

set_option maxRecDepth 100000 in
theorem order_holds_lifted (os : Os) (started : os.Started) (H : Type) (enc : TypeId × Value → H) :
    ReturnsInHanded {} Try.checked os 4 .any (Rows.rolloutOrderSpec.pre6 enc Try.prog Try.f4 Rows.rolloutOrderRow.domain false) (Rows.rolloutOrderSpec.post enc Try.prog Try.f4 false true false false) := by
  refine returnsInHanded_of_change (C := Try.checked) own_none started (by kernel_rfl) Try.func4
    (ChangeSpec.witness6 (enc := enc) (C := Try.checked) false ⟨#[], #[.agg #[.slice none 0 0, .int .u8 0, .slice none 0 0]], []⟩ 8 (by kernel_rfl) (by kernel_rfl) (by kernel_rfl) (by kernel_rfl)) ?_
  intro W base args ds gs before hval hW _ _
  refine law_contract (P := Try.prog) (G := tys) (tb := 4) tys_ok ?_ laid_ok ?_ (by kernel_rfl) Try.underlying4 rfl ?_ ?_ W base args ds gs before hval hW
  · rw [Try.params4]; decide
  · rw [Try.params4]
    intro t ht
    simp only [List.mem_cons, List.not_mem_nil, or_false] at ht
    subst ht; exact ⟨by kernel_rfl, of_decide_eq_true (by kernel_rfl)⟩
  · intro ds hds
    rw [Try.params4] at hds
    match ds, hds with
    | [d1], _ => exact ⟨rfl, rfl, rfl⟩
  · intro qs hqs
    rw [Try.params4] at hqs
    match qs, hqs with
    | [q1], ⟨h1, _⟩ =>
      obtain ⟨x, rfl, hx⟩ := arg25 h1
      exact orderl_good x hx hx.sl

theorem order_holds : Rows.RolloutOrderSaid :=
  OpenClaim.holds_of_wide 4 Try.f4 rfl rfl rfl rfl rfl rfl rfl ⟨rfl, rfl, rfl, rfl, rfl⟩ rfl rfl rfl rfl rfl (by kernel_rfl) Try.func4 (by kernel_rfl)
    (of_decide_eq_true (by kernel_rfl)) (by unfold Func.isWrapper; first | (rw [if_pos (by decide +kernel)]; kernel_rfl) | (rw [if_neg (by decide +kernel)]; exact ⟨rfl, rfl⟩))
    (fun os started H enc _ => order_holds_lifted os started H enc)

end Go.Proofs.Ytjbgfihkdeeonaa
#print axioms Go.Proofs.Ytjbgfihkdeeonaa.order_holds
