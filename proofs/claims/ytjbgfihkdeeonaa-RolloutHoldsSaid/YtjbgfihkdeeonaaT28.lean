/- What a pair of steps and a pair of bytes read as; nothing is assumed. -/
import Derived.Test.YtjbgfihkdeeonaaT26
import Derived.Test.YtjbgfihkdeeonaaT27
set_option linter.unusedSimpArgs false
set_option linter.unusedVariables false
open Go Go.Am Go.RowKit Go.ChangeShapes Go.WideShapes
namespace Go.Proofs.Ytjbgfihkdeeonaa

theorem sp_cells {s : Step51} {qs : List PV} (h : PV.agg qs = SP s) : qs = SC s := by
  injection h
theorem arg55 {q : PV} (h : HasT Try.prog 55 q.cells ∧ q.one = !Try.prog.aggT 55) : ∃ a b, q = SP2 a b ∧ SOk a ∧ SOk b := by
  obtain ⟨parts, h1, hl, hp⟩ := h.1.array_inv Try.underlying55
  match parts, hl with
  | [a, b], _ =>
    obtain ⟨s, hs, hs'⟩ := step_inv (hp a (by simp))
    obtain ⟨t, ht, ht'⟩ := step_inv (hp b (by simp))
    refine ⟨s, t, (agg_of h.2 ag55).trans ?_, hs', ht'⟩
    rw [h1, sp_cells hs, sp_cells ht]
    rfl
def B2 (m n : Int) : PV := .agg [U8 m, U8 n]
theorem arg61 {q : PV} (h : HasT Try.prog 61 q.cells ∧ q.one = !Try.prog.aggT 61) : ∃ m n, q = B2 m n ∧ (0 ≤ m ∧ m < 256) ∧ (0 ≤ n ∧ n < 256) := by
  obtain ⟨parts, h1, hl, hp⟩ := h.1.array_inv Try.underlying61
  match parts, hl with
  | [a, b], _ =>
    obtain ⟨m, rfl, hm⟩ := u8_inv5 (hp _ (List.mem_cons_self ..))
    obtain ⟨n, rfl, hn⟩ := u8_inv5 (hp _ (List.mem_cons_of_mem _ (List.mem_cons_self ..)))
    exact ⟨m, n, (agg_of h.2 ag61).trans (by rw [h1]; rfl), hm, hn⟩

end Go.Proofs.Ytjbgfihkdeeonaa
