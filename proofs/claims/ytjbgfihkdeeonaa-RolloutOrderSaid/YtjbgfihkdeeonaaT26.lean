/- What this program's arguments read as; nothing is assumed. -/
import Derived.Test.YtjbgfihkdeeonaaT25
import Derived.Test.YtjbgfihkdeeonaaAmEighteen
import Derived.Test.YtjbgfihkdeeonaaRows
import Derived.JoinedOf
import Derived.WalkKit
import Derived.ProofKit
set_option linter.unusedSimpArgs false
set_option linter.unusedVariables false
open Go Go.Am Go.RowKit Go.ChangeShapes Go.WideShapes
namespace Go.Proofs.Ytjbgfihkdeeonaa

def tys : List TypeId := [3, 4, 5, 22, 23, 25, 26, 27, 29, 31, 45, 55, 61]
theorem tys_ok : okTys Try.prog tys = true := by kernel_rfl
theorem laid_ok : laidOutB Try.prog = true := by kernel_rfl
theorem own_none : ownKnob Try.prog.godebug = none := by kernel_rfl

theorem list_inv {α : Type} {f : α → PV} {Q : α → Prop} : ∀ {l : List PV}, (∀ el ∈ l, ∃ a, el = f a ∧ Q a) → ∃ m : List α, l = m.map f ∧ ∀ a ∈ m, Q a
  | [], _ => ⟨[], rfl, by simp⟩
  | el :: l, h => by
    obtain ⟨a, rfl, ha⟩ := h el (by simp)
    obtain ⟨m, rfl, hm⟩ := list_inv (l := l) (f := f) (Q := Q) fun e he => h e (by simp [he])
    exact ⟨a :: m, rfl, fun b hb => by rcases List.mem_cons.1 hb with rfl | hb; exact ha; exact hm b hb⟩

theorem int_inv3 {qs : List PV} (h : HasT Try.prog 3 qs) : ∃ n, qs = [I n] := by
  obtain ⟨n, rfl, _⟩ := h.int_inv Try.underlying3
  exact ⟨n, rfl⟩
theorem bool_inv4 {qs : List PV} (h : HasT Try.prog 4 qs) : ∃ b, qs = [.bool b] := h.bool_inv Try.underlying4
theorem u8_inv5 {qs : List PV} (h : HasT Try.prog 5 qs) : ∃ n, qs = [U8 n] ∧ 0 ≤ n ∧ n < 256 := by
  obtain ⟨n, rfl, hw⟩ := h.int_inv Try.underlying5
  refine ⟨n, rfl, ?_⟩
  simp [Lit.wf, IntKind.min, IntKind.max, IntKind.signed, IntKind.bits] at hw
  omega
theorem one_of {e : TypeId} {el : PV} (h : el.one = !Try.prog.aggT e) (ha : Try.prog.aggT e = false) : el.cells = [el] := cells_one (by rw [h, ha]; rfl)
theorem agg_of {e : TypeId} {el : PV} (h : el.one = !Try.prog.aggT e) (ha : Try.prog.aggT e = true) : el = .agg el.cells := by
  rw [ha] at h
  cases el <;> simp [PV.one, PV.cells] at *
theorem bytes_inv {qs : List PV} (h : HasT Try.prog 22 qs) : ∃ l, qs = [BL l] ∧ l.length ≤ 9223372036854775807 ∧ ∀ b ∈ l, 0 ≤ b ∧ b < 256 := by
  obtain ⟨l, rfl, hl, hg, he⟩ := h.slc_inv Try.underlying22
  obtain ⟨m, rfl, hm⟩ := list_inv (f := U8) (Q := fun b => 0 ≤ b ∧ b < 256) fun el hel => by
    have h1 := he el hel
    rw [one_of (hg el hel) ag5] at h1
    obtain ⟨n, h2, h3⟩ := u8_inv5 h1
    exact ⟨n, by simpa using h2, h3⟩
  exact ⟨m, rfl, by simpa [maxLen] using hl, hm⟩
theorem ints_inv {qs : List PV} (h : HasT Try.prog 27 qs) : ∃ l, qs = [IL l] ∧ l.length ≤ 9223372036854775807 := by
  obtain ⟨l, rfl, hl, hg, he⟩ := h.slc_inv Try.underlying27
  obtain ⟨m, rfl, hm⟩ := list_inv (f := I) (Q := fun _ => True) fun el hel => by
    have h1 := he el hel
    rw [one_of (hg el hel) ag3] at h1
    obtain ⟨n, h2⟩ := int_inv3 h1
    exact ⟨n, by simpa using h2, trivial⟩
  exact ⟨m, rfl, by simpa [maxLen] using hl⟩
theorem waves_inv {qs : List PV} (h : HasT Try.prog 26 qs) : ∃ l, qs = [IW l] ∧ l.length ≤ 9223372036854775807 ∧ ∀ w ∈ l, w.length ≤ 9223372036854775807 := by
  obtain ⟨l, rfl, hl, hg, he⟩ := h.slc_inv Try.underlying26
  obtain ⟨m, rfl, hm⟩ := list_inv (f := IL) (Q := fun w => w.length ≤ 9223372036854775807) fun el hel => by
    have h1 := he el hel
    rw [one_of (hg el hel) ag27] at h1
    obtain ⟨n, h2, h3⟩ := ints_inv h1
    exact ⟨n, by simpa using h2, h3⟩
  exact ⟨m, rfl, by simpa [maxLen] using hl, hm⟩
theorem step_inv {qs : List PV} (h : HasT Try.prog 45 qs) : ∃ s, .agg qs = SP s ∧ SOk s := by
  obtain ⟨parts, rfl, hl, hp⟩ := h.struct_inv Try.underlying45
  match parts, hl with
  | [a, b, c, d, e, f], _ =>
    obtain ⟨n0, rfl, h0⟩ := u8_inv5 (hp 0 _ a rfl rfl)
    obtain ⟨n1, rfl, h1⟩ := u8_inv5 (hp 1 _ b rfl rfl)
    obtain ⟨n2, rfl, h2⟩ := u8_inv5 (hp 2 _ c rfl rfl)
    obtain ⟨b3, rfl⟩ := bool_inv4 (hp 3 _ d rfl rfl)
    obtain ⟨b4, rfl⟩ := bool_inv4 (hp 4 _ e rfl rfl)
    obtain ⟨b5, rfl⟩ := bool_inv4 (hp 5 _ f rfl rfl)
    exact ⟨⟨n0, n1, n2, b3, b4, b5⟩, rfl, h0, h1, h2⟩
theorem raw_inv {qs : List PV} (h : HasT Try.prog 25 qs) : ∃ x, .agg qs = XP x ∧ XOk x := by
  obtain ⟨parts, rfl, hl, hp⟩ := h.struct_inv Try.underlying25
  match parts, hl with
  | [a, b, c], _ =>
    obtain ⟨l, rfl, h1, h2⟩ := bytes_inv (hp 0 _ a rfl rfl)
    obtain ⟨n, rfl, h3⟩ := u8_inv5 (hp 1 _ b rfl rfl)
    obtain ⟨ss, rfl, h4, hg, he⟩ := (hp 2 _ c rfl rfl).slc_inv Try.underlying23
    obtain ⟨m, rfl, hm⟩ := list_inv (f := SP) (Q := SOk) fun el hel => by
      have h1 := he el hel
      obtain ⟨s, h2, h3⟩ := step_inv h1
      exact ⟨s, (agg_of (hg el hel) ag45).trans h2, h3⟩
    exact ⟨⟨l, n, m⟩, rfl, h2, h3, hm, h1, by simpa [maxLen] using h4⟩
theorem roll_inv {qs : List PV} (h : HasT Try.prog 29 qs) : ∃ r : Roll, .agg qs = R r ∧ r.waves.length ≤ 9223372036854775807 := by
  obtain ⟨parts, rfl, hl, hp⟩ := h.struct_inv Try.underlying29
  match parts, hl with
  | [a, b, c, d, e, f, g], _ =>
    obtain ⟨n0, rfl⟩ := int_inv3 (hp 0 _ a rfl rfl)
    obtain ⟨n1, rfl⟩ := int_inv3 (hp 1 _ b rfl rfl)
    obtain ⟨W, rfl, h1, h2⟩ := waves_inv (hp 2 _ c rfl rfl)
    obtain ⟨n3, rfl⟩ := int_inv3 (hp 3 _ d rfl rfl)
    obtain ⟨n4, rfl⟩ := int_inv3 (hp 4 _ e rfl rfl)
    obtain ⟨l, rfl, h3⟩ := ints_inv (hp 5 _ f rfl rfl)
    obtain ⟨n6, rfl⟩ := int_inv3 (hp 6 _ g rfl rfl)
    exact ⟨⟨n0, n1, W, n3, n4, l, n6⟩, rfl, h1⟩
theorem rep_inv {qs : List PV} (h : HasT Try.prog 31 qs) : ∃ p : Rep51, .agg qs = RP p := by
  obtain ⟨parts, rfl, hl, hp⟩ := h.struct_inv Try.underlying31
  match parts, hl with
  | [a, b, c, d, e], _ =>
    obtain ⟨n0, rfl⟩ := int_inv3 (hp 0 _ a rfl rfl)
    obtain ⟨n1, rfl⟩ := int_inv3 (hp 1 _ b rfl rfl)
    obtain ⟨n2, rfl⟩ := int_inv3 (hp 2 _ c rfl rfl)
    obtain ⟨b3, rfl⟩ := bool_inv4 (hp 3 _ d rfl rfl)
    obtain ⟨b4, rfl⟩ := bool_inv4 (hp 4 _ e rfl rfl)
    exact ⟨⟨n0, n1, n2, b3, b4⟩, rfl⟩

theorem arg25 {q : PV} (h : HasT Try.prog 25 q.cells ∧ q.one = !Try.prog.aggT 25) : ∃ x, q = XP x ∧ XOk x := by
  obtain ⟨x, h1, h2⟩ := raw_inv h.1
  exact ⟨x, (agg_of h.2 ag25).trans h1, h2⟩
theorem arg29 {q : PV} (h : HasT Try.prog 29 q.cells ∧ q.one = !Try.prog.aggT 29) : ∃ r : Roll, q = R r ∧ r.waves.length ≤ 9223372036854775807 := by
  obtain ⟨x, h1, h2⟩ := roll_inv h.1
  exact ⟨x, (agg_of h.2 ag29).trans h1, h2⟩
theorem arg31 {q : PV} (h : HasT Try.prog 31 q.cells ∧ q.one = !Try.prog.aggT 31) : ∃ r : Rep51, q = RP r := by
  obtain ⟨x, h1⟩ := rep_inv h.1
  exact ⟨x, (agg_of h.2 ag31).trans h1⟩
theorem arg45 {q : PV} (h : HasT Try.prog 45 q.cells ∧ q.one = !Try.prog.aggT 45) : ∃ s, q = SP s ∧ SOk s := by
  obtain ⟨x, h1, h2⟩ := step_inv h.1
  exact ⟨x, (agg_of h.2 ag45).trans h1, h2⟩
theorem arg22 {q : PV} (h : HasT Try.prog 22 q.cells ∧ q.one = !Try.prog.aggT 22) : ∃ l, q = BL l ∧ l.length ≤ 9223372036854775807 ∧ ∀ b ∈ l, 0 ≤ b ∧ b < 256 := by
  have h1 := h.1
  rw [one_of h.2 ag22] at h1
  obtain ⟨l, h2, h3⟩ := bytes_inv h1
  exact ⟨l, by simpa using h2, h3⟩

end Go.Proofs.Ytjbgfihkdeeonaa
