/- The abstract machine, part 12: regions in the text's order, code, loops, and contracts from the code of a function; nothing is assumed of any program. -/
import Derived.Test.YtjbgfihkdeeonaaAmElevenB
set_option linter.unusedSimpArgs false
set_option linter.unusedVariables false
namespace Go.Am
open Go.RowKit

/-- Is an operation wanted? -/
def wantedA (ops : Array Oper) (F : Nat → LV) (o : Oper) : Option Bool :=
  match o.guard with
  | none => some true
  | some (j, b) => match (ops[j]?).bind (·.dst) with
    | some s => match F s with
      | .pv (.bool t) => some (t == b)
      | .undef => some false
      | _ => none
    | none => none

def men?L (d : Nat) : List (Nat × BO) → Bool
  | [] => false
  | (_, o) :: r => o.men d || men?L d r

def men?F (d : Nat) : List (Nat × LV) → Bool
  | [] => false
  | (_, v) :: r => v.men d || men?F d r

def St.fresh (σ : St) (d : Nat) : Bool := !men?F d σ.fr && !men?L d σ.bx

/-- The names that a step makes are new. -/
def NewOk (σ : St) (new : List Nat) : Prop := (new.all fun d => σ.fresh d && decide (d < 1000)) = true

theorem lk_mem {α : Type} {k : Nat} {v : α} : ∀ {l : List (Nat × α)}, lk k l = some v → (k, v) ∈ l
  | [], h => by simp [lk] at h
  | (j, x) :: r, h => by
    simp only [lk] at h
    split at h
    · rename_i hj; injection h with h; subst h; subst hj; simp
    · simp [lk_mem h]

theorem men?F_spec {d : Nat} : ∀ {l : List (Nat × LV)}, men?F d l = false → ∀ x ∈ l, x.2.men d = false
  | [], _ => by simp
  | (j, v) :: r, h => by
    simp only [men?F, Bool.or_eq_false_iff] at h
    intro x hx
    rcases List.mem_cons.1 hx with rfl | hx
    · exact h.1
    · exact men?F_spec h.2 x hx

theorem men?L_spec {d : Nat} : ∀ {l : List (Nat × BO)}, men?L d l = false → ∀ x ∈ l, x.2.men d = false
  | [], _ => by simp
  | (j, v) :: r, h => by
    simp only [men?L, Bool.or_eq_false_iff] at h
    intro x hx
    rcases List.mem_cons.1 hx with rfl | hx
    · exact h.1
    · exact men?L_spec h.2 x hx

theorem alive_some {o o' : BO} (h : o.alive = some o') : o = o' := by cases o <;> simp [BO.alive] at h <;> exact h

theorem fresh_spec {σ : St} {d : Nat} (h : σ.fresh d = true) : NoMen σ.f σ.b d := by
  simp only [St.fresh, Bool.and_eq_true, Bool.not_eq_true'] at h
  refine ⟨fun s => ?_, fun n xs hn => ?_⟩
  · unfold St.f
    cases hl : lk s σ.fr with
    | none => rfl
    | some v => exact men?F_spec h.1 _ (lk_mem hl)
  · obtain ⟨o, ho, hoa⟩ := Option.bind_eq_some_iff.1 hn
    have := alive_some hoa
    subst this
    exact men?L_spec h.2 _ (lk_mem ho)

theorem wanted_ok {P : Program} {E : Env} {g : Gh} {a : Act} {w : World} {F : Nat → LV} {B : Nat → Option BO} {H : HT} (hs : Sim P E g a w F B H)
    {ops : Array Oper} {o : Oper} {t : Bool} (h : wantedA ops F o = some t) : Region.wanted o (yielded ops a.tmps) = t := by
  unfold wantedA at h
  unfold Region.wanted
  split at h
  · rename_i hg; simp [hg]; simpa using h
  · rename_i j b hg
    simp only [hg]
    split at h
    · rename_i s hd
      have hsl := hs.slots s
      split at h
      · rename_i t' hf
        rw [hf] at hsl
        have hv := bool_inv hsl
        have he : a.tmps[s]? = some (.bool t') := by
          rw [Array.getD_eq_getD_getElem?] at hv
          cases hq : a.tmps[s]? with
          | none => rw [hq] at hv; simp [undef] at hv
          | some q => rw [hq] at hv; simp at hv; rw [hv]
        have hy : yielded ops a.tmps j = some t' := by simp [yielded, hd, he]
        rw [hy]
        injection h with h
      · rename_i hf
        rw [hf] at hsl
        have hv : a.tmps.getD s undef = undef := hsl
        injection h with h
        have hn : yielded ops a.tmps j = none := by
          rw [Array.getD_eq_getD_getElem?] at hv
          cases hq : a.tmps[s]? with
          | none => simp [yielded, hd, hq]
          | some q => rw [hq] at hv; simp at hv; simp [yielded, hd, hq, hv, undef]
        rw [hn, ← h]
        rfl
      · cases h
    · cases h

/-- A step, or one of a loop over a map. -/
def aopN (P : Program) (F : Nat → LV) (B : Nat → Option BO) (H : HT) (o : Oper) (K : Upd → Prop) : Prop :=
  match o.op with
  | .next x false => aNext B K (evo F x)
  | _ => aop P F B H o K

/-- The operations of a region, in the text's order. -/
def aops (P : Program) (ops : Array Oper) : List Oper → St → (St → Prop) → Prop
  | [], σ, K => K σ
  | o :: os, σ, K =>
    match o.guard with
    | none => aopN P σ.f σ.b σ.h o fun u => NewOk σ u.new ∧ aops P ops os (σ.app o.dst u) K
    | some (j, b) => match (ops[j]?).bind (·.dst) with
      | some s => match σ.f s with
        | .pv (.bool t) => (t = b → aopN P σ.f σ.b σ.h o fun u => NewOk σ u.new ∧ aops P ops os (σ.app o.dst u) K) ∧ (t = !b → aops P ops os (σ.app o.dst { val := .undef }) K)
        | .undef => aops P ops os (σ.app o.dst { val := .undef }) K
        | _ => False
      | none => False

def Step1 (P : Program) (ops : Array Oper) (σ : St) (o : Oper) (u : Upd) : Prop :=
  (wantedA ops σ.f o = some true ∧ aop P σ.f σ.b σ.h o (· = u)) ∨ (wantedA ops σ.f o = some false ∧ u = { val := .undef })

def appAll : List Oper → List Upd → St → St
  | o :: os, u :: us, σ => appAll os us (σ.app o.dst u)
  | _, _, σ => σ

section
variable {P : Program} {E : Env}

abbrev SimS (P : Program) (E : Env) (nt : Nat) (a : Act) (w : World) (σ : St) : Prop := a.tmps.size = nt ∧ ∃ g, Sim P E g a w σ.f σ.b σ.h

theorem size_put (a : Act) (d : Option Tmp) (v : Value) : (a.put d v).tmps.size = a.tmps.size := by cases d <;> simp [Act.put]

theorem NewOk.spec {σ : St} {new : List Nat} (h : NewOk σ new) (hL : ∀ n, E.L n → 1000 ≤ n) : ∀ d ∈ new, NoMen σ.f σ.b d ∧ ¬ E.L d := by
  intro d hd
  have := List.all_eq_true.1 h d hd
  simp only [Bool.and_eq_true, decide_eq_true_eq] at this
  exact ⟨fresh_spec this.1, fun hl => by have := hL d hl; omega⟩

theorem aopN_wp {g : Gh} {a : Act} {w : World} {F : Nat → LV} {B : Nat → Option BO} {H : HT} {o : Oper} {K' : Upd → Prop} (h : aopN P F B H o K') (hs : Sim P E g a w F B H) (hd : ∀ d, o.dst = some d → d < a.tmps.size) (hnew : ∀ u, K' u → ∀ d ∈ u.new, NoMen F B d ∧ ¬ E.L d)
    {K : Act → World → Prop} {Q : Exit → Act → World → Prop} (hK : ∀ u v w' g', K' u → Sim P E g' (a.put o.dst v) w' (appF F o.dst u) (appB B u) (appH H u) → K (a.put o.dst v) w') : o.wp P a w K Q := by
  unfold aopN at h
  split at h
  · rename_i x ho
    exact next_ok ho h hs hd fun u v w' g' h1 _ h2 => hK u v w' g' h1 h2
  · obtain ⟨u, h1, h2⟩ := aop_ex h
    exact aop_ok h1 E g a w hs hd (hnew u h2) K Q fun v w' g' hs' => hK u v w' g' h2 hs'

/-- A region in the text's order. -/
theorem aops_ok (hL : ∀ n, E.L n → 1000 ≤ n) {ops : Array Oper} {nt : Nat} (hd : ∀ o ∈ ops, ∀ d, o.dst = some d → d < nt) {Q : Exit → Act → World → Prop} : ∀ (n : Nat) (i : Nat) (σ : St) (K : St → Prop) (a : Act) (w : World), i + n = ops.size → SimS P E nt a w σ →
    aops P ops (ops.toList.drop i) σ K → (∀ σ' a' w', K σ' → SimS P E nt a' w' σ' → Q .normal a' w') → wpOps P ops Q (List.range' i n) a w
  | 0, i, σ, K, a, w, hi, hs, h, hQ => by
    have he : ops.toList.drop i = [] := List.drop_of_length_le (by simp; omega)
    rw [he] at h
    simp only [List.range'_zero, wpOps]
    exact hQ σ a w h hs
  | n + 1, i, σ, K, a, w, hi, hs, h, hQ => by
    have hlt : i < ops.size := by omega
    have he : ops.toList.drop i = ops[i] :: ops.toList.drop (i + 1) := by
      rw [List.drop_eq_getElem_cons (by simpa using hlt)]; simp
    rw [he] at h
    obtain ⟨hsz, g, hg⟩ := hs
    have hdi : ∀ d, (ops[i]).dst = some d → d < a.tmps.size := fun d h => by rw [hsz]; exact hd _ (Array.getElem_mem hlt) d h
    simp only [List.range'_succ, wpOps, Array.getElem?_eq_getElem hlt]
    have skip : aops P ops (ops.toList.drop (i + 1)) (σ.app (ops[i]).dst { val := .undef }) K → wpOps P ops Q (List.range' (i + 1) n) (a.put (ops[i]).dst undef) w := fun h => by
      refine aops_ok hL hd n (i + 1) _ K _ w (by omega) ⟨by rw [size_put]; exact hsz, g, ?_⟩ h hQ
      rw [St.app_f, St.app_b, St.app_h, appB_nil rfl]
      exact hg.put hdi rfl
    have doit : (aopN P σ.f σ.b σ.h ops[i] fun u => NewOk σ u.new ∧ aops P ops (ops.toList.drop (i + 1)) (σ.app (ops[i]).dst u) K) → (ops[i]).wp P a w (wpOps P ops Q (List.range' (i + 1) n)) Q := fun h => by
      refine aopN_wp h hg hdi (fun u hu => hu.1.spec hL) fun u v w' g' hu hs' => ?_
      refine aops_ok hL hd n (i + 1) _ K _ w' (by omega) ⟨by rw [size_put]; exact hsz, g', ?_⟩ hu.2 hQ
      rw [St.app_f, St.app_b, St.app_h]
      exact hs'
    simp only [aops] at h
    split at h
    · rename_i hgd
      have : Region.wanted ops[i] (yielded ops a.tmps) = true := wanted_ok hg (by simp [wantedA, hgd])
      rw [if_pos this]
      exact .inl (doit h)
    · rename_i j b hgd
      split at h
      · rename_i s hds
        split at h
        · rename_i t hf
          by_cases ht : t = b
          · have : Region.wanted ops[i] (yielded ops a.tmps) = true := wanted_ok hg (by simp [wantedA, hgd, hds, hf, ht])
            rw [if_pos this]
            exact .inl (doit (h.1 ht))
          · have : Region.wanted ops[i] (yielded ops a.tmps) = false := wanted_ok hg (by simp [wantedA, hgd, hds, hf, ht])
            rw [if_neg (by rw [this]; simp)]
            exact skip (h.2 (by cases t <;> cases b <;> simp_all))
        · rename_i hf
          have : Region.wanted ops[i] (yielded ops a.tmps) = false := wanted_ok hg (by simp [wantedA, hgd, hds, hf])
          rw [if_neg (by rw [this]; simp)]
          exact skip h
        · exact h.elim
      · exact h.elim

end
end Go.Am
