/- The abstract machine, part 1: pure values and what it is for a value in a world to read as one; nothing is assumed of any program. -/
import Derived.Calls
import Derived.Orders
import Derived.Below
import Derived.Laws.AppendOwn
import Derived.Laws.Rows
import Derived.Laws.Cells
import Derived.Laws.Entries
namespace Go.Am
open Go.RowKit

/-- A pure value: a slice is the list of its elements, a struct or an array the list of its cells. -/
inductive PV where
  | int (k : IntKind) (n : Int)
  | bool (b : Bool)
  | str (s : ByteArray)
  | slc (l : List PV)
  | agg (cs : List PV)
  | ptr (cs : List PV)
  | nilp
  | clo (f : FuncId) (cap : List PV)
  | nilf
  | map (ks vs : List PV)
  deriving Inhabited

def PV.cells : PV → List PV
  | .agg cs => cs
  | v => [v]

/-- Two worlds agree on the cells and maps of a set. -/
def Agree (S : Nat → Nat → Prop) (w w' : World) : Prop :=
  ∀ b o, S b o → w'.cell? ⟨b, o, none⟩ = w.cell? ⟨b, o, none⟩ ∧ ∀ es c, w.heap[b]? = some (.map es c) → w'.heap[b]? = some (.map es c)

theorem Agree.refl (S : Nat → Nat → Prop) (w : World) : Agree S w w := fun _ _ _ => ⟨rfl, fun _ _ h => h⟩
theorem Agree.trans {S : Nat → Nat → Prop} {w w' w'' : World} (h : Agree S w w') (k : Agree S w' w'') : Agree S w w'' :=
  fun b o hs => ⟨((k b o hs).1).trans ((h b o hs).1), fun es c hm => (k b o hs).2 es c ((h b o hs).2 es c hm)⟩
theorem Agree.mono {S S' : Nat → Nat → Prop} {w w' : World} (h : Agree S w w') (hS : ∀ b o, S' b o → S b o) : Agree S' w w' :=
  fun b o hs => h b o (hS b o hs)
theorem Agree.of_heap {S : Nat → Nat → Prop} {w w' : World} (h : ∀ b o, S b o → w'.heap[b]? = w.heap[b]?) : Agree S w w' :=
  fun b o hs => ⟨by simp [World.cell?, h b o hs], fun es c hm => by rw [h b o hs]; exact hm⟩

/-- 'Rep S w v p': the value v reads in the world w as p, and all that it reaches lies in S. -/
inductive Rep (S : Nat → Nat → Prop) (w : World) : Value → PV → Prop
  | int (k : IntKind) (n : Int) : Rep S w (.int k n) (.int k n)
  | bool (b : Bool) : Rep S w (.bool b) (.bool b)
  | str (s : ByteArray) : Rep S w (.string s) (.str s)
  | nils : Rep S w (.slice none 0 0) (.slc [])
  | nilz (a : Addr) : Rep S w (.slice (some a) 0 0) (.slc [])
  | slc (b off len cap sz : Nat) (l : List PV) (vs : Nat → Value) (hl : l.length = len) (hc : len ≤ cap)
      (hsz : ∀ e ∈ l, e.cells.length = sz)
      (ho : ∀ j, j < len * sz → (vs j).oneCell' = true)
      (hm : ∀ j, j < len * sz → S b (off + j) ∧ w.cell? ⟨b, off + j, none⟩ = some (vs j))
      (hr : ∀ i e j c, l[i]? = some e → e.cells[j]? = some c → Rep S w (vs (i * sz + j)) c) :
      Rep S w (.slice (some ⟨b, off, none⟩) len cap) (.slc l)
  | agg (vs : Array Value) (cs : List PV) (hl : vs.size = cs.length) (ho : ∀ (j : Nat) (v : Value), vs[j]? = some v → v.oneCell' = true)
      (hr : ∀ (j : Nat) (v : Value) (c : PV), vs[j]? = some v → cs[j]? = some c → Rep S w v c) : Rep S w (.agg vs) (.agg cs)
  | ptr (b off : Nat) (cs : List PV) (vs : Nat → Value) (ho : ∀ j, j < cs.length → (vs j).oneCell' = true)
      (hm : ∀ j, j < cs.length → S b (off + j) ∧ w.cell? ⟨b, off + j, none⟩ = some (vs j))
      (hr : ∀ j c, cs[j]? = some c → Rep S w (vs j) c) : Rep S w (.pointer (some ⟨b, off, none⟩)) (.ptr cs)
  | nilp : Rep S w (.pointer none) .nilp
  | clo (f : FuncId) (vs : Array Value) (cs : List PV) (hl : vs.size = cs.length)
      (hr : ∀ (j : Nat) (v : Value) (c : PV), vs[j]? = some v → cs[j]? = some c → Rep S w v c) : Rep S w (.func (.func f) #[] vs) (.clo f cs)
  | nilf : Rep S w .nilFunc .nilf
  | nilm : Rep S w (.map none) (.map [] [])
  | map (b : Nat) (es : Array MapEntry) (ck : Nat) (ks vs : List PV) (hS : S b 0) (hh : w.heap[b]? = some (.map es ck))
      (hn : (es.toList.map (·.born)).Nodup) (hb : ∀ x ∈ es.toList, x.born < ck)
      (hk : es.size = ks.length) (hv : es.size = vs.length)
      (hrk : ∀ (i : Nat) (e : MapEntry) (k : PV), es[i]? = some e → ks[i]? = some k → Rep S w e.key k)
      (hrv : ∀ (i : Nat) (e : MapEntry) (v : PV), es[i]? = some e → vs[i]? = some v → Rep S w e.val v) : Rep S w (.map (some b)) (.map ks vs)

theorem Rep.mono {S S' : Nat → Nat → Prop} {w w' : World} {v : Value} {p : PV} (h : Rep S w v p) (hS : ∀ b o, S b o → S' b o) (ha : Agree S w w') : Rep S' w' v p := by
  induction h with
  | int k n => exact .int k n
  | bool b => exact .bool b
  | str s => exact .str s
  | nils => exact .nils
  | nilz a => exact .nilz a
  | slc b off len cap sz l vs hl hc hsz ho hm hr ih =>
    exact .slc b off len cap sz l vs hl hc hsz ho (fun j hj => ⟨hS _ _ (hm j hj).1, ((ha _ _ (hm j hj).1).1).trans (hm j hj).2⟩) ih
  | agg vs cs hl ho hr ih => exact .agg vs cs hl ho ih
  | ptr b off cs vs ho hm hr ih => exact .ptr b off cs vs ho (fun j hj => ⟨hS _ _ (hm j hj).1, ((ha _ _ (hm j hj).1).1).trans (hm j hj).2⟩) ih
  | nilp => exact .nilp
  | clo f vs cs hl hr ih => exact .clo f vs cs hl ih
  | nilf => exact .nilf
  | nilm => exact .nilm
  | map b es ck ks vs hS' hh hn hb hk hv hrk hrv ihk ihv => exact .map b es ck ks vs (hS _ _ hS') ((ha _ _ hS').2 _ _ hh) hn hb hk hv ihk ihv

theorem Rep.agree {S : Nat → Nat → Prop} {w w' : World} {v : Value} {p : PV} (h : Rep S w v p) (ha : Agree S w w') : Rep S w' v p := h.mono (fun _ _ h => h) ha
theorem Rep.more {S S' : Nat → Nat → Prop} {w : World} {v : Value} {p : PV} (h : Rep S w v p) (hS : ∀ b o, S b o → S' b o) : Rep S' w v p := h.mono hS (Agree.refl _ _)

/-- The cells of a value read as the cells of the pure value. -/
theorem Rep.cells {S : Nat → Nat → Prop} {w : World} {v : Value} {p : PV} (h : Rep S w v p) : v.cells.size = p.cells.length ∧ ∀ (j : Nat) (u : Value) (c : PV), v.cells[j]? = some u → p.cells[j]? = some c → Rep S w u c := by
  have one : ∀ {v : Value} {p : PV}, Rep S w v p → v.cells = #[v] → p.cells = [p] → v.cells.size = p.cells.length ∧ ∀ (j : Nat) (u : Value) (c : PV), v.cells[j]? = some u → p.cells[j]? = some c → Rep S w u c := by
    intro v p h h1 h2
    rw [h1, h2]
    refine ⟨rfl, fun j u c hu hc => ?_⟩
    cases j with
    | zero => simp at hu hc; subst hu; subst hc; exact h
    | succ j => simp at hc
  have h' := h
  cases h with
  | agg vs cs hl ho hr => exact ⟨hl, hr⟩
  | _ => exact one h' rfl rfl

/-- A one-cell pure value. -/
def PV.one : PV → Bool
  | .agg _ => false
  | _ => true

theorem Rep.oneCell {S : Nat → Nat → Prop} {w : World} {v : Value} {p : PV} (h : Rep S w v p) (ho : p.one = true) : v.oneCell' = true := by
  cases h <;> first | rfl | simp [PV.one] at ho

theorem Rep.cellsOne {S : Nat → Nat → Prop} {w : World} {v : Value} {p : PV} (h : Rep S w v p) : ∀ (j : Nat) (u : Value), v.cells[j]? = some u → u.oneCell' = true := by
  cases h with
  | agg vs cs hl ho hr => exact ho
  | _ =>
    intro j u hu
    cases j with
    | zero => simp [Value.cells] at hu; subst hu; rfl
    | succ j => simp [Value.cells] at hu

/-- A pure value that reaches no memory. -/
inductive Flat : PV → Prop
  | int (k : IntKind) (n : Int) : Flat (.int k n)
  | bool (b : Bool) : Flat (.bool b)
  | str (s : ByteArray) : Flat (.str s)
  | agg (cs : List PV) (h : ∀ c ∈ cs, Flat c) : Flat (.agg cs)

theorem Rep.flat {S S' : Nat → Nat → Prop} {w w' : World} {v : Value} {p : PV} (h : Rep S w v p) (hf : Flat p) : Rep S' w' v p := by
  induction h with
  | int k n => exact .int k n
  | bool b => exact .bool b
  | str s => exact .str s
  | agg vs cs hl ho hr ih =>
    cases hf with
    | agg _ h => exact .agg vs cs hl ho fun j v c hv hc => ih j v c hv hc (h c (List.mem_of_getElem? hc))
  | _ => cases hf

end Go.Am
