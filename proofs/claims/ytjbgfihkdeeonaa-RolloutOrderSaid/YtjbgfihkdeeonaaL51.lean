/- The lists and sets that the program's values read as; nothing is assumed. -/
import Derived.Test.YtjbgfihkdeeonaaF51
import Derived.IntWalk
import Derived.Test.YtjbgfihkdeeonaaAmNineteen
import Derived.Test.YtjbgfihkdeeonaaAmTwenty
set_option linter.unusedSimpArgs false
set_option linter.unusedVariables false
open Go Go.Am Go.RowKit
namespace Go.Proofs.Ytjbgfihkdeeonaa

theorem wrap_i64 {n : Int} (h0 : -9223372036854775808 ≤ n) (h1 : n ≤ 9223372036854775807) : IntKind.i64.wrap n = n := IntWalk.i64_in n ⟨h0, h1⟩

/-- A list of numbers. -/
def I (n : Int) : PV := .int .i64 n
def IL (l : List Int) : PV := .slc (l.map I)
def IW (l : List (List Int)) : PV := .slc (l.map IL)
/-- An index, or -1. -/
def idxOr (o : Option Nat) : Int := match o with | some i => i | none => -1
theorem idxOr_some (i : Nat) : idxOr (some i) = i := rfl
theorem idxOr_none : idxOr none = -1 := rfl
/-- A rollout, a report. -/
structure Roll where
  fr : Int
  to : Int
  waves : List (List Int)
  slack : Int
  ix : Int
  done : List Int
  st : Int
def R (r : Roll) : PV := .agg [I r.fr, I r.to, IW r.waves, I r.slack, I r.ix, IL r.done, I r.st]
def RC (r : Roll) : List LV := [.pv (I r.fr), .pv (I r.to), .pv (IW r.waves), .pv (I r.slack), .pv (I r.ix), .pv (IL r.done), .pv (I r.st)]
structure Rep51 where
  chip : Int
  no : Int
  slack : Int
  same : Bool
  runs : Bool
def RP (p : Rep51) : PV := .agg [I p.chip, I p.no, I p.slack, .bool p.same, .bool p.runs]
def RPC (p : Rep51) : List LV := [.pv (I p.chip), .pv (I p.no), .pv (I p.slack), .pv (.bool p.same), .pv (.bool p.runs)]
/-- A set of numbers. -/
def tt : PV := .bool true
def IM (s : List Int) : PV := .map (s.map I) (s.map fun _ => tt)

def addK (s : List Int) (n : Int) : List Int := if n ∈ s then s else s ++ [n]
def setOf (l : List Int) : List Int := l.foldl addK []

theorem keyEq_I (a b : Int) : keyEq (I a) (I b) = decide (a = b) := by
  simp [keyEq, I]; by_cases h : a = b <;> simp [h]

theorem mget_I (n : Int) : ∀ s : List Int, mget (I n) (s.map I) (s.map fun _ => tt) = if n ∈ s then some tt else none
  | [] => by simp [mget]
  | x :: r => by
    simp only [List.map_cons, mget, keyEq_I, mget_I n r]
    by_cases h : n = x <;> simp [h]

theorem mset_I (n : Int) : ∀ s : List Int, mset (I n) tt (s.map I) (s.map fun _ => tt) = ((addK s n).map I, (addK s n).map fun _ => tt)
  | [] => by simp [mset, addK]
  | x :: r => by
    simp only [List.map_cons, mset, keyEq_I, mset_I n r]
    by_cases h : n = x
    · simp [h, addK]
    · by_cases hr : n ∈ r <;> simp [h, hr, addK]

theorem mdel_I (n : Int) : ∀ s : List Int, mdel (I n) (s.map I) (s.map fun _ => tt) = ((s.erase n).map I, (s.erase n).map fun _ => tt)
  | [] => by simp [mdel]
  | x :: r => by
    simp only [List.map_cons, mdel, keyEq_I, mdel_I n r]
    by_cases h : n = x
    · simp [h]
    · have : (x == n) = false := by simpa using Ne.symm h
      simp [h, List.erase_cons, this]

theorem keyOk_I (n : Int) : keyOk (.int .i64) (I n) = true := rfl
theorem keyOk_all (s : List Int) : ∀ x ∈ s.map I, keyOk (.int .i64) x = true := by
  intro x hx
  obtain ⟨n, _, rfl⟩ := List.mem_map.1 hx
  rfl
theorem cells_I (n : Int) : (I n).cells = [I n] := rfl
theorem cells_IL (n : List Int) : (IL n).cells = [IL n] := rfl
theorem cells_IW (n : List (List Int)) : (IW n).cells = [IW n] := rfl
theorem ofZ4 : ofZ Try.prog 4 = some (.bool false) := by simp only [ofZ, zo4]; rfl

theorem setOf_snoc (l : List Int) (n : Int) : setOf (l ++ [n]) = addK (setOf l) n := by simp [setOf]
theorem mem_addK {s : List Int} {n x : Int} : x ∈ addK s n ↔ x ∈ s ∨ x = n := by
  unfold addK
  split
  · rename_i h
    constructor
    · exact .inl
    · rintro (h' | rfl); exact h'; exact h
  · simp
theorem mem_foldl_addK {l : List Int} : ∀ {s : List Int} {x : Int}, x ∈ l.foldl addK s ↔ x ∈ s ∨ x ∈ l := by
  induction l with
  | nil => simp
  | cons a r ih =>
    intro s x
    simp only [List.foldl_cons, ih, mem_addK, List.mem_cons]
    constructor
    · rintro ((h | h) | h); exact .inl h; exact .inr (.inl h); exact .inr (.inr h)
    · rintro (h | h | h); exact .inl (.inl h); exact .inl (.inr h); exact .inr h
theorem mem_setOf {l : List Int} {x : Int} : x ∈ setOf l ↔ x ∈ l := by simp [setOf, mem_foldl_addK]
theorem nodup_addK {s : List Int} {n : Int} (h : s.Nodup) : (addK s n).Nodup := by
  unfold addK
  split
  · exact h
  · rename_i hn
    refine List.nodup_append.2 ⟨h, by simp, ?_⟩
    intro a ha b hb
    simp at hb
    subst hb
    rintro rfl
    exact hn ha
theorem nodup_setOf (l : List Int) : (setOf l).Nodup := by
  have : ∀ (l s : List Int), s.Nodup → (l.foldl addK s).Nodup := by
    intro l
    induction l with
    | nil => intro s h; exact h
    | cons a r ih => intro s h; exact ih _ (nodup_addK h)
  exact this l [] (by simp)

section
variable {F : Nat → LV} {B : Nat → Option BO} {H : HT} {K : Upd → Prop}
theorem set_put {m : Nat} {n : Int} {s : List Int} (hB : B m = some (.map (s.map I) (s.map fun _ => tt))) (h : K ⟨.undef, [m], [(m, .map ((addK s n).map I) ((addK s n).map fun _ => tt))], [], none, []⟩) :
    aMapUpdate Try.prog B K 66 (.mr m) (.pv (I n)) (.pv tt) := by
  simp only [aMapUpdate, Try.underlying66, LV.pure?, LV.one?, hB, mset_I]
  exact ⟨⟨_, Try.underlying3, rfl, keyOk_all s⟩, h⟩
theorem set_get {n : Int} {s : List Int} (h : K ⟨.pv (.bool (decide (n ∈ s))), [], [], [], none, []⟩) : aLookup Try.prog B K 66 (.pv (IM s)) (.pv (I n)) false := by
  simp only [aLookup, Try.underlying66, LV.pure?, LV.one?, LV.map?, IM, ofZ4, mget_I]
  refine ⟨⟨_, Try.underlying3, rfl, keyOk_all s⟩, ?_⟩
  by_cases hn : n ∈ s <;> simpa [hn, tt] using h
theorem set_get_m {m : Nat} {n : Int} {s : List Int} (hB : B m = some (.map (s.map I) (s.map fun _ => tt))) (h : K ⟨.pv (.bool (decide (n ∈ s))), [m], [], [], none, []⟩) : aLookup Try.prog B K 66 (.mr m) (.pv (I n)) false := by
  simp only [aLookup, Try.underlying66, LV.pure?, LV.one?, LV.map?, hB, ofZ4, mget_I]
  refine ⟨⟨_, Try.underlying3, rfl, keyOk_all s⟩, ?_⟩
  by_cases hn : n ∈ s <;> simpa [hn, tt] using h
theorem set_del {m : Nat} {n : Int} {s : List Int} (hB : B m = some (.map (s.map I) (s.map fun _ => tt))) (h : K ⟨.tup [], [m], [(m, .map ((s.erase n).map I) ((s.erase n).map fun _ => tt))], [], none, []⟩) :
    aDelete Try.prog B K 66 (.mr m) (.pv (I n)) := by
  simp only [aDelete, Try.underlying66, LV.pure?, LV.one?, hB, mdel_I]
  exact ⟨⟨_, Try.underlying3, rfl, keyOk_all s⟩, h⟩
set_option maxRecDepth 100000 in
theorem idx_I {x : LV} {l : List Int} {i : Nat} (hx : x.list? = some (l.map I)) (hi : i < l.length) (h : K ⟨.pv (.ptr [I l[i]]), [], [], [], none, []⟩) : aIndexAddr Try.prog K 27 x (.pv (.int .i64 (i : Int))) :=
  idx_map (f := I) Try.underlying27 hx hi (by rw [cells_I, cs3]; rfl) (by rw [cs3]; decide) (by rw [cells_I]; exact h)
set_option maxRecDepth 100000 in
theorem idx_W {x : LV} {l : List (List Int)} {i : Nat} (hx : x.list? = some (l.map IL)) (hi : i < l.length) (h : K ⟨.pv (.ptr [IL l[i]]), [], [], [], none, []⟩) : aIndexAddr Try.prog K 26 x (.pv (.int .i64 (i : Int))) :=
  idx_map (f := IL) Try.underlying26 hx hi (by rw [cells_IL, cs27]; rfl) (by rw [cs27]; decide) (by rw [cells_IL]; exact h)
theorem bs0 : aBuildSlice Try.prog K 27 0 [] = K ⟨.full [], [], [], [], none, []⟩ := by
  simp [aBuildSlice, Try.underlying27, partsL, cs3, zk3]
theorem bs1 {n : Int} : aBuildSlice Try.prog K 27 1 [(0, .pv (.int .i64 n))] = K ⟨.full [.int .i64 n], [], [], [], none, []⟩ := by
  simp [aBuildSlice, Try.underlying27, partsL, cs3, zk3, LV.pure?, LV.one?, PV.cells]
theorem bs1I {n : Int} : aBuildSlice Try.prog K 27 1 [(0, .pv (I n))] = K ⟨.full [.int .i64 n], [], [], [], none, []⟩ := bs1
theorem bs2 {n m : Int} : aBuildSlice Try.prog K 27 2 [(0, .pv (.int .i64 n)), (1, .pv (.int .i64 m))] = K ⟨.full [.int .i64 n, .int .i64 m], [], [], [], none, []⟩ := by
  simp [aBuildSlice, Try.underlying27, partsL, cs3, zk3, LV.pure?, LV.one?, PV.cells]
theorem bs3 {n m k : Int} : aBuildSlice Try.prog K 27 3 [(0, .pv (.int .i64 n)), (1, .pv (.int .i64 m)), (2, .pv (.int .i64 k))] = K ⟨.full [.int .i64 n, .int .i64 m, .int .i64 k], [], [], [], none, []⟩ := by
  simp [aBuildSlice, Try.underlying27, partsL, cs3, zk3, LV.pure?, LV.one?, PV.cells]
theorem bytes3 : Try.prog.bytesOf 3 = 8 := by kernel_rfl
theorem bytes27 : Try.prog.bytesOf 27 = 24 := by kernel_rfl
theorem app_row {d k : Nat} {l m : List Int} {x : LV} (hH : H k = some (l.length, 3)) (hx : x.list? = some (m.map I)) (hb : l.length + m.length ≤ 1000000000) (h : K ⟨.sl k ((l ++ m).map I), [], [], [k], some (k, (l ++ m).length, 3), []⟩) : aAppend Try.prog B H (some d) K 27 (.sl k (l.map I)) x := by
  simp only [aAppend, Try.underlying27, hx, cs3, zk3, bytes3, List.length_map, ← List.map_append, hH]
  refine ⟨?_, by simp, trivial, trivial, ?_, by omega, by simp only [maxLen]; omega, ?_⟩
  · intro q hq; obtain ⟨n, _, rfl⟩ := List.mem_map.1 hq; rfl
  · intro q hq; obtain ⟨n, _, rfl⟩ := List.mem_map.1 hq; rfl
  · simpa using h
theorem app_new {d : Nat} {l m : List Int} {x : LV} (hx : x.list? = some (m.map I)) (hb : l.length + m.length ≤ 1000000000) (h : K ⟨.sl d ((l ++ m).map I), [], [], [], some (d, (l ++ m).length, 3), [d]⟩) : aAppend Try.prog B H (some d) K 27 (.full (l.map I)) x := by
  simp only [aAppend, Try.underlying27, hx, cs3, zk3, bytes3, List.length_map, ← List.map_append]
  refine ⟨?_, by simp, trivial, ?_, by omega, by simp only [maxLen]; omega, .inl ?_⟩
  · intro q hq; obtain ⟨n, _, rfl⟩ := List.mem_map.1 hq; rfl
  · intro q hq; obtain ⟨n, _, rfl⟩ := List.mem_map.1 hq; rfl
  · simpa using h
theorem cut_I {x : LV} {lo hi : Option LV} {l : List Int} {a b : Nat} (hx : x.list? = some (l.map I)) (hlo : bnd 0 lo = some (a : Int)) (hhi : bnd (l.length : Int) hi = some (b : Int)) (hab : a ≤ b) (hb : b ≤ l.length)
    (h : K ⟨.pv (IL ((l.take b).drop a)), [], [], [], none, []⟩) : aSlice Try.prog K 27 x lo hi := by
  have key : (match x.list? with
      | some l => match bnd 0 lo, bnd l.length hi with
        | some a, some b => 0 ≤ a ∧ a ≤ b ∧ b ≤ l.length ∧ (∀ q ∈ l, q.cells.length = Try.prog.cellsOf 3) ∧ Try.prog.cellsOf 3 ≠ 0 ∧ K { val := .pv (.slc ((l.take b.toNat).drop a.toNat)) }
        | _, _ => False
      | none => False) := by
    simp only [hx, List.length_map, hlo, hhi, cs3]
    refine ⟨by omega, by omega, by omega, ?_, by simp, ?_⟩
    · intro q hq; obtain ⟨n, _, rfl⟩ := List.mem_map.1 hq; rfl
    · simp only [IL, List.map_drop, List.map_take] at h
      simpa using h
  simp only [aSlice, Try.underlying27]
  cases x with
  | arr n l => simp [LV.list?] at hx
  | _ => exact key
theorem cut_W {x : LV} {lo hi : Option LV} {l : List (List Int)} {a b : Nat} (hx : x.list? = some (l.map IL)) (hlo : bnd 0 lo = some (a : Int)) (hhi : bnd (l.length : Int) hi = some (b : Int)) (hab : a ≤ b) (hb : b ≤ l.length)
    (h : K ⟨.pv (IW ((l.take b).drop a)), [], [], [], none, []⟩) : aSlice Try.prog K 26 x lo hi := by
  have key : (match x.list? with
      | some l => match bnd 0 lo, bnd l.length hi with
        | some a, some b => 0 ≤ a ∧ a ≤ b ∧ b ≤ l.length ∧ (∀ q ∈ l, q.cells.length = Try.prog.cellsOf 27) ∧ Try.prog.cellsOf 27 ≠ 0 ∧ K { val := .pv (.slc ((l.take b.toNat).drop a.toNat)) }
        | _, _ => False
      | none => False) := by
    simp only [hx, List.length_map, hlo, hhi, cs27]
    refine ⟨by omega, by omega, by omega, ?_, by simp, ?_⟩
    · intro q hq; obtain ⟨n, _, rfl⟩ := List.mem_map.1 hq; rfl
    · simp only [IW, List.map_drop, List.map_take] at h
      simpa using h
  simp only [aSlice, Try.underlying26]
  cases x with
  | arr n l => simp [LV.list?] at hx
  | _ => exact key
theorem set_clear {m : Nat} {s : List Int} (hB : B m = some (.map (s.map I) (s.map fun _ => tt))) (h : K ⟨.tup [], [m], [(m, .map [] [])], [], none, []⟩) : aClear Try.prog B K 66 (.mr m) := by
  simp only [aClear, Try.underlying66, hB]
  exact h
end

end Go.Proofs.Ytjbgfihkdeeonaa
