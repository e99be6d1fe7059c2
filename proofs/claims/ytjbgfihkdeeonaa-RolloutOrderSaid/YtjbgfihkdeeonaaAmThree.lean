/- The abstract machine, part 3: contracts of functions, the steps of the operations in one, and what it is for a frame and a world to be in an abstract state; nothing is assumed of any program. -/
import Derived.Test.YtjbgfihkdeeonaaAmTwo
import Derived.Laws.IdiomRangeMap
namespace Go.Am
open Go.RowKit

def Reps (S : Nat → Nat → Prop) (w : World) (vs : List Value) (ps : List PV) : Prop :=
  vs.length = ps.length ∧ ∀ (i : Nat) (v : Value) (p : PV), vs[i]? = some v → ps[i]? = some p → Rep S w v p

/-- What an abstract state's names stand for. -/
structure Gh where
  S : Nat → Nat → Prop
  bk : Nat → Nat
  hd : Nat → Value
  cp : Nat → Nat

def LV.men1 (d : Nat) : LV → Bool
  | .sl k _ => k == d
  | .bp n _ => n == d
  | .arr n _ => n == d
  | .mr n => n == d
  | .it n => n == d
  | .cl _ caps => caps.any fun c => c.1 == d
  | _ => false

def BO.men (d : Nat) : BO → Bool
  | .cells _ cs => cs.any (LV.men1 d)
  | _ => false

def LV.men (d : Nat) : LV → Bool
  | .ag cs => cs.any (LV.men1 d)
  | x => x.men1 d

abbrev HT := Nat → Option (Nat × TypeId)

def RepC (g : Gh) (H : HT) (w : World) (v : Value) : LV → Prop
  | .undef => v = Go.undef
  | .junk => True
  | .pv p => Rep g.S w v p
  | .full l => Rep g.S w v (.slc l) ∧ ∃ A, v = .slice A l.length l.length
  | .sl k l => Rep g.S w v (.slc l) ∧ ∀ h e, H k = some (h, e) → l.length ≤ h ∧ (l.length = h → v = g.hd k)
  | .bp n off => v = .pointer (some ⟨g.bk n, off, none⟩)
  | .arr n len => v = .slice (some ⟨g.bk n, 0, none⟩) len (g.cp n) ∧ len ≤ g.cp n
  | .mr n => v = .map (some (g.bk n))
  | .it n => v = .pointer (some ⟨g.bk n, 0, none⟩)
  | .cl f caps => v = .func (.func f) #[] (caps.map fun c => Value.pointer (some ⟨g.bk c.1, c.2, none⟩)).toArray
  | .ag _ => False
  | .tup _ => False

def RepV (g : Gh) (H : HT) (w : World) (v : Value) : LV → Prop
  | .ag cs => ∃ vs, v = .agg vs ∧ vs.size = cs.length ∧ ∀ (j : Nat) (u : Value) (c : LV), vs[j]? = some u → cs[j]? = some c → u.oneCell' = true ∧ RepC g H w u c
  | .tup l => ∃ vs, v = .tuple vs ∧ Reps g.S w vs.toList l
  | x => RepC g H w v x

/-- What stands in memory for a named thing. -/
def BoxC (g : Gh) (H : HT) (w : World) (n : Nat) : BO → Prop
  | .cells r cs => ∃ vs t, w.heap[g.bk n]? = some (.cells vs t (0, 0)) ∧ cs.length ≤ vs.size ∧
      (∀ (j : Nat) (u : Value) (c : LV), vs[j]? = some u → cs[j]? = some c → u.oneCell' = true ∧ RepC g H w u c) ∧ ∀ ri, r = some ri → t = ri.e ∧ vs.size = g.cp n * ri.sz ∧ g.cp n ≤ maxLen
  | .map ks xs => ∃ es ck, w.heap[g.bk n]? = some (.map es ck) ∧ ((es.toList.map (·.born)).Nodup ∧ ∀ x ∈ es.toList, x.born < ck) ∧ es.size = ks.length ∧ es.size = xs.length ∧
      (∀ (i : Nat) (e : MapEntry) (k : PV), es[i]? = some e → ks[i]? = some k → Rep g.S w e.key k) ∧ ∀ (i : Nat) (e : MapEntry) (v : PV), es[i]? = some e → xs[i]? = some v → Rep g.S w e.val v
  | .iter ks xs cur => (ks = [] ∧ xs = [] ∧ cur = none ∧ w.heap[g.bk n]? = some (.mapIter none 0 #[] 0)) ∨
      ∃ bm since seen c0 es ck, w.heap[g.bk n]? = some (.mapIter (some bm) since seen c0) ∧ w.heap[bm]? = some (.map es ck) ∧ g.S bm 0 ∧ (es.toList.map (·.born)).Nodup ∧ (∀ x ∈ es.toList, x.born < since) ∧ (since ≤ c0 ∧ since ≤ ck) ∧
        (leftOf es seen).size = ks.length ∧ (leftOf es seen).size = xs.length ∧
        (∀ (i : Nat) (e : MapEntry) (k : PV), (leftOf es seen)[i]? = some e → ks[i]? = some k → Rep g.S w e.key k) ∧ (∀ (i : Nat) (e : MapEntry) (v : PV), (leftOf es seen)[i]? = some e → xs[i]? = some v → Rep g.S w e.val v) ∧
        ∀ k v, cur = some (k, v) → ∃ e ∈ es.toList, ∃ sn : Array Nat, seen = sn.push e.born ∧ c0 = ck ∧ Rep g.S w e.key k ∧ Rep g.S w e.val v
  | .dead => True

def Res (S : Nat → Nat → Prop) (w : World) (v : Value) : List PV → Prop
  | [r] => Rep S w v r
  | rs => ∃ vs, v = .tuple vs ∧ Reps S w vs.toList rs

/-- CALLED WITH VALUES THAT READ AS 'args', in whatever world, the function returns what reads as 'rs', and turns no block that was there. 'na': the result reaches new memory alone. -/
def Good (P : Program) (na : Bool) (f : FuncId) (args rs : List PV) : Prop :=
  (∀ (as : Array Value) (w : World), (callFunc f as).run P w = .ok (.enter f as) w) ∧ ∀ (S : Nat → Nat → Prop) (w : World) (vs : List Value), (∀ b o, S b o → b < w.heap.size) → Reps S w vs args →
    Calls P f vs.toArray w fun e w' => ∃ v S', e = .returned v ∧ Res S' w' v rs ∧ Below w.heap.size w w' ∧ (∀ b o, S' b o → b < w'.heap.size) ∧
      ∀ b o, S' b o → (na = false ∧ S b o) ∨ w.heap.size ≤ b

theorem Good.flat {P : Program} {na : Bool} {f : FuncId} {args rs : List PV} (h : Good P na f args rs) (hf : ∀ r ∈ rs, Flat r) : Good P true f args rs := by
  refine ⟨h.1, fun S w vs hS hr => ?_⟩
  refine (h.2 S w vs hS hr).mono ?_
  rintro e w' ⟨v, S', he, hres, hb, _, _⟩
  refine ⟨v, fun _ _ => False, he, ?_, hb, fun _ _ h => h.elim, fun _ _ h => h.elim⟩
  unfold Res at hres ⊢
  split at hres
  · rename_i r
    exact hres.flat (hf r (by simp))
  · obtain ⟨us, hv, hl, hu⟩ := hres
    exact ⟨us, hv, hl, fun i u p h1 h2 => (hu i u p h1 h2).flat (hf p (List.mem_of_getElem? h2))⟩

theorem Good.weak {P : Program} {f : FuncId} {args rs : List PV} (h : Good P true f args rs) : Good P false f args rs := by
  refine ⟨h.1, fun S w vs hS hr => ?_⟩
  refine (h.2 S w vs hS hr).mono ?_
  rintro e w' ⟨v, S', he, hres, hb, h1, h2⟩
  exact ⟨v, S', he, hres, hb, h1, fun b o hs => (h2 b o hs).elim (fun h => by simp at h) .inr⟩

/-! ### Contracts of functions that turn what they are lent -/

structure BelowO (Old : Nat → Prop) (w w' : World) : Prop where
  os : w'.os = w.os
  tape : w'.tape = w.tape
  output : w'.output = w.output
  size : w.heap.size ≤ w'.heap.size
  block : ∀ k, Old k → w'.heap[k]? = w.heap[k]?

theorem BelowO.refl (Old : Nat → Prop) (w : World) : BelowO Old w w := ⟨rfl, rfl, rfl, Nat.le_refl _, fun _ _ => rfl⟩
theorem BelowO.trans {Old : Nat → Prop} {a b c : World} (h : BelowO Old a b) (k : BelowO Old b c) : BelowO Old a c :=
  ⟨k.os.trans h.os, k.tape.trans h.tape, k.output.trans h.output, Nat.le_trans h.size k.size, fun i hi => (k.block i hi).trans (h.block i hi)⟩
theorem BelowO.mono {Old Old' : Nat → Prop} {a b : World} (h : BelowO Old a b) (hO : ∀ k, Old' k → Old k) : BelowO Old' a b := ⟨h.os, h.tape, h.output, h.size, fun k hk => h.block k (hO k hk)⟩
theorem BelowO.of {Old : Nat → Prop} {a b : World} {n : Nat} (h : Below n a b) (hO : ∀ k, Old k → k < n) : BelowO Old a b := ⟨h.os, h.tape, h.output, h.size, fun k hk => h.block k (hO k hk)⟩

def LV.ren1 (ρ : Nat → Nat) : LV → LV
  | .sl _ l => .pv (.slc l)
  | .bp n o => .bp (ρ n) o
  | .arr n l => .arr (ρ n) l
  | .mr n => .mr (ρ n)
  | .it n => .it (ρ n)
  | .cl f c => .cl f (c.map fun x => (ρ x.1, x.2))
  | c => c

def LV.ren (ρ : Nat → Nat) : LV → LV
  | .ag cs => .ag (cs.map (LV.ren1 ρ))
  | x => x.ren1 ρ

def BO.ren (ρ : Nat → Nat) : BO → BO
  | .cells r cs => .cells r (cs.map (LV.ren1 ρ))
  | o => o

/-- Fewer words of the same. -/
def LV.wk1 (x y : LV) : Prop := x = y ∨ ∃ p, x.one? = some p ∧ y = .pv p
def wkL1 : List LV → List LV → Prop
  | [], [] => True
  | x :: xs, y :: ys => x.wk1 y ∧ wkL1 xs ys
  | _, _ => False
def LV.wk (x y : LV) : Prop := x = y ∨ (∃ p, x.pure? = some p ∧ y = .pv p) ∨ ∃ xs ys, x = .ag xs ∧ y = .ag ys ∧ wkL1 xs ys
def wkL : List LV → List LV → Prop
  | [], [] => True
  | x :: xs, y :: ys => x.wk y ∧ wkL xs ys
  | _, _ => False
def BO.wk : BO → BO → Prop
  | .cells r cs, .cells r' ds => (r' = none ∨ r = r') ∧ wkL1 cs ds
  | .map ks vs, .map ks' vs' => ks = ks' ∧ vs = vs'
  | _, _ => False

/-- What a function gets, what it is lent, what it returns, and what stands in the lent things, and in new ones, when it does. -/
structure CX where
  args : List LV
  pre : List (Nat × BO)
  rs : LV
  post : List (Nat × BO)

def LV.only1 (ns : List Nat) : LV → Bool
  | .sl _ _ => false
  | .bp n _ => ns.contains n
  | .arr n _ => ns.contains n
  | .mr n => ns.contains n
  | .it n => ns.contains n
  | .cl _ c => c.all fun x => ns.contains x.1
  | _ => true
def LV.only (ns : List Nat) : LV → Bool
  | .ag cs => cs.all (LV.only1 ns)
  | x => x.only1 ns
def BO.only (ns : List Nat) : BO → Bool
  | .cells _ cs => cs.all (LV.only1 ns)
  | .map _ _ => true
  | _ => false

def keys {α : Type} (l : List (Nat × α)) : List Nat := l.map (·.1)

def CX.ok (c : CX) : Bool := c.rs.only (keys c.post) && c.post.all fun x => x.2.only (keys c.post)

def noH : HT := fun _ => none

/-- The blocks that are not a call's to turn. -/
def OldX (g : Gh) (w : World) (ns : List Nat) (b : Nat) : Prop := b < w.heap.size ∧ ∀ n ∈ ns, b ≠ g.bk n

structure LentOk (g : Gh) (w : World) (l : List (Nat × BO)) : Prop where
  box : ∀ n o, lk n l = some o → (∀ i, ¬ g.S (g.bk n) i) ∧ BoxC g noH w n o ∧ g.bk n < w.heap.size
  dist : ∀ n m, n ∈ keys l → m ∈ keys l → n ≠ m → g.bk n ≠ g.bk m
  slt : ∀ b i, g.S b i → b < w.heap.size

/-- CALLED WITH VALUES THAT READ AS c.args, THE FUNCTION TURNS WHAT IT IS LENT TO c.post, and returns c.rs. -/
def GoodX (P : Program) (f : FuncId) (c : CX) : Prop :=
  (∀ (as : Array Value) (w : World), (callFunc f as).run P w = .ok (.enter f as) w) ∧ ∀ (g : Gh) (w : World) (vs : List Value), LentOk g w c.pre → vs.length = c.args.length →
    (∀ (i : Nat) (v : Value) (x : LV), vs[i]? = some v → c.args[i]? = some x → RepV g noH w v x) →
    Calls P f vs.toArray w fun e w' => ∃ v g', e = .returned v ∧ RepV g' noH w' v c.rs ∧ BelowO (OldX g w (keys c.pre)) w w' ∧ LentOk g' w' c.post ∧
      (∀ n, n ∈ keys c.pre → n ∈ keys c.post → g'.bk n = g.bk n ∧ g'.cp n = g.cp n) ∧ (∀ n, n ∈ keys c.post → ¬ OldX g w (keys c.pre) (g'.bk n)) ∧
      ∀ b i, g'.S b i → g.S b i ∨ ¬ OldX g w (keys c.pre) b

/-- The elements of a slice out of its cells. -/
def chunks (sz : Nat) (ag : Bool) : Nat → List PV → Option (List PV)
  | 0, _ => some []
  | k + 1, ps => if ag then (if sz ≤ ps.length then (chunks sz ag k (ps.drop sz)).map (.agg (ps.take sz) :: ·) else none) else
    match ps with
    | p :: r => if sz = 1 ∧ p.one = true then (chunks sz ag k r).map (p :: ·) else none
    | [] => none

/-- The pure value of an argument; the boxes that are lent. -/
def LV.arg? (B : Nat → Option BO) : LV → Option (PV × List Nat)
  | .arr n len => match B n with
    | some (.cells (some r) cs) => match ones? (cs.take (len * r.sz)) with
      | some ps => match chunks r.sz r.ag len ps with
        | some l => some (.slc l, [n])
        | none => none
      | none => none
    | _ => none
  | .bp n off => match B n with
    | some (.cells _ cs) => match ones? (cs.drop off) with
      | some ps => some (.ptr ps, [n])
      | none => none
    | _ => none
  | .mr n => match B n with
    | some (.map ks vs) => some (.map ks vs, [n])
    | _ => none
  | .cl f caps => (caps.foldr (fun c r => match r, B c.1 with
    | some (ps, ns), some (.cells _ cs) => match ones? (cs.drop c.2) with
      | some qs => some (PV.ptr qs :: ps, c.1 :: ns)
      | none => none
    | _, _ => none) (some ([], []))).map fun x => (PV.clo f x.1, x.2)
  | v => match v.pure? with
    | some p => some (p, [])
    | none => none

def argsL (B : Nat → Option BO) : List LV → Option (List PV × List Nat)
  | [] => some ([], [])
  | x :: r => match x.arg? B, argsL B r with
    | some (p, ns), some (ps, ms) => some (p :: ps, ns ++ ms)
    | _, _ => none

def resL : List PV → LV
  | [r] => .pv r
  | rs => .tup rs

def aCallP (P : Program) (B : Nat → Option BO) (K : Upd → Prop) (fv : LV) (args : List LV) : Prop :=
  match fv with
  | .pv (.clo f cap) => match argsL B args with
    | some (ps, ns) => ∃ na rs, Good P na f (ps ++ cap) rs ∧ (ns = [] ∨ na = true) ∧ K { val := resL rs, rb := ns }
    | none => False
  | .cl f caps => match argsL B (args ++ caps.map fun c => LV.bp c.1 c.2) with
    | some (ps, ns) => ∃ na rs, Good P na f ps rs ∧ (ns = [] ∨ na = true) ∧ K { val := resL rs, rb := ns }
    | none => False
  | _ => False

def deadOf (ns ms : List Nat) : List (Nat × BO) := (ns.filter fun n => !ms.contains n).map fun n => (n, BO.dead)

/-- A call by a contract that turns what is lent. -/
def aCallX (P : Program) (B : Nat → Option BO) (K : Upd → Prop) (fv : LV) (args : List LV) : Prop :=
  ∃ (f : FuncId) (as : List LV) (c : CX) (ρ : Nat → Nat), ((∃ cap, fv = .pv (.clo f cap) ∧ as = args ++ cap.map .pv) ∨ ∃ caps, fv = .cl f caps ∧ as = args ++ caps.map fun c => .bp c.1 c.2) ∧ GoodX P f c ∧ c.ok = true ∧
    wkL as (c.args.map (LV.ren ρ)) ∧ (∀ n o, lk n c.pre = some o → ∃ o', B (ρ n) = some o' ∧ o'.wk (o.ren ρ)) ∧ (∀ n m, n ∈ keys c.pre ++ keys c.post → m ∈ keys c.pre ++ keys c.post → ρ n = ρ m → n = m) ∧
    K { val := c.rs.ren ρ, rb := (keys c.pre).map ρ, wb := (deadOf (keys c.pre) (keys c.post) ++ c.post).map fun x => (ρ x.1, x.2.ren ρ), new := ((keys c.post).filter fun n => !(keys c.pre).contains n).map ρ }

def aCall (P : Program) (B : Nat → Option BO) (K : Upd → Prop) (fv : LV) (args : List LV) : Prop := aCallP P B K fv args ∨ aCallX P B K fv args

/-- THE STEP OF AN OPERATION. -/
def aop (P : Program) (F : Nat → LV) (B : Nat → Option BO) (H : Nat → Option (Nat × TypeId)) (o : Oper) (K : Upd → Prop) : Prop :=
  match o.op with
  | .move x | .assign x => K { val := evo F x }
  | .pick c a b => aPick K (evo F c) (evo F a) (evo F b)
  | .box _ x => aBox o.dst K (evo F x)
  | .alloc t => aAlloc P o.dst K t
  | .load t a => aLoad P B K t (evo F a)
  | .store t a x => aStore P B K t (evo F a) (evo F x)
  | .fieldAddr s x f => aFieldAddr P K s (evo F x) f
  | .field s x f => aField P K s (evo F x) f
  | .indexAddr t x i => aIndexAddr P K t (evo F x) (evo F i)
  | .index t x i => aIndex P K t (evo F x) (evo F i)
  | .slice t x lo hi none => aSlice P K t (evo F x) (lo.map (evo F)) (hi.map (evo F))
  | .build t ps => aBuild P K t (ps.toList.map fun x => (x.1, evo F x.2))
  | .buildSlice t n ps => aBuildSlice P K t n (ps.toList.map fun x => (x.1, evo F x.2))
  | .binOp op t x y _ => aBin P K op t (evo F x) (evo F y)
  | .unOp op _ x => aUn K op (evo F x)
  | .convert s d x => aConv P K s d (evo F x)
  | .extract x i => aExtract K (evo F x) i
  | .makeFunc fn a b => aMakeFunc K fn (a.toList.map (evo F)) (b.toList.map (evo F))
  | .makeSlice t l c => aMakeSlice P o.dst K t (evo F l) (evo F c)
  | .range t x => aRange P o.dst K t (evo F x)
  | .entry x => aEntry B K (evo F x)
  | .makeMap _ r => aMakeMap o.dst K (r.map (evo F))
  | .mapUpdate t m k v => aMapUpdate P B K t (evo F m) (evo F k) (evo F v)
  | .lookup t m k ok => aLookup P B K t (evo F m) (evo F k) ok
  | .call c => match c.callee with
    | .builtin .delete => match c.args.toList, c.argTypes.toList with
      | [m, k], [t, _] => aDelete P B K t (evo F m) (evo F k)
      | _, _ => False
    | .builtin .clear => match c.args.toList, c.argTypes.toList with
      | [m], [t] => aClear P B K t (evo F m)
      | _, _ => False
    | .builtin .len => match c.args.toList, c.argTypes.toList with
      | [x], [t] => aLen P B K t (evo F x)
      | _, _ => False
    | .builtin .append => match c.args.toList, c.argTypes.toList with
      | [s, x], [t, t'] => t = t' ∧ aAppend P B H o.dst K t (evo F s) (evo F x)
      | _, _ => False
    | .builtin .min => aMin K (c.args.toList.map (evo F))
    | .builtin .max => aMax K (c.args.toList.map (evo F))
    | .value f => aCall P B K (evo F f) (c.args.toList.map (evo F))
    | _ => False
  | _ => False

theorem aCallP_ex {P : Program} {B : Nat → Option BO} {K : Upd → Prop} {fv : LV} {args : List LV} (h : aCallP P B K fv args) : ∃ u, aCallP P B (· = u) fv args ∧ K u := by
  unfold aCallP at h ⊢
  split at h
  · split at h
    · obtain ⟨na, rs, h1, h2, h3⟩ := h
      exact ⟨_, ⟨na, rs, h1, h2, rfl⟩, h3⟩
    · exact h.elim
  · split at h
    · obtain ⟨na, rs, h1, h2, h3⟩ := h
      exact ⟨_, ⟨na, rs, h1, h2, rfl⟩, h3⟩
    · exact h.elim
  · exact h.elim

/-- What a step leaves is one update. -/
theorem aop_ex {P : Program} {F : Nat → LV} {B : Nat → Option BO} {H : Nat → Option (Nat × TypeId)} {o : Oper} {K : Upd → Prop} (h : aop P F B H o K) :
    ∃ u, aop P F B H o (· = u) ∧ K u := by
  unfold aop at h ⊢
  split at h
  all_goals first
    | exact ⟨_, rfl, h⟩
    | exact h.elim
    | skip
  · unfold aPick at h ⊢
    split at h
    · rename_i t heq
      by_cases ht : t = true
      · exact ⟨_, ⟨fun _ => rfl, fun h' => absurd (ht.symm.trans h') (by simp)⟩, h.1 ht⟩
      · exact ⟨_, ⟨fun h' => absurd h' ht, fun _ => rfl⟩, h.2 (by simpa using ht)⟩
    · exact h.elim
  · unfold aBox at h ⊢
    split at h
    · exact ⟨_, rfl, h⟩
    · exact h.elim
  · unfold aAlloc at h ⊢
    split at h
    · exact ⟨_, ⟨h.1, rfl⟩, h.2⟩
    · exact h.elim
  · unfold aLoad at h ⊢
    split at h
    · split at h
      · exact ⟨_, ⟨h.1, h.2.1, rfl⟩, h.2.2⟩
      · split at h
        · exact ⟨_, ⟨h.1, rfl⟩, h.2⟩
        · exact h.elim
    · split at h
      · split at h
        · exact ⟨_, ⟨h.1, h.2.1, rfl⟩, h.2.2⟩
        · obtain ⟨c, h1, h2, h3⟩ := h
          exact ⟨_, ⟨c, h1, h2, rfl⟩, h3⟩
      · exact h.elim
    · exact h.elim
  · unfold aStore at h ⊢
    split at h
    · split at h
      · exact ⟨_, ⟨h.1, h.2.1, h.2.2.1, rfl⟩, h.2.2.2⟩
      · exact h.elim
    · exact h.elim
  · unfold aFieldAddr at h ⊢
    split at h
    · obtain ⟨h1, h2⟩ := h
      split at h2
      · exact ⟨_, ⟨h1, rfl⟩, h2⟩
      · exact ⟨_, ⟨h1, rfl⟩, h2⟩
      · exact h2.elim
    · exact h.elim
  · unfold aField at h ⊢
    split at h
    · split at h
      · split at h
        · exact ⟨_, ⟨h.1, h.2.1, rfl⟩, h.2.2⟩
        · obtain ⟨c, h1, h2, h3⟩ := h
          exact ⟨_, ⟨c, h1, h2, rfl⟩, h3⟩
      · split at h
        · exact ⟨_, ⟨h.1, h.2.1, rfl⟩, h.2.2⟩
        · obtain ⟨c, h1, h2, h3⟩ := h
          exact ⟨_, ⟨c, h1, h2, rfl⟩, h3⟩
      · exact h.elim
    · exact h.elim
  · unfold aIndexAddr at h ⊢
    split at h
    · split at h
      · split at h
        · exact ⟨_, ⟨h.1, h.2.1, h.2.2.1, rfl⟩, h.2.2.2⟩
        · split at h
          · obtain ⟨h1, el, h2, h3, h4, h5⟩ := h
            exact ⟨_, ⟨h1, el, h2, h3, h4, rfl⟩, h5⟩
          · exact h.elim
      · split at h
        · exact ⟨_, ⟨h.1, h.2.1, h.2.2.1, rfl⟩, h.2.2.2⟩
        · exact ⟨_, ⟨h.1, h.2.1, h.2.2.1, rfl⟩, h.2.2.2⟩
        · exact h.elim
      · exact h.elim
    · exact h.elim
  · unfold aIndex at h ⊢
    split at h
    · split at h
      · split at h
        · obtain ⟨h1, h2, h3, h4, h5, c, h6, h7⟩ := h
          exact ⟨_, ⟨h1, h2, h3, h4, h5, c, h6, rfl⟩, h7⟩
        · exact h.elim
      · split at h
        · obtain ⟨h1, c, h2, h3⟩ := h
          exact ⟨_, ⟨h1, c, h2, rfl⟩, h3⟩
        · exact h.elim
      · exact h.elim
    · exact h.elim
  · unfold aSlice at h ⊢
    split at h
    · split at h
      · split at h
        · obtain ⟨h1, h2, h3, h4, h5⟩ := h
          exact ⟨_, ⟨h1, h2, h3, h4, rfl⟩, h5⟩
        · exact h.elim
      · split at h
        · split at h
          · obtain ⟨h1, h2, h3, h4, h5, h6⟩ := h
            exact ⟨_, ⟨h1, h2, h3, h4, h5, rfl⟩, h6⟩
          · exact h.elim
        · exact h.elim
    · split at h
      · split at h
        · obtain ⟨h1, h2, h3, h4⟩ := h
          exact ⟨_, ⟨h1, h2, h3, rfl⟩, h4⟩
        · exact h.elim
      · exact h.elim
    · exact h.elim
  · unfold aBuild at h ⊢
    split at h
    · obtain ⟨h1, h1', h2⟩ := h
      split at h2
      · exact ⟨_, ⟨h1, h1', rfl⟩, h2⟩
      · exact h2.elim
    · exact h.elim
  · unfold aBuildSlice at h ⊢
    split at h
    · split at h
      · obtain ⟨h1, h2, h3, h4, h5, h6⟩ := h
        exact ⟨_, ⟨h1, h2, h3, h4, h5, rfl⟩, h6⟩
      · exact h.elim
    · exact h.elim
  · unfold aBin at h ⊢
    split at h
    · split at h
      · exact ⟨_, ⟨h.1, rfl⟩, h.2⟩
      · exact ⟨_, ⟨h.1, rfl⟩, h.2⟩
      · obtain ⟨h1, h2⟩ := h
        unfold aInt at h2 ⊢
        split at h2
        all_goals first
          | exact ⟨_, ⟨h1, rfl⟩, h2⟩
          | exact ⟨_, ⟨h1, h2.1, rfl⟩, h2.2⟩
          | exact h2.elim
    · unfold aStr at h ⊢
      split at h
      all_goals first
        | exact ⟨_, rfl, h⟩
        | exact h.elim
    all_goals first
      | (obtain ⟨h1, h2⟩ := h; split at h2; all_goals first
          | exact ⟨_, ⟨h1, rfl⟩, h2⟩
          | exact h2.elim)
      | exact h.elim
  · unfold aUn at h ⊢
    split at h
    all_goals first
      | exact ⟨_, rfl, h⟩
      | exact h.elim
  · unfold aConv at h ⊢
    split at h
    · split at h
      · exact ⟨_, ⟨h.1, rfl⟩, h.2⟩
      · exact h.elim
    · exact h.elim
  · unfold aExtract at h ⊢
    split at h
    · obtain ⟨p, h1, h2⟩ := h
      exact ⟨_, ⟨p, h1, rfl⟩, h2⟩
    · exact h.elim
  · unfold aMakeFunc at h ⊢
    split at h
    · obtain ⟨c, h1, h2⟩ := h
      exact ⟨_, ⟨c, h1, rfl⟩, h2⟩
    · exact h.elim
  · unfold aMakeSlice at h ⊢
    split at h
    · split at h
      · obtain ⟨h1, h2, h3, h4, h5, h6, h7⟩ := h
        exact ⟨_, ⟨h1, h2, h3, h4, h5, h6, rfl⟩, h7⟩
      · exact h.elim
    · exact h.elim
  · unfold aRange at h ⊢
    split at h
    · split at h
      · exact ⟨_, rfl, h⟩
      · exact h.elim
    · exact h.elim
  · unfold aEntry at h ⊢
    split at h
    · split at h
      · exact ⟨_, rfl, h⟩
      · exact h.elim
    · exact h.elim
  · unfold aMakeMap at h ⊢
    split at h
    · exact ⟨_, rfl, h⟩
    · exact h.elim
  · unfold aMapUpdate at h ⊢
    split at h
    · split at h
      · split at h
        · exact ⟨_, ⟨h.1, rfl⟩, h.2⟩
        · exact h.elim
      · exact h.elim
    · exact h.elim
  · unfold aLookup at h ⊢
    split at h
    · split at h
      · exact ⟨_, ⟨h.1, rfl⟩, h.2⟩
      · exact h.elim
    · exact h.elim
  · split at h
    · split at h
      · unfold aDelete at h ⊢
        split at h
        · split at h
          · split at h
            · exact ⟨_, ⟨h.1, rfl⟩, h.2⟩
            · exact h.elim
          · exact h.elim
        · exact h.elim
      · exact h.elim
    · split at h
      · unfold aClear at h ⊢
        split at h
        · split at h
          · split at h
            · exact ⟨_, rfl, h⟩
            · exact h.elim
          · exact h.elim
        · exact h.elim
      · exact h.elim
    · split at h
      · unfold aLen at h ⊢
        split at h
        · split at h
          · exact ⟨_, rfl, h⟩
          · split at h
            · exact ⟨_, rfl, h⟩
            · exact h.elim
        · split at h
          · exact ⟨_, rfl, h⟩
          · exact h.elim
        · exact ⟨_, rfl, h⟩
        · split at h
          · exact ⟨_, rfl, h⟩
          · split at h
            · exact ⟨_, rfl, h⟩
            · exact h.elim
          · exact h.elim
        · exact h.elim
      · exact h.elim
    · split at h
      · obtain ⟨h0, h⟩ := h
        unfold aAppend at h ⊢
        split at h
        · split at h
          · obtain ⟨h1, h2, h3, h4⟩ := h
            split at h4
            · obtain ⟨h5, h6, h7, h8⟩ := h4
              rcases h8 with h8 | ⟨h8, h9⟩
              · exact ⟨_, ⟨h0, h1, h2, h3, h5, h6, h7, .inl rfl⟩, h8⟩
              · exact ⟨_, ⟨h0, h1, h2, h3, h5, h6, h7, .inr ⟨h8, rfl⟩⟩, h9⟩
            · obtain ⟨h5, h6, h7, h8, h9⟩ := h4
              exact ⟨_, ⟨h0, h1, h2, h3, h5, h6, h7, h8, rfl⟩, h9⟩
            · split at h4
              · obtain ⟨h5, h6, h7, h8, h9⟩ := h4
                exact ⟨_, ⟨h0, h1, h2, h3, h5, h6, h7, h8, rfl⟩, h9⟩
              · exact h4.elim
            · exact h4.elim
          · exact h.elim
        · exact h.elim
      · exact h.elim
    · unfold aMin at h ⊢
      split at h
      · exact ⟨_, ⟨h.1, rfl⟩, h.2⟩
      · exact h.elim
    · unfold aMax at h ⊢
      split at h
      · exact ⟨_, ⟨h.1, rfl⟩, h.2⟩
      · exact h.elim
    · rcases h with h | h
      · obtain ⟨u, h1, h2⟩ := aCallP_ex h
        exact ⟨u, .inl h1, h2⟩
      · obtain ⟨f, as, c, ρ, h1, h2, h3, h4, h5, h6, h7⟩ := h
        exact ⟨_, .inr ⟨f, as, c, ρ, h1, h2, h3, h4, h5, h6, rfl⟩, h7⟩
    · exact h.elim

end Go.Am
