/- The abstract machine, part 2: what a frame's slots hold, the steps of the operations on abstract states; nothing is assumed of any program. -/
import Derived.Test.YtjbgfihkdeeonaaAmOne
namespace Go.Am

/-- What a slot, or a cell of a variable in memory, holds. -/
inductive LV where
  | undef
  | junk
  | pv (p : PV)
  | full (l : List PV)
  | sl (k : Nat) (l : List PV)
  | bp (n off : Nat)
  | arr (n len : Nat)
  | mr (n : Nat)
  | it (n : Nat)
  | cl (f : FuncId) (caps : List (Nat × Nat))
  | ag (cs : List LV)
  | tup (l : List PV)
  deriving Inhabited

/-- What the cells behind a slice are: their type, how many an element has, whether an element is a struct or an array. -/
structure RowI where
  e : TypeId
  sz : Nat
  ag : Bool
  deriving Inhabited

/-- What a named thing in memory is: a variable's cells or a slice's, a map, an iterator over a map with what is left to it, or nothing any more. -/
inductive BO where
  | cells (r : Option RowI) (cs : List LV)
  | map (ks vs : List PV)
  | iter (ks vs : List PV) (cur : Option (PV × PV))
  | dead
  deriving Inhabited

def BO.alive : BO → Option BO
  | .dead => none
  | o => some o

def lk {α : Type} (k : Nat) : List (Nat × α) → Option α
  | [] => none
  | (j, v) :: r => if j = k then some v else lk k r

structure St where
  fr : List (Nat × LV)
  bx : List (Nat × BO)
  hw : List (Nat × Nat × TypeId)

def St.f (σ : St) (s : Nat) : LV := (lk s σ.fr).getD .junk
def St.b (σ : St) (n : Nat) : Option BO := (lk n σ.bx).bind BO.alive
def St.h (σ : St) (k : Nat) : Option (Nat × TypeId) := lk k σ.hw

structure Upd where
  val : LV
  rb : List Nat := []
  wb : List (Nat × BO) := []
  rh : List Nat := []
  wh : Option (Nat × Nat × TypeId) := none
  new : List Nat := []

def St.app (σ : St) (dst : Option Nat) (u : Upd) : St :=
  { fr := match dst with | some d => (d, u.val) :: σ.fr | none => σ.fr
    bx := u.wb ++ σ.bx
    hw := match u.wh with | some x => x :: σ.hw | none => σ.hw }

def ofC : Value → LV
  | .int k n => .pv (.int k n)
  | .bool b => .pv (.bool b)
  | .string s => .pv (.str s)
  | .slice none 0 0 => .full []
  | .pointer none => .pv .nilp
  | .nilFunc => .pv .nilf
  | .map none => .pv (.map [] [])
  | _ => .junk

def evo (F : Nat → LV) : Operand → LV
  | .tmp t => F t
  | .const v => ofC v
  | .func f => .pv (.clo f [])
  | .global _ => .junk

/-- The list that a slice's value has. -/
def LV.list? : LV → Option (List PV)
  | .pv (.slc l) => some l
  | .full l => some l
  | .sl _ l => some l
  | _ => none

/-- The pure value of one cell. -/
def LV.one? : LV → Option PV
  | .pv p => some p
  | .full l => some (.slc l)
  | .sl _ l => some (.slc l)
  | _ => none

def ones? : List LV → Option (List PV)
  | [] => some []
  | c :: r => match c.one? with
    | some p => match ones? r with
      | some ps => some (p :: ps)
      | none => none
    | none => none

/-- The pure value of a slot. -/
def LV.pure? : LV → Option PV
  | .ag cs => match ones? cs with
    | some ps => some (.agg ps)
    | none => none
  | v => v.one?

def LV.cells? : LV → Option (List LV)
  | .pv p => some (p.cells.map .pv)
  | .ag cs => some cs
  | .full l => some [.full l]
  | .sl k l => some [.sl k l]
  | .bp n o => some [.bp n o]
  | .arr n l => some [.arr n l]
  | .mr n => some [.mr n]
  | .it n => some [.it n]
  | .cl f c => some [.cl f c]
  | _ => none

def splice (cs : List LV) (off : Nat) : List LV → List LV
  | [x] => cs.set off x
  | xs => cs.take off ++ xs ++ cs.drop (off + xs.length)

def _root_.Go.Program.aggT (P : Program) (t : TypeId) : Bool :=
  match P.underlying t with
  | some (.struct _) | some (.array _ _) => true
  | _ => false

def _root_.Go.Program.zeroOf (P : Program) (t : TypeId) : Option Value := (P.info? t).bind (·.zero)

/-- The zero of a type has its cells. -/
def _root_.Go.Program.zOk (P : Program) (t : TypeId) : Bool :=
  match P.zeroOf t with
  | some z => z.cells.size == P.cellsOf t && z.cells.all (·.oneCell')
  | none => false

/-- The types of a struct's fields are known. -/
def _root_.Go.Program.fieldsOk (P : Program) (t : TypeId) : Bool :=
  match P.underlying t with
  | some (.struct fs) => fs.all fun f => (P.info? f.type).isSome
  | some (.array _ e) => (P.info? e).isSome
  | _ => false

def _root_.Go.Program.rowI (P : Program) (e : TypeId) : RowI := ⟨e, P.cellsOf e, P.aggT e⟩

def pcells (l : List PV) : List LV := l.flatMap fun q => q.cells.map .pv

/-- A field's place and type. -/
def _root_.Go.Program.fieldOf (P : Program) (s : TypeId) (f : Nat) : Option (Nat × TypeId) :=
  match P.underlying s with
  | some (.struct fs) => match fs[f]? with
    | some fl => some (fl.offset, fl.type)
    | none => none
  | _ => none

section
variable (P : Program) (B : Nat → Option BO) (H : Nat → Option (Nat × TypeId)) (dst : Option Nat) (K : Upd → Prop)

def aPick (c a b : LV) : Prop :=
  match c with
  | .pv (.bool t) => (t = true → K { val := a }) ∧ (t = false → K { val := b })
  | _ => False

def aBox (x : LV) : Prop :=
  match dst, x.cells? with
  | some d, some cs => K { val := .bp d 0, wb := [(d, .cells none cs)], new := [d] }
  | _, _ => False

def aAlloc (t : TypeId) : Prop :=
  match dst, P.zeroOf t with
  | some d, some z => P.zOk t = true ∧ K { val := .bp d 0, wb := [(d, .cells none (z.cells.toList.map ofC))], new := [d] }
  | _, _ => False

def aLoad (t : TypeId) (a : LV) : Prop :=
  match a with
  | .pv (.ptr cs) =>
    match P.aggT t with
    | true => P.cellsOf t ≤ cs.length ∧ P.cellsOf t ≠ 0 ∧ K { val := .pv (.agg (cs.take (P.cellsOf t))) }
    | false => match cs with
      | c :: _ => (P.underlying t).isSome = true ∧ K { val := .pv c }
      | [] => False
  | .bp n off => match B n with
    | some (.cells _ cs) =>
      match P.aggT t with
      | true => off + P.cellsOf t ≤ cs.length ∧ P.cellsOf t ≠ 0 ∧ K { val := .ag ((cs.drop off).take (P.cellsOf t)), rb := [n] }
      | false => ∃ c, cs[off]? = some c ∧ (P.underlying t).isSome = true ∧ K { val := c, rb := [n] }
    | _ => False
  | _ => False

def aStore (t : TypeId) (a x : LV) : Prop :=
  match a, x.cells? with
  | .bp n off, some xs => match B n with
    | some (.cells r cs) => xs.length = P.cellsOf t ∧ P.cellsOf t ≠ 0 ∧ off + xs.length ≤ cs.length ∧ K { val := .undef, rb := [n], wb := [(n, .cells r (splice cs off xs))] }
    | _ => False
  | _, _ => False

def aFieldAddr (s : TypeId) (x : LV) (f : Nat) : Prop :=
  match P.fieldOf s f with
  | some (fo, ft) => P.cellsOf ft ≠ 0 ∧ match x with
    | .bp n off => K { val := .bp n (off + fo) }
    | .pv (.ptr cs) => K { val := .pv (.ptr (cs.drop fo)) }
    | _ => False
  | none => False

def aField (s : TypeId) (x : LV) (f : Nat) : Prop :=
  match P.fieldOf s f with
  | some (fo, ft) => match x with
    | .pv (.agg cs) => match P.aggT ft with
      | true => fo + P.cellsOf ft ≤ cs.length ∧ P.cellsOf ft ≠ 0 ∧ K { val := .pv (.agg ((cs.drop fo).take (P.cellsOf ft))) }
      | false => ∃ c, cs[fo]? = some c ∧ (P.underlying ft).isSome = true ∧ K { val := .pv c }
    | .ag cs => match P.aggT ft with
      | true => fo + P.cellsOf ft ≤ cs.length ∧ P.cellsOf ft ≠ 0 ∧ K { val := .ag ((cs.drop fo).take (P.cellsOf ft)) }
      | false => ∃ c, cs[fo]? = some c ∧ (P.underlying ft).isSome = true ∧ K { val := c }
    | _ => False
  | none => False

def aIndexAddr (t : TypeId) (x i : LV) : Prop :=
  match i with
  | .pv (.int _ n) => match P.underlying t with
    | some (.slice e) => match x with
      | .arr b len => 0 ≤ n ∧ n < len ∧ P.cellsOf e ≠ 0 ∧ K { val := .bp b (n.toNat * P.cellsOf e) }
      | x => match x.list? with
        | some l => 0 ≤ n ∧ ∃ el, l[n.toNat]? = some el ∧ el.cells.length = P.cellsOf e ∧ P.cellsOf e ≠ 0 ∧ K { val := .pv (.ptr el.cells) }
        | none => False
    | some (.array len e) => match x with
      | .bp b off => 0 ≤ n ∧ n < len ∧ P.cellsOf e ≠ 0 ∧ K { val := .bp b (off + n.toNat * P.cellsOf e) }
      | .pv (.ptr cs) => 0 ≤ n ∧ n < len ∧ P.cellsOf e ≠ 0 ∧ K { val := .pv (.ptr (cs.drop (n.toNat * P.cellsOf e))) }
      | _ => False
    | _ => False
  | _ => False

def aIndex (t : TypeId) (x i : LV) : Prop :=
  match i with
  | .pv (.int _ n) => match P.underlying t with
    | some (.array len e) => match x with
      | .pv (.agg cs) => P.aggT e = false ∧ P.cellsOf e = 1 ∧ (P.underlying e).isSome = true ∧ 0 ≤ n ∧ n < len ∧ ∃ c, cs[n.toNat]? = some c ∧ K { val := .pv c }
      | _ => False
    | some .string => match x with
      | .pv (.str s) => 0 ≤ n ∧ ∃ b, s[n.toNat]? = some b ∧ K { val := .pv (.int .u8 b.toNat) }
      | _ => False
    | _ => False
  | _ => False

/-- A bound of a cut. -/
def bnd (d : Int) : Option LV → Option Int
  | none => some d
  | some (.pv (.int _ n)) => some n
  | _ => none

def aSlice (t : TypeId) (x : LV) (lo hi : Option LV) : Prop :=
  match P.underlying t with
  | some (.slice e) => match x with
    | .arr n len => match bnd 0 lo, bnd len hi with
      | some a, some b => a = 0 ∧ 0 ≤ b ∧ b ≤ len ∧ P.cellsOf e ≠ 0 ∧ K { val := .arr n b.toNat }
      | _, _ => False
    | x => match x.list? with
      | some l => match bnd 0 lo, bnd l.length hi with
        | some a, some b => 0 ≤ a ∧ a ≤ b ∧ b ≤ l.length ∧ (∀ q ∈ l, q.cells.length = P.cellsOf e) ∧ P.cellsOf e ≠ 0 ∧ K { val := .pv (.slc ((l.take b.toNat).drop a.toNat)) }
        | _, _ => False
      | none => False
  | some .string => match x with
    | .pv (.str s) => match bnd 0 lo, bnd s.size hi with
      | some a, some b => 0 ≤ a ∧ a ≤ b ∧ b ≤ s.size ∧ K { val := .pv (.str (s.extract a.toNat b.toNat)) }
      | _, _ => False
    | _ => False
  | _ => False

/-- The parts of a struct or an array laid into its zero. -/
def fillL (place : Nat → Option (Nat × Nat)) (cells : List LV) : List (Nat × LV) → Option (List LV)
  | [] => some cells
  | (i, v) :: rest =>
    match place i, v.cells? with
    | some (off, size), some xs => if xs.length = size ∧ off + xs.length ≤ cells.length then fillL place (splice cells off xs) rest else none
    | _, _ => none

def fplace (t : TypeId) (i : Nat) : Option (Nat × Nat) :=
  match P.underlying t with
  | some (.struct _) => match P.fieldOf t i with
    | some (fo, ft) => some (fo, P.cellsOf ft)
    | none => none
  | some (.array _ e) => some (i * P.cellsOf e, P.cellsOf e)
  | _ => none

def aBuild (t : TypeId) (parts : List (Nat × LV)) : Prop :=
  match P.zeroOf t with
  | some z => P.fieldsOk t = true ∧ P.zOk t = true ∧ match fillL (fplace P t) (z.cells.toList.map ofC) parts with
    | some cs => K { val := .ag cs }
    | none => False
  | none => False

/-- The parts of a slice's literal, all of them, in order. -/
def partsL : Nat → List (Nat × LV) → Option (List PV)
  | _, [] => some []
  | n, (i, v) :: r => if i = n then match v.pure? with
      | some p => match partsL (n + 1) r with
        | some ps => some (p :: ps)
        | none => none
      | none => none
    else none

def aBuildSlice (t : TypeId) (len : Nat) (parts : List (Nat × LV)) : Prop :=
  match P.underlying t with
  | some (.slice e) => match partsL 0 parts with
    | some ps => ps.length = len ∧ (∀ p ∈ ps, p.cells.length = P.cellsOf e) ∧ len * P.cellsOf e ≤ 16777216 ∧ P.cellsOf e ≠ 0 ∧ P.zOk e = true ∧ K { val := .full ps }
    | none => False
  | _ => False

def aInt (op : BinOp) (k : IntKind) (a b : Int) : Prop :=
  match op with
  | .add => K { val := .pv (.int k (k.wrap (a + b))) }
  | .sub => K { val := .pv (.int k (k.wrap (a - b))) }
  | .mul => K { val := .pv (.int k (k.wrap (a * b))) }
  | .quo => b ≠ 0 ∧ K { val := .pv (.int k (k.wrap (a.tdiv b))) }
  | .rem => b ≠ 0 ∧ K { val := .pv (.int k (a.tmod b)) }
  | .and => K { val := .pv (.int k (bits .and k a b)) }
  | .or => K { val := .pv (.int k (bits .or k a b)) }
  | .xor => K { val := .pv (.int k (bits .xor k a b)) }
  | .eql => K { val := .pv (.bool (decide (a = b))) }
  | .neq => K { val := .pv (.bool (!decide (a = b))) }
  | .lss => K { val := .pv (.bool (decide (a < b))) }
  | .leq => K { val := .pv (.bool (decide (a ≤ b))) }
  | .gtr => K { val := .pv (.bool (decide (b < a))) }
  | .geq => K { val := .pv (.bool (decide (b ≤ a))) }
  | _ => False

def aStr (op : BinOp) (a b : ByteArray) : Prop :=
  match op with
  | .eql => K { val := .pv (.bool (decide (a.toList = b.toList))) }
  | .neq => K { val := .pv (.bool (!decide (a.toList = b.toList))) }
  | .lss => K { val := .pv (.bool (Op.bytesLess a.toList b.toList)) }
  | .gtr => K { val := .pv (.bool (!(Op.bytesLess a.toList b.toList || decide (a.toList = b.toList)))) }
  | _ => False

def aBin (op : BinOp) (xt : TypeId) (x y : LV) : Prop :=
  match x, y with
  | .pv (.int k a), .pv (.int k' b) =>
    match op with
    | .shl => 0 ≤ b ∧ K { val := .pv (.int k (k.wrap (a * 2 ^ min b.toNat k.bits))) }
    | .shr => 0 ≤ b ∧ K { val := .pv (.int k (a.fdiv (2 ^ min b.toNat k.bits))) }
    | _ => k = k' ∧ aInt K op k a b
  | .pv (.str a), .pv (.str b) => aStr K op a b
  | .pv (.bool a), .pv (.bool b) => P.underlying xt = some .bool ∧ match op with
    | .eql => K { val := .pv (.bool (a == b)) }
    | .neq => K { val := .pv (.bool (!(a == b))) }
    | _ => False
  | .pv (.clo _ _), .pv .nilf | .cl _ _, .pv .nilf => (∃ a b c, P.underlying xt = some (.func a b c)) ∧ match op with
    | .eql => K { val := .pv (.bool false) }
    | .neq => K { val := .pv (.bool true) }
    | _ => False
  | .pv .nilf, .pv .nilf => (∃ a b c, P.underlying xt = some (.func a b c)) ∧ match op with
    | .eql => K { val := .pv (.bool true) }
    | .neq => K { val := .pv (.bool false) }
    | _ => False
  | _, _ => False

def aUn (op : UnOp) (x : LV) : Prop :=
  match op, x with
  | .not, .pv (.bool b) => K { val := .pv (.bool (!b)) }
  | .neg, .pv (.int k n) => K { val := .pv (.int k (k.wrap (0 - n))) }
  | _, _ => False

def aConv (src d : TypeId) (x : LV) : Prop :=
  match x with
  | .pv (.int _ n) => match P.underlying d with
    | some (.int k) => (P.underlying src).isSome = true ∧ K { val := .pv (.int k (k.wrap n)) }
    | _ => False
  | _ => False

def aExtract (x : LV) (i : Nat) : Prop :=
  match x with
  | .tup l => ∃ p, l[i]? = some p ∧ K { val := .pv p }
  | _ => False

def aMakeFunc (fn : Fn) (first captured : List LV) : Prop :=
  match fn, first with
  | .func f, [] => ∃ caps : List (Nat × Nat), captured = caps.map (fun c => LV.bp c.1 c.2) ∧ K { val := .cl f caps }
  | _, _ => False

def aLen (t : TypeId) (x : LV) : Prop :=
  match P.underlying t with
  | some (.slice _) => match x with
    | .arr _ len => K { val := .pv (.int .i64 len) }
    | x => match x.list? with
      | some l => K { val := .pv (.int .i64 l.length) }
      | none => False
  | some .string => match x with
    | .pv (.str s) => K { val := .pv (.int .i64 s.size) }
    | _ => False
  | some (.array n _) => K { val := .pv (.int .i64 n) }
  | some (.map _ _) => match x with
    | .pv (.map ks _) => K { val := .pv (.int .i64 ks.length) }
    | .mr n => match B n with
      | some (.map ks _) => K { val := .pv (.int .i64 ks.length), rb := [n] }
      | _ => False
    | _ => False
  | _ => False

def aAppend (t : TypeId) (s x : LV) : Prop :=
  match P.underlying t with
  | some (.slice e) => match dst, x.list? with
    | some d, some m => (∀ q ∈ m, q.cells.length = P.cellsOf e) ∧ P.cellsOf e ≠ 0 ∧ P.zOk e = true ∧ match s with
      | .full l => (∀ q ∈ l, q.cells.length = P.cellsOf e) ∧ (l.length + m.length) * P.bytesOf e ≤ 140737488355328 ∧ l.length + m.length ≤ maxLen ∧
          (K { val := .sl d (l ++ m), wh := some (d, l.length + m.length, e), new := [d] } ∨
            (m ≠ [] ∧ K { val := .arr d (l.length + m.length), wb := [(d, .cells (some (P.rowI e)) (pcells (l ++ m)))], new := [d] }))
      | .sl k l => H k = some (l.length, e) ∧ (∀ q ∈ l, q.cells.length = P.cellsOf e) ∧ (l.length + m.length) * P.bytesOf e ≤ 140737488355328 ∧ l.length + m.length ≤ maxLen ∧
          K { val := .sl k (l ++ m), rh := [k], wh := some (k, l.length + m.length, e) }
      | .arr n len => match B n with
        | some (.cells (some r) cs) => r = P.rowI e ∧ len * P.cellsOf e ≤ cs.length ∧ (len + m.length) * P.bytesOf e ≤ 140737488355328 ∧ len + m.length ≤ maxLen ∧
            K { val := .arr d (len + m.length), rb := [n], wb := [(n, .dead), (d, .cells (some r) (cs.take (len * P.cellsOf e) ++ pcells m))], new := [d] }
        | _ => False
      | _ => False
    | _, _ => False
  | _ => False

def aMin (l : List LV) : Prop :=
  match l with
  | [.pv (.int k a), .pv (.int k' b)] => k = k' ∧ K { val := .pv (.int k (if b < a then b else a)) }
  | _ => False

def aMax (l : List LV) : Prop :=
  match l with
  | [.pv (.int k a), .pv (.int k' b)] => k = k' ∧ K { val := .pv (.int k (if a < b then b else a)) }
  | _ => False

/-- Keys that are equal. -/
def keyEq : PV → PV → Bool
  | .int k a, .int k' b => k == k' && a == b
  | .bool a, .bool b => a == b
  | .str a, .str b => a == b
  | _, _ => false

def mget (k : PV) : List PV → List PV → Option PV
  | x :: ks, v :: vs => if keyEq k x then some v else mget k ks vs
  | _, _ => none

/-- A map's entries, one of them laid anew or behind all others. -/
def mset (k v : PV) : List PV → List PV → List PV × List PV
  | x :: ks, y :: vs => if keyEq k x then (k :: ks, v :: vs) else ((x :: (mset k v ks vs).1), (y :: (mset k v ks vs).2))
  | _, _ => ([k], [v])

def mdel (k : PV) : List PV → List PV → List PV × List PV
  | x :: ks, y :: vs => if keyEq k x then (ks, vs) else ((x :: (mdel k ks vs).1), (y :: (mdel k ks vs).2))
  | ks, vs => (ks, vs)

/-- A key of a type that is looked up at once. -/
def keyOk (d : TypeDesc) : PV → Bool
  | .int k _ => match d with | .int k' => k == k' | _ => false
  | .bool _ => match d with | .bool => true | _ => false
  | .str _ => match d with | .string => true | _ => false
  | _ => false

/-- A map that is read. -/
def LV.map? : LV → Option (List PV × List PV × List Nat)
  | .pv (.map ks vs) => some (ks, vs, [])
  | .mr n => match B n with
    | some (.map ks vs) => some (ks, vs, [n])
    | _ => none
  | _ => none

/-- A slice of zeros. -/
def aMakeSlice (t : TypeId) (l c : LV) : Prop :=
  match P.underlying t with
  | some (.slice e) => match dst, l, c, P.zeroOf e with
    | some d, .pv (.int _ n), .pv (.int _ m), some z => 0 ≤ n ∧ n ≤ m ∧ m * P.bytesOf e ≤ 140737488355328 ∧ m ≤ maxLen ∧ P.cellsOf e ≠ 0 ∧ P.zOk e = true ∧
        K { val := .arr d n.toNat, wb := [(d, .cells (some (P.rowI e)) (List.replicate n.toNat (z.cells.toList.map ofC)).flatten)], new := [d] }
    | _, _, _, _ => False
  | _ => False

/-- The start of a loop over a map that stands. -/
def aRange (t : TypeId) (x : LV) : Prop :=
  match P.underlying t with
  | some (.map _ _) => match dst, x with
    | some d, .pv (.map ks vs) => K { val := .it d, wb := [(d, .iter ks vs none)], new := [d] }
    | _, _ => False
  | _ => False

/-- The entry that the step handed out. -/
def aEntry (x : LV) : Prop :=
  match x with
  | .it n => match B n with
    | some (.iter _ _ (some (k, v))) => K { val := .tup [k, v], rb := [n] }
    | _ => False
  | _ => False

/-- A step of a loop over a map: whichever entry comes. -/
def aNext (x : LV) : Prop :=
  match x with
  | .it n => match B n with
    | some (.iter ks vs _) => (ks = [] → K { val := .tup [.bool false], rb := [n] }) ∧
        ∀ i k v, ks[i]? = some k → vs[i]? = some v → K { val := .tup [.bool true, k, v], rb := [n], wb := [(n, .iter (ks.eraseIdx i) (vs.eraseIdx i) (some (k, v)))] }
    | _ => False
  | _ => False

def aMakeMap (r : Option LV) : Prop :=
  match dst, r with
  | some d, none => K { val := .mr d, wb := [(d, .map [] [])], new := [d] }
  | _, _ => False

def aMapUpdate (t : TypeId) (m k v : LV) : Prop :=
  match P.underlying t with
  | some (.map kt _) => match m, k.pure?, v.pure? with
    | .mr n, some k, some v => match B n with
      | some (.map ks vs) => (∃ d, P.underlying kt = some d ∧ keyOk d k = true ∧ (∀ x ∈ ks, keyOk d x = true)) ∧ K { val := .undef, rb := [n], wb := [(n, .map (mset k v ks vs).1 (mset k v ks vs).2)] }
      | _ => False
    | _, _, _ => False
  | _ => False

def ofZ (P : Program) (t : TypeId) : Option PV :=
  match P.zeroOf t with
  | some (.agg cs) => match ones? (cs.toList.map ofC) with
    | some ps => if P.zOk t then some (.agg ps) else none
    | none => none
  | some z => (ofC z).one?
  | none => none

def aLookup (t : TypeId) (m k : LV) (ok : Bool) : Prop :=
  match P.underlying t with
  | some (.map kt et) => match m.map? B, k.pure?, ofZ P et with
    | some (ks, vs, ns), some k, some z => (∃ d, P.underlying kt = some d ∧ keyOk d k = true ∧ (∀ x ∈ ks, keyOk d x = true)) ∧
      K { val := if ok then .tup [(mget k ks vs).getD z, .bool (mget k ks vs).isSome] else .pv ((mget k ks vs).getD z), rb := ns }
    | _, _, _ => False
  | _ => False

def aDelete (t : TypeId) (m k : LV) : Prop :=
  match P.underlying t with
  | some (.map kt _) => match m, k.pure? with
    | .mr n, some k => match B n with
      | some (.map ks vs) => (∃ d, P.underlying kt = some d ∧ keyOk d k = true ∧ (∀ x ∈ ks, keyOk d x = true)) ∧ K { val := .tup [], rb := [n], wb := [(n, .map (mdel k ks vs).1 (mdel k ks vs).2)] }
      | _ => False
    | _, _ => False
  | _ => False

def aClear (t : TypeId) (m : LV) : Prop :=
  match P.underlying t with
  | some (.map _ _) => match m with
    | .mr n => match B n with
      | some (.map _ _) => K { val := .tup [], rb := [n], wb := [(n, .map [] [])] }
      | _ => False
    | _ => False
  | _ => False

end
end Go.Am
