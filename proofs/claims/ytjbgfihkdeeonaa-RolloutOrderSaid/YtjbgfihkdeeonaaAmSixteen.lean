/- The abstract machine, part 16: rules by which code is stepped through; nothing is assumed of any program. -/
import Derived.Test.YtjbgfihkdeeonaaAmFifteen
set_option linter.unusedSimpArgs false
set_option linter.unusedVariables false
namespace Go.Am
open Go.RowKit

def seqK (P : Program) (kp : Keep) (b : Code) (Q : AEx → St → Prop) : AEx → St → Prop
  | .normal, σ => acode P kp b σ Q
  | .exit i, σ => Q (.exit i) σ
  | .ret, σ => Q .ret σ

def blockK (id : Nat) (Q : AEx → St → Prop) : AEx → St → Prop
  | .normal, σ => Q .normal σ
  | .exit i, σ => if i = id then Q .normal σ else Q (.exit i) σ
  | .ret, σ => Q .ret σ

def regK (kp : Keep) (id : Nat) (Q : AEx → St → Prop) (σ : St) : Prop := Q .normal (σ.atEnd kp id)

def opK (P : Program) (ops : Array Oper) (os : List Oper) (dst : Option Nat) (σ : St) (K : St → Prop) (u : Upd) : Prop := NewOk σ u.new ∧ aops P ops os (σ.app dst u) K

def opKD (P : Program) (ops : Array Oper) (os : List Oper) (dst : Option Nat) (σ : St) (tr : List TE) (K : St → List TE → Prop) (u : Upd) : Prop := aopsD P ops os (σ.app dst u) (te u :: tr) K

def drawK (ops : Array Oper) (σ : St) (K : St → Prop) (σ' : St) (tr : List TE) : Prop := chk ops tr.reverse = true ∧ newsOk σ tr = true ∧ K σ'

section
variable {P : Program} {kp : Keep} {Q : AEx → St → Prop} {σ : St}

theorem Ex_ext {Q Q' : AEx → St → Prop} (h1 : ∀ σ, Q .normal σ = Q' .normal σ) (h2 : ∀ i σ, Q (.exit i) σ = Q' (.exit i) σ) (h3 : ∀ σ, Q .ret σ = Q' .ret σ) : Q = Q' := by
  funext e σ
  cases e with
  | normal => exact h1 σ
  | exit i => exact h2 i σ
  | ret => exact h3 σ

theorem acode_seq {a b : Code} : acode P kp (.seq a b) σ Q = acode P kp a σ (seqK P kp b Q) := by
  simp only [acode]
  congr 1
  exact Ex_ext (fun _ => rfl) (fun _ _ => rfl) fun _ => rfl

theorem acode_block {id : Nat} {a : Code} : acode P kp (.block id a) σ Q = acode P kp a σ (blockK id Q) := by
  simp only [acode]
  congr 1
  refine Ex_ext (fun _ => rfl) (fun i σ => ?_) fun _ => rfl
  simp only [blockK]
  by_cases h : i = id <;> simp [h]

theorem acode_region {id : Nat} {ops : Array Oper} : acode P kp (.region id ops false) σ Q = aops P ops ops.toList σ (regK kp id Q) := rfl
theorem acode_draw {id : Nat} {ops : Array Oper} : acode P kp (.region id ops true) σ Q = (regOk ops = true ∧ aopsD P ops ops.toList σ [] (drawK ops σ (regK kp id Q))) := rfl
theorem acode_skip : acode P kp .skip σ Q = Q .normal σ := rfl
theorem acode_label {l : Nat} : acode P kp (.label l) σ Q = Q .normal σ := rfl
theorem acode_exit {i : Nat} : acode P kp (.exit i) σ Q = Q (.exit i) σ := rfl
theorem acode_ret : acode P kp .ret σ Q = Q .ret σ := rfl

theorem seqK_n {b : Code} : seqK P kp b Q .normal σ = acode P kp b σ Q := rfl
theorem seqK_e {b : Code} {i : Nat} : seqK P kp b Q (.exit i) σ = Q (.exit i) σ := rfl
theorem seqK_r {b : Code} : seqK P kp b Q .ret σ = Q .ret σ := rfl
theorem blockK_n {id : Nat} : blockK id Q .normal σ = Q .normal σ := rfl
theorem blockK_e {id i : Nat} : blockK id Q (.exit i) σ = if i = id then Q .normal σ else Q (.exit i) σ := rfl
theorem blockK_r {id : Nat} : blockK id Q .ret σ = Q .ret σ := rfl
theorem regK_ {id : Nat} : regK kp id Q σ = Q .normal (σ.atEnd kp id) := rfl

theorem aopN_irr {F : Nat → LV} {B : Nat → Option BO} {H : HT} {dst : Option Tmp} {op : Op} {ty : TypeId} {pos : String} {aft : Array Edge} {g : Option (Nat × Bool)} {K : Upd → Prop} :
    aopN P F B H { dst := dst, op := op, type := ty, pos := pos, after := aft, guard := g } K = aopN P F B H { dst := dst, op := op, type := ty, pos := "", after := #[], guard := none } K := by cases op <;> rfl
theorem aop_irr {F : Nat → LV} {B : Nat → Option BO} {H : HT} {dst : Option Tmp} {op : Op} {ty : TypeId} {pos : String} {aft : Array Edge} {g : Option (Nat × Bool)} {K : Upd → Prop} :
    aop P F B H { dst := dst, op := op, type := ty, pos := pos, after := aft, guard := g } K = aop P F B H { dst := dst, op := op, type := ty, pos := "", after := #[], guard := none } K := by cases op <;> rfl

theorem aops_nil {ops : Array Oper} {K : St → Prop} : aops P ops [] σ K = K σ := rfl
theorem aops_cons {ops : Array Oper} {dst : Option Tmp} {op : Op} {ty : TypeId} {pos : String} {aft : Array Edge} {os : List Oper} {K : St → Prop} {fr : List (Nat × LV)} {bx : List (Nat × BO)} {hw : List (Nat × Nat × TypeId)} :
    aops P ops ({ dst := dst, op := op, type := ty, pos := pos, after := aft, guard := none } :: os) ⟨fr, bx, hw⟩ K =
      aopN P (St.f ⟨fr, bx, hw⟩) (St.b ⟨fr, bx, hw⟩) (St.h ⟨fr, bx, hw⟩) { dst := dst, op := op, type := ty, pos := "", after := #[], guard := none } (opK P ops os dst ⟨fr, bx, hw⟩ K) := by
  cases op <;> rfl

def opG (P : Program) (ops : Array Oper) (dst : Option Tmp) (op : Op) (ty : TypeId) (os : List Oper) (σ : St) (K : St → Prop) (b : Bool) : LV → Prop
  | .pv (.bool t) => (t = b → aopN P σ.f σ.b σ.h { dst := dst, op := op, type := ty, pos := "", after := #[], guard := none } (opK P ops os dst σ K)) ∧ (t = !b → aops P ops os (σ.app dst { val := .undef }) K)
  | .undef => aops P ops os (σ.app dst { val := .undef }) K
  | _ => False

theorem aops_guard {ops : Array Oper} {dst : Option Tmp} {op : Op} {ty : TypeId} {pos : String} {aft : Array Edge} {os : List Oper} {K : St → Prop} {j : Nat} {b : Bool} {s : Nat} (hs : (ops[j]?).bind (·.dst) = some s) {fr : List (Nat × LV)} {bx : List (Nat × BO)} {hw : List (Nat × Nat × TypeId)} :
    aops P ops ({ dst := dst, op := op, type := ty, pos := pos, after := aft, guard := some (j, b) } :: os) ⟨fr, bx, hw⟩ K = opG P ops dst op ty os ⟨fr, bx, hw⟩ K b (St.f ⟨fr, bx, hw⟩ s) := by
  simp only [aops, hs]
  unfold opG
  split
  · rename_i h; rw [aopN_irr, h]; rfl
  · rename_i h; rw [h]
  · split <;> simp_all

def opGo (P : Program) (ops : Array Oper) (dst : Option Tmp) (op : Op) (ty : TypeId) (os : List Oper) (σ : St) (K : St → Prop) (b : Bool) : Option Nat → Prop
  | some s => opG P ops dst op ty os σ K b (σ.f s)
  | none => False
theorem aops_g {ops : Array Oper} {dst : Option Tmp} {op : Op} {ty : TypeId} {pos : String} {aft : Array Edge} {os : List Oper} {K : St → Prop} {j : Nat} {b : Bool} {fr : List (Nat × LV)} {bx : List (Nat × BO)} {hw : List (Nat × Nat × TypeId)} :
    aops P ops ({ dst := dst, op := op, type := ty, pos := pos, after := aft, guard := some (j, b) } :: os) ⟨fr, bx, hw⟩ K = opGo P ops dst op ty os ⟨fr, bx, hw⟩ K b ((ops[j]?).bind (·.dst)) := by
  cases hs : (ops[j]?).bind (·.dst) with
  | none => simp only [aops, hs]; rfl
  | some s => exact aops_guard hs
theorem opGo_ {ops : Array Oper} {dst : Option Tmp} {op : Op} {ty : TypeId} {os : List Oper} {K : St → Prop} {b : Bool} {s : Nat} : opGo P ops dst op ty os σ K b (some s) = opG P ops dst op ty os σ K b (σ.f s) := rfl

theorem aopsD_nil {ops : Array Oper} {tr : List TE} {K : St → List TE → Prop} : aopsD P ops [] σ tr K = K σ tr := rfl
theorem aopsD_cons {ops : Array Oper} {dst : Option Tmp} {op : Op} {ty : TypeId} {pos : String} {aft : Array Edge} {os : List Oper} {tr : List TE} {K : St → List TE → Prop} {fr : List (Nat × LV)} {bx : List (Nat × BO)} {hw : List (Nat × Nat × TypeId)} :
    aopsD P ops ({ dst := dst, op := op, type := ty, pos := pos, after := aft, guard := none } :: os) ⟨fr, bx, hw⟩ tr K =
      aop P (St.f ⟨fr, bx, hw⟩) (St.b ⟨fr, bx, hw⟩) (St.h ⟨fr, bx, hw⟩) { dst := dst, op := op, type := ty, pos := "", after := #[], guard := none } (opKD P ops os dst ⟨fr, bx, hw⟩ tr K) := by
  cases op <;> rfl

def opGD (P : Program) (ops : Array Oper) (dst : Option Tmp) (op : Op) (ty : TypeId) (os : List Oper) (σ : St) (tr : List TE) (K : St → List TE → Prop) (b : Bool) : LV → Prop
  | .pv (.bool t) => (t = b → aop P σ.f σ.b σ.h { dst := dst, op := op, type := ty, pos := "", after := #[], guard := none } (opKD P ops os dst σ tr K)) ∧ (t = !b → aopsD P ops os (σ.app dst { val := .undef }) (te { val := .undef } :: tr) K)
  | .undef => aopsD P ops os (σ.app dst { val := .undef }) (te { val := .undef } :: tr) K
  | _ => False

theorem aopsD_guard {ops : Array Oper} {dst : Option Tmp} {op : Op} {ty : TypeId} {pos : String} {aft : Array Edge} {os : List Oper} {tr : List TE} {K : St → List TE → Prop} {j : Nat} {b : Bool} {s : Nat} (hs : (ops[j]?).bind (·.dst) = some s) {fr : List (Nat × LV)} {bx : List (Nat × BO)} {hw : List (Nat × Nat × TypeId)} :
    aopsD P ops ({ dst := dst, op := op, type := ty, pos := pos, after := aft, guard := some (j, b) } :: os) ⟨fr, bx, hw⟩ tr K = opGD P ops dst op ty os ⟨fr, bx, hw⟩ tr K b (St.f ⟨fr, bx, hw⟩ s) := by
  simp only [aopsD, hs]
  unfold opGD
  split
  · rename_i h; rw [aop_irr, h]; rfl
  · rename_i h; rw [h]
  · split <;> simp_all

def opGoD (P : Program) (ops : Array Oper) (dst : Option Tmp) (op : Op) (ty : TypeId) (os : List Oper) (σ : St) (tr : List TE) (K : St → List TE → Prop) (b : Bool) : Option Nat → Prop
  | some s => opGD P ops dst op ty os σ tr K b (σ.f s)
  | none => False
theorem aopsD_g {ops : Array Oper} {dst : Option Tmp} {op : Op} {ty : TypeId} {pos : String} {aft : Array Edge} {os : List Oper} {tr : List TE} {K : St → List TE → Prop} {j : Nat} {b : Bool} {fr : List (Nat × LV)} {bx : List (Nat × BO)} {hw : List (Nat × Nat × TypeId)} :
    aopsD P ops ({ dst := dst, op := op, type := ty, pos := pos, after := aft, guard := some (j, b) } :: os) ⟨fr, bx, hw⟩ tr K = opGoD P ops dst op ty os ⟨fr, bx, hw⟩ tr K b ((ops[j]?).bind (·.dst)) := by
  cases hs : (ops[j]?).bind (·.dst) with
  | none => simp only [aopsD, hs]; rfl
  | some s => exact aopsD_guard hs
theorem opGoD_ {ops : Array Oper} {dst : Option Tmp} {op : Op} {ty : TypeId} {os : List Oper} {tr : List TE} {K : St → List TE → Prop} {b : Bool} {s : Nat} : opGoD P ops dst op ty os σ tr K b (some s) = opGD P ops dst op ty os σ tr K b (σ.f s) := rfl

theorem opK_ {ops : Array Oper} {os : List Oper} {dst : Option Nat} {K : St → Prop} {v : LV} {rb rh : List Nat} {wb : List (Nat × BO)} {wh : Option (Nat × Nat × TypeId)} {nw : List Nat} :
    opK P ops os dst σ K ⟨v, rb, wb, rh, wh, nw⟩ = (NewOk σ nw ∧ aops P ops os (σ.app dst ⟨v, rb, wb, rh, wh, nw⟩) K) := rfl
theorem opKD_ {ops : Array Oper} {os : List Oper} {dst : Option Nat} {tr : List TE} {K : St → List TE → Prop} {v : LV} {rb rh : List Nat} {wb : List (Nat × BO)} {wh : Option (Nat × Nat × TypeId)} {nw : List Nat} :
    opKD P ops os dst σ tr K ⟨v, rb, wb, rh, wh, nw⟩ = aopsD P ops os (σ.app dst ⟨v, rb, wb, rh, wh, nw⟩) (te ⟨v, rb, wb, rh, wh, nw⟩ :: tr) K := rfl

/-- Putting into a list of named things, at once. -/
def lset {α : Type} (k : Nat) (v : α) : List (Nat × α) → List (Nat × α)
  | [] => [(k, v)]
  | (j, x) :: r => if j = k then (k, v) :: r else (j, x) :: lset k v r

theorem NewOk_nil : NewOk σ [] = True := by simp [NewOk]
theorem NewOk_cons {d : Nat} {r : List Nat} : NewOk σ (d :: r) = ((σ.fresh d = true ∧ d < 1000) ∧ NewOk σ r) := by simp [NewOk]

theorem app1 {fr : List (Nat × LV)} {bx : List (Nat × BO)} {hw : List (Nat × Nat × TypeId)} {d : Nat} {v : LV} {rb rh : List Nat} {wb : List (Nat × BO)} {nw : List Nat} :
    St.app ⟨fr, bx, hw⟩ (some d) ⟨v, rb, wb, rh, none, nw⟩ = ⟨(d, v) :: fr, wb ++ bx, hw⟩ := rfl
theorem app3 {fr : List (Nat × LV)} {bx : List (Nat × BO)} {hw : List (Nat × Nat × TypeId)} {d : Nat} {v : LV} {rb rh : List Nat} {wb : List (Nat × BO)} {nw : List Nat} {x : Nat × Nat × TypeId} :
    St.app ⟨fr, bx, hw⟩ (some d) ⟨v, rb, wb, rh, some x, nw⟩ = ⟨(d, v) :: fr, wb ++ bx, x :: hw⟩ := rfl
theorem app4 {fr : List (Nat × LV)} {bx : List (Nat × BO)} {hw : List (Nat × Nat × TypeId)} {v : LV} {rb rh : List Nat} {wb : List (Nat × BO)} {nw : List Nat} :
    St.app ⟨fr, bx, hw⟩ none ⟨v, rb, wb, rh, none, nw⟩ = ⟨fr, wb ++ bx, hw⟩ := rfl

/-- What stands of a state behind a region. -/
def gcX (fr : List (Nat × LV)) (bx : List (Nat × BO)) (hw : List (Nat × Nat × TypeId)) (a c ns : List Nat) : St := ⟨pickF a fr ns c, pickG ns bx ns c, pickK c hw⟩
theorem gcX_ {fr : List (Nat × LV)} {bx : List (Nat × BO)} {hw : List (Nat × Nat × TypeId)} {a c ns : List Nat} : gcX fr bx hw a c ns = ⟨pickF a fr ns c, pickG ns bx ns c, pickK c hw⟩ := rfl
theorem gc_ {fr : List (Nat × LV)} {bx : List (Nat × BO)} {hw : List (Nat × Nat × TypeId)} {a b c : List Nat} {r : List (Nat × Nat)} {z : List (Nat × List Nat)} {y : List (Nat × Nat × TypeId)} {x : List (Nat × Nat × Nat × TypeId)} {u : List Nat} : St.gc ⟨fr, bx, hw⟩ ⟨a, b, c, r, z, y, x, u⟩ = gcX fr bx hw a c (aliveK b bx) := rfl
def fzs (id : Nat) : List (Nat × List Nat) → St → St
  | [], σ => σ
  | x :: r, σ => fzs id r (if x.1 = id then σ.frz x.2 else σ)
def rens : List (Nat × Nat) → St → St
  | [], σ => σ
  | x :: r, σ => rens r (σ.mv x.1 x.2)
def rfs : List (Nat × Nat × TypeId) → St → St
  | [], σ => σ
  | x :: r, σ => rfs r (σ.rf x.1 x.2.1 x.2.2)
def rbs : List (Nat × Nat × Nat × TypeId) → St → St
  | [], σ => σ
  | x :: r, σ => rbs r (σ.rb x.1 x.2.1 x.2.2.1 x.2.2.2)
def pus : List Nat → St → St
  | [], σ => σ
  | x :: r, σ => pus r (σ.pu x)
theorem atEnd_ {a b c : List Nat} {r : List (Nat × Nat)} {z : List (Nat × List Nat)} {y : List (Nat × Nat × TypeId)} {x : List (Nat × Nat × Nat × TypeId)} {u : List Nat} {id : Nat} : St.atEnd σ ⟨a, b, c, r, z, y, x, u⟩ id = pus u (rbs x (rfs y (rens r ((fzs id z σ).gc ⟨a, b, c, r, z, y, x, u⟩)))) := by
  have h1 : ∀ (z : List (Nat × List Nat)) (σ : St), z.foldl (fun σ x => if x.1 = id then σ.frz x.2 else σ) σ = fzs id z σ := by
    intro z
    induction z with
    | nil => intro σ; rfl
    | cons x z ih => intro σ; exact ih _
  have h2 : ∀ (r : List (Nat × Nat)) (σ : St), r.foldl (fun σ x => σ.mv x.1 x.2) σ = rens r σ := by
    intro r
    induction r with
    | nil => intro σ; rfl
    | cons x r ih => intro σ; exact ih _
  have h3 : ∀ (y : List (Nat × Nat × TypeId)) (σ : St), y.foldl (fun σ x => σ.rf x.1 x.2.1 x.2.2) σ = rfs y σ := by
    intro y
    induction y with
    | nil => intro σ; rfl
    | cons x y ih => intro σ; exact ih _
  have h4 : ∀ (y : List (Nat × Nat × Nat × TypeId)) (σ : St), y.foldl (fun σ x => σ.rb x.1 x.2.1 x.2.2.1 x.2.2.2) σ = rbs y σ := by
    intro y
    induction y with
    | nil => intro σ; rfl
    | cons x y ih => intro σ; exact ih _
  have h5 : ∀ (y : List Nat) (σ : St), y.foldl St.pu σ = pus y σ := by
    intro y
    induction y with
    | nil => intro σ; rfl
    | cons x y ih => intro σ; exact ih _
  simp only [St.atEnd, h1, h2, h3, h4, h5]
theorem fzs_nil {id : Nat} : fzs id [] σ = σ := rfl
theorem fzs_cons {id j : Nat} {ns : List Nat} {z : List (Nat × List Nat)} : fzs id ((j, ns) :: z) σ = fzs id z (if j = id then σ.frz ns else σ) := rfl
theorem pus_nil : pus [] σ = σ := rfl
theorem pus_cons {s : Nat} {r : List Nat} : pus (s :: r) σ = pus r (σ.pu s) := rfl
theorem pu_ {fr : List (Nat × LV)} {bx : List (Nat × BO)} {hw : List (Nat × Nat × TypeId)} {s : Nat} : St.pu ⟨fr, bx, hw⟩ s = ⟨fr.map fun x => (x.1, if x.1 = s then x.2.pur else x.2), bx, hw⟩ := rfl
theorem pur_f {l : List PV} : LV.pur (.full l) = .pv (.slc l) := rfl
theorem pur_s {k : Nat} {l : List PV} : LV.pur (.sl k l) = .pv (.slc l) := rfl
theorem pur_p {p : PV} : LV.pur (.pv p) = .pv p := rfl
theorem rfs_nil : rfs [] σ = σ := rfl
theorem rfs_cons {s k : Nat} {e : TypeId} {r : List (Nat × Nat × TypeId)} : rfs ((s, k, e) :: r) σ = rfs r (σ.rf s k e) := rfl
theorem rbs_nil : rbs [] σ = σ := rfl
theorem rbs_cons {n j k : Nat} {e : TypeId} {r : List (Nat × Nat × Nat × TypeId)} : rbs ((n, j, k, e) :: r) σ = rbs r (σ.rb n j k e) := rfl
/-- A row, where a slot's word is known. -/
def rfX (σ : St) (s k : Nat) (e : TypeId) : Option LV → St
  | some (.full l) => if σ.fresh k && (lk k σ.hw).isNone then { fr := σ.fr.map fun x => (x.1, if x.1 = s then .sl k l else x.2), bx := σ.bx, hw := (k, l.length, e) :: σ.hw } else σ
  | _ => σ
theorem rf_ {fr : List (Nat × LV)} {bx : List (Nat × BO)} {hw : List (Nat × Nat × TypeId)} {s k : Nat} {e : TypeId} : St.rf ⟨fr, bx, hw⟩ s k e = rfX ⟨fr, bx, hw⟩ s k e (lk s fr) := rfl
theorem rfX_f {fr : List (Nat × LV)} {bx : List (Nat × BO)} {hw : List (Nat × Nat × TypeId)} {s k : Nat} {e : TypeId} {l : List PV} : rfX ⟨fr, bx, hw⟩ s k e (some (.full l)) =
    if St.fresh ⟨fr, bx, hw⟩ k && (lk k hw).isNone then { fr := fr.map fun x => (x.1, if x.1 = s then .sl k l else x.2), bx := bx, hw := (k, l.length, e) :: hw } else ⟨fr, bx, hw⟩ := rfl
theorem rfX_s {s k j : Nat} {e : TypeId} {l : List PV} : rfX σ s k e (some (.sl j l)) = σ := rfl
theorem rfX_p {s k : Nat} {e : TypeId} {p : PV} : rfX σ s k e (some (.pv p)) = σ := rfl
theorem rfX_j {s k : Nat} {e : TypeId} : rfX σ s k e (some .junk) = σ := rfl
theorem rfX_u {s k : Nat} {e : TypeId} : rfX σ s k e (some .undef) = σ := rfl
theorem rfX_a {s k n l : Nat} {e : TypeId} : rfX σ s k e (some (.arr n l)) = σ := rfl
theorem rfX_n {s k : Nat} {e : TypeId} : rfX σ s k e none = σ := rfl
theorem rens_nil : rens [] σ = σ := rfl
theorem rens_cons {n m : Nat} {r : List (Nat × Nat)} : rens ((n, m) :: r) σ = rens r (σ.mv n m) := rfl
theorem mv_ {fr : List (Nat × LV)} {bx : List (Nat × BO)} {hw : List (Nat × Nat × TypeId)} {n m : Nat} : St.mv ⟨fr, bx, hw⟩ n m = if (aliveK [n] bx).contains n && (bx.all fun x => x.1 != m) && St.fresh ⟨fr, bx, hw⟩ m && decide (m < 1000) then St.mvU ⟨fr, bx, hw⟩ n m else ⟨fr, bx, hw⟩ := rfl
theorem mvU_ {fr : List (Nat × LV)} {bx : List (Nat × BO)} {hw : List (Nat × Nat × TypeId)} {n m : Nat} : St.mvU ⟨fr, bx, hw⟩ n m = ⟨fr.map fun x => (x.1, x.2.mv n m), bx.map fun x => (if x.1 = n then m else x.1, x.2.mv n m), hw⟩ := rfl
theorem frz_ {fr : List (Nat × LV)} {bx : List (Nat × BO)} {hw : List (Nat × Nat × TypeId)} {ns : List Nat} : St.frz ⟨fr, bx, hw⟩ ns = ⟨fr.map fun x => (x.1, x.2.frz (St.b ⟨fr, bx, hw⟩) ns), (bx.filter fun x => !ns.contains x.1).map fun x => (x.1, x.2.frz (St.b ⟨fr, bx, hw⟩) ns), hw⟩ := rfl
theorem ctn_nil {k : Nat} : ([] : List Nat).contains k = false := rfl
theorem ctn_cons {k j : Nat} {r : List Nat} : (j :: r).contains k = if j = k then true else r.contains k := by
  by_cases h : j = k
  · subst h; simp
  · have : k ≠ j := Ne.symm h
    simp [h, this]
theorem fresh_ {fr : List (Nat × LV)} {bx : List (Nat × BO)} {hw : List (Nat × Nat × TypeId)} {d : Nat} : St.fresh ⟨fr, bx, hw⟩ d = (!men?F d fr && !men?L d bx) := rfl
theorem menF_nil {d : Nat} : men?F d [] = false := rfl
theorem menF_cons {d j : Nat} {v : LV} {r : List (Nat × LV)} : men?F d ((j, v) :: r) = (v.men d || men?F d r) := rfl
theorem menL_nil {d : Nat} : men?L d [] = false := rfl
theorem menL_cons {d j : Nat} {v : BO} {r : List (Nat × BO)} : men?L d ((j, v) :: r) = (v.men d || men?L d r) := rfl
theorem menB_c {d : Nat} {rr : Option RowI} {cs : List LV} : BO.men d (.cells rr cs) = cs.any (LV.men1 d) := rfl
theorem menB_m {d : Nat} {ks vs : List PV} : BO.men d (.map ks vs) = false := rfl
theorem menB_i {d : Nat} {ks vs : List PV} {c : Option (PV × PV)} : BO.men d (.iter ks vs c) = false := rfl
theorem menB_d {d : Nat} : BO.men d .dead = false := rfl
theorem men_undef {d : Nat} : LV.men d .undef = false := rfl
theorem men_junk {d : Nat} : LV.men d .junk = false := rfl
theorem men_pv {d : Nat} {p : PV} : LV.men d (.pv p) = false := rfl
theorem men_full {d : Nat} {p : List PV} : LV.men d (.full p) = false := rfl
theorem men_tup {d : Nat} {p : List PV} : LV.men d (.tup p) = false := rfl
theorem men_sl {d k : Nat} {p : List PV} : LV.men d (.sl k p) = (k == d) := rfl
theorem men_bp {d k o : Nat} : LV.men d (.bp k o) = (k == d) := rfl
theorem men_arr {d k o : Nat} : LV.men d (.arr k o) = (k == d) := rfl
theorem men_mr {d k : Nat} : LV.men d (.mr k) = (k == d) := rfl
theorem men_it {d k : Nat} : LV.men d (.it k) = (k == d) := rfl
theorem men_cl {d : Nat} {f : FuncId} {c : List (Nat × Nat)} : LV.men d (.cl f c) = c.any fun x => x.1 == d := rfl
theorem men_ag {d : Nat} {cs : List LV} : LV.men d (.ag cs) = cs.any (LV.men1 d) := rfl
theorem men1_undef {d : Nat} : LV.men1 d .undef = false := rfl
theorem men1_junk {d : Nat} : LV.men1 d .junk = false := rfl
theorem men1_pv {d : Nat} {p : PV} : LV.men1 d (.pv p) = false := rfl
theorem men1_full {d : Nat} {p : List PV} : LV.men1 d (.full p) = false := rfl
theorem men1_sl {d k : Nat} {p : List PV} : LV.men1 d (.sl k p) = (k == d) := rfl
theorem men1_bp {d k o : Nat} : LV.men1 d (.bp k o) = (k == d) := rfl
theorem men1_arr {d k o : Nat} : LV.men1 d (.arr k o) = (k == d) := rfl
theorem men1_mr {d k : Nat} : LV.men1 d (.mr k) = (k == d) := rfl
theorem men1_it {d k : Nat} : LV.men1 d (.it k) = (k == d) := rfl
theorem men1_cl {d : Nat} {f : FuncId} {c : List (Nat × Nat)} : LV.men1 d (.cl f c) = c.any fun x => x.1 == d := rfl
section
variable {ns rs : List Nat}
theorem cl_undef : LV.clean ns rs .undef = .undef := rfl
theorem cl_junk : LV.clean ns rs .junk = .junk := rfl
theorem cl_pv {p : PV} : LV.clean ns rs (.pv p) = .pv p := rfl
theorem cl_full {p : List PV} : LV.clean ns rs (.full p) = .full p := rfl
theorem cl_tup {p : List PV} : LV.clean ns rs (.tup p) = .tup p := rfl
theorem cl_sl {k : Nat} {p : List PV} : LV.clean ns rs (.sl k p) = if rs.contains k then .sl k p else .pv (.slc p) := rfl
theorem cl_bp {n o : Nat} : LV.clean ns rs (.bp n o) = if ns.contains n then .bp n o else .junk := rfl
theorem cl_arr {n o : Nat} : LV.clean ns rs (.arr n o) = if ns.contains n then .arr n o else .junk := rfl
theorem cl_mr {n : Nat} : LV.clean ns rs (.mr n) = if ns.contains n then .mr n else .junk := rfl
theorem cl_it {n : Nat} : LV.clean ns rs (.it n) = if ns.contains n then .it n else .junk := rfl
theorem cl_cl {f : FuncId} {c : List (Nat × Nat)} : LV.clean ns rs (.cl f c) = if c.all (fun x => ns.contains x.1) then .cl f c else .junk := rfl
theorem cl_ag {cs : List LV} : LV.clean ns rs (.ag cs) = .ag (cs.map (LV.clean1 ns rs)) := rfl
theorem cl1_undef : LV.clean1 ns rs .undef = .undef := rfl
theorem cl1_junk : LV.clean1 ns rs .junk = .junk := rfl
theorem cl1_pv {p : PV} : LV.clean1 ns rs (.pv p) = .pv p := rfl
theorem cl1_full {p : List PV} : LV.clean1 ns rs (.full p) = .full p := rfl
theorem cl1_sl {k : Nat} {p : List PV} : LV.clean1 ns rs (.sl k p) = if rs.contains k then .sl k p else .pv (.slc p) := rfl
theorem cl1_bp {n o : Nat} : LV.clean1 ns rs (.bp n o) = if ns.contains n then .bp n o else .junk := rfl
theorem cl1_arr {n o : Nat} : LV.clean1 ns rs (.arr n o) = if ns.contains n then .arr n o else .junk := rfl
theorem cl1_mr {n : Nat} : LV.clean1 ns rs (.mr n) = if ns.contains n then .mr n else .junk := rfl
theorem cl1_it {n : Nat} : LV.clean1 ns rs (.it n) = if ns.contains n then .it n else .junk := rfl
theorem cl1_cl {f : FuncId} {c : List (Nat × Nat)} : LV.clean1 ns rs (.cl f c) = if c.all (fun x => ns.contains x.1) then .cl f c else .junk := rfl
theorem clB_c {r : Option RowI} {cs : List LV} : BO.clean ns rs (.cells r cs) = .cells r (cs.map (LV.clean1 ns rs)) := rfl
theorem clB_m {ks vs : List PV} : BO.clean ns rs (.map ks vs) = .map ks vs := rfl
theorem clB_i {ks vs : List PV} {c : Option (PV × PV)} : BO.clean ns rs (.iter ks vs c) = .iter ks vs c := rfl
end
theorem alive_c {r : Option RowI} {cs : List LV} : BO.alive (.cells r cs) = some (.cells r cs) := rfl
theorem alive_m {ks vs : List PV} : BO.alive (.map ks vs) = some (.map ks vs) := rfl
theorem alive_i {ks vs : List PV} {c : Option (PV × PV)} : BO.alive (.iter ks vs c) = some (.iter ks vs c) := rfl
theorem alive_d : BO.alive .dead = none := rfl

def consO {α : Type} (k : Nat) (o : Option α) (r : List (Nat × α)) : List (Nat × α) := match o with
  | some v => (k, v) :: r
  | none => r
theorem pickK_nil {α : Type} {l : List (Nat × α)} : pickK [] l = [] := rfl
theorem pickK_cons {α : Type} {k : Nat} {ks : List Nat} {l : List (Nat × α)} : pickK (k :: ks) l = consO k (lk k l) (pickK ks l) := by
  simp only [pickK, consO]; split <;> simp_all
theorem consO_s {α : Type} {k : Nat} {v : α} {r : List (Nat × α)} : consO k (some v) r = (k, v) :: r := rfl
theorem consO_n {α : Type} {k : Nat} {r : List (Nat × α)} : consO k none r = r := rfl
def consA (k : Nat) (o : Option BO) (r : List Nat) : List Nat := match o with
  | some _ => k :: r
  | none => r
theorem consA_s {k : Nat} {o : BO} {r : List Nat} : consA k (some o) r = k :: r := rfl
theorem consA_n {k : Nat} {r : List Nat} : consA k none r = r := rfl
theorem aliveK_nil {l : List (Nat × BO)} : aliveK [] l = [] := rfl
theorem aliveK_cons {k : Nat} {ks : List Nat} {l : List (Nat × BO)} : aliveK (k :: ks) l = consA k ((lk k l).bind BO.alive) (aliveK ks l) := by
  simp only [aliveK, consA]; cases (lk k l).bind BO.alive <;> rfl
theorem pickF_nil {l : List (Nat × LV)} {ns rs : List Nat} : pickF [] l ns rs = [] := rfl
theorem pickF_cons {k : Nat} {ks : List Nat} {l : List (Nat × LV)} {ns rs : List Nat} : pickF (k :: ks) l ns rs = consO k ((lk k l).map (LV.clean ns rs)) (pickF ks l ns rs) := by
  simp only [pickF, consO]; cases lk k l <;> rfl
theorem pickG_nil {l : List (Nat × BO)} {ns rs : List Nat} : pickG [] l ns rs = [] := rfl
theorem pickG_cons {k : Nat} {ks : List Nat} {l : List (Nat × BO)} {ns rs : List Nat} : pickG (k :: ks) l ns rs = consO k ((lk k l).map (BO.clean ns rs)) (pickG ks l ns rs) := by
  simp only [pickG, consO]; cases lk k l <;> rfl
theorem lk_nil {α : Type} {k : Nat} : lk k ([] : List (Nat × α)) = none := rfl
theorem lk_cons {α : Type} {k j : Nat} {v : α} {r : List (Nat × α)} : lk k ((j, v) :: r) = if j = k then some v else lk k r := rfl

theorem f_ {fr : List (Nat × LV)} {bx : List (Nat × BO)} {hw : List (Nat × Nat × TypeId)} {s : Nat} : St.f ⟨fr, bx, hw⟩ s = (lk s fr).getD .junk := rfl
theorem b_ {fr : List (Nat × LV)} {bx : List (Nat × BO)} {hw : List (Nat × Nat × TypeId)} {s : Nat} : St.b ⟨fr, bx, hw⟩ s = (lk s bx).bind BO.alive := rfl
theorem h_ {fr : List (Nat × LV)} {bx : List (Nat × BO)} {hw : List (Nat × Nat × TypeId)} {s : Nat} : St.h ⟨fr, bx, hw⟩ s = lk s hw := rfl
theorem getD_some {v d : LV} : (some v).getD d = v := rfl

theorem evo_t {F : Nat → LV} {t : Nat} : evo F (.tmp t) = F t := rfl
theorem evo_c {F : Nat → LV} {v : Value} : evo F (.const v) = ofC v := rfl
theorem evo_f {F : Nat → LV} {f : FuncId} : evo F (.func f) = .pv (.clo f []) := rfl

/-- A test. -/
def aCond (P : Program) (kp : Keep) (x y : Code) (σ : St) (Q : AEx → St → Prop) : LV → Prop
  | .pv (.bool t) => (t = true → acode P kp x σ Q) ∧ (t = false → acode P kp y σ Q)
  | _ => False

theorem acode_cond {c : Operand} {x y : Code} : acode P kp (.cond c x y) σ Q = aCond P kp x y σ Q (evo σ.f c) := by
  simp only [acode]
  generalize evo σ.f c = v
  cases v <;> try rfl

theorem cond_t {x y : Code} : aCond P kp x y σ Q (.pv (.bool true)) = acode P kp x σ Q := by simp [aCond]
theorem cond_f {x y : Code} : aCond P kp x y σ Q (.pv (.bool false)) = acode P kp y σ Q := by simp [aCond]
theorem cond_split {x y : Code} {t : Bool} (h1 : t = true → acode P kp x σ Q) (h2 : t = false → acode P kp y σ Q) : aCond P kp x y σ Q (.pv (.bool t)) := ⟨h1, h2⟩

theorem opG_t {ops : Array Oper} {dst : Option Tmp} {op : Op} {ty : TypeId} {os : List Oper} {K : St → Prop} : opG P ops dst op ty os σ K true (.pv (.bool true)) = aopN P σ.f σ.b σ.h { dst := dst, op := op, type := ty, pos := "", after := #[], guard := none } (opK P ops os dst σ K) := by simp [opG]
theorem opG_ff {ops : Array Oper} {dst : Option Tmp} {op : Op} {ty : TypeId} {os : List Oper} {K : St → Prop} : opG P ops dst op ty os σ K false (.pv (.bool false)) = aopN P σ.f σ.b σ.h { dst := dst, op := op, type := ty, pos := "", after := #[], guard := none } (opK P ops os dst σ K) := by simp [opG]
theorem opG_tf {ops : Array Oper} {dst : Option Tmp} {op : Op} {ty : TypeId} {os : List Oper} {K : St → Prop} : opG P ops dst op ty os σ K true (.pv (.bool false)) = aops P ops os (σ.app dst ⟨.undef, [], [], [], none, []⟩) K := by simp [opG]
theorem opG_ft {ops : Array Oper} {dst : Option Tmp} {op : Op} {ty : TypeId} {os : List Oper} {K : St → Prop} : opG P ops dst op ty os σ K false (.pv (.bool true)) = aops P ops os (σ.app dst ⟨.undef, [], [], [], none, []⟩) K := by simp [opG]
theorem opG_u {ops : Array Oper} {dst : Option Tmp} {op : Op} {ty : TypeId} {os : List Oper} {K : St → Prop} {b : Bool} : opG P ops dst op ty os σ K b .undef = aops P ops os (σ.app dst ⟨.undef, [], [], [], none, []⟩) K := rfl
theorem opGD_t {ops : Array Oper} {dst : Option Tmp} {op : Op} {ty : TypeId} {os : List Oper} {tr : List TE} {K : St → List TE → Prop} : opGD P ops dst op ty os σ tr K true (.pv (.bool true)) = aop P σ.f σ.b σ.h { dst := dst, op := op, type := ty, pos := "", after := #[], guard := none } (opKD P ops os dst σ tr K) := by simp [opGD]
theorem opGD_ff {ops : Array Oper} {dst : Option Tmp} {op : Op} {ty : TypeId} {os : List Oper} {tr : List TE} {K : St → List TE → Prop} : opGD P ops dst op ty os σ tr K false (.pv (.bool false)) = aop P σ.f σ.b σ.h { dst := dst, op := op, type := ty, pos := "", after := #[], guard := none } (opKD P ops os dst σ tr K) := by simp [opGD]
theorem opGD_tf {ops : Array Oper} {dst : Option Tmp} {op : Op} {ty : TypeId} {os : List Oper} {tr : List TE} {K : St → List TE → Prop} : opGD P ops dst op ty os σ tr K true (.pv (.bool false)) = aopsD P ops os (σ.app dst ⟨.undef, [], [], [], none, []⟩) (⟨[], [], [], none, [], []⟩ :: tr) K := by simp [opGD]; rfl
theorem opGD_ft {ops : Array Oper} {dst : Option Tmp} {op : Op} {ty : TypeId} {os : List Oper} {tr : List TE} {K : St → List TE → Prop} : opGD P ops dst op ty os σ tr K false (.pv (.bool true)) = aopsD P ops os (σ.app dst ⟨.undef, [], [], [], none, []⟩) (⟨[], [], [], none, [], []⟩ :: tr) K := by simp [opGD]; rfl
theorem opGD_u {ops : Array Oper} {dst : Option Tmp} {op : Op} {ty : TypeId} {os : List Oper} {tr : List TE} {K : St → List TE → Prop} {b : Bool} : opGD P ops dst op ty os σ tr K b .undef = aopsD P ops os (σ.app dst ⟨.undef, [], [], [], none, []⟩) (⟨[], [], [], none, [], []⟩ :: tr) K := rfl

theorem opG_split {ops : Array Oper} {dst : Option Tmp} {op : Op} {ty : TypeId} {os : List Oper} {K : St → Prop} {b t : Bool} (h1 : t = true → opG P ops dst op ty os σ K b (.pv (.bool true))) (h2 : t = false → opG P ops dst op ty os σ K b (.pv (.bool false))) :
    opG P ops dst op ty os σ K b (.pv (.bool t)) := by
  cases t
  · exact h2 rfl
  · exact h1 rfl
theorem opGD_split {ops : Array Oper} {dst : Option Tmp} {op : Op} {ty : TypeId} {os : List Oper} {tr : List TE} {K : St → List TE → Prop} {b t : Bool} (h1 : t = true → opGD P ops dst op ty os σ tr K b (.pv (.bool true))) (h2 : t = false → opGD P ops dst op ty os σ tr K b (.pv (.bool false))) :
    opGD P ops dst op ty os σ tr K b (.pv (.bool t)) := by
  cases t
  · exact h2 rfl
  · exact h1 rfl

def loopK {α : Type} (ks : Keep) (I : α → St → Prop) (μ : α → Nat) (a : α) (Q : AEx → St → Prop) : AEx → St → Prop
  | .normal, σ' => ∃ a', I a' (σ'.gc ks) ∧ μ a' < μ a
  | .exit i, σ' => Q (.exit i) σ'
  | .ret, σ' => Q .ret σ'

/-- A loop: what holds at its head, of a parameter, and a measure of that. -/
theorem loop_rule {body : Code} {α : Type} (ks : Keep) (I : α → St → Prop) (μ : α → Nat) (a0 : α) (h0 : I a0 (σ.gc ks)) (hr : ∀ a σ, I a σ → acode P kp body σ (loopK ks I μ a Q)) : acode P kp (.loop body) σ Q := by
  refine ⟨ks, α, I, μ, ⟨a0, h0⟩, fun a σ hI => ?_⟩
  have := hr a σ hI
  have e : loopK ks I μ a Q = _ := Ex_ext (Q' := fun e σ' => match e with
    | .normal => ∃ a', I a' (σ'.gc ks) ∧ μ a' < μ a
    | .exit i => Q (.exit i) σ'
    | .ret => Q .ret σ') (fun _ => rfl) (fun _ _ => rfl) fun _ => rfl
  rw [e] at this
  exact this

theorem loopK_n {α : Type} {ks : Keep} {I : α → St → Prop} {μ : α → Nat} {a : α} : loopK ks I μ a Q .normal σ = ∃ a', I a' (σ.gc ks) ∧ μ a' < μ a := rfl
theorem loopK_e {α : Type} {ks : Keep} {I : α → St → Prop} {μ : α → Nat} {a : α} {i : Nat} : loopK ks I μ a Q (.exit i) σ = Q (.exit i) σ := rfl
theorem loopK_r {α : Type} {ks : Keep} {I : α → St → Prop} {μ : α → Nat} {a : α} : loopK ks I μ a Q .ret σ = Q .ret σ := rfl

theorem endQ_n {rv : List ResultVar} {rs : List PV} : endQ P rv rs .normal σ = (resVals P σ rv = some rs) := rfl
theorem endQ_r {rv : List ResultVar} {rs : List PV} : endQ P rv rs .ret σ = (resVals P σ rv = some rs) := rfl

theorem endX_n {rv : List ResultVar} {rs : LV} {post : List (Nat × BO)} : endX P rv rs post .normal σ = (resX P σ rv rs ∧ postX σ post) := rfl
theorem endX_r {rv : List ResultVar} {rs : LV} {post : List (Nat × BO)} : endX P rv rs post .ret σ = (resX P σ rv rs ∧ postX σ post) := rfl
theorem argFrX_nil {n : Nat} : argFrX n [] = [] := rfl
theorem argFrX_cons {n : Nat} {p : LV} {ps : List LV} : argFrX n (p :: ps) = (n, p) :: argFrX (n + 1) ps := rfl

theorem argFr_nil {n : Nat} : argFr n [] = [] := rfl
theorem argFr_cons {n : Nat} {p : PV} {ps : List PV} : argFr n (p :: ps) = (n, .pv p) :: argFr (n + 1) ps := rfl

/-! ### The operations, by kind -/
section
variable {F : Nat → LV} {B : Nat → Option BO} {H : HT} {K : Upd → Prop} {dst : Option Tmp} {ty : TypeId} {pos : String} {aft : Array Edge} {gd : Option (Nat × Bool)}

theorem op_move {x : Operand} : aop P F B H ⟨dst, .move x, ty, pos, aft, gd⟩ K = K ⟨evo F x, [], [], [], none, []⟩ := rfl
theorem op_assign {x : Operand} : aop P F B H ⟨dst, .assign x, ty, pos, aft, gd⟩ K = K ⟨evo F x, [], [], [], none, []⟩ := rfl
theorem op_pick {c x y : Operand} : aop P F B H ⟨dst, .pick c x y, ty, pos, aft, gd⟩ K = aPick K (evo F c) (evo F x) (evo F y) := rfl
theorem op_box {t : TypeId} {x : Operand} : aop P F B H ⟨dst, .box t x, ty, pos, aft, gd⟩ K = aBox dst K (evo F x) := rfl
theorem op_alloc {t : TypeId} : aop P F B H ⟨dst, .alloc t, ty, pos, aft, gd⟩ K = aAlloc P dst K t := rfl
theorem op_load {t : TypeId} {x : Operand} : aop P F B H ⟨dst, .load t x, ty, pos, aft, gd⟩ K = aLoad P B K t (evo F x) := rfl
theorem op_store {t : TypeId} {x y : Operand} : aop P F B H ⟨dst, .store t x y, ty, pos, aft, gd⟩ K = aStore P B K t (evo F x) (evo F y) := rfl
theorem op_fieldAddr {t : TypeId} {x : Operand} {f : Nat} : aop P F B H ⟨dst, .fieldAddr t x f, ty, pos, aft, gd⟩ K = aFieldAddr P K t (evo F x) f := rfl
theorem op_field {t : TypeId} {x : Operand} {f : Nat} : aop P F B H ⟨dst, .field t x f, ty, pos, aft, gd⟩ K = aField P K t (evo F x) f := rfl
theorem op_indexAddr {t : TypeId} {x i : Operand} : aop P F B H ⟨dst, .indexAddr t x i, ty, pos, aft, gd⟩ K = aIndexAddr P K t (evo F x) (evo F i) := rfl
theorem op_index {t : TypeId} {x i : Operand} : aop P F B H ⟨dst, .index t x i, ty, pos, aft, gd⟩ K = aIndex P K t (evo F x) (evo F i) := rfl
theorem op_slice {t : TypeId} {x : Operand} {lo hi : Option Operand} : aop P F B H ⟨dst, .slice t x lo hi none, ty, pos, aft, gd⟩ K = aSlice P K t (evo F x) (lo.map (evo F)) (hi.map (evo F)) := rfl
theorem op_build {t : TypeId} {ps : Array (Nat × Operand)} : aop P F B H ⟨dst, .build t ps, ty, pos, aft, gd⟩ K = aBuild P K t (ps.toList.map fun x => (x.1, evo F x.2)) := rfl
theorem op_buildSlice {t : TypeId} {n : Nat} {ps : Array (Nat × Operand)} : aop P F B H ⟨dst, .buildSlice t n ps, ty, pos, aft, gd⟩ K = aBuildSlice P K t n (ps.toList.map fun x => (x.1, evo F x.2)) := rfl
theorem op_binOp {op : BinOp} {t t' : TypeId} {x y : Operand} : aop P F B H ⟨dst, .binOp op t x y t', ty, pos, aft, gd⟩ K = aBin P K op t (evo F x) (evo F y) := rfl
theorem op_unOp {op : UnOp} {t : TypeId} {x : Operand} : aop P F B H ⟨dst, .unOp op t x, ty, pos, aft, gd⟩ K = aUn K op (evo F x) := rfl
theorem op_convert {s d : TypeId} {x : Operand} : aop P F B H ⟨dst, .convert s d x, ty, pos, aft, gd⟩ K = aConv P K s d (evo F x) := rfl
theorem op_extract {i : Nat} {x : Operand} : aop P F B H ⟨dst, .extract x i, ty, pos, aft, gd⟩ K = aExtract K (evo F x) i := rfl
theorem op_makeFunc {fn : Fn} {a b : Array Operand} : aop P F B H ⟨dst, .makeFunc fn a b, ty, pos, aft, gd⟩ K = aMakeFunc K fn (a.toList.map (evo F)) (b.toList.map (evo F)) := rfl
theorem op_len {x : Operand} {t : TypeId} : aop P F B H ⟨dst, .call ⟨.builtin .len, #[x], #[t]⟩, ty, pos, aft, gd⟩ K = aLen P B K t (evo F x) := rfl
theorem op_append {s x : Operand} {t : TypeId} : aop P F B H ⟨dst, .call ⟨.builtin .append, #[s, x], #[t, t]⟩, ty, pos, aft, gd⟩ K = aAppend P B H dst K t (evo F s) (evo F x) := by
  show (t = t ∧ _) = _
  simp
theorem op_min {as : Array Operand} {ts : Array TypeId} : aop P F B H ⟨dst, .call ⟨.builtin .min, as, ts⟩, ty, pos, aft, gd⟩ K = aMin K (as.toList.map (evo F)) := rfl
theorem op_max {as : Array Operand} {ts : Array TypeId} : aop P F B H ⟨dst, .call ⟨.builtin .max, as, ts⟩, ty, pos, aft, gd⟩ K = aMax K (as.toList.map (evo F)) := rfl
theorem op_makeMap {t : TypeId} {r : Option Operand} : aop P F B H ⟨dst, .makeMap t r, ty, pos, aft, gd⟩ K = aMakeMap dst K (r.map (evo F)) := rfl
theorem op_mapUpdate {t : TypeId} {m k v : Operand} : aop P F B H ⟨dst, .mapUpdate t m k v, ty, pos, aft, gd⟩ K = aMapUpdate P B K t (evo F m) (evo F k) (evo F v) := rfl
theorem op_lookup {t : TypeId} {m k : Operand} {ok : Bool} : aop P F B H ⟨dst, .lookup t m k ok, ty, pos, aft, gd⟩ K = aLookup P B K t (evo F m) (evo F k) ok := rfl
theorem op_delete {m k : Operand} {t t' : TypeId} : aop P F B H ⟨dst, .call ⟨.builtin .delete, #[m, k], #[t, t']⟩, ty, pos, aft, gd⟩ K = aDelete P B K t (evo F m) (evo F k) := rfl
theorem op_clear {m : Operand} {t : TypeId} : aop P F B H ⟨dst, .call ⟨.builtin .clear, #[m], #[t]⟩, ty, pos, aft, gd⟩ K = aClear P B K t (evo F m) := rfl
theorem op_call {f : Operand} {as : Array Operand} {ts : Array TypeId} : aop P F B H ⟨dst, .call ⟨.value f, as, ts⟩, ty, pos, aft, gd⟩ K = aCall P B K (evo F f) (as.toList.map (evo F)) := rfl

theorem op_makeSlice {t : TypeId} {l c : Operand} : aop P F B H ⟨dst, .makeSlice t l c, ty, pos, aft, gd⟩ K = aMakeSlice P dst K t (evo F l) (evo F c) := rfl
theorem op_range {t : TypeId} {x : Operand} : aop P F B H ⟨dst, .range t x, ty, pos, aft, gd⟩ K = aRange P dst K t (evo F x) := rfl
theorem op_entry {x : Operand} : aop P F B H ⟨dst, .entry x, ty, pos, aft, gd⟩ K = aEntry B K (evo F x) := rfl
theorem opN_move {x : Operand} : aopN P F B H ⟨dst, .move x, ty, pos, aft, gd⟩ K = K ⟨evo F x, [], [], [], none, []⟩ := rfl
theorem opN_assign {x : Operand} : aopN P F B H ⟨dst, .assign x, ty, pos, aft, gd⟩ K = K ⟨evo F x, [], [], [], none, []⟩ := rfl
theorem opN_pick {c x y : Operand} : aopN P F B H ⟨dst, .pick c x y, ty, pos, aft, gd⟩ K = aPick K (evo F c) (evo F x) (evo F y) := rfl
theorem opN_box {t : TypeId} {x : Operand} : aopN P F B H ⟨dst, .box t x, ty, pos, aft, gd⟩ K = aBox dst K (evo F x) := rfl
theorem opN_alloc {t : TypeId} : aopN P F B H ⟨dst, .alloc t, ty, pos, aft, gd⟩ K = aAlloc P dst K t := rfl
theorem opN_load {t : TypeId} {x : Operand} : aopN P F B H ⟨dst, .load t x, ty, pos, aft, gd⟩ K = aLoad P B K t (evo F x) := rfl
theorem opN_store {t : TypeId} {x y : Operand} : aopN P F B H ⟨dst, .store t x y, ty, pos, aft, gd⟩ K = aStore P B K t (evo F x) (evo F y) := rfl
theorem opN_fieldAddr {t : TypeId} {x : Operand} {f : Nat} : aopN P F B H ⟨dst, .fieldAddr t x f, ty, pos, aft, gd⟩ K = aFieldAddr P K t (evo F x) f := rfl
theorem opN_field {t : TypeId} {x : Operand} {f : Nat} : aopN P F B H ⟨dst, .field t x f, ty, pos, aft, gd⟩ K = aField P K t (evo F x) f := rfl
theorem opN_indexAddr {t : TypeId} {x i : Operand} : aopN P F B H ⟨dst, .indexAddr t x i, ty, pos, aft, gd⟩ K = aIndexAddr P K t (evo F x) (evo F i) := rfl
theorem opN_index {t : TypeId} {x i : Operand} : aopN P F B H ⟨dst, .index t x i, ty, pos, aft, gd⟩ K = aIndex P K t (evo F x) (evo F i) := rfl
theorem opN_slice {t : TypeId} {x : Operand} {lo hi : Option Operand} : aopN P F B H ⟨dst, .slice t x lo hi none, ty, pos, aft, gd⟩ K = aSlice P K t (evo F x) (lo.map (evo F)) (hi.map (evo F)) := rfl
theorem opN_build {t : TypeId} {ps : Array (Nat × Operand)} : aopN P F B H ⟨dst, .build t ps, ty, pos, aft, gd⟩ K = aBuild P K t (ps.toList.map fun x => (x.1, evo F x.2)) := rfl
theorem opN_buildSlice {t : TypeId} {n : Nat} {ps : Array (Nat × Operand)} : aopN P F B H ⟨dst, .buildSlice t n ps, ty, pos, aft, gd⟩ K = aBuildSlice P K t n (ps.toList.map fun x => (x.1, evo F x.2)) := rfl
theorem opN_binOp {op : BinOp} {t t' : TypeId} {x y : Operand} : aopN P F B H ⟨dst, .binOp op t x y t', ty, pos, aft, gd⟩ K = aBin P K op t (evo F x) (evo F y) := rfl
theorem opN_unOp {op : UnOp} {t : TypeId} {x : Operand} : aopN P F B H ⟨dst, .unOp op t x, ty, pos, aft, gd⟩ K = aUn K op (evo F x) := rfl
theorem opN_convert {s d : TypeId} {x : Operand} : aopN P F B H ⟨dst, .convert s d x, ty, pos, aft, gd⟩ K = aConv P K s d (evo F x) := rfl
theorem opN_extract {i : Nat} {x : Operand} : aopN P F B H ⟨dst, .extract x i, ty, pos, aft, gd⟩ K = aExtract K (evo F x) i := rfl
theorem opN_makeFunc {fn : Fn} {a b : Array Operand} : aopN P F B H ⟨dst, .makeFunc fn a b, ty, pos, aft, gd⟩ K = aMakeFunc K fn (a.toList.map (evo F)) (b.toList.map (evo F)) := rfl
theorem opN_len {x : Operand} {t : TypeId} : aopN P F B H ⟨dst, .call ⟨.builtin .len, #[x], #[t]⟩, ty, pos, aft, gd⟩ K = aLen P B K t (evo F x) := rfl
theorem opN_append {s x : Operand} {t : TypeId} : aopN P F B H ⟨dst, .call ⟨.builtin .append, #[s, x], #[t, t]⟩, ty, pos, aft, gd⟩ K = aAppend P B H dst K t (evo F s) (evo F x) := by
  show (t = t ∧ _) = _
  simp
theorem opN_min {as : Array Operand} {ts : Array TypeId} : aopN P F B H ⟨dst, .call ⟨.builtin .min, as, ts⟩, ty, pos, aft, gd⟩ K = aMin K (as.toList.map (evo F)) := rfl
theorem opN_max {as : Array Operand} {ts : Array TypeId} : aopN P F B H ⟨dst, .call ⟨.builtin .max, as, ts⟩, ty, pos, aft, gd⟩ K = aMax K (as.toList.map (evo F)) := rfl
theorem opN_makeMap {t : TypeId} {r : Option Operand} : aopN P F B H ⟨dst, .makeMap t r, ty, pos, aft, gd⟩ K = aMakeMap dst K (r.map (evo F)) := rfl
theorem opN_mapUpdate {t : TypeId} {m k v : Operand} : aopN P F B H ⟨dst, .mapUpdate t m k v, ty, pos, aft, gd⟩ K = aMapUpdate P B K t (evo F m) (evo F k) (evo F v) := rfl
theorem opN_lookup {t : TypeId} {m k : Operand} {ok : Bool} : aopN P F B H ⟨dst, .lookup t m k ok, ty, pos, aft, gd⟩ K = aLookup P B K t (evo F m) (evo F k) ok := rfl
theorem opN_delete {m k : Operand} {t t' : TypeId} : aopN P F B H ⟨dst, .call ⟨.builtin .delete, #[m, k], #[t, t']⟩, ty, pos, aft, gd⟩ K = aDelete P B K t (evo F m) (evo F k) := rfl
theorem opN_clear {m : Operand} {t : TypeId} : aopN P F B H ⟨dst, .call ⟨.builtin .clear, #[m], #[t]⟩, ty, pos, aft, gd⟩ K = aClear P B K t (evo F m) := rfl
theorem opN_call {f : Operand} {as : Array Operand} {ts : Array TypeId} : aopN P F B H ⟨dst, .call ⟨.value f, as, ts⟩, ty, pos, aft, gd⟩ K = aCall P B K (evo F f) (as.toList.map (evo F)) := rfl

theorem opN_next {x : Operand} : aopN P F B H ⟨dst, .next x false, ty, pos, aft, gd⟩ K = aNext B K (evo F x) := rfl
theorem opN_makeSlice {t : TypeId} {l c : Operand} : aopN P F B H ⟨dst, .makeSlice t l c, ty, pos, aft, gd⟩ K = aMakeSlice P dst K t (evo F l) (evo F c) := rfl
theorem opN_range {t : TypeId} {x : Operand} : aopN P F B H ⟨dst, .range t x, ty, pos, aft, gd⟩ K = aRange P dst K t (evo F x) := rfl
theorem opN_entry {x : Operand} : aopN P F B H ⟨dst, .entry x, ty, pos, aft, gd⟩ K = aEntry B K (evo F x) := rfl
theorem aPick_t {a b : LV} : aPick K (.pv (.bool true)) a b = K ⟨a, [], [], [], none, []⟩ := by simp [aPick]
theorem aPick_f {a b : LV} : aPick K (.pv (.bool false)) a b = K ⟨b, [], [], [], none, []⟩ := by simp [aPick]
theorem pick_split {t : Bool} {a b : LV} (h1 : t = true → K ⟨a, [], [], [], none, []⟩) (h2 : t = false → K ⟨b, [], [], [], none, []⟩) : aPick K (.pv (.bool t)) a b := ⟨h1, h2⟩

/-- A call. -/
theorem call_rule {f : FuncId} {cap ps rs : List PV} {args : List LV} {ns : List Nat} {na : Bool} (ha : argsL B args = some (ps, ns)) (hg : Good P na f (ps ++ cap) rs) (hn : ns = [] ∨ na = true) (h : K ⟨resL rs, ns, [], [], none, []⟩) :
    aCall P B K (.pv (.clo f cap)) args := by
  refine .inl ?_
  simp only [aCallP, ha]
  exact ⟨na, rs, hg, hn, h⟩

theorem call_cl {f : FuncId} {caps : List (Nat × Nat)} {ps rs : List PV} {args : List LV} {ns : List Nat} {na : Bool} (ha : argsL B (args ++ caps.map fun c => LV.bp c.1 c.2) = some (ps, ns)) (hg : Good P na f ps rs) (hn : ns = [] ∨ na = true) (h : K ⟨resL rs, ns, [], [], none, []⟩) :
    aCall P B K (.cl f caps) args := by
  refine .inl ?_
  simp only [aCallP, ha]
  exact ⟨na, rs, hg, hn, h⟩

/-- A call that turns what it is lent. -/
theorem call_x {f : FuncId} {args : List LV} (c : CX) (ρ : Nat → Nat) (hg : GoodX P f c) (hok : c.ok = true) (ha : wkL args (c.args.map (LV.ren ρ))) (hpre : ∀ n o, lk n c.pre = some o → ∃ o', B (ρ n) = some o' ∧ o'.wk (o.ren ρ))
    (hinj : ∀ n m, n ∈ keys c.pre ++ keys c.post → m ∈ keys c.pre ++ keys c.post → ρ n = ρ m → n = m)
    (h : K ⟨c.rs.ren ρ, (keys c.pre).map ρ, (deadOf (keys c.pre) (keys c.post) ++ c.post).map fun x => (ρ x.1, x.2.ren ρ), [], none, ((keys c.post).filter fun n => !(keys c.pre).contains n).map ρ⟩) :
    aCall P B K (.pv (.clo f [])) args := .inr ⟨f, args, c, ρ, .inl ⟨[], rfl, by simp⟩, hg, hok, ha, hpre, hinj, h⟩

/-- An element of a slice. -/
theorem idx_rule {t e : TypeId} {k : IntKind} {n : Int} {x : LV} {l : List PV} {el : PV} (ht : P.underlying t = some (.slice e)) (hx : x.list? = some l) (h0 : 0 ≤ n) (he : l[n.toNat]? = some el) (hc : el.cells.length = P.cellsOf e) (hz : P.cellsOf e ≠ 0)
    (h : K ⟨.pv (.ptr el.cells), [], [], [], none, []⟩) : aIndexAddr P K t x (.pv (.int k n)) := by
  simp only [aIndexAddr, ht]
  cases x with
  | arr b l => simp [LV.list?] at hx
  | _ => simp only [hx]; exact ⟨h0, el, he, hc, hz, h⟩

theorem idx_map {t e : TypeId} {k : IntKind} {x : LV} {α : Type} {f : α → PV} {l : List α} {i : Nat} (ht : P.underlying t = some (.slice e)) (hx : x.list? = some (l.map f)) (hi : i < l.length) (hc : (f l[i]).cells.length = P.cellsOf e) (hz : P.cellsOf e ≠ 0)
    (h : K ⟨.pv (.ptr (f l[i]).cells), [], [], [], none, []⟩) : aIndexAddr P K t x (.pv (.int k (i : Int))) :=
  idx_rule ht hx (by omega) (by simp [hi]) hc hz h

end

end
end Go.Am
