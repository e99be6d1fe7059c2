/- The abstract machine, part 10: numbers, strings, tuples, lengths, appends and calls; nothing is assumed of any program. -/
import Derived.Test.YtjbgfihkdeeonaaAmNine
set_option linter.unusedSimpArgs false
set_option linter.unusedVariables false
namespace Go.Am
open Go.RowKit

section
variable {P : Program} {E : Env} {g : Gh} {a : Act} {w : World} {F : Nat → LV} {B : Nat → Option BO} {H : HT}

/-- A step that computes one value from its operands' values alone. -/
theorem step_pure {o : Oper} {u : Upd} (hwb : u.wb = []) (hwh : u.wh = none) (hrun : ∀ (g : Gh) (a : Act) (w : World), (∀ x, RepV g H w (a.eval x) (evo F x)) → ∃ v, (execOp a.eval o).run P w = .ok (.value v) w ∧ RepV g H w v u.val) : StepOk P o F B H u :=
  step_val hwb hwh fun E g a w hs => hrun g a w hs.ev

theorem beq_dec (p q : List UInt8) : (p == q) = decide (p = q) := by rw [Bool.eq_iff_iff]; simp

theorem ok_bin {op : BinOp} {xt yt : TypeId} {x y : Operand} {o : Oper} {u : Upd} (ho : o.op = .binOp op xt x y yt) (h : aBin P (· = u) op xt (evo F x) (evo F y)) : StepOk P o F B H u := by
  unfold aBin at h
  split at h
  · rename_i k p k' q hx hy
    split at h
    · obtain ⟨h1, rfl⟩ := h
      refine step_pure rfl rfl fun g a w hev => ?_
      have e1 := int_inv (hx ▸ hev x)
      have e2 := int_inv (hy ▸ hev y)
      refine ⟨_, ?_, Rep.int _ _⟩
      have : ¬ q < 0 := by omega
      simp [execOp, ho, e1, e2, eqGuard, binOp, Op.shift, this]
    · obtain ⟨h1, rfl⟩ := h
      refine step_pure rfl rfl fun g a w hev => ?_
      have e1 := int_inv (hx ▸ hev x)
      have e2 := int_inv (hy ▸ hev y)
      refine ⟨_, ?_, Rep.int _ _⟩
      have : ¬ q < 0 := by omega
      simp [execOp, ho, e1, e2, eqGuard, binOp, Op.shift, this]
    · obtain ⟨h1, h2⟩ := h
      subst h1
      unfold aInt at h2
      split at h2
      case h_4 | h_5 =>
        obtain ⟨h0, rfl⟩ := h2
        refine step_pure rfl rfl fun g a w hev => ?_
        have e1 := int_inv (hx ▸ hev x)
        have e2 := int_inv (hy ▸ hev y)
        refine ⟨_, ?_, Rep.int _ _⟩
        simp [execOp, ho, e1, e2, eqGuard, binOp, Op.intDiv, h0]
      all_goals first
        | exact h2.elim
        | (subst h2
           refine step_pure rfl rfl fun g a w hev => ?_
           have e1 := int_inv (hx ▸ hev x)
           have e2 := int_inv (hy ▸ hev y)
           first
             | (refine ⟨_, ?_, Rep.int _ _⟩; simp [execOp, ho, e1, e2, eqGuard, binOp, Op.intArith]; done)
             | (refine ⟨_, ?_, Rep.int _ _⟩; simp [execOp, ho, e1, e2, eqGuard, binOp, Op.intBits, bits]; done)
             | (refine ⟨_, ?_, Rep.bool _⟩; simp [execOp, ho, e1, e2, eqGuard, binOp, Op.intCmp]; done)
             | (refine ⟨_, ?_, Rep.bool _⟩; simp [execOp, ho, e1, e2, eqGuard, binOp, Op.intCmp, bne]; rfl))
  · rename_i p q hx hy
    have fin : ∀ (b : Bool), u = { val := .pv (.bool b) } → (∀ w, (Op.stringOp op p q).run P w = .ok (.bool b) w) → StepOk P o F B H u := by
      rintro b rfl hb
      refine step_pure rfl rfl fun g a w hev => ⟨.bool b, ?_, Rep.bool _⟩
      have e1 := str_inv (hx ▸ hev x)
      have e2 := str_inv (hy ▸ hev y)
      have e3 : binOp op xt (.string p) (.string q) = Op.stringOp op p q := by cases op <;> rfl
      have e4 : eqGuard op xt x y (.string p) (.string q) = pure () := by cases op <;> rfl
      simp only [execOp, ho, e1, e2, e3, e4, Sem.run_bind, Sem.run_pure, Result.andThen_ok, hb]
    unfold aStr at h
    split at h
    all_goals first
      | exact h.elim
      | (refine fin _ h.symm fun w => ?_; simp [Op.stringOp, beq_dec]; done)
  · rename_i p q hx hy
    obtain ⟨ht, h⟩ := h
    have key : ∀ (a : Act) (w : World), a.eval x = .bool p → a.eval y = .bool q → (Op.equal xt (.bool p) (.bool q)).run P w = .ok (p == q) w := by
      intro a w _ _
      have h : ∀ d : Nat, (Op.equalIn (d + 1) xt (.bool p) (.bool q)).run P w = .ok (p == q) w := fun d => by simp [Op.equalIn, run_underlying ht]
      exact h 9999
    split at h
    · subst h
      refine step_pure rfl rfl fun g a w hev => ⟨.bool _, ?_, Rep.bool _⟩
      have e1 := bool_inv (hx ▸ hev x)
      have e2 := bool_inv (hy ▸ hev y)
      simp [execOp, ho, e1, e2, eqGuard, binOp, key a w e1 e2]
    · subst h
      refine step_pure rfl rfl fun g a w hev => ⟨.bool _, ?_, Rep.bool _⟩
      have e1 := bool_inv (hx ▸ hev x)
      have e2 := bool_inv (hy ▸ hev y)
      simp [execOp, ho, e1, e2, eqGuard, binOp, key a w e1 e2]
    · exact h.elim
  · rename_i f cs hx hy
    obtain ⟨⟨p, q, r, ht⟩, h⟩ := h
    have key : ∀ (f : Fn) (b c : Array Value) (w : World), (Op.equal xt (.func f b c) .nilFunc).run P w = .ok false w := by
      intro f b c w
      have h : ∀ d : Nat, (Op.equalIn (d + 1) xt (.func f b c) .nilFunc).run P w = .ok false w := fun d => by simp [Op.equalIn, run_underlying ht]
      exact h 9999
    have inv : ∀ (g : Gh) (a : Act) (w : World), (∀ x, RepV g H w (a.eval x) (evo F x)) → (∃ f b c, a.eval x = .func f b c) ∧ a.eval y = .nilFunc := by
      intro g a w hev
      have h1 : Rep g.S w (a.eval x) (.clo f cs) := by have := hev x; rw [hx] at this; exact this
      have h2 : Rep g.S w (a.eval y) .nilf := by have := hev y; rw [hy] at this; exact this
      refine ⟨?_, ?_⟩
      · cases hxe : a.eval x <;> rw [hxe] at h1 <;> try cases h1
        exact ⟨_, _, _, rfl⟩
      · cases hye : a.eval y <;> rw [hye] at h2 <;> try cases h2
    split at h
    · subst h
      refine step_pure rfl rfl fun g a w hev => ⟨.bool false, ?_, Rep.bool _⟩
      obtain ⟨⟨f, b, c, e1⟩, e2⟩ := inv g a w hev
      simp [execOp, ho, e1, e2, eqGuard, binOp, key]
    · subst h
      refine step_pure rfl rfl fun g a w hev => ⟨.bool true, ?_, Rep.bool _⟩
      obtain ⟨⟨f, b, c, e1⟩, e2⟩ := inv g a w hev
      simp [execOp, ho, e1, e2, eqGuard, binOp, key]
    · exact h.elim
  · rename_i f cs hx hy
    obtain ⟨⟨p, q, r, ht⟩, h⟩ := h
    have key : ∀ (f : Fn) (b c : Array Value) (w : World), (Op.equal xt (.func f b c) .nilFunc).run P w = .ok false w := by
      intro f b c w
      have h : ∀ d : Nat, (Op.equalIn (d + 1) xt (.func f b c) .nilFunc).run P w = .ok false w := fun d => by simp [Op.equalIn, run_underlying ht]
      exact h 9999
    have inv : ∀ (g : Gh) (a : Act) (w : World), (∀ x, RepV g H w (a.eval x) (evo F x)) → (∃ f b c, a.eval x = .func f b c) ∧ a.eval y = .nilFunc := by
      intro g a w hev
      have h1 := hev x
      rw [hx] at h1
      have h1' : a.eval x = _ := h1
      have h2 : Rep g.S w (a.eval y) .nilf := by have := hev y; rw [hy] at this; exact this
      refine ⟨⟨_, _, _, h1'⟩, ?_⟩
      cases hye : a.eval y <;> rw [hye] at h2 <;> try cases h2
    split at h
    · subst h
      refine step_pure rfl rfl fun g a w hev => ⟨.bool false, ?_, Rep.bool _⟩
      obtain ⟨⟨f, b, c, e1⟩, e2⟩ := inv g a w hev
      simp [execOp, ho, e1, e2, eqGuard, binOp, key]
    · subst h
      refine step_pure rfl rfl fun g a w hev => ⟨.bool true, ?_, Rep.bool _⟩
      obtain ⟨⟨f, b, c, e1⟩, e2⟩ := inv g a w hev
      simp [execOp, ho, e1, e2, eqGuard, binOp, key]
    · exact h.elim
  · rename_i hx hy
    obtain ⟨⟨p, q, r, ht⟩, h⟩ := h
    have key : ∀ (w : World), (Op.equal xt .nilFunc .nilFunc).run P w = .ok true w := by
      intro w
      have h : ∀ d : Nat, (Op.equalIn (d + 1) xt .nilFunc .nilFunc).run P w = .ok true w := fun d => by simp [Op.equalIn, run_underlying ht]
      exact h 9999
    have inv : ∀ (g : Gh) (a : Act) (w : World), (∀ x, RepV g H w (a.eval x) (evo F x)) → a.eval x = .nilFunc ∧ a.eval y = .nilFunc := by
      intro g a w hev
      have h1 : Rep g.S w (a.eval x) .nilf := by have := hev x; rw [hx] at this; exact this
      have h2 : Rep g.S w (a.eval y) .nilf := by have := hev y; rw [hy] at this; exact this
      refine ⟨?_, ?_⟩
      · cases hxe : a.eval x <;> rw [hxe] at h1 <;> try cases h1
      · cases hye : a.eval y <;> rw [hye] at h2 <;> try cases h2
    split at h
    · subst h
      refine step_pure rfl rfl fun g a w hev => ⟨.bool true, ?_, Rep.bool _⟩
      obtain ⟨e1, e2⟩ := inv g a w hev
      simp [execOp, ho, e1, e2, eqGuard, binOp, key]
    · subst h
      refine step_pure rfl rfl fun g a w hev => ⟨.bool false, ?_, Rep.bool _⟩
      obtain ⟨e1, e2⟩ := inv g a w hev
      simp [execOp, ho, e1, e2, eqGuard, binOp, key]
    · exact h.elim
  · exact h.elim

theorem ok_un {op : UnOp} {t : TypeId} {x : Operand} {o : Oper} {u : Upd} (ho : o.op = .unOp op t x) (h : aUn (· = u) op (evo F x)) : StepOk P o F B H u := by
  unfold aUn at h
  split at h
  · rename_i b hx
    subst h
    refine step_pure rfl rfl fun g a w hev => ⟨_, ?_, Rep.bool _⟩
    have e1 := bool_inv (hx ▸ hev x)
    simp [execOp, ho, e1, Op.unary]
  · rename_i k n hx
    subst h
    refine step_pure rfl rfl fun g a w hev => ⟨_, ?_, Rep.int _ _⟩
    have e1 := int_inv (hx ▸ hev x)
    simp [execOp, ho, e1, Op.unary, Op.intArith]
  · exact h.elim

theorem ok_conv {s d : TypeId} {x : Operand} {o : Oper} {u : Upd} (ho : o.op = .convert s d x) (h : aConv P (· = u) s d (evo F x)) : StepOk P o F B H u := by
  unfold aConv at h
  split at h
  · rename_i k n hx
    split at h
    · rename_i k' hd
      obtain ⟨hs, rfl⟩ := h
      refine step_pure rfl rfl fun g a w hev => ⟨_, ?_, Rep.int _ _⟩
      have e1 := int_inv (hx ▸ hev x)
      cases hsd : P.underlying s with
      | none => simp [hsd] at hs
      | some ds => cases ds <;> simp [execOp, ho, e1, convert, run_underlying hd, run_underlying hsd, Conv.intToInt]
    · exact h.elim
  · exact h.elim

theorem ok_extract {x : Operand} {i : Nat} {o : Oper} {u : Upd} (ho : o.op = .extract x i) (h : aExtract (· = u) (evo F x) i) : StepOk P o F B H u := by
  unfold aExtract at h
  split at h
  · rename_i l hx
    obtain ⟨p, h1, rfl⟩ := h
    refine step_pure rfl rfl fun g a w hev => ?_
    have hv := hev x
    rw [hx] at hv
    obtain ⟨vs, hv, hl, hr⟩ := hv
    have hlt : i < vs.toList.length := by have := (List.getElem?_eq_some_iff.1 h1).1; omega
    have e1 : vs[i]? = some vs[i] := Array.getElem?_eq_getElem (by simpa using hlt)
    refine ⟨vs[i], by simp [execOp, ho, hv, Instr.extract, e1], hr i _ p (by simp) h1⟩
  · exact h.elim

theorem ok_makeFunc {fn : Fn} {fs cs : Array Operand} {o : Oper} {u : Upd} (ho : o.op = .makeFunc fn fs cs) (h : aMakeFunc (· = u) fn (fs.toList.map (evo F)) (cs.toList.map (evo F))) : StepOk P o F B H u := by
  unfold aMakeFunc at h
  split at h
  · rename_i f hf
    obtain ⟨caps, h1, rfl⟩ := h
    have hfs : fs = #[] := by
      have : fs.toList = [] := by simpa using hf
      exact Array.toList_eq_nil_iff.1 this
    subst hfs
    refine step_pure rfl rfl fun g a w hev => ⟨_, by simp [execOp, ho, Instr.makeFunc]; rfl, ?_⟩
    show _ = _
    congr 1
    apply Array.ext'
    simp only [Array.toList_map, List.toList_toArray]
    have key : ∀ (l : List Operand) (caps : List (Nat × Nat)), l.map (evo F) = caps.map (fun c => LV.bp c.1 c.2) → l.map a.eval = caps.map fun c => Value.pointer (some ⟨g.bk c.1, c.2, none⟩) := by
      intro l
      induction l with
      | nil => intro caps h; cases caps with
        | nil => rfl
        | cons c r => simp at h
      | cons x r ih => intro caps h; cases caps with
        | nil => simp at h
        | cons c q =>
          simp only [List.map_cons, List.cons.injEq] at h ⊢
          have := hev x
          rw [h.1] at this
          exact ⟨this, ih q h.2⟩
    exact key cs.toList caps h1
  · exact h.elim

theorem ok_len {c : Call} {x : Operand} {t : TypeId} {o : Oper} {u : Upd} (ho : o.op = .call c) (hc : c.callee = .builtin .len) (ha : c.args.toList = [x]) (hat : c.argTypes.toList = [t]) (h : aLen P B (· = u) t (evo F x)) : StepOk P o F B H u := by
  have ha' : c.args = #[x] := Array.ext' ha
  have hat' : c.argTypes = #[t] := Array.ext' hat
  have run : ∀ (a : Act) (w : World) (n : Int), (Builtin.len_ #[t] o.type #[a.eval x]).run P w = .ok (.int .i64 n) w → (execOp a.eval o).run P w = .ok (.value (.int .i64 n)) w := by
    intro a w n hr
    simp only [execOp, ho, resolve, hc, ha', hat', invoke, builtin, List.map_toArray, List.map_cons, List.map_nil, Sem.run_bind, Sem.run_pure, Result.andThen_ok, hr]
  unfold aLen at h
  split at h
  · rename_i e ht
    split at h
    · rename_i b len hx
      subst h
      refine step_pure rfl rfl fun g a w hev => ?_
      have hv := hev x
      rw [hx] at hv
      obtain ⟨hv, _⟩ := hv
      exact ⟨_, run a w len (by simp [Builtin.len_, hv, run_underlying ht, goInt]), Rep.int _ _⟩
    · split at h
      · rename_i l hl
        subst h
        refine step_pure rfl rfl fun g a w hev => ?_
        have hr := (hev x).list hl
        have : ∃ A cap, a.eval x = .slice A l.length cap := by
          cases hx : a.eval x <;> rw [hx] at hr <;> try cases hr
          · exact ⟨_, _, rfl⟩
          · exact ⟨_, _, rfl⟩
          · rename_i hll; exact ⟨_, _, by rw [hll]⟩
        obtain ⟨A, cap, hv⟩ := this
        exact ⟨_, run a w l.length (by simp [Builtin.len_, hv, run_underlying ht, goInt]), Rep.int _ _⟩
      · exact h.elim
  · rename_i ht
    split at h
    · rename_i s hx
      subst h
      refine step_pure rfl rfl fun g a w hev => ?_
      have hv := str_inv (hx ▸ hev x)
      exact ⟨_, run a w s.size (by simp [Builtin.len_, hv, run_underlying ht, goInt]), Rep.int _ _⟩
    · exact h.elim
  · rename_i n e ht
    subst h
    refine step_pure rfl rfl fun g a w hev => ?_
    exact ⟨_, run a w n (by simp [Builtin.len_, run_underlying ht, goInt]), Rep.int _ _⟩
  · rename_i k e ht
    split at h
    · rename_i ks vs hx
      subst h
      refine step_pure rfl rfl fun g a w hev => ?_
      have hv : Rep g.S w (a.eval x) (.map ks vs) := by have := hev x; rw [hx] at this; exact this
      cases hxe : a.eval x <;> rw [hxe] at hv <;> try cases hv
      · exact ⟨_, run a w 0 (by simp [Builtin.len_, hxe, run_underlying ht, goInt]), Rep.int _ _⟩
      · rename_i b es ck hS hh hnb hbb hk hvv hrk hrv
        refine ⟨_, run a w ks.length ?_, Rep.int _ _⟩
        simp [Builtin.len_, hxe, run_underlying ht, goInt, getObj, Sem.run, hh, hk]
    · rename_i n hx
      split at h
      · rename_i ks vs hB
        subst h
        refine step_val rfl rfl fun E g a w hs => ?_
        have hv := hs.ev x
        rw [hx] at hv
        have hv' : a.eval x = .map (some (g.bk n)) := hv
        obtain ⟨_, _, es, ck, hh, _, hk, _⟩ := hs.box n _ hB
        refine ⟨_, run a w ks.length ?_, Rep.int _ _⟩
        simp [Builtin.len_, hv', run_underlying ht, goInt, getObj, Sem.run, hh, hk]
      · exact h.elim
    · exact h.elim
  · exact h.elim

theorem ok_min {c : Call} {o : Oper} {u : Upd} (ho : o.op = .call c) (hc : c.callee = .builtin .min) (h : aMin (· = u) (c.args.toList.map (evo F))) : StepOk P o F B H u := by
  unfold aMin at h
  split at h
  · rename_i k p k' q hl
    obtain ⟨h1, rfl⟩ := h
    subst h1
    refine step_pure rfl rfl fun g a w hev => ⟨_, ?_, Rep.int _ _⟩
    have : ∃ x y, c.args.toList = [x, y] ∧ evo F x = .pv (.int k p) ∧ evo F y = .pv (.int k q) := by
      cases h : c.args.toList with
      | nil => rw [h] at hl; simp at hl
      | cons x r => cases r with
        | nil => rw [h] at hl; simp at hl
        | cons y s => cases s with
          | nil => rw [h] at hl; simp at hl; exact ⟨x, y, rfl, hl.1, hl.2⟩
          | cons z s => rw [h] at hl; simp at hl
    obtain ⟨x, y, hxy, hx, hy⟩ := this
    have ha' : c.args = #[x, y] := Array.ext' hxy
    have e1 := int_inv (hx ▸ hev x)
    have e2 := int_inv (hy ▸ hev y)
    simp [execOp, ho, resolve, hc, ha', invoke, builtin, Builtin.min_, Builtin.min2, e1, e2]
  · exact h.elim

theorem ok_max {c : Call} {o : Oper} {u : Upd} (ho : o.op = .call c) (hc : c.callee = .builtin .max) (h : aMax (· = u) (c.args.toList.map (evo F))) : StepOk P o F B H u := by
  unfold aMax at h
  split at h
  · rename_i k p k' q hl
    obtain ⟨h1, rfl⟩ := h
    subst h1
    refine step_pure rfl rfl fun g a w hev => ⟨_, ?_, Rep.int _ _⟩
    have : ∃ x y, c.args.toList = [x, y] ∧ evo F x = .pv (.int k p) ∧ evo F y = .pv (.int k q) := by
      cases h : c.args.toList with
      | nil => rw [h] at hl; simp at hl
      | cons x r => cases r with
        | nil => rw [h] at hl; simp at hl
        | cons y s => cases s with
          | nil => rw [h] at hl; simp at hl; exact ⟨x, y, rfl, hl.1, hl.2⟩
          | cons z s => rw [h] at hl; simp at hl
    obtain ⟨x, y, hxy, hx, hy⟩ := this
    have ha' : c.args = #[x, y] := Array.ext' hxy
    have e1 := int_inv (hx ▸ hev x)
    have e2 := int_inv (hy ▸ hev y)
    simp [execOp, ho, resolve, hc, ha', invoke, builtin, Builtin.max_, Builtin.max2, e1, e2]
  · exact h.elim

end
end Go.Am
