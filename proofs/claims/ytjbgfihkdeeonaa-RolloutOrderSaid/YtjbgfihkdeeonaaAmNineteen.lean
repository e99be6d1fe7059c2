/- The abstract machine, part 19: contracts with the results' variables laid bare; nothing is assumed of any program. -/
import Derived.Test.YtjbgfihkdeeonaaAmSixteen
set_option linter.unusedSimpArgs false
set_option linter.unusedVariables false
namespace Go.Am
open Go.RowKit

theorem good_rv {P : Program} {f : FuncId} {fn : Func} {c : Code} {args rs : List PV} (kp : Keep) (rv : List ResultVar) (hm : P.follows .mixedOrders = true) (hcall : ∀ (as : Array Value) (w : World), (callFunc f as).run P w = .ok (.enter f as) w)
    (hf : P.funcs[f]? = some fn) (hb : fn.body = some c) (hd : dstOk fn.ntmps c = true) (hn : args.length ≤ fn.ntmps) (hrv : fn.results.toList = rv)
    (h : acode P kp c { fr := argFr 0 args, bx := [], hw := [] } (endQ P rv rs)) : Good P false f args rs :=
  good_of kp hm hcall hf hb hd hn (by rw [hrv]; exact h)

theorem goodX_rv {P : Program} {f : FuncId} {fn : Func} {c : Code} {cx : CX} (kp : Keep) (rv : List ResultVar) (hm : P.follows .mixedOrders = true) (hcall : ∀ (as : Array Value) (w : World), (callFunc f as).run P w = .ok (.enter f as) w)
    (hf : P.funcs[f]? = some fn) (hb : fn.body = some c) (hd : dstOk fn.ntmps c = true) (hn : cx.args.length ≤ fn.ntmps) (hbig : bigNames cx.pre = true) (hpre : (cx.pre.all fun x => x.2.alive.isSome) = true) (hrv : fn.results.toList = rv)
    (h : acode P kp c { fr := argFrX 0 cx.args, bx := cx.pre, hw := [] } (endX P rv cx.rs cx.post)) : GoodX P f cx :=
  goodX_of kp hm hcall hf hb hd hn hbig hpre (by rw [hrv]; exact h)

theorem res_pv {P : Program} {fr : List (Nat × LV)} {bx : List (Nat × BO)} {hw : List (Nat × Nat × TypeId)} {t : Nat} {p q : PV} (h : lk t fr = some (.pv p)) (e : p = q) : resVals P ⟨fr, bx, hw⟩ [.tmp t] = some [q] := by
  simp [resVals, resVal, resLV, St.f, h, LV.arg?, LV.pure?, LV.one?, e]
theorem res_l {P : Program} {fr : List (Nat × LV)} {bx : List (Nat × BO)} {hw : List (Nat × Nat × TypeId)} {t : Nat} {x : LV} {l : List PV} {q : PV} (h : lk t fr = some x) (hx : x.list? = some l) (e : .slc l = q) : resVals P ⟨fr, bx, hw⟩ [.tmp t] = some [q] := by
  subst e
  cases x with
  | pv p => cases p <;> simp_all [resVals, resVal, resLV, St.f, LV.arg?, LV.pure?, LV.one?, LV.list?]
  | full m => simp_all [resVals, resVal, resLV, St.f, LV.arg?, LV.pure?, LV.one?, LV.list?]
  | sl k m => simp_all [resVals, resVal, resLV, St.f, LV.arg?, LV.pure?, LV.one?, LV.list?]
  | _ => simp [LV.list?] at hx
theorem res_cell {P : Program} {fr : List (Nat × LV)} {bx : List (Nat × BO)} {hw : List (Nat × Nat × TypeId)} {a n : Nat} {t : TypeId} {rr : Option RowI} {cs : List LV} {ps : List PV} {q : PV} (h1 : lk a fr = some (.bp n 0)) (h2 : lk n bx = some (.cells rr cs))
    (ha : P.aggT t = true) (hc : P.cellsOf t = cs.length) (h0 : cs.length ≠ 0) (ho : ones? cs = some ps) (e : .agg ps = q) : resVals P ⟨fr, bx, hw⟩ [.cell a t] = some [q] := by
  subst e
  have h3 : (St.b ⟨fr, bx, hw⟩ n) = some (.cells rr cs) := by simp [St.b, h2, BO.alive]
  have h4 : St.f ⟨fr, bx, hw⟩ a = .bp n 0 := by simp [St.f, h1]
  have h5 : resLV P ⟨fr, bx, hw⟩ (.cell a t) = some (.ag cs) := by
    simp only [resLV, h4, h3, ha, hc, true_and, Nat.zero_add, Nat.le_refl, and_true, h0, ne_eq, not_false_eq_true, if_true, List.drop_zero, List.take_length]
  simp only [resVals, resVal, h5, Option.bind_some, LV.arg?, LV.pure?, ho, Option.map_some]
theorem res_two {P : Program} {σ : St} {x y : ResultVar} {p q : PV} (h1 : resVals P σ [x] = some [p]) (h2 : resVals P σ [y] = some [q]) : resVals P σ [x, y] = some [p, q] := by
  simp only [resVals] at h1 h2 ⊢
  cases hx : resVal P σ x with
  | none => rw [hx] at h1; cases h1
  | some p' =>
    cases hy : resVal P σ y with
    | none => rw [hy] at h2; cases h2
    | some q' =>
      rw [hx] at h1; rw [hy] at h2
      simp at h1 h2 ⊢
      exact ⟨h1, h2⟩
theorem splice1 {cs : List LV} {off : Nat} {x : LV} : splice cs off [x] = cs.set off x := rfl
theorem splice2 {cs : List LV} {off : Nat} {x y : LV} {r : List LV} : splice cs off (x :: y :: r) = cs.take off ++ (x :: y :: r) ++ cs.drop (off + (r.length + 2)) := rfl
theorem fillL_nil {place : Nat → Option (Nat × Nat)} {cells : List LV} : fillL place cells [] = some cells := rfl
def fillX (place : Nat → Option (Nat × Nat)) (cells : List LV) (rest : List (Nat × LV)) : Option (Nat × Nat) → Option (List LV) → Option (List LV)
  | some x, some xs => if xs.length = x.2 ∧ x.1 + xs.length ≤ cells.length then fillL place (splice cells x.1 xs) rest else none
  | _, _ => none
theorem fillL_cons {place : Nat → Option (Nat × Nat)} {cells : List LV} {i : Nat} {v : LV} {rest : List (Nat × LV)} : fillL place cells ((i, v) :: rest) = fillX place cells rest (place i) v.cells? := by
  simp only [fillL, fillX]
  cases place i with
  | none => rfl
  | some x => cases v.cells? <;> rfl
theorem fillX_ {place : Nat → Option (Nat × Nat)} {cells : List LV} {rest : List (Nat × LV)} {off size : Nat} {xs : List LV} : fillX place cells rest (some (off, size)) (some xs) = if xs.length = size ∧ off + xs.length ≤ cells.length then fillL place (splice cells off xs) rest else none := rfl
theorem pc_int {k : IntKind} {n : Int} : (PV.int k n).cells = [.int k n] := rfl
theorem pc_bool {b : Bool} : (PV.bool b).cells = [.bool b] := rfl
theorem pc_str {b : ByteArray} : (PV.str b).cells = [.str b] := rfl
theorem pc_slc {l : List PV} : (PV.slc l).cells = [.slc l] := rfl
theorem pc_agg {l : List PV} : (PV.agg l).cells = l := rfl
theorem pc_ptr {l : List PV} : (PV.ptr l).cells = [.ptr l] := rfl
theorem pc_nilp : (PV.nilp).cells = [.nilp] := rfl
theorem pc_nilf : (PV.nilf).cells = [.nilf] := rfl
theorem pc_clo {f : FuncId} {l : List PV} : (PV.clo f l).cells = [.clo f l] := rfl
theorem pc_map {l m : List PV} : (PV.map l m).cells = [.map l m] := rfl
theorem boolE {a b : Bool} (h : a = b) : PV.bool a = PV.bool b := by rw [h]

/-- The result variable is a slot. -/
theorem res_tmp {P : Program} {σ : St} {t : Nat} {p : PV} {ns : List Nat} (h : (σ.f t).arg? σ.b = some (p, ns)) : resVals P σ [.tmp t] = some [p] := by
  simp [resVals, resVal, resLV, h]

section
variable {n m : Nat}
theorem mv_undef : LV.mv n m .undef = .undef := rfl
theorem mv_junk : LV.mv n m .junk = .junk := rfl
theorem mv_pv {p : PV} : LV.mv n m (.pv p) = .pv p := rfl
theorem mv_full {p : List PV} : LV.mv n m (.full p) = .full p := rfl
theorem mv_tup {p : List PV} : LV.mv n m (.tup p) = .tup p := rfl
theorem mv_sl {j : Nat} {p : List PV} : LV.mv n m (.sl j p) = .sl j p := rfl
theorem mv_bp {a o : Nat} : LV.mv n m (.bp a o) = .bp (if a = n then m else a) o := rfl
theorem mv_arr {a o : Nat} : LV.mv n m (.arr a o) = .arr (if a = n then m else a) o := rfl
theorem mv_mr {a : Nat} : LV.mv n m (.mr a) = .mr (if a = n then m else a) := rfl
theorem mv_it {a : Nat} : LV.mv n m (.it a) = .it (if a = n then m else a) := rfl
theorem mv_cl {f : FuncId} {c : List (Nat × Nat)} : LV.mv n m (.cl f c) = .cl f (c.map fun x => (if x.1 = n then m else x.1, x.2)) := rfl
theorem mv1_undef : LV.mv1 n m .undef = .undef := rfl
theorem mv1_junk : LV.mv1 n m .junk = .junk := rfl
theorem mv1_pv {p : PV} : LV.mv1 n m (.pv p) = .pv p := rfl
theorem mv1_full {p : List PV} : LV.mv1 n m (.full p) = .full p := rfl
theorem mv1_tup {p : List PV} : LV.mv1 n m (.tup p) = .tup p := rfl
theorem mv1_sl {j : Nat} {p : List PV} : LV.mv1 n m (.sl j p) = .sl j p := rfl
theorem mv1_bp {a o : Nat} : LV.mv1 n m (.bp a o) = .bp (if a = n then m else a) o := rfl
theorem mv1_arr {a o : Nat} : LV.mv1 n m (.arr a o) = .arr (if a = n then m else a) o := rfl
theorem mv1_mr {a : Nat} : LV.mv1 n m (.mr a) = .mr (if a = n then m else a) := rfl
theorem mv1_it {a : Nat} : LV.mv1 n m (.it a) = .it (if a = n then m else a) := rfl
theorem mv1_cl {f : FuncId} {c : List (Nat × Nat)} : LV.mv1 n m (.cl f c) = .cl f (c.map fun x => (if x.1 = n then m else x.1, x.2)) := rfl
theorem mv_ag {cs : List LV} : LV.mv n m (.ag cs) = .ag (cs.map (LV.mv1 n m)) := rfl
theorem mvB_c {r : Option RowI} {cs : List LV} : BO.mv n m (.cells r cs) = .cells r (cs.map (LV.mv1 n m)) := rfl
theorem mvB_m {ks vs : List PV} : BO.mv n m (.map ks vs) = .map ks vs := rfl
theorem mvB_i {ks vs : List PV} {c : Option (PV × PV)} : BO.mv n m (.iter ks vs c) = .iter ks vs c := rfl
theorem mvB_d : BO.mv n m .dead = .dead := rfl
end

theorem aMin_ {K : Upd → Prop} {k : IntKind} {a b : Int} : aMin K [.pv (.int k a), .pv (.int k b)] = K ⟨.pv (.int k (if b < a then b else a)), [], [], [], none, []⟩ := by simp [aMin]
theorem aMax_ {K : Upd → Prop} {k : IntKind} {a b : Int} : aMax K [.pv (.int k a), .pv (.int k b)] = K ⟨.pv (.int k (if a < b then b else a)), [], [], [], none, []⟩ := by simp [aMax]

section
variable {B : Nat → Option BO} {ns : List Nat} {n : Nat}
theorem fz1_pv {p : PV} : LV.frz1 B ns (.pv p) = .pv p := by simp [LV.frz1, LV.men1]
theorem fz1_undef : LV.frz1 B ns .undef = .undef := by simp [LV.frz1, LV.men1]
theorem fz1_junk : LV.frz1 B ns .junk = .junk := by simp [LV.frz1, LV.men1]
theorem fz1_full {l : List PV} : LV.frz1 B ns (.full l) = .full l := by simp [LV.frz1, LV.men1]
theorem fz1_tup {l : List PV} : LV.frz1 B ns (.tup l) = .tup l := by simp [LV.frz1, LV.men1]
theorem fz1_sl {k : Nat} {l : List PV} (h : (k == n) = false) : LV.frz1 B [n] (.sl k l) = .sl k l := by simp [LV.frz1, LV.men1, h]
theorem fz1_bp {k o : Nat} (h : (k == n) = false) : LV.frz1 B [n] (.bp k o) = .bp k o := by simp [LV.frz1, LV.men1, h]
theorem fz1_arr {k o : Nat} (h : (k == n) = false) : LV.frz1 B [n] (.arr k o) = .arr k o := by simp [LV.frz1, LV.men1, h]
theorem fz1_mr {k : Nat} (h : (k == n) = false) : LV.frz1 B [n] (.mr k) = .mr k := by simp [LV.frz1, LV.men1, h]
theorem fz1_it {k : Nat} (h : (k == n) = false) : LV.frz1 B [n] (.it k) = .it k := by simp [LV.frz1, LV.men1, h]
theorem fz_pv {p : PV} : LV.frz B ns (.pv p) = LV.frz1 B ns (.pv p) := rfl
theorem fz_undef : LV.frz B ns .undef = LV.frz1 B ns .undef := rfl
theorem fz_junk : LV.frz B ns .junk = LV.frz1 B ns .junk := rfl
theorem fz_full {l : List PV} : LV.frz B ns (.full l) = LV.frz1 B ns (.full l) := rfl
theorem fz_tup {l : List PV} : LV.frz B ns (.tup l) = LV.frz1 B ns (.tup l) := rfl
theorem fz_sl {k : Nat} {l : List PV} : LV.frz B ns (.sl k l) = LV.frz1 B ns (.sl k l) := rfl
theorem fz_bp {k o : Nat} : LV.frz B ns (.bp k o) = LV.frz1 B ns (.bp k o) := rfl
theorem fz_arr {k o : Nat} : LV.frz B ns (.arr k o) = LV.frz1 B ns (.arr k o) := rfl
theorem fz_mr {k : Nat} : LV.frz B ns (.mr k) = LV.frz1 B ns (.mr k) := rfl
theorem fz_it {k : Nat} : LV.frz B ns (.it k) = LV.frz1 B ns (.it k) := rfl
theorem fz_ag {cs : List LV} : LV.frz B ns (.ag cs) = .ag (cs.map (LV.frz1 B ns)) := rfl
theorem fzB_c {r : Option RowI} {cs : List LV} : BO.frz B ns (.cells r cs) = .cells r (cs.map (LV.frz1 B ns)) := rfl
theorem fzB_m {ks vs : List PV} : BO.frz B ns (.map ks vs) = .map ks vs := rfl
theorem fzB_i {ks vs : List PV} {c : Option (PV × PV)} : BO.frz B ns (.iter ks vs c) = .iter ks vs c := rfl
theorem fzB_d : BO.frz B ns .dead = .dead := rfl
end

end Go.Am
