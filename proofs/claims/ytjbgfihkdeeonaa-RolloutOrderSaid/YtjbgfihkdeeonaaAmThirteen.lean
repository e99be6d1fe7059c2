/- The abstract machine, part 13: a region whose order is open comes to what it comes to in the text's order; nothing is assumed of any program. -/
import Derived.Test.YtjbgfihkdeeonaaAmTwelve
set_option linter.unusedSimpArgs false
set_option linter.unusedVariables false
namespace Go.Am
open Go.RowKit

/-! ### What a step hangs on -/

theorem evo_congr {F F' : Nat → LV} {x : Operand} (h : ∀ t, x = .tmp t → F' t = F t) : evo F' x = evo F x := by
  cases x with
  | tmp t => exact h t rfl
  | _ => rfl

theorem arg_congr {B B' : Nat → Option BO} {v : LV} {p : PV} {ns : List Nat} (h : v.arg? B = some (p, ns)) (hb : ∀ n ∈ ns, B' n = B n) : v.arg? B' = some (p, ns) := by
  by_cases h1 : ∃ n off, v = .bp n off
  · obtain ⟨n, off, rfl⟩ := h1
    simp only [LV.arg?] at h ⊢
    split at h
    · rename_i rr cs hB
      split at h
      · rename_i ps hp
        have := h
        injection h with h
        injection h with h1 h2
        rw [hb n (by rw [← h2]; simp), hB]
        simp only [hp]
        exact this
      · cases h
    · cases h
  · by_cases har : ∃ n len, v = .arr n len
    · obtain ⟨n, len, rfl⟩ := har
      simp only [LV.arg?] at h ⊢
      split at h
      · rename_i r cs hB
        split at h
        · rename_i ps hp
          split at h
          · rename_i l hl
            have := h
            injection h with h
            injection h with h1 h2
            rw [hb n (by rw [← h2]; simp), hB]
            simp only [hp, hl]
            exact this
          · cases h
        · cases h
      · cases h
    by_cases hmr : ∃ n, v = .mr n
    · obtain ⟨n, rfl⟩ := hmr
      simp only [LV.arg?] at h ⊢
      split at h
      · rename_i ks vs hB
        have := h
        injection h with h
        injection h with h1 h2
        rw [hb n (by rw [← h2]; simp), hB]
        exact this
      · cases h
    by_cases h2 : ∃ f c, v = .cl f c
    · obtain ⟨f, c, rfl⟩ := h2
      simp only [LV.arg?, Option.map_eq_some_iff] at h ⊢
      obtain ⟨⟨ps, ks⟩, h3, h4⟩ := h
      refine ⟨(ps, ks), ?_, h4⟩
      injection h4 with h4 h5
      simp only at h5
      subst h5
      clear h4 h1 hmr har
      induction c generalizing ps ks with
      | nil => exact h3
      | cons c r ih =>
        simp only [List.foldr_cons] at h3 ⊢
        split at h3
        · rename_i qs js rr cs hr hB
          split at h3
          · rename_i zs hz
            injection h3 with h3
            injection h3 with h5 h6
            subst h6
            rw [ih qs js hr (fun n hn => hb n (by simp [hn])), hb c.1 (by simp), hB]
            simp only [hz, h5]
          · cases h3
        · cases h3
    · unfold LV.arg? at h ⊢
      cases v <;> first | exact h | (exact absurd ⟨_, _, rfl⟩ h1) | (exact absurd ⟨_, _, rfl⟩ h2) | (exact absurd ⟨_, rfl⟩ hmr) | (exact absurd ⟨_, _, rfl⟩ har)

theorem map_congr {B B' : Nat → Option BO} {v : LV} {ks vs : List PV} {ns : List Nat} (h : v.map? B = some (ks, vs, ns)) (hb : ∀ n ∈ ns, B' n = B n) : v.map? B' = some (ks, vs, ns) := by
  unfold LV.map? at h ⊢
  split at h
  · exact h
  · split at h
    · rename_i hc
      have := h
      injection h with h
      injection h with _ h
      injection h with _ h
      rw [hb _ (by rw [← h]; simp), hc]
      exact this
    · cases h
  · cases h

theorem argsL_congr {B B' : Nat → Option BO} : ∀ {l : List LV} {ps : List PV} {ns : List Nat}, argsL B l = some (ps, ns) → (∀ n ∈ ns, B' n = B n) → argsL B' l = some (ps, ns)
  | [], _, _, h, _ => h
  | x :: r, ps, ns, h, hb => by
    simp only [argsL] at h ⊢
    split at h
    · rename_i p ks qs js h1 h2
      injection h with h
      injection h with h3 h4
      subst h4
      rw [arg_congr h1 fun n hn => hb n (by simp [hn]), argsL_congr h2 fun n hn => hb n (by simp [hn])]
      simp only [h3]
    · cases h

theorem aop_congr {P : Program} {F F' : Nat → LV} {B B' : Nat → Option BO} {H H' : HT} {o : Oper} {u : Upd} (h : aop P F B H o (· = u)) (hF : ∀ x ∈ o.op.operands, evo F' x = evo F x)
    (hB : ∀ n ∈ u.rb, B' n = B n) (hH : ∀ k ∈ u.rh, H' k = H k) : aop P F' B' H' o (· = u) := by
  obtain ⟨dst, op, ty, pos, after, guard⟩ := o
  have e1 : ∀ (x : Operand), x ∈ op.operands → evo F' x = evo F x := hF
  have eL : ∀ (l : Array Operand), (∀ x ∈ l, x ∈ op.operands) → l.toList.map (evo F') = l.toList.map (evo F) := fun l hl => List.map_congr_left fun x hx => e1 x (hl x (by simpa using hx))
  have eP : ∀ (l : Array (Nat × Operand)), (∀ x ∈ l, x.2 ∈ op.operands) → (l.toList.map fun x => (x.1, evo F' x.2)) = l.toList.map fun x => (x.1, evo F x.2) := fun l hl => List.map_congr_left fun x hx => by rw [e1 x.2 (hl x (by simpa using hx))]
  cases op with
  | move x => simp only [aop] at h ⊢; rw [e1 x (by simp [Op.operands])]; exact h
  | assign x => simp only [aop] at h ⊢; rw [e1 x (by simp [Op.operands])]; exact h
  | pick c a b => simp only [aop] at h ⊢; rw [e1 c (by simp [Op.operands]), e1 a (by simp [Op.operands]), e1 b (by simp [Op.operands])]; exact h
  | box t x => simp only [aop] at h ⊢; rw [e1 x (by simp [Op.operands])]; exact h
  | alloc t => exact h
  | load t a =>
    simp only [aop] at h ⊢
    rw [e1 a (by simp [Op.operands])]
    unfold aLoad at h ⊢
    split at h
    · exact h
    · rename_i n off heq
      split at h
      · rename_i rr cs hc
        split at h
        · rename_i hagg
          obtain ⟨k1, k2, k3⟩ := h
          rw [hB n (by rw [← k3]; simp), hc]
          simp only [hagg]
          exact ⟨k1, k2, k3⟩
        · rename_i hagg
          obtain ⟨c, k1, k2, k3⟩ := h
          rw [hB n (by rw [← k3]; simp), hc]
          simp only [hagg]
          exact ⟨c, k1, k2, k3⟩
      · exact h.elim
    · exact h.elim
  | store t a x =>
    simp only [aop] at h ⊢
    rw [e1 a (by simp [Op.operands]), e1 x (by simp [Op.operands])]
    unfold aStore at h ⊢
    split at h
    · rename_i n off xs heq hx
      split at h
      · rename_i rr cs hc
        obtain ⟨k0, k1, k2, k3⟩ := h
        rw [hB n (by rw [← k3]; simp), hc]
        exact ⟨k0, k1, k2, k3⟩
      · exact h.elim
    · exact h.elim
  | fieldAddr s x f => simp only [aop] at h ⊢; rw [e1 x (by simp [Op.operands])]; exact h
  | field s x f => simp only [aop] at h ⊢; rw [e1 x (by simp [Op.operands])]; exact h
  | indexAddr t x i => simp only [aop] at h ⊢; rw [e1 x (by simp [Op.operands]), e1 i (by simp [Op.operands])]; exact h
  | index t x i => simp only [aop] at h ⊢; rw [e1 x (by simp [Op.operands]), e1 i (by simp [Op.operands])]; exact h
  | slice t x lo hi mx =>
    cases mx with
    | some m => simp only [aop] at h
    | none =>
      simp only [aop] at h ⊢
      have h2 : lo.map (evo F') = lo.map (evo F) := by cases lo with
        | none => rfl
        | some y => simp [e1 y (by simp [Op.operands])]
      have h3 : hi.map (evo F') = hi.map (evo F) := by cases hi with
        | none => rfl
        | some y => simp [e1 y (by simp [Op.operands])]
      rw [e1 x (by simp [Op.operands]), h2, h3]
      exact h
  | build t ps => simp only [aop] at h ⊢; rw [eP ps (fun x hx => by simp only [Op.operands, List.mem_toArray, List.mem_map]; exact ⟨x, by simpa using hx, rfl⟩)]; exact h
  | buildSlice t n ps => simp only [aop] at h ⊢; rw [eP ps (fun x hx => by simp only [Op.operands, List.mem_toArray, List.mem_map]; exact ⟨x, by simpa using hx, rfl⟩)]; exact h
  | binOp op t x y t' => simp only [aop] at h ⊢; rw [e1 x (by simp [Op.operands]), e1 y (by simp [Op.operands])]; exact h
  | unOp op t x => simp only [aop] at h ⊢; rw [e1 x (by simp [Op.operands])]; exact h
  | convert s d x => simp only [aop] at h ⊢; rw [e1 x (by simp [Op.operands])]; exact h
  | extract x i => simp only [aop] at h ⊢; rw [e1 x (by simp [Op.operands])]; exact h
  | makeFunc fn a b =>
    simp only [aop] at h ⊢
    rw [eL a (fun x hx => by simp [Op.operands, hx]), eL b (fun x hx => by simp [Op.operands, hx])]
    exact h
  | makeSlice t l c => simp only [aop] at h ⊢; rw [e1 l (by simp [Op.operands]), e1 c (by simp [Op.operands])]; exact h
  | range t x => simp only [aop] at h ⊢; rw [e1 x (by simp [Op.operands])]; exact h
  | entry x =>
    simp only [aop] at h ⊢
    rw [e1 x (by simp [Op.operands])]
    unfold aEntry at h ⊢
    split at h
    · split at h
      · rename_i hc
        rw [hB _ (by rw [← h]; simp), hc]
        exact h
      · exact h.elim
    · exact h.elim
  | makeMap t r =>
    simp only [aop] at h ⊢
    have h2 : r.map (evo F') = r.map (evo F) := by cases r with
      | none => rfl
      | some y => simp [e1 y (by simp [Op.operands])]
    rw [h2]
    exact h
  | mapUpdate t m k v =>
    simp only [aop] at h ⊢
    rw [e1 m (by simp [Op.operands]), e1 k (by simp [Op.operands]), e1 v (by simp [Op.operands])]
    unfold aMapUpdate at h ⊢
    split at h
    · split at h
      · split at h
        · rename_i hc
          obtain ⟨k1, k2⟩ := h
          rw [hB _ (by rw [← k2]; simp), hc]
          exact ⟨k1, k2⟩
        · exact h.elim
      · exact h.elim
    · exact h.elim
  | lookup t m k ok =>
    simp only [aop] at h ⊢
    rw [e1 m (by simp [Op.operands]), e1 k (by simp [Op.operands])]
    unfold aLookup at h ⊢
    split at h
    · split at h
      · rename_i ks vs ns k' z hm hk hz
        obtain ⟨k1, k2⟩ := h
        have hm' : (evo F m).map? B' = some (ks, vs, ns) := map_congr hm fun n hn => hB n (by rw [← k2]; exact hn)
        simp only [hm', hk, hz]
        exact ⟨k1, k2⟩
      · exact h.elim
    · exact h.elim
  | call c =>
    have eA := eL c.args (fun x hx => by simp [Op.operands, Call.operands, hx])
    have eM : ∀ x ∈ c.args.toList, evo F' x = evo F x := fun x hx => e1 x (by simp [Op.operands, Call.operands]; exact .inr (by simpa using hx))
    simp only [aop] at h ⊢
    split at h
    · rename_i hc
      split at h
      · rename_i m k t t' hx ht
        rw [eM m (by rw [hx]; simp), eM k (by rw [hx]; simp)]
        unfold aDelete at h ⊢
        split at h
        · split at h
          · split at h
            · rename_i hc
              obtain ⟨k1, k2⟩ := h
              rw [hB _ (by rw [← k2]; simp), hc]
              exact ⟨k1, k2⟩
            · exact h.elim
          · exact h.elim
        · exact h.elim
      · exact h.elim
    · rename_i hc
      split at h
      · rename_i m t hx ht
        rw [eM m (by rw [hx]; simp)]
        unfold aClear at h ⊢
        split at h
        · split at h
          · split at h
            · rename_i hc
              rw [hB _ (by rw [← h]; simp), hc]
              exact h
            · exact h.elim
          · exact h.elim
        · exact h.elim
      · exact h.elim
    · rename_i hc
      split at h
      · rename_i x t hx ht
        rw [eM x (by rw [hx]; simp)]
        unfold aLen at h ⊢
        split at h
        · exact h
        · exact h
        · exact h
        · split at h
          · exact h
          · split at h
            · rename_i hc
              rw [hB _ (by rw [← h]; simp), hc]
              exact h
            · exact h.elim
          · exact h.elim
        · exact h.elim
      · exact h.elim
    · rename_i hc
      split at h
      · rename_i s x t t' hx ht
        rw [eM s (by rw [hx]; simp), eM x (by rw [hx]; simp)]
        refine ⟨h.1, ?_⟩
        have h2 := h.2
        unfold aAppend at h2 ⊢
        split at h2
        · split at h2
          · obtain ⟨k1, k2, k3, k4⟩ := h2
            refine ⟨k1, k2, k3, ?_⟩
            split at k4
            · exact k4
            · rename_i k l hl
              obtain ⟨j1, j2, j3, j4, j5⟩ := k4
              have := hH k (by rw [← j5]; simp)
              exact ⟨by rw [this]; exact j1, j2, j3, j4, j5⟩
            · split at k4
              · rename_i hc
                obtain ⟨j1, j2, j3, j4, j5⟩ := k4
                rw [hB _ (by rw [← j5]; simp), hc]
                exact ⟨j1, j2, j3, j4, j5⟩
              · exact k4.elim
            · exact k4.elim
          · exact h2.elim
        · exact h2.elim
      · exact h.elim
    · rename_i hc
      rw [eA]; exact h
    · rename_i hc
      rw [eA]; exact h
    · rename_i f hc
      rw [eA, e1 f (by simp [Op.operands, Call.operands, hc])]
      rcases h.symm with h | h
      · obtain ⟨f, as, cx, ρ, h1, h2, h3, h4, h5, h6, h7⟩ := h
        refine .inr ⟨f, as, cx, ρ, h1, h2, h3, h4, fun n o hn => ?_, h6, h7⟩
        obtain ⟨o', ho, hw⟩ := h5 n o hn
        refine ⟨o', ?_, hw⟩
        rw [hB (ρ n) (by rw [← h7]; exact List.mem_map.2 ⟨n, (key_lk hn).1, rfl⟩)]
        exact ho
      refine .inl ?_
      unfold aCallP at h ⊢
      split at h
      · split at h
        · rename_i ps ns hps
          obtain ⟨na, rs, k1, k2, k3⟩ := h
          rw [argsL_congr hps fun n hn => hB n (by rw [← k3]; exact hn)]
          exact ⟨na, rs, k1, k2, k3⟩
        · exact h.elim
      · split at h
        · rename_i ps ns hps
          obtain ⟨na, rs, k1, k2, k3⟩ := h
          rw [argsL_congr hps fun n hn => hB n (by rw [← k3]; exact hn)]
          exact ⟨na, rs, k1, k2, k3⟩
        · exact h.elim
      · exact h.elim
    · exact h.elim
  | _ => simp only [aop] at h

/-! ### What comes before what -/

def bmask (acc : List Nat) : List Edge → Nat → Nat
  | [], s => s
  | e :: r, s => bmask acc r (if Region.binds .any e then s ||| 2 ^ e.on ||| acc.getD e.on 0 else s)

def befs : List Oper → List Nat → List Nat
  | [], acc => acc
  | o :: r, acc => befs r (acc ++ [bmask acc o.after.toList 0])

theorem bmask_spec {acc : List Nat} {k : Nat} : ∀ (l : List Edge) (s : Nat), (bmask acc l s).testBit k = true → s.testBit k = true ∨ ∃ e ∈ l, Region.binds .any e = true ∧ (e.on = k ∨ (acc.getD e.on 0).testBit k = true)
  | [], s, h => .inl h
  | e :: r, s, h => by
    simp only [bmask] at h
    rcases bmask_spec r _ h with h1 | ⟨e', he, h2⟩
    · split at h1
      · rename_i hb
        simp only [Nat.testBit_or, Bool.or_eq_true] at h1
        rcases h1 with (h1 | h1) | h1
        · exact .inl h1
        · rw [Nat.testBit_two_pow] at h1
          exact .inr ⟨e, by simp, hb, .inl (by simpa using h1)⟩
        · exact .inr ⟨e, by simp, hb, .inr h1⟩
      · exact .inl h1
    · exact .inr ⟨e', by simp [he], h2⟩

theorem befs_len : ∀ (os : List Oper) (acc : List Nat), (befs os acc).length = acc.length + os.length
  | [], acc => by simp [befs]
  | o :: r, acc => by simp [befs, befs_len r]; omega

theorem befs_old : ∀ (os : List Oper) (acc : List Nat) (j : Nat), j < acc.length → (befs os acc)[j]? = acc[j]?
  | [], acc, j, _ => rfl
  | o :: r, acc, j, h => by
    simp only [befs]
    rw [befs_old r _ j (by simp; omega), List.getElem?_append_left h]

/-- What lies behind a bit: an edge that binds, and a bit of its own. -/
theorem befs_spec : ∀ (os : List Oper) (acc : List Nat) (i k : Nat) (o : Oper), os[i]? = some o → (∀ e ∈ o.after, Region.binds .any e = true → e.on < acc.length + i) →
    ((befs os acc).getD (acc.length + i) 0).testBit k = true → ∃ e ∈ o.after, Region.binds .any e = true ∧ (e.on = k ∨ ((befs os acc).getD e.on 0).testBit k = true)
  | [], acc, i, k, o, h, _, _ => by simp at h
  | x :: r, acc, 0, k, o, h, hlt, hb => by
    simp at h
    subst h
    simp only [befs, Nat.add_zero] at hb ⊢
    have h1 : (befs r (acc ++ [bmask acc x.after.toList 0]))[acc.length]? = some (bmask acc x.after.toList 0) := by
      rw [befs_old r _ _ (by simp)]; simp
    rw [List.getD_eq_getElem?_getD, h1] at hb
    rcases bmask_spec x.after.toList 0 hb with h2 | ⟨e, he, h2, h3⟩
    · simp at h2
    · refine ⟨e, by simpa using he, h2, h3.imp id fun h4 => ?_⟩
      have := hlt e (by simpa using he) h2
      rw [List.getD_eq_getElem?_getD, befs_old r _ _ (by simp; omega), List.getElem?_append_left (by omega), ← List.getD_eq_getElem?_getD]
      exact h4
  | x :: r, acc, i + 1, k, o, h, hlt, hb => by
    simp only [befs] at hb ⊢
    have := befs_spec r (acc ++ [bmask acc x.after.toList 0]) i k o (by simpa using h) (fun e he hbi => by have := hlt e he hbi; simp; omega)
    simp only [List.length_append, List.length_cons, List.length_nil] at this
    rw [show acc.length + (0 + 1) + i = acc.length + (i + 1) by omega] at this
    exact this hb

def bef (ops : Array Oper) : List Nat := befs ops.toList []

/-! ### The check of a region, and of what its steps touch -/

def regOk (ops : Array Oper) : Bool :=
  (List.range ops.size).all fun j => match ops[j]? with
    | some o => (o.after.all fun e => !Region.binds .any e || e.on < j) &&
      (List.range j).all fun i => ((bef ops).getD j 0).testBit i || match ops[i]? with
        | some o' => Oper.apart ops o' o
        | none => true
    | none => true

structure TE where
  rb : List Nat
  wb : List Nat
  rh : List Nat
  wh : Option Nat
  new : List Nat
  ment : List Nat
  deriving Inhabited

def LV.names1 : LV → List Nat
  | .sl k _ => [k]
  | .bp n _ => [n]
  | .arr n _ => [n]
  | .mr n => [n]
  | .it n => [n]
  | .cl _ caps => caps.map (·.1)
  | _ => []

def LV.names : LV → List Nat
  | .ag cs => cs.flatMap LV.names1
  | x => x.names1

def BO.names : BO → List Nat
  | .cells _ cs => cs.flatMap LV.names1
  | _ => []

def te (u : Upd) : TE :=
  { rb := u.rb, wb := keys u.wb, rh := u.rh, wh := u.wh.map (·.1), new := u.new
    ment := u.val.names ++ u.wb.flatMap fun x => x.2.names }

def effNone (x : TE) : Bool := x.wb.isEmpty && x.wh.isNone && x.new.isEmpty

def oneWay (x y : TE) : Bool :=
  (x.wb.all fun n => !y.rb.contains n && !y.wb.contains n) &&
  (match x.wh with | some n => !y.rh.contains n && y.wh != some n | none => true) &&
  (x.new.all fun n => !y.ment.contains n)

def indepTE (x y : TE) : Bool := (effNone x && effNone y) || (oneWay x y && oneWay y x)

def chk (ops : Array Oper) (tr : List TE) : Bool :=
  (List.range ops.size).all fun j => (List.range j).all fun i => ((tr.getD j default).new.all fun d => !(tr.getD i default).ment.contains d) &&
    (((bef ops).getD j 0).testBit i || indepTE (tr.getD i default) (tr.getD j default))

theorem men1_names {d : Nat} {v : LV} (h : v.men1 d = true) : d ∈ v.names1 := by
  cases v with
  | cl f caps =>
    simp only [LV.men1, List.any_eq_true] at h
    obtain ⟨c, hc, h⟩ := h
    exact List.mem_map.2 ⟨c, hc, by simpa using h⟩
  | sl k l => have : k = d := by simpa [LV.men1] using h
              simp [LV.names1, this]
  | bp k l => have : k = d := by simpa [LV.men1] using h
              simp [LV.names1, this]
  | arr k l => have : k = d := by simpa [LV.men1] using h
               simp [LV.names1, this]
  | mr k => have : k = d := by simpa [LV.men1] using h
            simp [LV.names1, this]
  | it k => have : k = d := by simpa [LV.men1] using h
            simp [LV.names1, this]
  | _ => simp [LV.men1] at h

theorem men_names {d : Nat} {v : LV} (h : v.men d = true) : d ∈ v.names := by
  cases v with
  | ag cs =>
    simp only [LV.men, List.any_eq_true] at h
    obtain ⟨c, hc, h⟩ := h
    exact List.mem_flatMap.2 ⟨c, hc, men1_names h⟩
  | undef => exact men1_names (v := .undef) h
  | junk => exact men1_names (v := .junk) h
  | pv p => exact men1_names (v := .pv p) h
  | full p => exact men1_names (v := .full p) h
  | sl k p => exact men1_names (v := .sl k p) h
  | bp k p => exact men1_names (v := .bp k p) h
  | arr k p => exact men1_names (v := .arr k p) h
  | mr k => exact men1_names (v := .mr k) h
  | it k => exact men1_names (v := .it k) h
  | cl k p => exact men1_names (v := .cl k p) h
  | tup p => exact men1_names (v := .tup p) h

theorem bo_names {d : Nat} {o : BO} (h : o.men d = true) : d ∈ o.names := by
  cases o with
  | cells r cs =>
    simp only [BO.men, List.any_eq_true] at h
    obtain ⟨c, hc, h⟩ := h
    exact List.mem_flatMap.2 ⟨c, hc, men1_names h⟩
  | _ => simp [BO.men] at h

/-! ### States under a set of operations -/

structure Fs where
  F : Nat → LV
  B : Nat → Option BO
  H : HT

def Fs.app (s : Fs) (dst : Option Nat) (u : Upd) : Fs := ⟨appF s.F dst u, appB s.B u, appH s.H u⟩

theorem app_F (t : Fs) (d : Option Nat) (u : Upd) (s : Nat) : (t.app d u).F s = match d with | some e => if e = s then u.val else t.F s | none => t.F s := by cases d <;> rfl
theorem app_B (t : Fs) (d : Option Nat) (u : Upd) (s : Nat) : (t.app d u).B s = match lk s u.wb with | some o => o.alive | none => t.B s := rfl
theorem app_H (t : Fs) (d : Option Nat) (u : Upd) (s : Nat) : (t.app d u).H s = match u.wh with | some x => if x.1 = s then some x.2 else t.H s | none => t.H s := by
  unfold Fs.app appH
  cases u.wh <;> rfl

def stX (O : Nat → Oper) (U : Nat → Upd) (s0 : Fs) (L : Nat → Bool) : Nat → Fs
  | 0 => s0
  | k + 1 => if L k then (stX O U s0 L k).app (O k).dst (U k) else stX O U s0 L k

theorem up_comm {α : Type} (G : Nat → α) {d e : Nat} (x y : α) (h : d ≠ e) : up (up G d x) e y = up (up G e y) d x := by
  funext s
  simp only [up]
  by_cases h1 : e = s
  · by_cases h2 : d = s
    · exact absurd (h2.trans h1.symm) h
    · simp [h1, h2]
  · simp [h1]

theorem app_comm (s : Fs) {d d' : Option Nat} {u u' : Upd} (h1 : ∀ x, d = some x → d' ≠ some x) (h2 : ∀ n, n ∈ keys u.wb → n ∉ keys u'.wb) (h3 : ∀ x y, u.wh = some x → u'.wh = some y → x.1 ≠ y.1) :
    (s.app d u).app d' u' = (s.app d' u').app d u := by
  unfold Fs.app
  congr 1
  · cases d <;> cases d' <;> simp only [appF]
    rename_i x y
    exact up_comm _ _ _ (fun e => h1 x rfl (by rw [e]))
  · funext n
    simp only [appB]
    cases hb : lk n u.wb <;> cases hb' : lk n u'.wb <;> simp only
    exact absurd (key_lk hb').1 (h2 n (key_lk hb).1)
  · unfold appH
    cases hb : u.wh <;> cases hb' : u'.wh <;> simp only
    exact up_comm _ _ _ (h3 _ _ hb hb')

section
variable {O : Nat → Oper} {U : Nat → Upd} {s0 : Fs}

theorem stX_same {L L' : Nat → Bool} : ∀ {n : Nat}, (∀ i, i < n → L i = L' i) → stX O U s0 L n = stX O U s0 L' n
  | 0, _ => rfl
  | k + 1, h => by
    have ih := stX_same (n := k) fun i hi => h i (by omega)
    simp only [stX, ih, h k (by omega)]

theorem stX_insert {L : Nat → Bool} {j : Nat} (hj : L j = false) : ∀ {n : Nat}, j < n → (∀ i, j < i → i < n → L i = true → (∀ x, (O i).dst = some x → (O j).dst ≠ some x) ∧ (∀ n, n ∈ keys (U i).wb → n ∉ keys (U j).wb) ∧
      (∀ x y, (U i).wh = some x → (U j).wh = some y → x.1 ≠ y.1)) → stX O U s0 (fun i => i == j || L i) n = (stX O U s0 L n).app (O j).dst (U j)
  | 0, h, _ => by omega
  | k + 1, h, hi => by
    by_cases hk : k = j
    · subst hk
      simp only [stX, beq_self_eq_true, Bool.true_or, if_true, hj, Bool.false_eq_true, if_false]
      rw [stX_same (L' := L) fun i hi' => by have : (i == k) = false := by simp; omega
                                             simp [this]]
    · have ih := stX_insert hj (n := k) (by omega) fun i h1 h2 => hi i h1 (by omega)
      have e1 : (k == j) = false := by simp [hk]
      simp only [stX, e1, Bool.false_or]
      rw [ih]
      split
      · rename_i hL
        obtain ⟨h1, h2, h3⟩ := hi k (by omega) (by omega) hL
        exact (app_comm _ h1 h2 h3).symm
      · rfl

theorem stX_F {L L' : Nat → Bool} {s : Nat} : ∀ {n : Nat}, (∀ i, i < n → L i ≠ L' i → (O i).dst ≠ some s) → (stX O U s0 L n).F s = (stX O U s0 L' n).F s
  | 0, _ => rfl
  | k + 1, h => by
    have ih := stX_F (n := k) fun i hi => h i (by omega)
    simp only [stX]
    by_cases he : L k = L' k
    · rw [he]
      split
      · rw [app_F, app_F, ih]
      · exact ih
    · have hd := h k (by omega) he
      have key : ∀ (t : Fs), (t.app (O k).dst (U k)).F s = t.F s := by
        intro t
        rw [app_F]
        split
        · rename_i d hd'
          rw [if_neg]
          rintro rfl
          exact hd hd'
        · rfl
      split <;> split <;> simp only [key, ih]

theorem stX_B {L L' : Nat → Bool} {s : Nat} : ∀ {n : Nat}, (∀ i, i < n → L i ≠ L' i → s ∉ keys (U i).wb) → (stX O U s0 L n).B s = (stX O U s0 L' n).B s
  | 0, _ => rfl
  | k + 1, h => by
    have ih := stX_B (n := k) fun i hi => h i (by omega)
    simp only [stX]
    by_cases he : L k = L' k
    · rw [he]
      split
      · rw [app_B, app_B, ih]
      · exact ih
    · have hd := h k (by omega) he
      have key : ∀ (t : Fs), (t.app (O k).dst (U k)).B s = t.B s := by
        intro t
        rw [app_B]
        split
        · rename_i x hx
          exact absurd (key_lk hx).1 hd
        · rfl
      split <;> split <;> simp only [key, ih]

theorem stX_H {L L' : Nat → Bool} {s : Nat} : ∀ {n : Nat}, (∀ i, i < n → L i ≠ L' i → ∀ x, (U i).wh = some x → x.1 ≠ s) → (stX O U s0 L n).H s = (stX O U s0 L' n).H s
  | 0, _ => rfl
  | k + 1, h => by
    have ih := stX_H (n := k) fun i hi => h i (by omega)
    simp only [stX]
    by_cases he : L k = L' k
    · rw [he]
      split
      · rw [app_H, app_H, ih]
      · exact ih
    · have hd := h k (by omega) he
      have key : ∀ (t : Fs), (t.app (O k).dst (U k)).H s = t.H s := by
        intro t
        rw [app_H]
        split
        · rename_i x hx
          rw [if_neg (hd x hx)]
        · rfl
      split <;> split <;> simp only [key, ih]

/-- What is in no update, and was nowhere at the start, is nowhere. -/
theorem stX_noMen {L : Nat → Bool} {d : Nat} (h0 : NoMen s0.F s0.B d) : ∀ {n : Nat}, (∀ i, i < n → L i = true → d ∉ (te (U i)).ment) → NoMen (stX O U s0 L n).F (stX O U s0 L n).B d
  | 0, _ => h0
  | k + 1, h => by
    have ih := stX_noMen h0 (n := k) fun i hi => h i (by omega)
    simp only [stX]
    split
    · rename_i hL
      have hm := h k (by omega) hL
      simp only [te, List.mem_append, not_or] at hm
      refine ⟨fun s => ?_, fun n xs hn => ?_⟩
      · rw [app_F]
        split
        · split
          · exact Bool.eq_false_iff.2 fun h => hm.1 (men_names h)
          · exact ih.1 s
        · exact ih.1 s
      · rw [app_B] at hn
        split at hn
        · rename_i o ho
          have := alive_some hn
          subst this
          refine Bool.eq_false_iff.2 fun h => hm.2 ?_
          exact List.mem_flatMap.2 ⟨_, (key_lk ho).2, bo_names h⟩
        · exact ih.2 n xs hn
    · exact ih

end

end Go.Am
