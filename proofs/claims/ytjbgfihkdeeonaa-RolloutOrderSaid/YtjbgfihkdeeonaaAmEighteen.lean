/- The abstract machine, part 18: a law's contract on pure values gives what its row asks; nothing is assumed of any program. -/
import Derived.Test.YtjbgfihkdeeonaaAmSeventeen
set_option linter.unusedSimpArgs false
set_option linter.unusedVariables false
namespace Go.Am
open Go.RowKit Go.ChangeShapes Go.WideShapes

section
variable {H : Type} {enc : TypeId × Value → H} {P : Program}

/-- What is said of memory alone is so behind the call. -/
theorem post_below {f : Func} {s : ChangeSpec} {apart fresh handsOn again : Bool} {W W' : World} {args : Array Value} {v : Value} {ds gs : List (DataW H)} {before pa pv : List MemPlace}
    (hW : DataW.Whole enc P f.params.toList s.vars apart W args.toList ds gs before)
    (hres : ∀ (b : Nat) (sp : Nat → Bool) (hd : Bool), DataW.TrodAll enc P W' b sp hd f.resultTypes.toList (v.resultList f.resultTypes.size) (s.fn H (ds ++ gs)).results [])
    (hargs : ∀ sp : Nat → Bool, (∀ p ∈ before, sp p.block = true) → DataW.TrodAll enc P W' 0 sp true f.params.toList args.toList (s.fn H (ds ++ gs)).args pa)
    (hvars : ∀ sp : Nat → Bool, (∀ p ∈ before, sp p.block = true) → DataW.TrodVars enc P W' sp s.vars (s.fn H (ds ++ gs)).vars pv)
    (hps : before = pa ++ pv) (hb : Below W.heap.size W W')
    (hok : ∀ (j : Nat) (t : TypeId) (r : Value), f.resultTypes[j]? = some t → (v.resultList f.resultTypes.size)[j]? = some r → Value.okWide P W' .any 0 t r) :
    s.post enc P f apart fresh handsOn again W args v W' := by
  have hlt : ∀ p ∈ before, p.block < W.heap.size := fun p hp => hW.lt p hp
  have hold : ∀ p ∈ before, (fun b => decide (b < W.heap.size)) p.block = true := fun p hp => by simpa using hlt p hp
  refine ⟨ds, gs, before, [], pa, pv, hW, hres _ _ _, hargs _ hold, hvars _ hold, World.keptBut_mono (fun p hp => ⟨hp, ?_⟩) (hb.frame (· ∈ before)), fun _ => ?_⟩
  · rw [hps, List.mem_append] at hp
    exact Or.inr hp
  · obtain ⟨_, _, _, _, _, hz, hn⟩ := hW
    refine ⟨hok, _, _, ([] ++ pa) ++ pv, ⟨[] ++ pa, pv, trodAll_append (hargs _ (fun _ _ => rfl)) (hres _ _ _), hvars _ (fun _ _ => rfl), rfl, ?_, ?_⟩, ?_⟩
    · intro b off hp
      have hin : MemPlace.cell b off ∈ before := by rw [hps]; simpa using hp
      rw [hb.frozen (hlt _ hin)]
      exact hz b off hin
    · intro ha
      have := hn ha
      rw [hps] at this
      simpa using this
    · intro p hp _
      rw [hps]
      simpa using hp

theorem trodAll_stays (hl : laidOutB P = true) {W W' : World} {sp : Nat → Bool} : ∀ {ts : List TypeId} {vs : List Value} {ds : List (DataW H)} {ps : List MemPlace}, (∀ t ∈ ts, P.readableRec t = true ∧ t < P.types.size) →
    DataW.TrodAll enc P W 0 (fun _ => true) true ts vs ds ps → (∀ p ∈ ps, W.sameAt W' p) → (∀ p ∈ ps, sp p.block = true) → DataW.TrodAll enc P W' 0 sp true ts vs ds ps
  | [], vs, ds, ps, _, h, _, _ => by
    obtain ⟨rfl, rfl, rfl⟩ := trodAll_nil h
    exact trodAll_mk0
  | t :: ts, vs, ds, ps, ht, h, hs, hsp => by
    obtain ⟨v, vs', d, ds', p, q, rfl, rfl, rfl, h1, h2⟩ := trodAll_cons h
    exact trodAll_cons_mk (WideElems.Trod_stays hl (ht t (by simp)).1 (ht t (by simp)).2 h1 (fun x hx => hs x (by simp [hx])) fun x hx => hsp x (by simp [hx]))
      (trodAll_stays hl (fun t' h' => ht t' (by simp [h'])) h2 (fun x hx => hs x (by simp [hx])) fun x hx => hsp x (by simp [hx]))

/-- An argument reads as a pure value. -/
theorem arg_rep {G : List TypeId} (hG : okTys P G = true) {W : World} {base : Nat} {t : TypeId} {v : Value} {d : DataW H} {p : List MemPlace} (ht : t ∈ G) (hv : Value.okWide P W .any base t v) (h : DataW.Trod enc P W 0 (fun _ => true) true t v d p) :
    ∃ q, Rep (fun b _ => b < W.heap.size) W v q ∧ HasT P t q.cells ∧ q.one = !P.aggT t := by
  obtain ⟨fuel, h⟩ := h
  obtain ⟨qs, h1, h2, h3⟩ := trod_rep hG fuel t _ _ ht h
  cases ha : P.aggT t with
  | true =>
    have hagg : ∃ cs, v = .agg cs := by
      unfold Program.aggT at ha
      unfold Value.okWide at hv
      split at ha
      · rename_i hu; rw [hu] at hv; obtain ⟨cs, hv, _⟩ := hv; exact ⟨cs, hv⟩
      · rename_i hu; rw [hu] at hv; obtain ⟨cs, hv, _⟩ := hv; exact ⟨cs, hv⟩
      · cases ha
    obtain ⟨cs, rfl⟩ := hagg
    simp only [Value.cells] at h1
    refine ⟨.agg qs, .agg cs qs (by simpa using h1.len) (fun j u hu => ?_) (fun j u c hu hc => ?_), h2, rfl⟩
    · have hj : j < qs.length := by rw [← h1.len]; simpa using (Array.getElem?_eq_some_iff.1 hu).1
      exact (h1.get j u qs[j] (by simpa using hu) (List.getElem?_eq_getElem hj)).1
    · exact (h1.get j u c (by simpa using hu) hc).2
  | false =>
    obtain ⟨q, rfl, hq⟩ := h2.one_ ha
    have hc : v.cells = #[v] := by
      cases v with
      | agg cs =>
        exfalso
        generalize [q] = qs' at h2
        cases h2 with
        | bool _ b hu => simp [Value.okWide, Cell.okWide, Cell.ok, hu] at hv
        | int _ k n hu hw => simp [Value.okWide, Cell.okWide, Cell.ok, hu] at hv
        | str _ s hu hs => simp [Value.okWide, Cell.okWide, Cell.ok, hu] at hv
        | slc _ e l hu hl hg hc he => simp [Value.okWide, Cell.okWide, Cell.ok, hu] at hv
        | struct _ _ _ hu => rw [aggT_struct hu] at ha; cases ha
        | array _ _ _ _ hu => rw [aggT_array hu] at ha; cases ha
      | _ => rfl
    rw [hc] at h1
    refine ⟨q, (h1.get 0 v q (by simp) (by simp)).2, by rw [cells_one hq]; exact h2, by simp [hq]⟩

/-- Arguments of some types. -/
def HasA (P : Program) : List TypeId → List PV → Prop
  | [], [] => True
  | t :: ts, q :: qs => (HasT P t q.cells ∧ q.one = !P.aggT t) ∧ HasA P ts qs
  | _, _ => False

theorem args_rep {G : List TypeId} (hG : okTys P G = true) {W : World} {base : Nat} : ∀ {ts : List TypeId} {vs : List Value} {ds : List (DataW H)} {ps : List MemPlace}, (∀ t ∈ ts, t ∈ G) →
    (∀ (j : Nat) t v, ts[j]? = some t → vs[j]? = some v → Value.okWide P W .any base t v) → DataW.TrodAll enc P W 0 (fun _ => true) true ts vs ds ps →
    ∃ qs, HasA P ts qs ∧ Reps (fun b _ => b < W.heap.size) W vs qs
  | [], vs, ds, ps, _, _, h => by
    obtain ⟨rfl, rfl, rfl⟩ := trodAll_nil h
    exact ⟨[], trivial, rfl, by simp⟩
  | t :: ts, vs, ds, ps, ht, hv, h => by
    obtain ⟨v, vs', d, ds', p, q, rfl, rfl, rfl, h1, h2⟩ := trodAll_cons h
    obtain ⟨q, h3, h4, h5⟩ := arg_rep hG (ht t (by simp)) (hv 0 t v rfl rfl) h1
    obtain ⟨qs, h6, h7, h8⟩ := args_rep hG (fun t' h' => ht t' (by simp [h'])) (fun j t' v' h1 h2 => hv (j + 1) t' v' (by simpa using h1) (by simpa using h2)) h2
    refine ⟨q :: qs, ⟨⟨h4, h5⟩, h6⟩, by simp [h7], fun i u c hu hc => ?_⟩
    cases i with
    | zero => simp at hu hc; subst hu; subst hc; exact h3
    | succ i => simp at hu hc; exact h8 i u c hu hc

/-- A LAW's CONTRACT ON PURE VALUES GIVES WHAT ITS ROW ASKS. -/
theorem law_contract {f : FuncId} {fn : Func} {s : ChangeSpec} {G : List TypeId} {tb : TypeId} (hG : okTys P G = true) (hp : ∀ t ∈ fn.params.toList, t ∈ G) (hl : laidOutB P = true)
    (hr : ∀ t ∈ fn.params.toList, P.readableRec t = true ∧ t < P.types.size) (hres : fn.resultTypes = #[tb]) (htb : P.underlying tb = some .bool) (hv : s.vars = [])
    (hs : ∀ ds : List (DataW H), ds.length = fn.params.size → (s.fn H ds).results = [.lit (.bool true)] ∧ (s.fn H ds).args = ds ∧ (s.fn H ds).vars = [])
    (hgood : ∀ qs : List PV, HasA P fn.params.toList qs → Good P false f qs [.bool true]) {apart fresh handsOn again : Bool}
    (W : World) (base : Nat) (args : Array Value) (ds gs : List (DataW H)) (before : List MemPlace)
    (hval : ∀ (j : Nat) t v, fn.params[j]? = some t → args[j]? = some v → Value.okWide P W .any base t v)
    (hW : DataW.Whole enc P fn.params.toList s.vars apart W args.toList ds gs before) :
    Calls P f args W fun e W' => ∃ v, e = .returned v ∧ s.post enc P fn apart fresh handsOn again W args v W' := by
  have hW' := hW
  obtain ⟨p, q, hA, hV, rfl, hfz, hnd⟩ := hW
  rw [hv] at hV
  obtain ⟨rfl, rfl⟩ := trodVars_none hV
  have hlen : ds.length = fn.params.size := by
    have : ∀ {ts : List TypeId} {vs : List Value} {ds : List (DataW H)} {ps : List MemPlace}, DataW.TrodAll enc P W 0 (fun _ => true) true ts vs ds ps → ds.length = ts.length := by
      intro ts
      induction ts with
      | nil => intro vs ds ps h; obtain ⟨rfl, rfl, rfl⟩ := trodAll_nil h; rfl
      | cons t ts ih => intro vs ds ps h; obtain ⟨v, vs', d, ds', p, q, rfl, rfl, rfl, h1, h2⟩ := trodAll_cons h; simp [ih h2]
    simpa using this hA
  obtain ⟨s1, s2, s3⟩ := hs ds hlen
  obtain ⟨qs, h1, h2⟩ := args_rep hG hp (fun j t v h1 h2 => hval j t v (by simpa using h1) (by simpa using h2)) hA
  have hcall := (hgood qs h1).2 (fun b _ => b < W.heap.size) W args.toList (fun b o h => h) h2
  rw [Array.toArray_toList] at hcall
  refine hcall.mono fun e W' ⟨v, S', he, hres', hb, _, _⟩ => ⟨v, he, ?_⟩
  have hvb : v = .bool true := by
    have : Rep S' W' v (.bool true) := hres'
    cases this; rfl
  subst hvb
  refine post_below (pa := p) (pv := []) hW' ?_ ?_ ?_ rfl hb ?_
  · intro b sp hd
    rw [List.append_nil, s1, hres]
    exact trodAll_mk1 (shut_bool htb true)
  · intro sp hsp
    rw [List.append_nil, s2]
    exact trodAll_stays hl hr hA (fun x hx => hb.same (hW'.lt x (by simp [hx]))) fun x hx => hsp x (by simp [hx])
  · intro sp _
    rw [List.append_nil, s3, hv]
    rfl
  · exact ok_one hres rfl (okWide_bool_mk htb true)

end
end Go.Am
