/- Back: a rollout that is turned back is carried back to its end by reports in any order. Plain Lean; nothing is assumed. -/
import Derived.Test.YtjbgfihkdeeonaaP54
import Derived.Test.YtjbgfihkdeeonaaT23
set_option linter.unusedSimpArgs false
set_option linter.unusedVariables false
open Go Go.Am Go.RowKit
namespace Go.Proofs.Ytjbgfihkdeeonaa

theorem ordStep_perm (b out : List Int) (i : Nat) : (ordStep b out i).Perm ((i : Int) :: out) := by
  unfold ordStep
  simp only [List.append_assoc, List.cons_append, List.nil_append]
  refine List.perm_middle.trans ?_
  rw [List.take_append_drop]
theorem ordF_ok (b : List Int) : ∀ n : Nat, (ordF b n).Nodup ∧ ∀ x ∈ ordF b n, 0 ≤ x ∧ x < n
  | 0 => by simp [ordF]
  | n + 1 => by
    obtain ⟨h1, h2⟩ := ordF_ok b n
    have hp := ordStep_perm b (ordF b n) n
    simp only [ordF]
    refine ⟨hp.nodup_iff.2 (List.nodup_cons.2 ⟨fun h => by have := (h2 _ h).2; omega, h1⟩), fun x hx => ?_⟩
    rcases List.mem_cons.1 (hp.mem_iff.1 hx) with rfl | hx
    · omega
    · have := h2 x hx; omega

theorem filter_len : ∀ {l s : List Int}, l.Nodup → s.Nodup → (∀ x ∈ s, x ∈ l) → (l.filter fun x => !decide (x ∈ s)).length + s.length = l.length
  | l, [], _, _, _ => by simp
  | l, c :: s, hl, hs, hsub => by
    rw [List.nodup_cons] at hs
    have ih := filter_len (l := l) (s := s) hl hs.2 fun x hx => hsub x (by simp [hx])
    have hcl := hsub c (by simp)
    have n1 : (l.filter fun x => !decide (x ∈ c :: s)).Nodup := List.Pairwise.filter _ hl
    have n2 : (l.filter fun x => !decide (x ∈ s)).Nodup := List.Pairwise.filter _ hl
    have le1 := nd_sub (a := c :: l.filter fun x => !decide (x ∈ c :: s)) (b := l.filter fun x => !decide (x ∈ s)) (List.nodup_cons.2 ⟨by simp, n1⟩) fun x hx => by
      rcases List.mem_cons.1 hx with rfl | hx
      · exact List.mem_filter.2 ⟨hcl, by simp [hs.1]⟩
      · have := List.mem_filter.1 hx
        exact List.mem_filter.2 ⟨this.1, by simp at this ⊢; exact this.2.2⟩
    have le2 := nd_sub (a := l.filter fun x => !decide (x ∈ s)) (b := c :: l.filter fun x => !decide (x ∈ c :: s)) n2 fun x hx => by
      have := List.mem_filter.1 hx
      by_cases hxc : x = c
      · simp [hxc]
      · exact List.mem_cons_of_mem _ (List.mem_filter.2 ⟨this.1, by simp [hxc] at this ⊢; exact this.2⟩)
    simp only [List.length_cons] at le1 le2 ⊢
    omega

def chips (r : Roll) (k : Int) : List Int := srt (upl r (k + 1))
structure Bk (r : Roll) (k : Int) (q : Roll) (s : List Int) : Prop where
  vr : VR q
  wv : q.waves = r.waves
  fr : q.fr = r.fr
  ix : q.ix = k
  nd : s.Nodup
  dn : ∀ x, x ∈ q.done ↔ x ∈ s
  sub : ∀ x ∈ s, x ∈ upl r (k + 1)
  st : (q.st = 2 ∧ s.length < (chips r k).length) ∨ (q.st = 4 ∧ s.length = (chips r k).length)
theorem full_of {C s : List Int} (h1 : s.Nodup) (h2 : ∀ x ∈ s, x ∈ C) (h3 : s.length = C.length) : ∀ x ∈ C, x ∈ s := by
  intro x hx
  apply Classical.byContradiction
  intro hn
  have := nd_sub (a := x :: s) (b := C) (List.nodup_cons.2 ⟨hn, h1⟩) fun y hy => by
    rcases List.mem_cons.1 hy with rfl | hy
    · exact hx
    · exact h2 y hy
  simp only [List.length_cons] at this
  omega
theorem Bk.c_sub {r q : Roll} {k : Int} {s : List Int} (h : Bk r k q s) : ∀ x ∈ s, x ∈ chips r k := fun x hx => mem_srt.2 (h.sub x hx)
theorem Bk.fin {r q : Roll} {k : Int} {s : List Int} (h : Bk r k q s) (hl : s.length = (chips r k).length) : q.st = 4 ∧ q.done = chips r k := by
  refine ⟨?_, inc_ext h.vr.inc (inc_srt _) fun x => ?_⟩
  · rcases h.st with h | h
    · omega
    · exact h.1
  · rw [h.dn]; exact ⟨h.c_sub x, full_of h.nd h.c_sub hl x⟩
theorem Bk.ready {r q : Roll} {k : Int} {s : List Int} (h : Bk r k q s) : (readyF q).length + s.length = (chips r k).length := by
  rcases h.st with ⟨h2, _⟩ | ⟨h4, hl⟩
  · have e : readyF q = (chips r k).filter fun x => !decide (x ∈ s) := by
      unfold readyF chips
      rw [if_pos (.inr h2), h.ix, upl_congr h.wv]
      exact List.filter_congr fun x _ => by rw [decide_eq_decide.2 (h.dn x)]
    rw [e]
    exact filter_len (inc_nodup (inc_srt _)) h.nd h.c_sub
  · have e : readyF q = [] := by simp [readyF, h4]
    rw [e]; simpa using hl
theorem Bk.idle {r q : Roll} {k : Int} {s : List Int} (h : Bk r k q s) {c : Int} (hc : c ∈ chips r k) : seeF q ⟨c, r.fr, 0, false, false⟩ = (q, 0) := by
  have hcw : c ∈ q.waves.flatten := by rw [h.wv]; exact upl_sub _ (mem_srt.1 hc)
  rw [see_good (see_ok.2 ⟨hcw, .inl h.fr.symm⟩)]
  congr 1
  split
  · rcases h.st with h | h <;> omega
  · split
    · unfold turnedF; rw [if_neg (by simp)]
    · rfl
theorem Bk.step {r q : Roll} {k : Int} {s : List Int} (h : Bk r k q s) (hk : 0 ≤ k) (hl : s.length < (chips r k).length) {c : Int} (hc : c ∈ chips r k) (hcs : c ∉ s) :
    (seeF q ⟨c, r.fr, 0, false, true⟩).2 = 0 ∧ Bk r k (seeF q ⟨c, r.fr, 0, false, true⟩).1 (s ++ [c]) ∧ c ∉ readyF (seeF q ⟨c, r.fr, 0, false, true⟩).1 := by
  have hs : q.st = 2 := by rcases h.st with h | h; exact h.1; omega
  have hcu := mem_srt.1 hc
  have hcw : c ∈ q.waves.flatten := by rw [h.wv]; exact upl_sub _ hcu
  have hok : (seeF q ⟨c, r.fr, 0, false, true⟩).2 = 0 := see_ok.2 ⟨hcw, .inl h.fr.symm⟩
  have hv := see_valid h.vr hok
  have hwv : Go.Proofs.Ytjbgfihkdeeonaa.wv q c ≤ q.ix := by
    rw [h.ix]
    exact (wv_le hk hcw).2 (by rw [upl_congr h.wv]; exact hcu)
  have ht : turnedF q ⟨c, r.fr, 0, false, true⟩ = if hasAll (put q.done c) (upl q (q.ix + 1)) then { q with done := put q.done c, st := 4 } else { q with done := put q.done c } := by
    unfold turnedF
    rw [if_pos ⟨h.fr.symm, rfl, hwv⟩]
  rw [see_good hok, if_neg (by omega), if_pos hs, ht] at hv ⊢
  have hdn : ∀ x, x ∈ put q.done c ↔ x ∈ s ++ [c] := by intro x; rw [mem_put, h.dn]; simp
  have hnd : (s ++ [c]).Nodup := by
    rw [List.nodup_append]
    exact ⟨h.nd, by simp, fun x hx y hy => by simp at hy; subst hy; exact fun e => hcs (e ▸ hx)⟩
  have hsub : ∀ x ∈ s ++ [c], x ∈ upl r (k + 1) := by
    intro x hx
    rcases List.mem_append.1 hx with hx | hx
    · exact h.sub x hx
    · simp at hx; subst hx; exact hcu
  have hcsub : ∀ x ∈ s ++ [c], x ∈ chips r k := fun x hx => mem_srt.2 (hsub x hx)
  have hle := nd_sub hnd hcsub
  refine ⟨rfl, ?_, ?_⟩
  · by_cases hall : hasAll (put q.done c) (upl q (q.ix + 1)) = true
    · simp only [if_pos hall] at hv ⊢
      refine ⟨hv, h.wv, h.fr, h.ix, hnd, hdn, hsub, .inr ⟨rfl, ?_⟩⟩
      rw [hasAll_iff, h.ix, upl_congr h.wv] at hall
      have := nd_sub (a := chips r k) (b := s ++ [c]) (inc_nodup (inc_srt _)) fun x hx => (hdn x).1 (hall x (mem_srt.1 hx))
      omega
    · simp only [if_neg hall] at hv ⊢
      refine ⟨hv, h.wv, h.fr, h.ix, hnd, hdn, hsub, .inl ⟨hs, ?_⟩⟩
      rw [hasAll_iff, h.ix, upl_congr h.wv] at hall
      rcases Nat.lt_or_ge (s ++ [c]).length (chips r k).length with hlt | hge
      · exact hlt
      · exact absurd (fun x hx => (hdn x).2 (full_of hnd hcsub (by omega) x (mem_srt.2 hx))) hall
  · intro hr
    refine (mem_ready.1 hr).2.2 ?_
    simp only
    split <;> exact mem_put.2 (.inr rfl)
theorem back_start {r : Roll} (h : VR r) (he : (backF r).2 = 0) : ∃ k : Int, 0 ≤ k ∧ k < r.waves.length ∧ k = (if (r.waves.length : Int) - 1 < r.ix then (r.waves.length : Int) - 1 else r.ix) ∧ Bk r k (backF r).1 [] ∧ (backF r).1.st = 2 ∧ readyF (backF r).1 = chips r k := by
  have hv := back_valid h he
  unfold backF at he hv ⊢
  by_cases hs : r.st = 2 ∨ r.st = 4
  · rw [if_pos hs] at he; simp at he
  · rw [if_neg hs] at hv ⊢
    have hix := hv.ix (by simp)
    simp only at hix
    refine ⟨_, hix.1, hix.2, rfl, ?_⟩
    have hne := ready_ne hv (.inr rfl)
    have hr : readyF { r with st := 2, done := [], ix := if (r.waves.length : Int) - 1 < r.ix then (r.waves.length : Int) - 1 else r.ix } = chips r (if (r.waves.length : Int) - 1 < r.ix then (r.waves.length : Int) - 1 else r.ix) := by
      unfold readyF chips
      rw [if_pos (.inr rfl)]
      simp [upl]
    refine ⟨⟨hv, rfl, rfl, rfl, by simp, fun x => Iff.rfl, by simp, .inl ⟨rfl, ?_⟩⟩, rfl, hr⟩
    rw [hr] at hne
    exact List.length_pos_iff.2 hne

def pickF (C : List Int) (z : Int) : Int := C.getD z.toNat 0
theorem pickF_get {C : List Int} {z : Int} (h0 : 0 ≤ z) (h : z < C.length) : ∃ hz : z.toNat < C.length, pickF C z = C[z.toNat] := by
  have hz : z.toNat < C.length := by omega
  refine ⟨hz, ?_⟩
  unfold pickF
  rw [List.getD_eq_getElem?_getD, List.getElem?_eq_getElem hz, Option.getD_some]
theorem sent_step {C O : List Int} (hC : C.Nodup) (hO : O.Nodup) (hr : ∀ x ∈ O, 0 ≤ x ∧ x < C.length) {i : Nat} (hi : i < O.length) :
    pickF C O[i] ∈ C ∧ pickF C O[i] ∉ (O.take i).map (pickF C) ∧ (O.take (i + 1)).map (pickF C) = (O.take i).map (pickF C) ++ [pickF C O[i]] := by
  have ho := hr _ (List.getElem_mem hi)
  obtain ⟨hz, hp⟩ := pickF_get (C := C) ho.1 ho.2
  refine ⟨hp ▸ List.getElem_mem hz, ?_, ?_⟩
  · intro hm
    obtain ⟨z, hzm, hze⟩ := List.mem_map.1 hm
    have hzO := List.mem_of_mem_take hzm
    obtain ⟨h1, h2⟩ := hr z hzO
    obtain ⟨hz', hp'⟩ := pickF_get (C := C) h1 h2
    rw [hp, hp'] at hze
    have e : z.toNat = O[i].toNat := (List.getElem_inj hC).1 hze
    have e2 : z = O[i] := by omega
    obtain ⟨j, hj, hje⟩ := List.getElem_of_mem hzm
    rw [List.getElem_take] at hje
    have hjl : j < i := by rw [List.length_take] at hj; omega
    have e3 : j = i := (List.getElem_inj hO).1 (hje.trans e2)
    omega
  · rw [List.take_succ_eq_append_getElem hi, List.map_append]; rfl

end Go.Proofs.Ytjbgfihkdeeonaa
