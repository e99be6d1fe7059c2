/- Plain facts on the generated rollouts; no program in sight. -/
import Derived.Test.YtjbgfihkdeeonaaP52
set_option linter.unusedSimpArgs false
set_option linter.unusedVariables false
namespace Go.Proofs.Ytjbgfihkdeeonaa

structure Step51 where
  kind : Int
  chip : Int
  slack : Int
  same : Bool
  runs : Bool
  nw : Bool
structure Raw51 where
  waves : List Int
  slack : Int
  steps : List Step51

def waveStep (s : List Int × List (List Int)) (b : Int) : List Int × List (List Int) :=
  if b % 12 ∈ s.1 then s
  else (s.1 ++ [b % 12], if 128 ≤ b ∧ s.2 ≠ [] then s.2.dropLast ++ [s.2.getLastD [] ++ [b % 12]] else s.2 ++ [[b % 12]])
def wavesOf (l : List Int) : List Int × List (List Int) := l.foldl waveStep ([], [])
def orWaves (W : List (List Int)) : List (List Int) := if W = [] then [[0, 5]] else W
def startF (x : Raw51) : Roll := ⟨3, 4, orWaves (wavesOf (x.waves.take 10)).2, x.slack % 8, 0, [], 0⟩

structure WaveInv (s : List Int × List (List Int)) : Prop where
  flat : s.2.flatten = s.1
  nd : s.1.Nodup
  rng : ∀ c ∈ s.1, 0 ≤ c ∧ c < 12
  ne : ∀ w ∈ s.2, w ≠ []
theorem waveStep_inv {s : List Int × List (List Int)} (h : WaveInv s) (b : Int) : WaveInv (waveStep s b) ∧ (waveStep s b).2.length ≤ s.2.length + 1 := by
  unfold waveStep
  split
  · exact ⟨h, by omega⟩
  · rename_i hn
    have hnd : (s.1 ++ [b % 12]).Nodup := by
      refine List.nodup_append.2 ⟨h.nd, by simp, ?_⟩
      intro a ha c hc
      simp only [List.mem_singleton] at hc
      subst hc
      rintro rfl
      exact hn ha
    have hrng : ∀ c ∈ s.1 ++ [b % 12], 0 ≤ c ∧ c < 12 := by
      intro c hc
      rcases List.mem_append.1 hc with hc | hc
      · exact h.rng c hc
      · simp only [List.mem_singleton] at hc; omega
    split
    · rename_i hb
      have e : s.2 = s.2.dropLast ++ [s.2.getLastD []] := by
        rw [List.getLastD_eq_getLast?, List.getLast?_eq_some_getLast hb.2]
        exact (List.dropLast_concat_getLast hb.2).symm
      refine ⟨⟨?_, hnd, hrng, ?_⟩, ?_⟩
      · have := h.flat
        rw [e] at this
        simp only [List.flatten_append, List.flatten_cons, List.flatten_nil, List.append_nil] at this
        simp only [List.flatten_append, List.flatten_cons, List.flatten_nil, List.append_nil, ← List.append_assoc, this]
      · intro w hw
        rcases List.mem_append.1 hw with hw | hw
        · exact h.ne w (List.dropLast_subset _ hw)
        · simp only [List.mem_singleton] at hw; subst hw; simp
      · simp only [List.length_append, List.length_dropLast, List.length_cons, List.length_nil]
        have : 0 < s.2.length := List.length_pos_iff.2 hb.2
        omega
    · refine ⟨⟨?_, hnd, hrng, ?_⟩, by simp⟩
      · simp [h.flat]
      · intro w hw
        rcases List.mem_append.1 hw with hw | hw
        · exact h.ne w hw
        · simp only [List.mem_singleton] at hw; subst hw; simp
theorem wavesOf_inv : ∀ (l : List Int) (s : List Int × List (List Int)), WaveInv s → WaveInv (l.foldl waveStep s) ∧ (l.foldl waveStep s).2.length ≤ s.2.length + l.length := by
  intro l
  induction l with
  | nil => intro s h; exact ⟨h, by simp⟩
  | cons b r ih =>
    intro s h
    obtain ⟨h1, h2⟩ := waveStep_inv h b
    obtain ⟨h3, h4⟩ := ih _ h1
    exact ⟨h3, by simp only [List.foldl_cons, List.length_cons]; omega⟩
theorem wavesOf_ok (l : List Int) : WaveInv (wavesOf l) ∧ (wavesOf l).2.length ≤ l.length := by
  have := wavesOf_inv l ([], []) ⟨rfl, by simp, by simp, by simp⟩
  simpa [wavesOf] using this
theorem wv_orWaves (l : List Int) : Wv (orWaves (wavesOf (l.take 10)).2) := by
  obtain ⟨h, hl⟩ := wavesOf_ok (l.take 10)
  have hl' : (wavesOf (l.take 10)).2.length ≤ 10 := by simp only [List.length_take] at hl; omega
  unfold orWaves
  split
  · exact ⟨by decide, by decide, by decide, by decide⟩
  · rename_i hne
    refine ⟨⟨List.length_pos_iff.2 hne, by omega⟩, h.ne, ?_, ?_⟩
    · intro c hc; rw [h.flat] at hc; have := h.rng c hc; omega
    · rw [h.flat]; exact h.nd
theorem start_valid (x : Raw51) : VR (startF x) := by
  have hw := wv_orWaves x.waves
  refine ⟨by show (1 : Int) ≤ 3; decide, by show (1 : Int) ≤ 4; decide, by show (3 : Int) ≠ 4; decide, ?_, hw, by simp [startF, Inc], .inl rfl, fun h => by simp [startF] at h, fun _ => ?_, fun _ x hx => by simp [startF] at hx, fun h => by simp [startF] at h, fun _ _ hh => ?_, fun _ x hx => by simp [startF, upl] at hx⟩
  · show 0 ≤ x.slack % 8; omega
  · have := hw.len
    show (0 : Int) ≤ 0 ∧ (0 : Int) < (orWaves (wavesOf (x.waves.take 10)).2).length
    omega
  · obtain ⟨y, hy, _⟩ := next_wave (r := startF x) (k := 0) hw (by omega) (by have := hw.len; show (0 : Int) < (orWaves (wavesOf (x.waves.take 10)).2).length; omega)
    exact absurd (hh y hy) (by simp [startF])

/-- A report of a step. -/
def allF (r : Roll) : List Int := srt r.waves.flatten
def reportF (r : Roll) (s : Step51) : Rep51 :=
  { chip := if 64 ≤ s.chip then (allF r).getD (s.chip % (allF r).length).toNat 0 else s.chip % 13
    no := if s.kind % 16 = 15 then s.slack else if s.nw then r.to else r.fr
    slack := s.slack % 12, same := s.same, runs := s.runs }
def orKeep (r : Roll) (g : Roll × Int) : Roll := if g.2 = 0 then g.1 else r
def nextF (r : Roll) (s : Step51) : Roll :=
  if s.kind % 8 = 0 then orKeep r (resumeF r)
  else if s.kind % 8 = 1 then (if 0 < s.kind % 3 then r else orKeep r (backF r))
  else orKeep r (seeF r (reportF r s))
def madeF (x : Raw51) : Roll := (x.steps.take 24).foldl nextF (startF x)

theorem next_valid {r : Roll} (h : VR r) (s : Step51) : VR (nextF r s) := by
  unfold nextF orKeep
  split
  · split
    · exact resume_valid h (by assumption)
    · exact h
  · split
    · split
      · exact h
      · split
        · exact back_valid h (by assumption)
        · exact h
    · split
      · exact see_valid h (by assumption)
      · exact h
theorem foldl_next_valid (l : List Step51) : ∀ {r : Roll}, VR r → VR (l.foldl nextF r) := by
  induction l with
  | nil => intro r h; exact h
  | cons s l ih => intro r h; exact ih (next_valid h s)
theorem made_valid (x : Raw51) : VR (madeF x) := foldl_next_valid _ (start_valid x)

/-- The waves stay what they are. -/
theorem active_waves (r : Roll) (p : Rep51) : (activeF r p).waves = r.waves ∧ (activeF r p).fr = r.fr ∧ (activeF r p).to = r.to ∧ (activeF r p).slack = r.slack := by
  unfold activeF
  split
  · split <;> exact ⟨rfl, rfl, rfl, rfl⟩
  · split
    · exact ⟨rfl, rfl, rfl, rfl⟩
    · simp only; split <;> exact ⟨rfl, rfl, rfl, rfl⟩
theorem turned_waves (r : Roll) (p : Rep51) : (turnedF r p).waves = r.waves ∧ (turnedF r p).fr = r.fr ∧ (turnedF r p).to = r.to ∧ (turnedF r p).slack = r.slack := by
  unfold turnedF
  split
  · simp only; split <;> exact ⟨rfl, rfl, rfl, rfl⟩
  · exact ⟨rfl, rfl, rfl, rfl⟩

theorem allF_len {r : Roll} (h : VR r) : 0 < (allF r).length ∧ (allF r).length ≤ 64 := by
  have hw := h.wv
  constructor
  · rw [allF, srt_len hw.nd]
    obtain ⟨x, hx, _⟩ := next_wave (r := r) (k := 0) hw (by omega) (by have := hw.len; omega)
    exact List.length_pos_of_mem (upl_sub x hx)
  · have h1 : ∀ (n : Nat) (l : List Int), Inc l → (∀ x ∈ l, 64 - (n : Int) ≤ x ∧ x < 64) → l.length ≤ n := by
      intro n
      induction n with
      | zero =>
        intro l hl hr
        cases l with
        | nil => simp
        | cons a l => have := hr a (by simp); omega
      | succ n ih =>
        intro l hl hr
        cases l with
        | nil => simp
        | cons a l =>
          simp only [Inc, List.pairwise_cons] at hl
          have := ih l hl.2 fun x hx => by
            have := hl.1 x hx
            have := hr a (by simp)
            have := hr x (by simp [hx])
            omega
          simp only [List.length_cons]; omega
    exact h1 64 _ (inc_srt _) fun x hx => by have := hw.rng x (mem_srt.1 hx); omega

end Go.Proofs.Ytjbgfihkdeeonaa
