import Derived.Test.YtehnhedifhpalaaDoorCvN
set_option linter.unusedVariables false
set_option linter.unusedSimpArgs false
/- Plain facts about working days: how many are ahead of a day; the day that is n working days ahead. No program in sight. -/
namespace Go.Proofs.YtehnhedifhpalaaDoor.Cv

/-- A list of holidays. -/
structure Right (H : List Int) : Prop where
  ord : H.Pairwise (· < ·)
  bd : ∀ d ∈ H, 0 ≤ d ∧ d ≤ 730484

/-- A working day. -/
def wk (H : List Int) (d : Int) : Bool := decide (d % 7 < 5) && !H.contains d

def wdays (d : Int) : Int := d / 7 * 5 + min (d % 7) 5

/-- The holidays that would be working days. -/
def freeOf (H : List Int) : List Int := H.filter fun d => decide (d % 7 < 5)

/-- How many numbers of a list are less than d. -/
def less (F : List Int) (d : Int) : Nat := (F.filter fun h => decide (h < d)).length

def below (H : List Int) (d : Int) : Int := wdays d - less (freeOf H) d

theorem wdays_succ (d : Int) : wdays (d + 1) = wdays d + if d % 7 < 5 then 1 else 0 := by
  unfold wdays
  split <;> omega

theorem less_succ {F : List Int} (hF : F.Pairwise (· < ·)) (d : Int) : less F (d + 1) = less F d + if F.contains d then 1 else 0 := by
  unfold less
  induction F with
  | nil => simp
  | cons a F ih =>
    obtain ⟨h1, h2⟩ := List.pairwise_cons.1 hF
    have ih := ih h2
    by_cases hd : d = a
    · subst hd
      have hn : F.contains d = false := by
        rw [Bool.eq_false_iff]; intro hc
        have := h1 d (by simpa using hc); omega
      rw [hn] at ih
      rw [List.filter_cons_of_pos (by simp; omega), List.filter_cons_of_neg (by simp)]
      simp at ih ⊢; omega
    · have e : (a :: F).contains d = F.contains d := by
        rw [List.contains_cons]; simp [hd]
      rw [e]
      by_cases hc : a < d
      · rw [List.filter_cons_of_pos (by simp; omega), List.filter_cons_of_pos (by simp; omega)]
        simp only [List.length_cons]; omega
      · rw [List.filter_cons_of_neg (by simp; omega), List.filter_cons_of_neg (by simp; omega)]
        exact ih

theorem below_succ {H : List Int} (hH : Right H) (d : Int) : below H (d + 1) = below H d + if wk H d then 1 else 0 := by
  have hF : (freeOf H).Pairwise (· < ·) := List.Pairwise.filter _ hH.ord
  unfold below
  rw [wdays_succ d, less_succ hF]
  have hc : (freeOf H).contains d = (decide (d % 7 < 5) && H.contains d) := by
    rw [Bool.eq_iff_iff]; simp [freeOf, List.mem_filter, and_comm]
  rw [hc]
  unfold wk
  by_cases h5 : d % 7 < 5 <;> cases hh : H.contains d <;> simp [h5] <;> omega

theorem below_zero {H : List Int} (hH : Right H) : below H 0 = 0 := by
  unfold below wdays less
  have : (freeOf H).filter (fun h => decide (h < 0)) = [] := by
    rw [List.filter_eq_nil_iff]
    intro a ha
    have := (hH.bd a (List.mem_filter.1 ha).1).1
    simp; omega
  rw [this]; rfl

/-- Working days ahead of d. -/
theorem below_cnt {H : List Int} (hH : Right H) {a : Int} : ∀ d, a ≤ d → below H d - below H a = cnt (wk H) a d := by
  apply ivl_ind
  · rw [cnt_nil _ (Int.le_refl a)]; omega
  · intro b hb ih
    rw [cnt_succ _ hb, below_succ hH b, ← ih]; omega

/-- The day that is n working days ahead of a, up to the last day. -/
structure IsAhead (p : Int → Bool) (a n d : Int) : Prop where
  ge : a ≤ d
  le : d ≤ 730484
  is : p d = true
  cnt : cnt p a d = n

theorem IsAhead.unique {p : Int → Bool} {a n d e : Int} (h : IsAhead p a n d) (h' : IsAhead p a n e) : d = e := by
  rcases Int.lt_trichotomy d e with k | k | k
  · have h1 := cnt_split p h.ge e (by omega)
    have h2 := cnt_pos_of (p := p) (a := d) (b := e) (Int.le_refl d) k h.is
    have := h.cnt; have := h'.cnt; omega
  · exact k
  · have h1 := cnt_split p h'.ge d (by omega)
    have h2 := cnt_pos_of (p := p) (a := e) (b := d) (Int.le_refl e) k h'.is
    have := h.cnt; have := h'.cnt; omega

/-- The least d behind which there are more than n. -/
theorem ahead_of_least {p : Int → Bool} {a n d : Int} (h0 : 0 ≤ n) (h1 : a ≤ d) (h2 : d ≤ 730484) (h3 : n < cnt p a (d + 1)) (h4 : ∀ e, a ≤ e → e < d → cnt p a (e + 1) ≤ n) : IsAhead p a n d := by
  have h5 : cnt p a d ≤ n := by
    by_cases h : a < d
    · have := h4 (d - 1) (by omega) (by omega)
      rwa [show d - 1 + 1 = d by omega] at this
    · rw [cnt_nil _ (by omega)]; exact h0
  rw [cnt_succ _ h1] at h3
  refine ⟨h1, h2, ?_, ?_⟩
  · cases h : p d with
    | true => rfl
    | false => rw [h] at h3; simp at h3; omega
  · split at h3 <;> omega

/-- There is one exactly if there are more than n. -/
theorem ahead_none {p : Int → Bool} {a n : Int} (h : cnt p a 730485 ≤ n) (d : Int) : ¬ IsAhead p a n d := by
  intro k
  have h1 := cnt_mono_right p (a := a) (b := d + 1) (c := 730485) (by have := k.le; omega)
  rw [cnt_succ _ k.ge, k.cnt, if_pos k.is] at h1
  omega

end Go.Proofs.YtehnhedifhpalaaDoor.Cv
