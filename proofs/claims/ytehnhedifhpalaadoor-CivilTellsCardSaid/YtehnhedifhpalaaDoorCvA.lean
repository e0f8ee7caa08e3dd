/- Plain facts about dates: days of years and of months; a day has one date. No program in sight. -/
set_option linter.unusedVariables false
set_option linter.unusedSimpArgs false
namespace Go.Proofs.YtehnhedifhpalaaDoor.Cv

def leap (y : Int) : Prop := y % 4 = 0 ∧ (y % 100 ≠ 0 ∨ y % 400 = 0)
instance (y : Int) : Decidable (leap y) := by unfold leap; infer_instance

/-- 1 in a leap year, else 0. -/
def lp (y : Int) : Int := if leap y then 1 else 0

theorem lp_01 (y : Int) : 0 ≤ lp y ∧ lp y ≤ 1 := by unfold lp; split <;> omega

/-- Days ahead of a year, counted from 2001 on. -/
def ys (y : Int) : Int := 365 * (y - 1) + (y - 1) / 4 - (y - 1) / 100 + (y - 1) / 400 - 730485

theorem ys_succ (y : Int) : ys (y + 1) = ys y + 365 + lp y := by
  unfold lp
  by_cases h : leap y
  · rw [if_pos h]; unfold leap at h; unfold ys; omega
  · rw [if_neg h]; unfold leap at h; unfold ys; omega

theorem ys_2001 : ys 2001 = 0 := by decide
theorem ys_4001 : ys 4001 = 730485 := by decide

theorem ys_mono {a b : Int} (h : a ≤ b) : ys a + 365 * (b - a) ≤ ys b := by
  obtain ⟨n, rfl⟩ : ∃ n : Nat, b = a + n := ⟨(b - a).toNat, by omega⟩
  clear h
  induction n with
  | zero => simp
  | succ n ih =>
    have h1 := ys_succ (a + n)
    have h2 := (lp_01 (a + n)).1
    rw [show a + ((n + 1 : Nat) : Int) = a + n + 1 by omega]
    omega

/-- Days of a year without a leap day ahead of a month (1 to 13). -/
def ah (m : Int) : Int := [0, 31, 59, 90, 120, 151, 181, 212, 243, 273, 304, 334, 365].getD (m - 1).toNat 0

/-- Days of a year ahead of a month. -/
def fst (y m : Int) : Int := ah m + if 2 < m then lp y else 0

/-- How many days a month has. -/
def mlen (y m : Int) : Int := fst y (m + 1) - fst y m

theorem month_cases {m : Int} (h1 : 1 ≤ m) (h2 : m ≤ 12) : m = 1 ∨ m = 2 ∨ m = 3 ∨ m = 4 ∨ m = 5 ∨ m = 6 ∨ m = 7 ∨ m = 8 ∨ m = 9 ∨ m = 10 ∨ m = 11 ∨ m = 12 := by omega

theorem ah_1 : ah 1 = 0 := by decide
theorem ah_13 : ah 13 = 365 := by decide

theorem mlen_bd (y : Int) {m : Int} (h1 : 1 ≤ m) (h2 : m ≤ 12) : 28 ≤ mlen y m ∧ mlen y m ≤ 31 := by
  have := lp_01 y
  rcases month_cases h1 h2 with rfl | rfl | rfl | rfl | rfl | rfl | rfl | rfl | rfl | rfl | rfl | rfl <;>
    simp [mlen, fst, ah] <;> omega

theorem fst_1 (y : Int) : fst y 1 = 0 := by simp [fst, ah]
theorem fst_13 (y : Int) : fst y 13 = 365 + lp y := by simp [fst, ah]

theorem fst_bd (y : Int) {m : Int} (h1 : 1 ≤ m) (h2 : m ≤ 13) : 0 ≤ fst y m ∧ fst y m ≤ 366 := by
  have := lp_01 y
  rcases (show m = 13 ∨ m ≤ 12 by omega) with rfl | h3
  · rw [fst_13]; omega
  · rcases month_cases h1 h3 with rfl | rfl | rfl | rfl | rfl | rfl | rfl | rfl | rfl | rfl | rfl | rfl <;>
      simp [fst, ah] <;> omega

theorem fst_succ (y m : Int) : fst y (m + 1) = fst y m + mlen y m := by unfold mlen; omega

theorem fst_mono (y : Int) {a b : Int} (h1 : 1 ≤ a) (hab : a ≤ b) (h2 : b ≤ 13) : fst y a ≤ fst y b := by
  obtain ⟨n, rfl⟩ : ∃ n : Nat, b = a + n := ⟨(b - a).toNat, by omega⟩
  clear hab
  induction n with
  | zero => simp
  | succ n ih =>
    have h3 := ih (by omega)
    have h4 := fst_succ y (a + n)
    have h5 := (mlen_bd y (m := a + n) (by omega) (by omega)).1
    rw [show a + ((n + 1 : Nat) : Int) = a + n + 1 by omega]
    omega

/-- Three numbers are a date. -/
structure IsDate (y m d : Int) : Prop where
  y1 : 2001 ≤ y
  y2 : y ≤ 4000
  m1 : 1 ≤ m
  m2 : m ≤ 12
  d1 : 1 ≤ d
  d2 : d ≤ mlen y m

instance (y m d : Int) : Decidable (IsDate y m d) :=
  decidable_of_iff (2001 ≤ y ∧ y ≤ 4000 ∧ 1 ≤ m ∧ m ≤ 12 ∧ 1 ≤ d ∧ d ≤ mlen y m)
    ⟨fun ⟨a, b, c, e, f, g⟩ => ⟨a, b, c, e, f, g⟩, fun h => ⟨h.y1, h.y2, h.m1, h.m2, h.d1, h.d2⟩⟩

/-- The day of a date. -/
def dayOf (y m d : Int) : Int := ys y + fst y m + d - 1

theorem dayOf_bd {y m d : Int} (h : IsDate y m d) : ys y ≤ dayOf y m d ∧ dayOf y m d < ys (y + 1) ∧ 0 ≤ dayOf y m d ∧ dayOf y m d ≤ 730484 := by
  have e1 := ys_mono h.y1
  have e2 := ys_mono (show y + 1 ≤ 4001 by have := h.y2; omega)
  rw [ys_2001] at e1
  rw [ys_4001] at e2
  have e3 := ys_succ y
  have e4 := fst_succ y m
  have e5 := fst_mono y (a := m + 1) (b := 13) (by have := h.m1; omega) (by have := h.m2; omega) (by omega)
  have e6 := fst_13 y
  have e7 := (fst_bd y h.m1 (by have := h.m2; omega)).1
  have := h.d1; have := h.d2; have := h.y1; have := h.y2
  unfold dayOf
  omega

/-- A day has one date. -/
theorem dayOf_inj {y m d z n e : Int} (h : IsDate y m d) (h' : IsDate z n e) (he : dayOf y m d = dayOf z n e) : y = z ∧ m = n ∧ d = e := by
  have b1 := dayOf_bd h
  have b2 := dayOf_bd h'
  have hy : y = z := by
    rcases Int.lt_trichotomy y z with h1 | h1 | h1
    · have := ys_mono (show y + 1 ≤ z by omega); omega
    · exact h1
    · have := ys_mono (show z + 1 ≤ y by omega); omega
  subst hy
  have hm : m = n := by
    have := h.m1; have := h.m2; have := h'.m1; have := h'.m2
    have := h.d1; have := h.d2; have := h'.d1; have := h'.d2
    have s1 := fst_succ y m
    have s2 := fst_succ y n
    unfold dayOf at he
    rcases Int.lt_trichotomy m n with h1 | h1 | h1
    · have := fst_mono y (a := m + 1) (b := n) (by omega) (by omega) (by omega); omega
    · exact h1
    · have := fst_mono y (a := n + 1) (b := m) (by omega) (by omega) (by omega); omega
  subst hm
  unfold dayOf at he
  omega

/-! ### the program's way from a day to its year -/

/-- Years: by cycles of 400, 100, 4 years, and one year. -/
theorem year_of {day q r h s f t o u : Int} (hq : day = 146097 * q + r) (hr0 : 0 ≤ r) (hr : r < 146097)
    (hh : h = min (r / 36524) 3) (hs : s = r - h * 36524) (hf : f = s / 1461) (ht : t = s - f * 1461) (ho : o = min (t / 365) 3) (hu : u = t - o * 365) :
    ys (2001 + 400 * q + (100 * h + 4 * f + o)) + u = day ∧ 0 ≤ u ∧ u < 365 + lp (2001 + 400 * q + (100 * h + 4 * f + o)) := by
  have h1 : 0 ≤ h ∧ h ≤ 3 := by omega
  have h2 : 0 ≤ s ∧ s ≤ 36524 ∧ (h < 3 → s < 36524) := by omega
  have h3 : 0 ≤ f ∧ f ≤ 24 := by omega
  have h4 : 0 ≤ t ∧ t < 1461 := by omega
  have h5 : 0 ≤ o ∧ o ≤ 3 := by omega
  have h6 : 0 ≤ u ∧ u ≤ 365 ∧ (o < 3 → u < 365) := by omega
  have hy : ys (2001 + 400 * q + (100 * h + 4 * f + o)) = 146097 * q + 36524 * h + 1461 * f + 365 * o := by
    unfold ys
    have d4 : (2001 + 400 * q + (100 * h + 4 * f + o) - 1) / 4 = 500 + 100 * q + 25 * h + f := by omega
    have d100 : (2001 + 400 * q + (100 * h + 4 * f + o) - 1) / 100 = 20 + 4 * q + h := by omega
    have d400 : (2001 + 400 * q + (100 * h + 4 * f + o) - 1) / 400 = 5 + q := by omega
    rw [d4, d100, d400]; omega
  refine ⟨by rw [hy]; omega, h6.1, ?_⟩
  by_cases hu' : u < 365
  · have := (lp_01 (2001 + 400 * q + (100 * h + 4 * f + o))).1; omega
  · have ho3 : o = 3 := by omega
    have hl : leap (2001 + 400 * q + (100 * h + 4 * f + o)) := by
      unfold leap
      refine ⟨by omega, ?_⟩
      by_cases hf24 : f = 24
      · right
        have : h = 3 := by omega
        omega
      · left; omega
    unfold lp
    rw [if_pos hl]; omega

/-- 400 years later. -/
theorem lp_400 (y : Int) : lp (y + 400) = lp y := by
  have : leap (y + 400) ↔ leap y := by unfold leap; omega
  unfold lp
  by_cases h : leap y
  · rw [if_pos h, if_pos (this.2 h)]
  · rw [if_neg h, if_neg (fun hc => h (this.1 hc))]

theorem ys_400 (y : Int) : ys (y + 400) = ys y + 146097 := by unfold ys; omega

theorem fst_400 (y m : Int) : fst (y + 400) m = fst y m := by unfold fst; rw [lp_400]

theorem mlen_400 (y m : Int) : mlen (y + 400) m = mlen y m := by unfold mlen; rw [fst_400, fst_400]

/-- Each day has a date. -/
theorem date_exists {day y u : Int} (h0 : 0 ≤ day) (h1 : day ≤ 730484) (hy : ys y + u = day) (hu0 : 0 ≤ u) (hu : u < 365 + lp y) :
    2001 ≤ y ∧ y ≤ 4000 := by
  have hs := ys_succ y
  constructor
  · refine Classical.byContradiction fun hc => ?_
    have := ys_mono (show y + 1 ≤ 2001 by omega)
    rw [ys_2001] at this; omega
  · refine Classical.byContradiction fun hc => ?_
    have := ys_mono (show 4001 ≤ y by omega)
    rw [ys_4001] at this; omega

/-- The month that a day of the year lies in. -/
theorem month_of {y u m : Int} (h1 : 1 ≤ m) (h2 : m ≤ 12) (hlo : fst y m ≤ u) (hhi : u < fst y (m + 1)) (hy1 : 2001 ≤ y) (hy2 : y ≤ 4000) :
    IsDate y m (u - fst y m + 1) ∧ dayOf y m (u - fst y m + 1) = ys y + u := by
  refine ⟨⟨hy1, hy2, h1, h2, by omega, by unfold mlen; omega⟩, by unfold dayOf; omega⟩

end Go.Proofs.YtehnhedifhpalaaDoor.Cv
