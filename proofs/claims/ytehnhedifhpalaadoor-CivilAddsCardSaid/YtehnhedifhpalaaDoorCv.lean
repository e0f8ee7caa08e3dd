/- Plain facts about counting; no program in sight. Plain facts about dates: days of years and of months; a day has one date. No program in sight. Plain facts about working days: how many are ahead of a day; the day that is n working days ahead. No program in sight. Plain facts about digits: numbers written with a fixed number of places, and read again; their order. No program in sight. -/
set_option linter.unusedVariables false
set_option linter.unusedSimpArgs false
namespace Go.Proofs.YtehnhedifhpalaaDoor.Cv

/-! ### counting -/

/-- How many of the n numbers from a on have p. -/
def cntN (p : Int → Bool) (a : Int) : Nat → Nat
  | 0 => 0
  | n + 1 => cntN p a n + if p (a + n) then 1 else 0

/-- How many numbers from a on, less than b, have p. -/
def cnt (p : Int → Bool) (a b : Int) : Int := (cntN p a (b - a).toNat : Int)

theorem cnt_nil (p : Int → Bool) {a b : Int} (h : b ≤ a) : cnt p a b = 0 := by
  unfold cnt
  rw [show (b - a).toNat = 0 by omega]
  rfl

theorem cnt_succ (p : Int → Bool) {a b : Int} (h : a ≤ b) : cnt p a (b + 1) = cnt p a b + if p b then 1 else 0 := by
  unfold cnt
  rw [show (b + 1 - a).toNat = (b - a).toNat + 1 by omega]
  simp only [cntN]
  rw [show a + ((b - a).toNat : Int) = b by omega]
  split <;> simp

/-- Induction over intervals. -/
theorem ivl_ind {P : Int → Prop} (a : Int) (h0 : P a) (hs : ∀ b, a ≤ b → P b → P (b + 1)) : ∀ b, a ≤ b → P b := by
  intro b hb
  obtain ⟨n, rfl⟩ : ∃ n : Nat, b = a + n := ⟨(b - a).toNat, by omega⟩
  clear hb
  induction n with
  | zero => simpa using h0
  | succ n ih =>
    have := hs (a + n) (by omega) ih
    rwa [show a + ((n + 1 : Nat) : Int) = a + n + 1 by omega]

theorem cnt_nonneg (p : Int → Bool) (a b : Int) : 0 ≤ cnt p a b := by unfold cnt; omega

theorem cnt_split (p : Int → Bool) {a b : Int} (h : a ≤ b) : ∀ c, b ≤ c → cnt p a c = cnt p a b + cnt p b c := by
  apply ivl_ind
  · rw [cnt_nil p (Int.le_refl b)]; omega
  · intro c hc ih
    rw [cnt_succ p (by omega), cnt_succ p hc, ih]; omega

theorem cnt_congr {p q : Int → Bool} {a : Int} : ∀ b, a ≤ b → (∀ t, a ≤ t → t < b → p t = q t) → cnt p a b = cnt q a b := by
  apply ivl_ind
  · intro _; rw [cnt_nil p (Int.le_refl a), cnt_nil q (Int.le_refl a)]
  · intro b hb ih h
    rw [cnt_succ p hb, cnt_succ q hb, ih (fun t h1 h2 => h t h1 (by omega)), h b hb (by omega)]

theorem cnt_congr' {p q : Int → Bool} {a b : Int} (h : ∀ t, a ≤ t → t < b → p t = q t) : cnt p a b = cnt q a b := by
  by_cases hb : a ≤ b
  · exact cnt_congr b hb h
  · rw [cnt_nil p (by omega), cnt_nil q (by omega)]

theorem cnt_le_of {p q : Int → Bool} {a : Int} : ∀ b, a ≤ b → (∀ t, a ≤ t → t < b → p t = true → q t = true) → cnt p a b ≤ cnt q a b := by
  apply ivl_ind
  · intro _; rw [cnt_nil p (Int.le_refl a), cnt_nil q (Int.le_refl a)]; exact Int.le_refl _
  · intro b hb ih h
    rw [cnt_succ p hb, cnt_succ q hb]
    have h1 := ih (fun t h1 h2 => h t h1 (by omega))
    have h2 := h b hb (by omega)
    cases hp : p b <;> cases hq : q b <;> simp_all <;> omega

theorem cnt_mono (p q : Int → Bool) (a b : Int) (h : ∀ t, a ≤ t → t < b → p t = true → q t = true) : cnt p a b ≤ cnt q a b := by
  by_cases hb : a ≤ b
  · exact cnt_le_of b hb h
  · rw [cnt_nil p (by omega), cnt_nil q (by omega)]; exact Int.le_refl _

theorem cnt_true {p : Int → Bool} {a : Int} : ∀ b, a ≤ b → (∀ t, a ≤ t → t < b → p t = true) → cnt p a b = b - a := by
  apply ivl_ind
  · intro _; rw [cnt_nil p (Int.le_refl a)]; omega
  · intro b hb ih h
    rw [cnt_succ p hb, ih (fun t h1 h2 => h t h1 (by omega)), h b hb (by omega)]; simp; omega

theorem cnt_false {p : Int → Bool} {a b : Int} (h : ∀ t, a ≤ t → t < b → p t = false) : cnt p a b = 0 := by
  by_cases hb : a ≤ b
  · revert h
    refine ivl_ind (P := fun b => (∀ t, a ≤ t → t < b → p t = false) → cnt p a b = 0) a ?_ ?_ b hb
    · intro _; rw [cnt_nil p (Int.le_refl a)]
    · intro b hb ih h
      rw [cnt_succ p hb, ih (fun t h1 h2 => h t h1 (by omega)), h b hb (by omega)]; simp
  · exact cnt_nil p (by omega)

theorem cnt_le_len (p : Int → Bool) {a b : Int} (h : a ≤ b) : cnt p a b ≤ b - a := by
  have := cnt_le_of (p := p) (q := fun _ => true) b h (fun _ _ _ _ => rfl)
  rw [cnt_true (p := fun _ => true) b h (fun _ _ _ => rfl)] at this
  exact this

theorem cnt_mono_right (p : Int → Bool) {a b c : Int} (h : b ≤ c) : cnt p a b ≤ cnt p a c := by
  by_cases hab : a ≤ b
  · rw [cnt_split p hab c h]; have := cnt_nonneg p b c; omega
  · rw [cnt_nil p (by omega)]; exact cnt_nonneg p a c

theorem cnt_mono_left (p : Int → Bool) {a b c : Int} (h : a ≤ b) : cnt p b c ≤ cnt p a c := by
  by_cases hbc : b ≤ c
  · rw [cnt_split p h c hbc]; have := cnt_nonneg p a b; omega
  · rw [cnt_nil p (by omega)]; exact cnt_nonneg p a c

theorem cnt_pos {p : Int → Bool} {a : Int} : ∀ b, a ≤ b → 0 < cnt p a b → ∃ t, a ≤ t ∧ t < b ∧ p t = true := by
  apply ivl_ind
  · intro h; rw [cnt_nil p (Int.le_refl a)] at h; omega
  · intro b hb ih h
    by_cases hp : p b = true
    · exact ⟨b, hb, by omega, hp⟩
    · rw [cnt_succ p hb] at h
      simp [hp] at h
      obtain ⟨t, h1, h2, h3⟩ := ih h
      exact ⟨t, h1, by omega, h3⟩

theorem cnt_pos_of {p : Int → Bool} {a b t : Int} (h1 : a ≤ t) (h2 : t < b) (h3 : p t = true) : 0 < cnt p a b := by
  rw [cnt_split p (b := t) h1 b (by omega), cnt_split p (a := t) (b := t + 1) (by omega) b (by omega), cnt_succ p (Int.le_refl t), cnt_nil p (Int.le_refl t)]
  have := cnt_nonneg p a t
  have := cnt_nonneg p (t + 1) b
  simp [h3]; omega

/-- Counting what one of two that exclude each other holds. -/
theorem cnt_or {p q r : Int → Bool} {a : Int} : ∀ b, a ≤ b → (∀ t, a ≤ t → t < b → r t = (p t || q t) ∧ (p t && q t) = false) → cnt r a b = cnt p a b + cnt q a b := by
  apply ivl_ind
  · intro _; rw [cnt_nil p (Int.le_refl a), cnt_nil q (Int.le_refl a), cnt_nil r (Int.le_refl a)]; rfl
  · intro b hb ih h
    rw [cnt_succ p hb, cnt_succ q hb, cnt_succ r hb, ih (fun t h1 h2 => h t h1 (by omega))]
    have h2 := h b hb (by omega)
    cases hp : p b <;> cases hq : q b <;> simp_all <;> omega

/-- Of a count below a number there is a place where it is just reached. -/
theorem cnt_reach {p : Int → Bool} {a : Int} {n : Int} (hn : 0 ≤ n) : ∀ b, a ≤ b → n ≤ cnt p a b → ∃ c, a ≤ c ∧ c ≤ b ∧ cnt p a c = n := by
  apply ivl_ind
  · intro h; exact ⟨a, Int.le_refl a, Int.le_refl a, by rw [cnt_nil p (Int.le_refl a)] at *; omega⟩
  · intro b hb ih h
    by_cases hc : n ≤ cnt p a b
    · obtain ⟨c, h1, h2, h3⟩ := ih hc; exact ⟨c, h1, by omega, h3⟩
    · refine ⟨b + 1, by omega, by omega, ?_⟩
      rw [cnt_succ p hb] at h ⊢
      split at h <;> simp_all <;> omega

theorem cnt_shift (p : Int → Bool) (d : Int) (a b : Int) : cnt (fun t => p (t - d)) (a + d) (b + d) = cnt p a b := by
  by_cases hb : a ≤ b
  · refine ivl_ind (P := fun b => cnt (fun t => p (t - d)) (a + d) (b + d) = cnt p a b) a ?_ ?_ b hb
    · rw [cnt_nil _ (Int.le_refl _), cnt_nil _ (Int.le_refl _)]
    · intro b hb ih
      rw [show b + 1 + d = (b + d) + 1 by omega, cnt_succ _ (by omega), cnt_succ _ hb, ih, show b + d - d = b by omega]
  · rw [cnt_nil _ (by omega), cnt_nil _ (by omega)]

end Go.Proofs.YtehnhedifhpalaaDoor.Cv

namespace Go.Proofs.YtehnhedifhpalaaDoor.Cv

def leap (y : Int) : Prop := y % 4 = 0 ∧ (y % 100 ≠ 0 ∨ y % 400 = 0)
instance (y : Int) : Decidable (leap y) := by unfold leap; infer_instance

/-- 1 in a leap year, else 0. -/
def lp (y : Int) : Int := if leap y then 1 else 0

theorem lp_01 (y : Int) : 0 ≤ lp y ∧ lp y ≤ 1 := by unfold lp; split <;> omega

/-- Days ahead of a year, counted from 2001 on. -/
def ys (y : Int) : Int := 365 * (y - 1) + (y - 1) / 4 - (y - 1) / 100 + (y - 1) / 400 - 730485

theorem ys_succ (y : Int) : ys (y + 1) = ys y + 365 + lp y := by
  unfold lp
  by_cases h : leap y
  · rw [if_pos h]; unfold leap at h; unfold ys; omega
  · rw [if_neg h]; unfold leap at h; unfold ys; omega

theorem ys_2001 : ys 2001 = 0 := by decide
theorem ys_4001 : ys 4001 = 730485 := by decide

theorem ys_mono {a b : Int} (h : a ≤ b) : ys a + 365 * (b - a) ≤ ys b := by
  obtain ⟨n, rfl⟩ : ∃ n : Nat, b = a + n := ⟨(b - a).toNat, by omega⟩
  clear h
  induction n with
  | zero => simp
  | succ n ih =>
    have h1 := ys_succ (a + n)
    have h2 := (lp_01 (a + n)).1
    rw [show a + ((n + 1 : Nat) : Int) = a + n + 1 by omega]
    omega

/-- Days of a year without a leap day ahead of a month (1 to 13). -/
def ah (m : Int) : Int := [0, 31, 59, 90, 120, 151, 181, 212, 243, 273, 304, 334, 365].getD (m - 1).toNat 0

/-- Days of a year ahead of a month. -/
def fst (y m : Int) : Int := ah m + if 2 < m then lp y else 0

/-- How many days a month has. -/
def mlen (y m : Int) : Int := fst y (m + 1) - fst y m

theorem month_cases {m : Int} (h1 : 1 ≤ m) (h2 : m ≤ 12) : m = 1 ∨ m = 2 ∨ m = 3 ∨ m = 4 ∨ m = 5 ∨ m = 6 ∨ m = 7 ∨ m = 8 ∨ m = 9 ∨ m = 10 ∨ m = 11 ∨ m = 12 := by omega

theorem ah_1 : ah 1 = 0 := by decide
theorem ah_13 : ah 13 = 365 := by decide

theorem mlen_bd (y : Int) {m : Int} (h1 : 1 ≤ m) (h2 : m ≤ 12) : 28 ≤ mlen y m ∧ mlen y m ≤ 31 := by
  have := lp_01 y
  rcases month_cases h1 h2 with rfl | rfl | rfl | rfl | rfl | rfl | rfl | rfl | rfl | rfl | rfl | rfl <;>
    simp [mlen, fst, ah] <;> omega

theorem fst_1 (y : Int) : fst y 1 = 0 := by simp [fst, ah]
theorem fst_13 (y : Int) : fst y 13 = 365 + lp y := by simp [fst, ah]

theorem fst_bd (y : Int) {m : Int} (h1 : 1 ≤ m) (h2 : m ≤ 13) : 0 ≤ fst y m ∧ fst y m ≤ 366 := by
  have := lp_01 y
  rcases (show m = 13 ∨ m ≤ 12 by omega) with rfl | h3
  · rw [fst_13]; omega
  · rcases month_cases h1 h3 with rfl | rfl | rfl | rfl | rfl | rfl | rfl | rfl | rfl | rfl | rfl | rfl <;>
      simp [fst, ah] <;> omega

theorem fst_succ (y m : Int) : fst y (m + 1) = fst y m + mlen y m := by unfold mlen; omega

theorem fst_mono (y : Int) {a b : Int} (h1 : 1 ≤ a) (hab : a ≤ b) (h2 : b ≤ 13) : fst y a ≤ fst y b := by
  obtain ⟨n, rfl⟩ : ∃ n : Nat, b = a + n := ⟨(b - a).toNat, by omega⟩
  clear hab
  induction n with
  | zero => simp
  | succ n ih =>
    have h3 := ih (by omega)
    have h4 := fst_succ y (a + n)
    have h5 := (mlen_bd y (m := a + n) (by omega) (by omega)).1
    rw [show a + ((n + 1 : Nat) : Int) = a + n + 1 by omega]
    omega

/-- Three numbers are a date. -/
structure IsDate (y m d : Int) : Prop where
  y1 : 2001 ≤ y
  y2 : y ≤ 4000
  m1 : 1 ≤ m
  m2 : m ≤ 12
  d1 : 1 ≤ d
  d2 : d ≤ mlen y m

instance (y m d : Int) : Decidable (IsDate y m d) :=
  decidable_of_iff (2001 ≤ y ∧ y ≤ 4000 ∧ 1 ≤ m ∧ m ≤ 12 ∧ 1 ≤ d ∧ d ≤ mlen y m)
    ⟨fun ⟨a, b, c, e, f, g⟩ => ⟨a, b, c, e, f, g⟩, fun h => ⟨h.y1, h.y2, h.m1, h.m2, h.d1, h.d2⟩⟩

/-- The day of a date. -/
def dayOf (y m d : Int) : Int := ys y + fst y m + d - 1

theorem dayOf_bd {y m d : Int} (h : IsDate y m d) : ys y ≤ dayOf y m d ∧ dayOf y m d < ys (y + 1) ∧ 0 ≤ dayOf y m d ∧ dayOf y m d ≤ 730484 := by
  have e1 := ys_mono h.y1
  have e2 := ys_mono (show y + 1 ≤ 4001 by have := h.y2; omega)
  rw [ys_2001] at e1
  rw [ys_4001] at e2
  have e3 := ys_succ y
  have e4 := fst_succ y m
  have e5 := fst_mono y (a := m + 1) (b := 13) (by have := h.m1; omega) (by have := h.m2; omega) (by omega)
  have e6 := fst_13 y
  have e7 := (fst_bd y h.m1 (by have := h.m2; omega)).1
  have := h.d1; have := h.d2; have := h.y1; have := h.y2
  unfold dayOf
  omega

/-- A day has one date. -/
theorem dayOf_inj {y m d z n e : Int} (h : IsDate y m d) (h' : IsDate z n e) (he : dayOf y m d = dayOf z n e) : y = z ∧ m = n ∧ d = e := by
  have b1 := dayOf_bd h
  have b2 := dayOf_bd h'
  have hy : y = z := by
    rcases Int.lt_trichotomy y z with h1 | h1 | h1
    · have := ys_mono (show y + 1 ≤ z by omega); omega
    · exact h1
    · have := ys_mono (show z + 1 ≤ y by omega); omega
  subst hy
  have hm : m = n := by
    have := h.m1; have := h.m2; have := h'.m1; have := h'.m2
    have := h.d1; have := h.d2; have := h'.d1; have := h'.d2
    have s1 := fst_succ y m
    have s2 := fst_succ y n
    unfold dayOf at he
    rcases Int.lt_trichotomy m n with h1 | h1 | h1
    · have := fst_mono y (a := m + 1) (b := n) (by omega) (by omega) (by omega); omega
    · exact h1
    · have := fst_mono y (a := n + 1) (b := m) (by omega) (by omega) (by omega); omega
  subst hm
  unfold dayOf at he
  omega

/-! ### the program's way from a day to its year -/

/-- Years: by cycles of 400, 100, 4 years, and one year. -/
theorem year_of {day q r h s f t o u : Int} (hq : day = 146097 * q + r) (hr0 : 0 ≤ r) (hr : r < 146097)
    (hh : h = min (r / 36524) 3) (hs : s = r - h * 36524) (hf : f = s / 1461) (ht : t = s - f * 1461) (ho : o = min (t / 365) 3) (hu : u = t - o * 365) :
    ys (2001 + 400 * q + (100 * h + 4 * f + o)) + u = day ∧ 0 ≤ u ∧ u < 365 + lp (2001 + 400 * q + (100 * h + 4 * f + o)) := by
  have h1 : 0 ≤ h ∧ h ≤ 3 := by omega
  have h2 : 0 ≤ s ∧ s ≤ 36524 ∧ (h < 3 → s < 36524) := by omega
  have h3 : 0 ≤ f ∧ f ≤ 24 := by omega
  have h4 : 0 ≤ t ∧ t < 1461 := by omega
  have h5 : 0 ≤ o ∧ o ≤ 3 := by omega
  have h6 : 0 ≤ u ∧ u ≤ 365 ∧ (o < 3 → u < 365) := by omega
  have hy : ys (2001 + 400 * q + (100 * h + 4 * f + o)) = 146097 * q + 36524 * h + 1461 * f + 365 * o := by
    unfold ys
    have d4 : (2001 + 400 * q + (100 * h + 4 * f + o) - 1) / 4 = 500 + 100 * q + 25 * h + f := by omega
    have d100 : (2001 + 400 * q + (100 * h + 4 * f + o) - 1) / 100 = 20 + 4 * q + h := by omega
    have d400 : (2001 + 400 * q + (100 * h + 4 * f + o) - 1) / 400 = 5 + q := by omega
    rw [d4, d100, d400]; omega
  refine ⟨by rw [hy]; omega, h6.1, ?_⟩
  by_cases hu' : u < 365
  · have := (lp_01 (2001 + 400 * q + (100 * h + 4 * f + o))).1; omega
  · have ho3 : o = 3 := by omega
    have hl : leap (2001 + 400 * q + (100 * h + 4 * f + o)) := by
      unfold leap
      refine ⟨by omega, ?_⟩
      by_cases hf24 : f = 24
      · right
        have : h = 3 := by omega
        omega
      · left; omega
    unfold lp
    rw [if_pos hl]; omega

/-- 400 years later. -/
theorem lp_400 (y : Int) : lp (y + 400) = lp y := by
  have : leap (y + 400) ↔ leap y := by unfold leap; omega
  unfold lp
  by_cases h : leap y
  · rw [if_pos h, if_pos (this.2 h)]
  · rw [if_neg h, if_neg (fun hc => h (this.1 hc))]

theorem ys_400 (y : Int) : ys (y + 400) = ys y + 146097 := by unfold ys; omega

theorem fst_400 (y m : Int) : fst (y + 400) m = fst y m := by unfold fst; rw [lp_400]

theorem mlen_400 (y m : Int) : mlen (y + 400) m = mlen y m := by unfold mlen; rw [fst_400, fst_400]

/-- Each day has a date. -/
theorem date_exists {day y u : Int} (h0 : 0 ≤ day) (h1 : day ≤ 730484) (hy : ys y + u = day) (hu0 : 0 ≤ u) (hu : u < 365 + lp y) :
    2001 ≤ y ∧ y ≤ 4000 := by
  have hs := ys_succ y
  constructor
  · refine Classical.byContradiction fun hc => ?_
    have := ys_mono (show y + 1 ≤ 2001 by omega)
    rw [ys_2001] at this; omega
  · refine Classical.byContradiction fun hc => ?_
    have := ys_mono (show 4001 ≤ y by omega)
    rw [ys_4001] at this; omega

/-- The month that a day of the year lies in. -/
theorem month_of {y u m : Int} (h1 : 1 ≤ m) (h2 : m ≤ 12) (hlo : fst y m ≤ u) (hhi : u < fst y (m + 1)) (hy1 : 2001 ≤ y) (hy2 : y ≤ 4000) :
    IsDate y m (u - fst y m + 1) ∧ dayOf y m (u - fst y m + 1) = ys y + u := by
  refine ⟨⟨hy1, hy2, h1, h2, by omega, by unfold mlen; omega⟩, by unfold dayOf; omega⟩

end Go.Proofs.YtehnhedifhpalaaDoor.Cv

namespace Go.Proofs.YtehnhedifhpalaaDoor.Cv

/-- A list of holidays. -/
structure Right (H : List Int) : Prop where
  ord : H.Pairwise (· < ·)
  bd : ∀ d ∈ H, 0 ≤ d ∧ d ≤ 730484

/-- A working day. -/
def wk (H : List Int) (d : Int) : Bool := decide (d % 7 < 5) && !H.contains d

def wdays (d : Int) : Int := d / 7 * 5 + min (d % 7) 5

/-- The holidays that would be working days. -/
def freeOf (H : List Int) : List Int := H.filter fun d => decide (d % 7 < 5)

/-- How many numbers of a list are less than d. -/
def less (F : List Int) (d : Int) : Nat := (F.filter fun h => decide (h < d)).length

def below (H : List Int) (d : Int) : Int := wdays d - less (freeOf H) d

theorem wdays_succ (d : Int) : wdays (d + 1) = wdays d + if d % 7 < 5 then 1 else 0 := by
  unfold wdays
  split <;> omega

theorem less_succ {F : List Int} (hF : F.Pairwise (· < ·)) (d : Int) : less F (d + 1) = less F d + if F.contains d then 1 else 0 := by
  unfold less
  induction F with
  | nil => simp
  | cons a F ih =>
    obtain ⟨h1, h2⟩ := List.pairwise_cons.1 hF
    have ih := ih h2
    by_cases hd : d = a
    · subst hd
      have hn : F.contains d = false := by
        rw [Bool.eq_false_iff]; intro hc
        have := h1 d (by simpa using hc); omega
      rw [hn] at ih
      rw [List.filter_cons_of_pos (by simp; omega), List.filter_cons_of_neg (by simp)]
      simp at ih ⊢; omega
    · have e : (a :: F).contains d = F.contains d := by
        rw [List.contains_cons]; simp [hd]
      rw [e]
      by_cases hc : a < d
      · rw [List.filter_cons_of_pos (by simp; omega), List.filter_cons_of_pos (by simp; omega)]
        simp only [List.length_cons]; omega
      · rw [List.filter_cons_of_neg (by simp; omega), List.filter_cons_of_neg (by simp; omega)]
        exact ih

theorem below_succ {H : List Int} (hH : Right H) (d : Int) : below H (d + 1) = below H d + if wk H d then 1 else 0 := by
  have hF : (freeOf H).Pairwise (· < ·) := List.Pairwise.filter _ hH.ord
  unfold below
  rw [wdays_succ d, less_succ hF]
  have hc : (freeOf H).contains d = (decide (d % 7 < 5) && H.contains d) := by
    rw [Bool.eq_iff_iff]; simp [freeOf, List.mem_filter, and_comm]
  rw [hc]
  unfold wk
  by_cases h5 : d % 7 < 5 <;> cases hh : H.contains d <;> simp [h5] <;> omega

theorem below_zero {H : List Int} (hH : Right H) : below H 0 = 0 := by
  unfold below wdays less
  have : (freeOf H).filter (fun h => decide (h < 0)) = [] := by
    rw [List.filter_eq_nil_iff]
    intro a ha
    have := (hH.bd a (List.mem_filter.1 ha).1).1
    simp; omega
  rw [this]; rfl

/-- Working days ahead of d. -/
theorem below_cnt {H : List Int} (hH : Right H) {a : Int} : ∀ d, a ≤ d → below H d - below H a = cnt (wk H) a d := by
  apply ivl_ind
  · rw [cnt_nil _ (Int.le_refl a)]; omega
  · intro b hb ih
    rw [cnt_succ _ hb, below_succ hH b, ← ih]; omega

/-- The day that is n working days ahead of a, up to the last day. -/
structure IsAhead (p : Int → Bool) (a n d : Int) : Prop where
  ge : a ≤ d
  le : d ≤ 730484
  is : p d = true
  cnt : cnt p a d = n

theorem IsAhead.unique {p : Int → Bool} {a n d e : Int} (h : IsAhead p a n d) (h' : IsAhead p a n e) : d = e := by
  rcases Int.lt_trichotomy d e with k | k | k
  · have h1 := cnt_split p h.ge e (by omega)
    have h2 := cnt_pos_of (p := p) (a := d) (b := e) (Int.le_refl d) k h.is
    have := h.cnt; have := h'.cnt; omega
  · exact k
  · have h1 := cnt_split p h'.ge d (by omega)
    have h2 := cnt_pos_of (p := p) (a := e) (b := d) (Int.le_refl e) k h'.is
    have := h.cnt; have := h'.cnt; omega

/-- The least d behind which there are more than n. -/
theorem ahead_of_least {p : Int → Bool} {a n d : Int} (h0 : 0 ≤ n) (h1 : a ≤ d) (h2 : d ≤ 730484) (h3 : n < cnt p a (d + 1)) (h4 : ∀ e, a ≤ e → e < d → cnt p a (e + 1) ≤ n) : IsAhead p a n d := by
  have h5 : cnt p a d ≤ n := by
    by_cases h : a < d
    · have := h4 (d - 1) (by omega) (by omega)
      rwa [show d - 1 + 1 = d by omega] at this
    · rw [cnt_nil _ (by omega)]; exact h0
  rw [cnt_succ _ h1] at h3
  refine ⟨h1, h2, ?_, ?_⟩
  · cases h : p d with
    | true => rfl
    | false => rw [h] at h3; simp at h3; omega
  · split at h3 <;> omega

/-- There is one exactly if there are more than n. -/
theorem ahead_none {p : Int → Bool} {a n : Int} (h : cnt p a 730485 ≤ n) (d : Int) : ¬ IsAhead p a n d := by
  intro k
  have h1 := cnt_mono_right p (a := a) (b := d + 1) (c := 730485) (by have := k.le; omega)
  rw [cnt_succ _ k.ge, k.cnt, if_pos k.is] at h1
  omega

end Go.Proofs.YtehnhedifhpalaaDoor.Cv

namespace Go.Proofs.YtehnhedifhpalaaDoor.Cv

/-- The last k digits of n, as the bytes of a text. -/
def dig : Nat → Int → List Int
  | 0, _ => []
  | k + 1, n => dig k (n / 10) ++ [48 + n % 10]

/-- The number that bytes of digits are. -/
def num (l : List Int) : Int := l.foldl (fun n b => n * 10 + (b - 48)) 0

def isDig (b : Int) : Prop := 48 ≤ b ∧ b ≤ 57
instance (b : Int) : Decidable (isDig b) := by unfold isDig; infer_instance

theorem num_snoc (l : List Int) (b : Int) : num (l ++ [b]) = num l * 10 + (b - 48) := by simp [num, List.foldl_append]

theorem dig_len (k : Nat) (n : Int) : (dig k n).length = k := by
  induction k generalizing n with
  | zero => rfl
  | succ k ih => simp [dig, ih]

theorem dig_is (k : Nat) (n : Int) : ∀ b ∈ dig k n, isDig b := by
  induction k generalizing n with
  | zero => intro b h; cases h
  | succ k ih =>
    intro b h
    rcases List.mem_append.1 h with h | h
    · exact ih _ b h
    · simp at h; subst h; unfold isDig; omega

def ten : Nat → Int
  | 0 => 1
  | k + 1 => ten k * 10

theorem num_dig (k : Nat) : ∀ n : Int, 0 ≤ n → n < ten k → num (dig k n) = n := by
  induction k with
  | zero => intro n h0 h1; simp only [ten] at h1; simp [dig, num]; omega
  | succ k ih =>
    intro n h0 h1
    simp only [ten] at h1
    rw [dig, num_snoc, ih (n / 10) (by omega) (by omega)]
    omega

theorem snoc_cases {α : Type} (l : List α) : l = [] ∨ ∃ a b, l = a ++ [b] := by
  rcases List.eq_nil_or_concat l with h | ⟨a, b, h⟩
  · exact .inl h
  · exact .inr ⟨a, b, by rw [h, List.concat_eq_append]⟩

theorem dig_num (k : Nat) : ∀ l : List Int, l.length = k → (∀ b ∈ l, isDig b) → dig k (num l) = l ∧ 0 ≤ num l ∧ num l < ten k := by
  induction k with
  | zero =>
    intro l h _
    obtain rfl := List.length_eq_zero_iff.1 h
    simp [dig, num, ten]
  | succ k ih =>
    intro l h hd
    rcases snoc_cases l with rfl | ⟨a, b, rfl⟩
    · simp at h
    · obtain ⟨h1, h2, h3⟩ := ih a (by simpa using h) (fun c hc => hd c (by simp [hc]))
      have hb := hd b (by simp)
      unfold isDig at hb
      rw [num_snoc, dig]
      rw [show (num a * 10 + (b - 48)) / 10 = num a by omega, show 48 + (num a * 10 + (b - 48)) % 10 = b by omega, h1]
      simp only [ten]
      exact ⟨trivial, by omega, by omega⟩

/-- The order of texts: by the first byte in which they differ. -/
def lt : List Int → List Int → Bool
  | [], [] => false
  | [], _ :: _ => true
  | _ :: _, [] => false
  | a :: l, b :: m => decide (a < b) || (decide (a = b) && lt l m)

theorem lt_irrefl (l : List Int) : lt l l = false := by
  induction l with
  | nil => rfl
  | cons a l ih => simp [lt, ih]

theorem lt_append {p q : List Int} (h : p.length = q.length) (s t : List Int) : lt (p ++ s) (q ++ t) = (lt p q || (decide (p = q) && lt s t)) := by
  induction p generalizing q with
  | nil =>
    obtain rfl := List.length_eq_zero_iff.1 h.symm
    simp [lt]
  | cons a p ih =>
    cases q with
    | nil => simp at h
    | cons b q =>
      simp only [List.cons_append, lt, ih (by simpa using h), List.cons.injEq]
      by_cases h1 : a < b
      · simp [h1]
      · by_cases h2 : a = b
        · subst h2; simp
        · simp [h1, h2]

theorem lt_dig (k : Nat) : ∀ a b : Int, 0 ≤ a → a < ten k → 0 ≤ b → b < ten k → lt (dig k a) (dig k b) = decide (a < b) := by
  induction k with
  | zero =>
    intro a b h0 h1 h2 h3
    simp only [ten] at h1 h3
    simp [dig, lt]; omega
  | succ k ih =>
    intro a b h0 h1 h2 h3
    simp only [ten] at h1 h3
    rw [dig, dig, lt_append (by rw [dig_len, dig_len]), ih (a / 10) (b / 10) (by omega) (by omega) (by omega) (by omega)]
    have e : dig k (a / 10) = dig k (b / 10) ↔ a / 10 = b / 10 := by
      constructor
      · intro h
        have := congrArg num h
        rwa [num_dig k _ (by omega) (by omega), num_dig k _ (by omega) (by omega)] at this
      · intro h; rw [h]
    rw [Bool.eq_iff_iff]
    simp only [Bool.or_eq_true, Bool.and_eq_true, decide_eq_true_eq, e, lt]
    simp only [Bool.and_eq_true, decide_eq_true_eq, Bool.false_eq_true, and_false, or_false]
    omega

theorem dig_inj {k : Nat} {a b : Int} (h0 : 0 ≤ a) (h1 : a < ten k) (h2 : 0 ≤ b) (h3 : b < ten k) (h : dig k a = dig k b) : a = b := by
  have := congrArg num h
  rwa [num_dig k _ h0 h1, num_dig k _ h2 h3] at this

/-- The text of a date. -/
def dtext (y m d : Int) : List Int := dig 4 y ++ 45 :: (dig 2 m ++ 45 :: dig 2 d)
/-- The text of a time. -/
def ttext (y m d h i : Int) : List Int := dtext y m d ++ 32 :: (dig 2 h ++ 58 :: dig 2 i)

theorem dtext_len (y m d : Int) : (dtext y m d).length = 10 := by simp [dtext, dig_len]
theorem ttext_len (y m d h i : Int) : (ttext y m d h i).length = 16 := by simp [ttext, dtext_len, dig_len]

end Go.Proofs.YtehnhedifhpalaaDoor.Cv
