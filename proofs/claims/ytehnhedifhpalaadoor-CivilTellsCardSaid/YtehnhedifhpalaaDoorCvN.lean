/- Plain facts about counting; no program in sight. -/
set_option linter.unusedVariables false
set_option linter.unusedSimpArgs false
namespace Go.Proofs.YtehnhedifhpalaaDoor.Cv

/-! ### counting -/

/-- How many of the n numbers from a on have p. -/
def cntN (p : Int → Bool) (a : Int) : Nat → Nat
  | 0 => 0
  | n + 1 => cntN p a n + if p (a + n) then 1 else 0

/-- How many numbers from a on, less than b, have p. -/
def cnt (p : Int → Bool) (a b : Int) : Int := (cntN p a (b - a).toNat : Int)

theorem cnt_nil (p : Int → Bool) {a b : Int} (h : b ≤ a) : cnt p a b = 0 := by
  unfold cnt
  rw [show (b - a).toNat = 0 by omega]
  rfl

theorem cnt_succ (p : Int → Bool) {a b : Int} (h : a ≤ b) : cnt p a (b + 1) = cnt p a b + if p b then 1 else 0 := by
  unfold cnt
  rw [show (b + 1 - a).toNat = (b - a).toNat + 1 by omega]
  simp only [cntN]
  rw [show a + ((b - a).toNat : Int) = b by omega]
  split <;> simp

/-- Induction over intervals. -/
theorem ivl_ind {P : Int → Prop} (a : Int) (h0 : P a) (hs : ∀ b, a ≤ b → P b → P (b + 1)) : ∀ b, a ≤ b → P b := by
  intro b hb
  obtain ⟨n, rfl⟩ : ∃ n : Nat, b = a + n := ⟨(b - a).toNat, by omega⟩
  clear hb
  induction n with
  | zero => simpa using h0
  | succ n ih =>
    have := hs (a + n) (by omega) ih
    rwa [show a + ((n + 1 : Nat) : Int) = a + n + 1 by omega]

theorem cnt_nonneg (p : Int → Bool) (a b : Int) : 0 ≤ cnt p a b := by unfold cnt; omega

theorem cnt_split (p : Int → Bool) {a b : Int} (h : a ≤ b) : ∀ c, b ≤ c → cnt p a c = cnt p a b + cnt p b c := by
  apply ivl_ind
  · rw [cnt_nil p (Int.le_refl b)]; omega
  · intro c hc ih
    rw [cnt_succ p (by omega), cnt_succ p hc, ih]; omega

theorem cnt_congr {p q : Int → Bool} {a : Int} : ∀ b, a ≤ b → (∀ t, a ≤ t → t < b → p t = q t) → cnt p a b = cnt q a b := by
  apply ivl_ind
  · intro _; rw [cnt_nil p (Int.le_refl a), cnt_nil q (Int.le_refl a)]
  · intro b hb ih h
    rw [cnt_succ p hb, cnt_succ q hb, ih (fun t h1 h2 => h t h1 (by omega)), h b hb (by omega)]

theorem cnt_congr' {p q : Int → Bool} {a b : Int} (h : ∀ t, a ≤ t → t < b → p t = q t) : cnt p a b = cnt q a b := by
  by_cases hb : a ≤ b
  · exact cnt_congr b hb h
  · rw [cnt_nil p (by omega), cnt_nil q (by omega)]

theorem cnt_le_of {p q : Int → Bool} {a : Int} : ∀ b, a ≤ b → (∀ t, a ≤ t → t < b → p t = true → q t = true) → cnt p a b ≤ cnt q a b := by
  apply ivl_ind
  · intro _; rw [cnt_nil p (Int.le_refl a), cnt_nil q (Int.le_refl a)]; exact Int.le_refl _
  · intro b hb ih h
    rw [cnt_succ p hb, cnt_succ q hb]
    have h1 := ih (fun t h1 h2 => h t h1 (by omega))
    have h2 := h b hb (by omega)
    cases hp : p b <;> cases hq : q b <;> simp_all <;> omega

theorem cnt_mono (p q : Int → Bool) (a b : Int) (h : ∀ t, a ≤ t → t < b → p t = true → q t = true) : cnt p a b ≤ cnt q a b := by
  by_cases hb : a ≤ b
  · exact cnt_le_of b hb h
  · rw [cnt_nil p (by omega), cnt_nil q (by omega)]; exact Int.le_refl _

theorem cnt_true {p : Int → Bool} {a : Int} : ∀ b, a ≤ b → (∀ t, a ≤ t → t < b → p t = true) → cnt p a b = b - a := by
  apply ivl_ind
  · intro _; rw [cnt_nil p (Int.le_refl a)]; omega
  · intro b hb ih h
    rw [cnt_succ p hb, ih (fun t h1 h2 => h t h1 (by omega)), h b hb (by omega)]; simp; omega

theorem cnt_false {p : Int → Bool} {a b : Int} (h : ∀ t, a ≤ t → t < b → p t = false) : cnt p a b = 0 := by
  by_cases hb : a ≤ b
  · revert h
    refine ivl_ind (P := fun b => (∀ t, a ≤ t → t < b → p t = false) → cnt p a b = 0) a ?_ ?_ b hb
    · intro _; rw [cnt_nil p (Int.le_refl a)]
    · intro b hb ih h
      rw [cnt_succ p hb, ih (fun t h1 h2 => h t h1 (by omega)), h b hb (by omega)]; simp
  · exact cnt_nil p (by omega)

theorem cnt_le_len (p : Int → Bool) {a b : Int} (h : a ≤ b) : cnt p a b ≤ b - a := by
  have := cnt_le_of (p := p) (q := fun _ => true) b h (fun _ _ _ _ => rfl)
  rw [cnt_true (p := fun _ => true) b h (fun _ _ _ => rfl)] at this
  exact this

theorem cnt_mono_right (p : Int → Bool) {a b c : Int} (h : b ≤ c) : cnt p a b ≤ cnt p a c := by
  by_cases hab : a ≤ b
  · rw [cnt_split p hab c h]; have := cnt_nonneg p b c; omega
  · rw [cnt_nil p (by omega)]; exact cnt_nonneg p a c

theorem cnt_mono_left (p : Int → Bool) {a b c : Int} (h : a ≤ b) : cnt p b c ≤ cnt p a c := by
  by_cases hbc : b ≤ c
  · rw [cnt_split p h c hbc]; have := cnt_nonneg p a b; omega
  · rw [cnt_nil p (by omega)]; exact cnt_nonneg p a c

theorem cnt_pos {p : Int → Bool} {a : Int} : ∀ b, a ≤ b → 0 < cnt p a b → ∃ t, a ≤ t ∧ t < b ∧ p t = true := by
  apply ivl_ind
  · intro h; rw [cnt_nil p (Int.le_refl a)] at h; omega
  · intro b hb ih h
    by_cases hp : p b = true
    · exact ⟨b, hb, by omega, hp⟩
    · rw [cnt_succ p hb] at h
      simp [hp] at h
      obtain ⟨t, h1, h2, h3⟩ := ih h
      exact ⟨t, h1, by omega, h3⟩

theorem cnt_pos_of {p : Int → Bool} {a b t : Int} (h1 : a ≤ t) (h2 : t < b) (h3 : p t = true) : 0 < cnt p a b := by
  rw [cnt_split p (b := t) h1 b (by omega), cnt_split p (a := t) (b := t + 1) (by omega) b (by omega), cnt_succ p (Int.le_refl t), cnt_nil p (Int.le_refl t)]
  have := cnt_nonneg p a t
  have := cnt_nonneg p (t + 1) b
  simp [h3]; omega

/-- Counting what one of two that exclude each other holds. -/
theorem cnt_or {p q r : Int → Bool} {a : Int} : ∀ b, a ≤ b → (∀ t, a ≤ t → t < b → r t = (p t || q t) ∧ (p t && q t) = false) → cnt r a b = cnt p a b + cnt q a b := by
  apply ivl_ind
  · intro _; rw [cnt_nil p (Int.le_refl a), cnt_nil q (Int.le_refl a), cnt_nil r (Int.le_refl a)]; rfl
  · intro b hb ih h
    rw [cnt_succ p hb, cnt_succ q hb, cnt_succ r hb, ih (fun t h1 h2 => h t h1 (by omega))]
    have h2 := h b hb (by omega)
    cases hp : p b <;> cases hq : q b <;> simp_all <;> omega

/-- Of a count below a number there is a place where it is just reached. -/
theorem cnt_reach {p : Int → Bool} {a : Int} {n : Int} (hn : 0 ≤ n) : ∀ b, a ≤ b → n ≤ cnt p a b → ∃ c, a ≤ c ∧ c ≤ b ∧ cnt p a c = n := by
  apply ivl_ind
  · intro h; exact ⟨a, Int.le_refl a, Int.le_refl a, by rw [cnt_nil p (Int.le_refl a)] at *; omega⟩
  · intro b hb ih h
    by_cases hc : n ≤ cnt p a b
    · obtain ⟨c, h1, h2, h3⟩ := ih hc; exact ⟨c, h1, by omega, h3⟩
    · refine ⟨b + 1, by omega, by omega, ?_⟩
      rw [cnt_succ p hb] at h ⊢
      split at h <;> simp_all <;> omega

theorem cnt_shift (p : Int → Bool) (d : Int) (a b : Int) : cnt (fun t => p (t - d)) (a + d) (b + d) = cnt p a b := by
  by_cases hb : a ≤ b
  · refine ivl_ind (P := fun b => cnt (fun t => p (t - d)) (a + d) (b + d) = cnt p a b) a ?_ ?_ b hb
    · rw [cnt_nil _ (Int.le_refl _), cnt_nil _ (Int.le_refl _)]
    · intro b hb ih
      rw [show b + 1 + d = (b + d) + 1 by omega, cnt_succ _ (by omega), cnt_succ _ hb, ih, show b + d - d = b by omega]
  · rw [cnt_nil _ (by omega), cnt_nil _ (by omega)]

end Go.Proofs.YtehnhedifhpalaaDoor.Cv
