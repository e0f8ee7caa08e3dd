/- Plain facts about digits: numbers written with a fixed number of places, and read again; their order. No program in sight. -/
set_option linter.unusedVariables false
set_option linter.unusedSimpArgs false
namespace Go.Proofs.YtehnhedifhpalaaDoor.Cv

/-- The last k digits of n, as the bytes of a text. -/
def dig : Nat → Int → List Int
  | 0, _ => []
  | k + 1, n => dig k (n / 10) ++ [48 + n % 10]

/-- The number that bytes of digits are. -/
def num (l : List Int) : Int := l.foldl (fun n b => n * 10 + (b - 48)) 0

def isDig (b : Int) : Prop := 48 ≤ b ∧ b ≤ 57
instance (b : Int) : Decidable (isDig b) := by unfold isDig; infer_instance

theorem num_snoc (l : List Int) (b : Int) : num (l ++ [b]) = num l * 10 + (b - 48) := by simp [num, List.foldl_append]

theorem dig_len (k : Nat) (n : Int) : (dig k n).length = k := by
  induction k generalizing n with
  | zero => rfl
  | succ k ih => simp [dig, ih]

theorem dig_is (k : Nat) (n : Int) : ∀ b ∈ dig k n, isDig b := by
  induction k generalizing n with
  | zero => intro b h; cases h
  | succ k ih =>
    intro b h
    rcases List.mem_append.1 h with h | h
    · exact ih _ b h
    · simp at h; subst h; unfold isDig; omega

def ten : Nat → Int
  | 0 => 1
  | k + 1 => ten k * 10

theorem num_dig (k : Nat) : ∀ n : Int, 0 ≤ n → n < ten k → num (dig k n) = n := by
  induction k with
  | zero => intro n h0 h1; simp only [ten] at h1; simp [dig, num]; omega
  | succ k ih =>
    intro n h0 h1
    simp only [ten] at h1
    rw [dig, num_snoc, ih (n / 10) (by omega) (by omega)]
    omega

theorem snoc_cases {α : Type} (l : List α) : l = [] ∨ ∃ a b, l = a ++ [b] := by
  rcases List.eq_nil_or_concat l with h | ⟨a, b, h⟩
  · exact .inl h
  · exact .inr ⟨a, b, by rw [h, List.concat_eq_append]⟩

theorem dig_num (k : Nat) : ∀ l : List Int, l.length = k → (∀ b ∈ l, isDig b) → dig k (num l) = l ∧ 0 ≤ num l ∧ num l < ten k := by
  induction k with
  | zero =>
    intro l h _
    obtain rfl := List.length_eq_zero_iff.1 h
    simp [dig, num, ten]
  | succ k ih =>
    intro l h hd
    rcases snoc_cases l with rfl | ⟨a, b, rfl⟩
    · simp at h
    · obtain ⟨h1, h2, h3⟩ := ih a (by simpa using h) (fun c hc => hd c (by simp [hc]))
      have hb := hd b (by simp)
      unfold isDig at hb
      rw [num_snoc, dig]
      rw [show (num a * 10 + (b - 48)) / 10 = num a by omega, show 48 + (num a * 10 + (b - 48)) % 10 = b by omega, h1]
      simp only [ten]
      exact ⟨trivial, by omega, by omega⟩

/-- The order of texts: by the first byte in which they differ. -/
def lt : List Int → List Int → Bool
  | [], [] => false
  | [], _ :: _ => true
  | _ :: _, [] => false
  | a :: l, b :: m => decide (a < b) || (decide (a = b) && lt l m)

theorem lt_irrefl (l : List Int) : lt l l = false := by
  induction l with
  | nil => rfl
  | cons a l ih => simp [lt, ih]

theorem lt_append {p q : List Int} (h : p.length = q.length) (s t : List Int) : lt (p ++ s) (q ++ t) = (lt p q || (decide (p = q) && lt s t)) := by
  induction p generalizing q with
  | nil =>
    obtain rfl := List.length_eq_zero_iff.1 h.symm
    simp [lt]
  | cons a p ih =>
    cases q with
    | nil => simp at h
    | cons b q =>
      simp only [List.cons_append, lt, ih (by simpa using h), List.cons.injEq]
      by_cases h1 : a < b
      · simp [h1]
      · by_cases h2 : a = b
        · subst h2; simp
        · simp [h1, h2]

theorem lt_dig (k : Nat) : ∀ a b : Int, 0 ≤ a → a < ten k → 0 ≤ b → b < ten k → lt (dig k a) (dig k b) = decide (a < b) := by
  induction k with
  | zero =>
    intro a b h0 h1 h2 h3
    simp only [ten] at h1 h3
    simp [dig, lt]; omega
  | succ k ih =>
    intro a b h0 h1 h2 h3
    simp only [ten] at h1 h3
    rw [dig, dig, lt_append (by rw [dig_len, dig_len]), ih (a / 10) (b / 10) (by omega) (by omega) (by omega) (by omega)]
    have e : dig k (a / 10) = dig k (b / 10) ↔ a / 10 = b / 10 := by
      constructor
      · intro h
        have := congrArg num h
        rwa [num_dig k _ (by omega) (by omega), num_dig k _ (by omega) (by omega)] at this
      · intro h; rw [h]
    rw [Bool.eq_iff_iff]
    simp only [Bool.or_eq_true, Bool.and_eq_true, decide_eq_true_eq, e, lt]
    simp only [Bool.and_eq_true, decide_eq_true_eq, Bool.false_eq_true, and_false, or_false]
    omega

theorem dig_inj {k : Nat} {a b : Int} (h0 : 0 ≤ a) (h1 : a < ten k) (h2 : 0 ≤ b) (h3 : b < ten k) (h : dig k a = dig k b) : a = b := by
  have := congrArg num h
  rwa [num_dig k _ h0 h1, num_dig k _ h2 h3] at this

/-- The text of a date. -/
def dtext (y m d : Int) : List Int := dig 4 y ++ 45 :: (dig 2 m ++ 45 :: dig 2 d)
/-- The text of a time. -/
def ttext (y m d h i : Int) : List Int := dtext y m d ++ 32 :: (dig 2 h ++ 58 :: dig 2 i)

theorem dtext_len (y m d : Int) : (dtext y m d).length = 10 := by simp [dtext, dig_len]
theorem ttext_len (y m d h i : Int) : (ttext y m d h i).length = 16 := by simp [ttext, dtext_len, dig_len]

end Go.Proofs.YtehnhedifhpalaaDoor.Cv
