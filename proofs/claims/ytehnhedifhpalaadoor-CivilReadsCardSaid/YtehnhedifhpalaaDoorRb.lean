/- Digits, numbers, and texts of dates: of civil and of the reference. -/
import Derived.Test.YtehnhedifhpalaaDoorRa
import Derived.Test.YtehnhedifhpalaaDoorBl
import Derived.Test.YtehnhedifhpalaaDoorCp7
import Derived.Test.YtehnhedifhpalaaDoorCvD
set_option linter.unusedVariables false
set_option linter.unusedSimpArgs false
namespace Go.Proofs.YtehnhedifhpalaaDoor.Cp
open Go.RowKit Go.Proofs.YtehnhedifhpalaaDoorW.PrintWords Go.Proofs.YtehnhedifhpalaaDoorW.PrintLast Go.Proofs.YtehnhedifhpalaaDoorW.PrintMore

theorem rdigits_l0 (many : Int) (d : Nat) : ∀ (i x : Int) (l : List Int), 0 ≤ i → many ≤ 100 → many - i = d → (0 ≤ x ∧ x ≤ 1000000) → l.length ≤ i.toNat →
    Ev (fun k => letterbagref01_digits.l0 k x many (strOfNums l) i) (strOfNums (Cv.dig d x ++ l)) := by
  induction d with
  | zero =>
    intro i x l h0 hm hd hx hl
    exact Ev.step (fun k => letterbagref01_digits.l0.eq_2 _ _ _ _ k) (ev_neg (by omega) (Ev.now _))
  | succ d ih =>
    intro i x l h0 hm hd hx hl
    have q0 : -10000000 ≤ i + 1 ∧ i + 1 ≤ 10000000 := by omega
    have q1 : -10000000 ≤ x / 10 ∧ x / 10 ≤ 10000000 := by omega
    have q2 : -10000000 ≤ 48 + x % 10 ∧ 48 + x % 10 ≤ 10000000 := by omega
    have e1 : (48 + x % 10) % 256 = 48 + x % 10 := by omega
    have ih1 := ih (i + 1) (x / 10) ((48 + x % 10) :: l) (by omega) hm (by omega) (by omega) (by simp only [List.length_cons]; omega)
    refine Ev.step (fun k => letterbagref01_digits.l0.eq_2 _ _ _ _ k) (ev_pos (by omega) ?_)
    rw [Int.tmod_eq_emod_of_nonneg hx.1, Int.tdiv_eq_ediv_of_nonneg hx.1, wb q0, wb q1, wb q2, e1]
    simp only [Option.bind_some]
    rw [strOfNums_size, strOfNums_size]
    refine ev_pos (by simp only [List.length_cons, List.length_nil]; omega) ?_
    rw [str_append]
    refine ev_eq ?_ ih1
    rw [Cv.dig, List.append_assoc]; rfl

theorem rdigits_f {n : Int} (hn : 0 ≤ n ∧ n ≤ 1000000) (many : Nat) (hm : many ≤ 100) : Ev (fun k => letterbagref01_digits.f k n many) (strOfNums (Cv.dig many n)) := by
  have := rdigits_l0 many many 0 n [] (by decide) (by omega) (by omega) hn (by simp)
  rw [List.append_nil] at this
  exact this

theorem date_nat {y m d : Int} (h : Cv.IsDate y m d) : (0 ≤ y ∧ y ≤ 1000000) ∧ (0 ≤ m ∧ m ≤ 1000000) ∧ 0 ≤ d ∧ d ≤ 1000000 := by
  have := Cv.mlen_bd y h.m1 h.m2
  have := h.y1; have := h.y2; have := h.m1; have := h.m2; have := h.d1; have := h.d2
  omega

theorem dash_eq : (⟨#[45]⟩ : ByteArray) = strOfNums [45] := rfl

theorem rtext_f {y m d : Int} (h : Cv.IsDate y m d) : Ev (fun k => letterbagref01_Text.f k (Cv.dayOf y m d)) (strOfNums (Cv.dtext y m d), 0) := by
  obtain ⟨hy, hm, hd⟩ := date_nat h
  unfold letterbagref01_Text.f
  refine Ev.bind (rdate_f h) (ev_pos rfl (Ev.bind (rdigits_f hy 4 (by decide)) ?_))
  simp only [dash_eq, str_append, strOfNums_size, List.length_append, Cv.dig_len, List.length_cons, List.length_nil]
  refine ev_pos (by decide) (Ev.bind (rdigits_f hm 2 (by decide)) ?_)
  simp only [dash_eq, str_append, strOfNums_size, List.length_append, Cv.dig_len, List.length_cons, List.length_nil]
  refine ev_pos (by decide) (ev_pos (by decide) (Ev.bind (rdigits_f hd 2 (by decide)) ?_))
  simp only [dash_eq, str_append, strOfNums_size, List.length_append, Cv.dig_len, List.length_cons, List.length_nil]
  refine ev_pos (by decide) (ev_eq ?_ (Ev.now _))
  unfold Cv.dtext
  simp

theorem rtext_no {a : Int} (h : ¬ (0 ≤ a ∧ a ≤ 730484)) : Ev (fun k => letterbagref01_Text.f k a) (strOfNums [], errOf a 730484) := by
  unfold letterbagref01_Text.f
  exact Ev.bind (rdate_no h) (ev_neg (errOf_ne h) (ev_eq rfl (Ev.now _)))

/-! ### numbers -/
def allDig (l : List Int) : Bool := l.all fun b => decide (Cv.isDig b)
theorem allDig_iff {l : List Int} : allDig l = true ↔ ∀ b ∈ l, Cv.isDig b := by simp [allDig]
theorem ten_le : ∀ i : Nat, i ≤ 4 → Cv.ten i ≤ 10000 := by decide

theorem num_bd {l : List Int} (hl : l.length ≤ 4) (h : allDig l = true) : 0 ≤ Cv.num l ∧ Cv.num l < 10000 := by
  obtain ⟨_, h1, h2⟩ := Cv.dig_num l.length l rfl (allDig_iff.1 h)
  have := ten_le _ hl
  omega

theorem allDig_take {l : List Int} {i : Nat} (hi : i < l.length) : allDig (l.take (i + 1)) = (allDig (l.take i) && decide (Cv.isDig l[i])) := by
  unfold allDig; rw [List.take_succ_eq_append_getElem hi, List.all_append, List.all_cons, List.all_nil, Bool.and_true]

theorem num_take {l : List Int} {i : Nat} (hi : i < l.length) : Cv.num (l.take (i + 1)) = Cv.num (l.take i) * 10 + (l[i] - 48) := by
  rw [List.take_succ_eq_append_getElem hi, Cv.num_snoc]

theorem allDig_no {l : List Int} {i : Nat} (hi : i < l.length) (h : ¬ Cv.isDig l[i]) : allDig l = false := by
  rw [Bool.eq_false_iff]
  intro hc
  exact h (allDig_iff.1 hc _ (List.getElem_mem hi))

def cnum (l : List Int) : Int × Bool := if allDig l = true then (Cv.num l, true) else (0, false)
def rnum (l : List Int) : Int := if allDig l = true then Cv.num l else -1

theorem cnumber_l0 (s : ByteArray) (hs : (nb s).length ≤ 4) (d : Nat) : ∀ i : Nat, i ≤ (nb s).length → (nb s).length - i = d → allDig ((nb s).take i) = true →
    Ev (fun k => civil_number.l0 k s (Cv.num ((nb s).take i)) (s.size : Int) (i : Int)) (cnum (nb s)) := by
  have es := nb_len s
  induction d with
  | zero =>
    intro i hi hd ha
    rw [List.take_of_length_le (by omega)] at ha ⊢
    refine Ev.step (fun k => civil_number.l0.eq_2 _ _ _ _ k) (ev_neg (by omega) (ev_eq ?_ (Ev.now _)))
    unfold cnum; rw [if_pos ha]
  | succ d ih =>
    intro i hi hd ha
    have c : i < (nb s).length := by omega
    have hb := num_bd (l := (nb s).take i) (by rw [List.length_take]; omega) ha
    have q0 : -10000000 ≤ (i : Int) + 1 ∧ (i : Int) + 1 ≤ 10000000 := by omega
    have e0 : (i : Int) + 1 = ((i + 1 : Nat) : Int) := by omega
    refine Ev.step (fun k => civil_number.l0.eq_2 _ _ _ _ k) (ev_pos (by omega) (ev_pos (by omega) (ev_pos (by omega) ?_)))
    rw [bt_nb s i c]
    by_cases c1 : (nb s)[i] < 48
    · refine ev_pos c1 (ev_eq ?_ (Ev.now _))
      unfold cnum; rw [allDig_no c (by unfold Cv.isDig; omega)]; rfl
    · refine ev_neg c1 ?_
      by_cases c2 : (nb s)[i] > 57
      · refine ev_pos c2 (ev_eq ?_ (Ev.now _))
        unfold cnum; rw [allDig_no c (by unfold Cv.isDig; omega)]; rfl
      · refine ev_neg c2 ?_
        have hdg : Cv.isDig (nb s)[i] := by unfold Cv.isDig; omega
        have ha1 : allDig ((nb s).take (i + 1)) = true := by rw [allDig_take c, ha, decide_eq_true hdg]; rfl
        have ih1 := ih (i + 1) (by omega) (by omega) ha1
        have e1 : ((nb s)[i] - 48) % 256 = (nb s)[i] - 48 := by omega
        have q1 : -10000000 ≤ Cv.num ((nb s).take i) * 10 ∧ Cv.num ((nb s).take i) * 10 ≤ 10000000 := by omega
        have q2 : -10000000 ≤ Cv.num ((nb s).take i) * 10 + ((nb s)[i] - 48) ∧ Cv.num ((nb s).take i) * 10 + ((nb s)[i] - 48) ≤ 10000000 := by omega
        rw [wb q0, e1, wb q1, wb q2, e0, ← num_take c]
        exact ih1

theorem cnumber_f (s : ByteArray) (hs : (nb s).length ≤ 4) : Ev (fun k => civil_number.f k s) (cnum (nb s)) := by
  have := cnumber_l0 s hs _ 0 (by omega) rfl (by simp [allDig])
  exact this

theorem rnumber_l0 (s : ByteArray) (hs : (nb s).length ≤ 4) (d : Nat) : ∀ i : Nat, i ≤ (nb s).length → (nb s).length - i = d → allDig ((nb s).take i) = true →
    Ev (fun k => letterbagref01_number.l0 k s (Cv.num ((nb s).take i)) (i : Int)) (rnum (nb s)) := by
  have es := nb_len s
  induction d with
  | zero =>
    intro i hi hd ha
    rw [List.take_of_length_le (by omega)] at ha ⊢
    refine Ev.step (fun k => letterbagref01_number.l0.eq_2 _ _ _ k) (ev_neg (by omega) (ev_eq ?_ (Ev.now _)))
    unfold rnum; rw [if_pos ha]
  | succ d ih =>
    intro i hi hd ha
    have c : i < (nb s).length := by omega
    have hb := num_bd (l := (nb s).take i) (by rw [List.length_take]; omega) ha
    have q0 : -10000000 ≤ (i : Int) + 1 ∧ (i : Int) + 1 ≤ 10000000 := by omega
    have e0 : (i : Int) + 1 = ((i + 1 : Nat) : Int) := by omega
    refine Ev.step (fun k => letterbagref01_number.l0.eq_2 _ _ _ k) (ev_pos (by omega) (ev_pos (by omega) ?_))
    rw [bt_nb s i c]
    by_cases c1 : (nb s)[i] < 48
    · refine ev_pos c1 (ev_eq ?_ (Ev.now _))
      unfold rnum; rw [allDig_no c (by unfold Cv.isDig; omega)]; rfl
    · refine ev_neg c1 ?_
      by_cases c2 : (nb s)[i] > 57
      · refine ev_pos c2 (ev_eq ?_ (Ev.now _))
        unfold rnum; rw [allDig_no c (by unfold Cv.isDig; omega)]; rfl
      · refine ev_neg c2 ?_
        have hdg : Cv.isDig (nb s)[i] := by unfold Cv.isDig; omega
        have ha1 : allDig ((nb s).take (i + 1)) = true := by rw [allDig_take c, ha, decide_eq_true hdg]; rfl
        have ih1 := ih (i + 1) (by omega) (by omega) ha1
        have e1 : ((nb s)[i] - 48) % 256 = (nb s)[i] - 48 := by omega
        have q1 : -10000000 ≤ 10 * Cv.num ((nb s).take i) ∧ 10 * Cv.num ((nb s).take i) ≤ 10000000 := by omega
        have q2 : -10000000 ≤ 10 * Cv.num ((nb s).take i) + ((nb s)[i] - 48) ∧ 10 * Cv.num ((nb s).take i) + ((nb s)[i] - 48) ≤ 10000000 := by omega
        rw [wb q0, e1, wb q1, wb q2, e0, Int.mul_comm, ← num_take c]
        exact ih1

theorem rnumber_f (s : ByteArray) (hs : (nb s).length ≤ 4) : Ev (fun k => letterbagref01_number.f k s) (rnum (nb s)) := by
  have := rnumber_l0 s hs _ 0 (by omega) rfl (by simp [allDig])
  exact this

end Go.Proofs.YtehnhedifhpalaaDoor.Cp
