/- Day of civil: what is a date, and which day it is. -/
import Derived.Test.YtehnhedifhpalaaDoorDb
set_option linter.unusedVariables false
set_option linter.unusedSimpArgs false
namespace Go.Proofs.YtehnhedifhpalaaDoor.Cp
open Go.RowKit Go.Proofs.YtehnhedifhpalaaDoorW.PrintWords Go.Proofs.YtehnhedifhpalaaDoorW.PrintLast Go.Proofs.YtehnhedifhpalaaDoorW.PrintMore

theorem dated_f (y m d : Int) : civil_dated.f y m d = some (decide (Cv.IsDate y m d)) := by
  unfold civil_dated.f
  have no : ∀ {p : Prop}, ¬ Cv.IsDate y m d → (some false : Option Bool) = some (decide (Cv.IsDate y m d)) := fun h => by rw [decide_eq_false h]
  by_cases c1 : y ≥ 2001
  · rw [if_pos c1]
    by_cases c2 : y ≤ 4000
    · rw [if_pos c2]
      by_cases c3 : m ≥ 1
      · rw [if_pos c3]
        by_cases c4 : m ≤ 12
        · rw [if_pos c4]
          by_cases c5 : d ≥ 1
          · rw [if_pos c5]
            have b1 := Cv.fst_bd y (m := m) (by omega) (by omega)
            have b2 := Cv.fst_bd y (m := m + 1) (by omega) (by omega)
            have q1 : -10000000 ≤ m + 1 ∧ m + 1 ≤ 10000000 := by omega
            have q2 : -10000000 ≤ Cv.fst y (m + 1) - Cv.fst y m ∧ Cv.fst y (m + 1) - Cv.fst y m ≤ 10000000 := by omega
            rw [wb q1, first_f (by omega) (by omega) (by omega), first_f (by omega) (by omega) (by omega)]
            simp only [Option.bind_some]
            rw [wb q2]
            congr 1
            rw [decide_eq_decide]
            constructor
            · intro h; exact ⟨c1, c2, c3, c4, c5, h⟩
            · intro h; exact h.d2
          · rw [if_neg c5]; exact no (p := True) (fun h => c5 h.d1)
        · rw [if_neg c4]; exact no (p := True) (fun h => c4 h.m2)
      · rw [if_neg c3]; exact no (p := True) (fun h => c3 h.m1)
    · rw [if_neg c2]; exact no (p := True) (fun h => c2 h.y2)
  · rw [if_neg c1]; exact no (p := True) (fun h => c1 h.y1)

theorem day_f {y m d : Int} (h : Cv.IsDate y m d) : civil_Day.f y m d = some (Cv.dayOf y m d, 0) := by
  unfold civil_Day.f
  rw [dated_f, decide_eq_true h]
  simp only [Option.bind_some, if_true]
  have h1 := h.y1; have h2 := h.y2; have h3 := h.m1; have h4 := h.m2; have h5 := h.d1; have h6 := h.d2
  have b1 := Cv.fst_bd y (m := m) (by omega) (by omega)
  have b2 := Cv.mlen_bd y (m := m) (by omega) (by omega)
  rw [first_f (by omega) (by omega) (by omega)]
  simp only [Option.bind_some]
  have hd := Cv.dayOf_bd h
  unfold Cv.dayOf Cv.ys at *
  have n1 : 0 ≤ y - 1 := by omega
  rw [wb (n := y - 1) (by omega)]
  rw [Int.tdiv_eq_ediv_of_nonneg n1, Int.tdiv_eq_ediv_of_nonneg n1, Int.tdiv_eq_ediv_of_nonneg n1]
  generalize Cv.fst y m = x at *
  have p1 : -10000000 ≤ 365 * (y - 1) ∧ 365 * (y - 1) ≤ 10000000 := by omega
  have p2 : -10000000 ≤ (y - 1) / 4 ∧ (y - 1) / 4 ≤ 10000000 := by omega
  have p3 : -10000000 ≤ (y - 1) / 100 ∧ (y - 1) / 100 ≤ 10000000 := by omega
  have p4 : -10000000 ≤ (y - 1) / 400 ∧ (y - 1) / 400 ≤ 10000000 := by omega
  have p5 : -10000000 ≤ 365 * (y - 1) + (y - 1) / 4 ∧ 365 * (y - 1) + (y - 1) / 4 ≤ 10000000 := by omega
  have p6 : -10000000 ≤ 365 * (y - 1) + (y - 1) / 4 - (y - 1) / 100 ∧ 365 * (y - 1) + (y - 1) / 4 - (y - 1) / 100 ≤ 10000000 := by omega
  have p7 : -10000000 ≤ 365 * (y - 1) + (y - 1) / 4 - (y - 1) / 100 + (y - 1) / 400 ∧ 365 * (y - 1) + (y - 1) / 4 - (y - 1) / 100 + (y - 1) / 400 ≤ 10000000 := by omega
  have p8 : -10000000 ≤ 365 * (y - 1) + (y - 1) / 4 - (y - 1) / 100 + (y - 1) / 400 - 730485 ∧ 365 * (y - 1) + (y - 1) / 4 - (y - 1) / 100 + (y - 1) / 400 - 730485 ≤ 10000000 := by omega
  have p9 : -10000000 ≤ 365 * (y - 1) + (y - 1) / 4 - (y - 1) / 100 + (y - 1) / 400 - 730485 + x ∧ 365 * (y - 1) + (y - 1) / 4 - (y - 1) / 100 + (y - 1) / 400 - 730485 + x ≤ 10000000 := by omega
  have p10 : -10000000 ≤ 365 * (y - 1) + (y - 1) / 4 - (y - 1) / 100 + (y - 1) / 400 - 730485 + x + d ∧ 365 * (y - 1) + (y - 1) / 4 - (y - 1) / 100 + (y - 1) / 400 - 730485 + x + d ≤ 10000000 := by omega
  have p11 : -10000000 ≤ 365 * (y - 1) + (y - 1) / 4 - (y - 1) / 100 + (y - 1) / 400 - 730485 + x + d - 1 ∧ 365 * (y - 1) + (y - 1) / 4 - (y - 1) / 100 + (y - 1) / 400 - 730485 + x + d - 1 ≤ 10000000 := by omega
  rw [wb p1, wb p2, wb p3, wb p4, wb p5, wb p6, wb p7, wb p8, wb p9, wb p10, wb p11]

theorem day_no {y m d : Int} (h : ¬ Cv.IsDate y m d) : civil_Day.f y m d = some (0, 10) := by
  unfold civil_Day.f
  rw [dated_f, decide_eq_false h]
  rfl

end Go.Proofs.YtehnhedifhpalaaDoor.Cp
