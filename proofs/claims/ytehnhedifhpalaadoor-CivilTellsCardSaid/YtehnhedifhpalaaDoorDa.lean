/- Date of civil: each day has its date. -/
import Derived.Test.YtehnhedifhpalaaDoorCp1
import Derived.Test.YtehnhedifhpalaaDoorCu
import Derived.Test.YtehnhedifhpalaaDoorCvA
set_option linter.unusedVariables false
set_option linter.unusedSimpArgs false
namespace Go.Proofs.YtehnhedifhpalaaDoor.Cp
open Go.RowKit Go.Proofs.YtehnhedifhpalaaDoorW.PrintWords Go.Proofs.YtehnhedifhpalaaDoorW.PrintLast Go.Proofs.YtehnhedifhpalaaDoorW.PrintMore

theorem leapB_iff {y : Int} (hy : 0 ≤ y) : leapB y = decide (Cv.leap y) := by
  unfold leapB
  rw [Int.tmod_eq_emod_of_nonneg hy, Int.tmod_eq_emod_of_nonneg hy, Int.tmod_eq_emod_of_nonneg hy, Bool.eq_iff_iff, decide_eq_true_eq]
  unfold Cv.leap
  simp

theorem tab_ah (m : Int) : tabL.getD (m - 1).toNat 0 = Cv.ah m := rfl

theorem first_f {y m : Int} (hy : 0 ≤ y) (h1 : 1 ≤ m) (h2 : m ≤ 13) : civil_first.f y m = some (Cv.fst y m) := by
  unfold civil_first.f Cv.fst Cv.lp
  rw [if_pos h1, if_pos h2, tab_ah, leapB_iff hy]
  by_cases c : 2 < m
  · rw [if_pos c, if_pos c]
    by_cases l : Cv.leap y
    · rw [decide_eq_true l, if_pos rfl, if_pos l]
    · rw [decide_eq_false l, if_neg Bool.false_ne_true, if_neg l, Int.add_zero]
  · rw [if_neg c, if_neg c, Int.add_zero]

theorem date_l0 {y u : Int} (hy : 0 ≤ y) (hu : u < Cv.fst y 13) (d : Nat) : ∀ m : Int, 1 ≤ m → m ≤ 12 → 12 - m = d → Cv.fst y m ≤ u →
    ∃ n, (1 ≤ n ∧ n ≤ 12) ∧ Cv.fst y n ≤ u ∧ u < Cv.fst y (n + 1) ∧ Ev (fun k => civil_Date.l0 k u y m) (y, n, u - Cv.fst y n + 1, 0) := by
  induction d with
  | zero =>
    intro m h1 h2 hd hf
    obtain rfl : m = 12 := by omega
    refine ⟨12, by omega, hf, hu, ?_⟩
    have hb := Cv.fst_bd y (m := 12) (by decide) (by decide)
    have hb2 := Cv.fst_bd y (m := 13) (by decide) (by decide)
    refine Ev.step (fun k => civil_Date.l0.eq_2 _ _ _ k) ?_
    have w1 : wrap64 ((12 : Int) + 1) = 13 := w64 (by decide) (by decide)
    rw [w1]
    refine Ev.bind (ev_val (first_f hy (by decide) (by decide))) (ev_neg (by omega) (Ev.bind (ev_val (first_f hy (by decide) (by decide))) (ev_eq ?_ (Ev.now _))))
    have q : (-9223372036854775808 ≤ u - Cv.fst y 12 ∧ u - Cv.fst y 12 ≤ 9223372036854775807) ∧ -9223372036854775808 ≤ u - Cv.fst y 12 + 1 ∧ u - Cv.fst y 12 + 1 ≤ 9223372036854775807 := by clear w1; omega
    rw [w64 q.1.1 q.1.2, w64 q.2.1 q.2.2]
  | succ d ih =>
    intro m h1 h2 hd hf
    have hb := Cv.fst_bd y (m := m) h1 (by omega)
    have hb2 := Cv.fst_bd y (m := m + 1) (by omega) (by omega)
    have hb3 := Cv.fst_bd y (m := 13) (by decide) (by decide)
    have q0 : -9223372036854775808 ≤ m + 1 ∧ m + 1 ≤ 9223372036854775807 := by omega
    by_cases c : u ≥ Cv.fst y (m + 1)
    · obtain ⟨n, k1, k2, k3, k4⟩ := ih (m + 1) (by omega) (by omega) (by omega) c
      refine ⟨n, k1, k2, k3, Ev.step (fun k => civil_Date.l0.eq_2 _ _ _ k) ?_⟩
      rw [w64 q0.1 q0.2]
      exact Ev.bind (ev_val (first_f hy (by omega) (by omega))) (ev_pos c k4)
    · refine ⟨m, ⟨h1, h2⟩, hf, by omega, Ev.step (fun k => civil_Date.l0.eq_2 _ _ _ k) ?_⟩
      rw [w64 q0.1 q0.2]
      refine Ev.bind (ev_val (first_f hy (by omega) (by omega))) (ev_neg c (Ev.bind (ev_val (first_f hy h1 (by omega))) (ev_eq ?_ (Ev.now _))))
      have q : (-9223372036854775808 ≤ u - Cv.fst y m ∧ u - Cv.fst y m ≤ 9223372036854775807) ∧ -9223372036854775808 ≤ u - Cv.fst y m + 1 ∧ u - Cv.fst y m + 1 ≤ 9223372036854775807 := by omega
      rw [w64 q.1.1 q.1.2, w64 q.2.1 q.2.2]

end Go.Proofs.YtehnhedifhpalaaDoor.Cp
