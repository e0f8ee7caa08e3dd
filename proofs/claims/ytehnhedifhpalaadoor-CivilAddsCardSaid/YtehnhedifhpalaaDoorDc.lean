/- Date of civil: each day has its date. Date of civil: each day has its date. Day of civil: what is a date, and which day it is. -/
import Derived.Test.YtehnhedifhpalaaDoorCp1
import Derived.Test.YtehnhedifhpalaaDoorCf
import Derived.Test.YtehnhedifhpalaaDoorCv
set_option linter.unusedVariables false
set_option linter.unusedSimpArgs false
namespace Go.Proofs.YtehnhedifhpalaaDoor.Cp
open Go.RowKit Go.Proofs.YtehnhedifhpalaaDoorW.PrintWords Go.Proofs.YtehnhedifhpalaaDoorW.PrintLast Go.Proofs.YtehnhedifhpalaaDoorW.PrintMore

theorem leapB_iff {y : Int} (hy : 0 ≤ y) : leapB y = decide (Cv.leap y) := by
  unfold leapB
  rw [Int.tmod_eq_emod_of_nonneg hy, Int.tmod_eq_emod_of_nonneg hy, Int.tmod_eq_emod_of_nonneg hy, Bool.eq_iff_iff, decide_eq_true_eq]
  unfold Cv.leap
  simp

theorem tab_ah (m : Int) : tabL.getD (m - 1).toNat 0 = Cv.ah m := rfl

theorem first_f {y m : Int} (hy : 0 ≤ y) (h1 : 1 ≤ m) (h2 : m ≤ 13) : civil_first.f y m = some (Cv.fst y m) := by
  unfold civil_first.f Cv.fst Cv.lp
  rw [if_pos h1, if_pos h2, tab_ah, leapB_iff hy]
  by_cases c : 2 < m
  · rw [if_pos c, if_pos c]
    by_cases l : Cv.leap y
    · rw [decide_eq_true l, if_pos rfl, if_pos l]
    · rw [decide_eq_false l, if_neg Bool.false_ne_true, if_neg l, Int.add_zero]
  · rw [if_neg c, if_neg c, Int.add_zero]

theorem date_l0 {y u : Int} (hy : 0 ≤ y) (hu : u < Cv.fst y 13) (d : Nat) : ∀ m : Int, 1 ≤ m → m ≤ 12 → 12 - m = d → Cv.fst y m ≤ u →
    ∃ n, (1 ≤ n ∧ n ≤ 12) ∧ Cv.fst y n ≤ u ∧ u < Cv.fst y (n + 1) ∧ Ev (fun k => civil_Date.l0 k u y m) (y, n, u - Cv.fst y n + 1, 0) := by
  induction d with
  | zero =>
    intro m h1 h2 hd hf
    obtain rfl : m = 12 := by omega
    refine ⟨12, by omega, hf, hu, ?_⟩
    have hb := Cv.fst_bd y (m := 12) (by decide) (by decide)
    have hb2 := Cv.fst_bd y (m := 13) (by decide) (by decide)
    refine Ev.step (fun k => civil_Date.l0.eq_2 _ _ _ k) ?_
    have w1 : wrap64 ((12 : Int) + 1) = 13 := w64 (by decide) (by decide)
    rw [w1]
    refine Ev.bind (ev_val (first_f hy (by decide) (by decide))) (ev_neg (by omega) (Ev.bind (ev_val (first_f hy (by decide) (by decide))) (ev_eq ?_ (Ev.now _))))
    have q : (-9223372036854775808 ≤ u - Cv.fst y 12 ∧ u - Cv.fst y 12 ≤ 9223372036854775807) ∧ -9223372036854775808 ≤ u - Cv.fst y 12 + 1 ∧ u - Cv.fst y 12 + 1 ≤ 9223372036854775807 := by clear w1; omega
    rw [w64 q.1.1 q.1.2, w64 q.2.1 q.2.2]
  | succ d ih =>
    intro m h1 h2 hd hf
    have hb := Cv.fst_bd y (m := m) h1 (by omega)
    have hb2 := Cv.fst_bd y (m := m + 1) (by omega) (by omega)
    have hb3 := Cv.fst_bd y (m := 13) (by decide) (by decide)
    have q0 : -9223372036854775808 ≤ m + 1 ∧ m + 1 ≤ 9223372036854775807 := by omega
    by_cases c : u ≥ Cv.fst y (m + 1)
    · obtain ⟨n, k1, k2, k3, k4⟩ := ih (m + 1) (by omega) (by omega) (by omega) c
      refine ⟨n, k1, k2, k3, Ev.step (fun k => civil_Date.l0.eq_2 _ _ _ k) ?_⟩
      rw [w64 q0.1 q0.2]
      exact Ev.bind (ev_val (first_f hy (by omega) (by omega))) (ev_pos c k4)
    · refine ⟨m, ⟨h1, h2⟩, hf, by omega, Ev.step (fun k => civil_Date.l0.eq_2 _ _ _ k) ?_⟩
      rw [w64 q0.1 q0.2]
      refine Ev.bind (ev_val (first_f hy (by omega) (by omega))) (ev_neg c (Ev.bind (ev_val (first_f hy h1 (by omega))) (ev_eq ?_ (Ev.now _))))
      have q : (-9223372036854775808 ≤ u - Cv.fst y m ∧ u - Cv.fst y m ≤ 9223372036854775807) ∧ -9223372036854775808 ≤ u - Cv.fst y m + 1 ∧ u - Cv.fst y m + 1 ≤ 9223372036854775807 := by omega
      rw [w64 q.1.1 q.1.2, w64 q.2.1 q.2.2]

end Go.Proofs.YtehnhedifhpalaaDoor.Cp

namespace Go.Proofs.YtehnhedifhpalaaDoor.Cp
open Go.RowKit Go.Proofs.YtehnhedifhpalaaDoorW.PrintWords Go.Proofs.YtehnhedifhpalaaDoorW.PrintLast Go.Proofs.YtehnhedifhpalaaDoorW.PrintMore

theorem mn_min (a b : Int) : mn a b = min a b := by unfold mn; split <;> omega
theorem wb {n : Int} (h : -10000000 ≤ n ∧ n ≤ 10000000) : wrap64 n = n := w64 (by omega) (by omega)

theorem date_f {a : Int} (h : 0 ≤ a ∧ a ≤ 730484) : ∃ y m k, Cv.IsDate y m k ∧ Cv.dayOf y m k = a ∧ Ev (fun n => civil_Date.f n a) (y, m, k, 0) := by
  obtain ⟨r, hr⟩ : ∃ r, r = a % 146097 := ⟨_, rfl⟩
  obtain ⟨g, hg⟩ : ∃ g, g = min (r / 36524) 3 := ⟨_, rfl⟩
  obtain ⟨s, hs⟩ : ∃ s, s = r - g * 36524 := ⟨_, rfl⟩
  obtain ⟨f, hf⟩ : ∃ f, f = s / 1461 := ⟨_, rfl⟩
  obtain ⟨t, ht⟩ : ∃ t, t = s - f * 1461 := ⟨_, rfl⟩
  obtain ⟨o, ho⟩ : ∃ o, o = min (t / 365) 3 := ⟨_, rfl⟩
  obtain ⟨u, hu⟩ : ∃ u, u = t - o * 365 := ⟨_, rfl⟩
  obtain ⟨q, hq⟩ : ∃ q, q = a / 146097 := ⟨_, rfl⟩
  obtain ⟨k1, k2, k3⟩ := Cv.year_of (day := a) (q := q) (r := r) (by omega) (by omega) (by omega) hg hs hf ht ho hu
  obtain ⟨y, hy⟩ : ∃ y, y = 2001 + 400 * q + (100 * g + 4 * f + o) := ⟨_, rfl⟩
  rw [← hy] at k1 k3
  have hy2 := Cv.date_exists h.1 h.2 k1 k2 k3
  have r0 : 0 ≤ r ∧ r < 146097 := by omega
  have g0 : 0 ≤ g ∧ g ≤ 3 := by omega
  have s0 : 0 ≤ s ∧ s ≤ 36524 := by omega
  have f0 : 0 ≤ f ∧ f ≤ 24 := by omega
  have t0 : 0 ≤ t ∧ t < 1461 := by omega
  have o0 : 0 ≤ o ∧ o ≤ 3 := by omega
  have q0 : 0 ≤ q ∧ q ≤ 5 := by omega
  obtain ⟨n, n1, n2, n3, hE⟩ := date_l0 (y := y) (u := u) (by omega) (by rw [Cv.fst_13]; omega) 11 1 (by decide) (by decide) (by decide) (by rw [Cv.fst_1]; exact k2)
  obtain ⟨i1, i2⟩ := Cv.month_of n1.1 n1.2 n2 n3 hy2.1 hy2.2
  refine ⟨y, n, u - Cv.fst y n + 1, i1, by rw [i2, k1], ?_⟩
  have b0 : -10000000 ≤ r / 36524 ∧ r / 36524 ≤ 10000000 := by omega
  have b1 : -10000000 ≤ g * 36524 ∧ g * 36524 ≤ 10000000 := by omega
  have b2 : -10000000 ≤ r - g * 36524 ∧ r - g * 36524 ≤ 10000000 := by omega
  have b3 : -10000000 ≤ s / 1461 ∧ s / 1461 ≤ 10000000 := by omega
  have b4 : -10000000 ≤ f * 1461 ∧ f * 1461 ≤ 10000000 := by omega
  have b5 : -10000000 ≤ s - f * 1461 ∧ s - f * 1461 ≤ 10000000 := by omega
  have b6 : -10000000 ≤ t / 365 ∧ t / 365 ≤ 10000000 := by omega
  have b7 : -10000000 ≤ o * 365 ∧ o * 365 ≤ 10000000 := by omega
  have b8 : -10000000 ≤ t - o * 365 ∧ t - o * 365 ≤ 10000000 := by omega
  have b9 : -10000000 ≤ a / 146097 ∧ a / 146097 ≤ 10000000 := by omega
  have b10 : -10000000 ≤ 400 * q ∧ 400 * q ≤ 10000000 := by omega
  have b11 : -10000000 ≤ 100 * g ∧ 100 * g ≤ 10000000 := by omega
  have b12 : -10000000 ≤ 4 * f ∧ 4 * f ≤ 10000000 := by omega
  have b13 : -10000000 ≤ 2001 + 400 * q ∧ 2001 + 400 * q ≤ 10000000 := by omega
  have b14 : -10000000 ≤ 100 * g + 4 * f ∧ 100 * g + 4 * f ≤ 10000000 := by omega
  have b15 : -10000000 ≤ 100 * g + 4 * f + o ∧ 100 * g + 4 * f + o ≤ 10000000 := by omega
  have b16 : -10000000 ≤ 2001 + 400 * q + (100 * g + 4 * f + o) ∧ 2001 + 400 * q + (100 * g + 4 * f + o) ≤ 10000000 := by omega
  have c1 : ¬ a < 0 := by omega
  have c2 : ¬ a > 730484 := by omega
  have e1 : Int.tmod a 146097 = r := by rw [Int.tmod_eq_emod_of_nonneg h.1, hr]
  have e2 : mn (wrap64 (Int.tdiv r 36524)) 3 = g := by rw [Int.tdiv_eq_ediv_of_nonneg r0.1, wb b0, mn_min, hg]
  have e3 : wrap64 (r - wrap64 (g * 36524)) = s := by rw [wb b1, wb b2, hs]
  have e4 : wrap64 (Int.tdiv s 1461) = f := by rw [Int.tdiv_eq_ediv_of_nonneg s0.1, wb b3, hf]
  have e5 : wrap64 (s - wrap64 (f * 1461)) = t := by rw [wb b4, wb b5, ht]
  have e6 : mn (wrap64 (Int.tdiv t 365)) 3 = o := by rw [Int.tdiv_eq_ediv_of_nonneg t0.1, wb b6, mn_min, ho]
  have e7 : wrap64 (t - wrap64 (o * 365)) = u := by rw [wb b7, wb b8, hu]
  have e8 : wrap64 (Int.tdiv a 146097) = q := by rw [Int.tdiv_eq_ediv_of_nonneg h.1, wb b9, hq]
  have e9 : wrap64 (wrap64 (2001 + wrap64 (400 * q)) + wrap64 (wrap64 (wrap64 (100 * g) + wrap64 (4 * f)) + o)) = y := by
    rw [wb b10, wb b11, wb b12, wb b13, wb b14, wb b15, wb b16, hy]
  unfold civil_Date.f
  refine Ev.bind (ev_val (r := 0) (by unfold civil_within.f; rw [if_neg c1, if_neg c2])) (ev_pos rfl ?_)
  rw [e1, e2, e3, e4, e5, e6, e7, e8, e9]
  exact hE

end Go.Proofs.YtehnhedifhpalaaDoor.Cp

namespace Go.Proofs.YtehnhedifhpalaaDoor.Cp
open Go.RowKit Go.Proofs.YtehnhedifhpalaaDoorW.PrintWords Go.Proofs.YtehnhedifhpalaaDoorW.PrintLast Go.Proofs.YtehnhedifhpalaaDoorW.PrintMore

theorem dated_f (y m d : Int) : civil_dated.f y m d = some (decide (Cv.IsDate y m d)) := by
  unfold civil_dated.f
  have no : ∀ {p : Prop}, ¬ Cv.IsDate y m d → (some false : Option Bool) = some (decide (Cv.IsDate y m d)) := fun h => by rw [decide_eq_false h]
  by_cases c1 : y ≥ 2001
  · rw [if_pos c1]
    by_cases c2 : y ≤ 4000
    · rw [if_pos c2]
      by_cases c3 : m ≥ 1
      · rw [if_pos c3]
        by_cases c4 : m ≤ 12
        · rw [if_pos c4]
          by_cases c5 : d ≥ 1
          · rw [if_pos c5]
            have b1 := Cv.fst_bd y (m := m) (by omega) (by omega)
            have b2 := Cv.fst_bd y (m := m + 1) (by omega) (by omega)
            have q1 : -10000000 ≤ m + 1 ∧ m + 1 ≤ 10000000 := by omega
            have q2 : -10000000 ≤ Cv.fst y (m + 1) - Cv.fst y m ∧ Cv.fst y (m + 1) - Cv.fst y m ≤ 10000000 := by omega
            rw [wb q1, first_f (by omega) (by omega) (by omega), first_f (by omega) (by omega) (by omega)]
            simp only [Option.bind_some]
            rw [wb q2]
            congr 1
            rw [decide_eq_decide]
            constructor
            · intro h; exact ⟨c1, c2, c3, c4, c5, h⟩
            · intro h; exact h.d2
          · rw [if_neg c5]; exact no (p := True) (fun h => c5 h.d1)
        · rw [if_neg c4]; exact no (p := True) (fun h => c4 h.m2)
      · rw [if_neg c3]; exact no (p := True) (fun h => c3 h.m1)
    · rw [if_neg c2]; exact no (p := True) (fun h => c2 h.y2)
  · rw [if_neg c1]; exact no (p := True) (fun h => c1 h.y1)

theorem day_f {y m d : Int} (h : Cv.IsDate y m d) : civil_Day.f y m d = some (Cv.dayOf y m d, 0) := by
  unfold civil_Day.f
  rw [dated_f, decide_eq_true h]
  simp only [Option.bind_some, if_true]
  have h1 := h.y1; have h2 := h.y2; have h3 := h.m1; have h4 := h.m2; have h5 := h.d1; have h6 := h.d2
  have b1 := Cv.fst_bd y (m := m) (by omega) (by omega)
  have b2 := Cv.mlen_bd y (m := m) (by omega) (by omega)
  rw [first_f (by omega) (by omega) (by omega)]
  simp only [Option.bind_some]
  have hd := Cv.dayOf_bd h
  unfold Cv.dayOf Cv.ys at *
  have n1 : 0 ≤ y - 1 := by omega
  rw [wb (n := y - 1) (by omega)]
  rw [Int.tdiv_eq_ediv_of_nonneg n1, Int.tdiv_eq_ediv_of_nonneg n1, Int.tdiv_eq_ediv_of_nonneg n1]
  generalize Cv.fst y m = x at *
  have p1 : -10000000 ≤ 365 * (y - 1) ∧ 365 * (y - 1) ≤ 10000000 := by omega
  have p2 : -10000000 ≤ (y - 1) / 4 ∧ (y - 1) / 4 ≤ 10000000 := by omega
  have p3 : -10000000 ≤ (y - 1) / 100 ∧ (y - 1) / 100 ≤ 10000000 := by omega
  have p4 : -10000000 ≤ (y - 1) / 400 ∧ (y - 1) / 400 ≤ 10000000 := by omega
  have p5 : -10000000 ≤ 365 * (y - 1) + (y - 1) / 4 ∧ 365 * (y - 1) + (y - 1) / 4 ≤ 10000000 := by omega
  have p6 : -10000000 ≤ 365 * (y - 1) + (y - 1) / 4 - (y - 1) / 100 ∧ 365 * (y - 1) + (y - 1) / 4 - (y - 1) / 100 ≤ 10000000 := by omega
  have p7 : -10000000 ≤ 365 * (y - 1) + (y - 1) / 4 - (y - 1) / 100 + (y - 1) / 400 ∧ 365 * (y - 1) + (y - 1) / 4 - (y - 1) / 100 + (y - 1) / 400 ≤ 10000000 := by omega
  have p8 : -10000000 ≤ 365 * (y - 1) + (y - 1) / 4 - (y - 1) / 100 + (y - 1) / 400 - 730485 ∧ 365 * (y - 1) + (y - 1) / 4 - (y - 1) / 100 + (y - 1) / 400 - 730485 ≤ 10000000 := by omega
  have p9 : -10000000 ≤ 365 * (y - 1) + (y - 1) / 4 - (y - 1) / 100 + (y - 1) / 400 - 730485 + x ∧ 365 * (y - 1) + (y - 1) / 4 - (y - 1) / 100 + (y - 1) / 400 - 730485 + x ≤ 10000000 := by omega
  have p10 : -10000000 ≤ 365 * (y - 1) + (y - 1) / 4 - (y - 1) / 100 + (y - 1) / 400 - 730485 + x + d ∧ 365 * (y - 1) + (y - 1) / 4 - (y - 1) / 100 + (y - 1) / 400 - 730485 + x + d ≤ 10000000 := by omega
  have p11 : -10000000 ≤ 365 * (y - 1) + (y - 1) / 4 - (y - 1) / 100 + (y - 1) / 400 - 730485 + x + d - 1 ∧ 365 * (y - 1) + (y - 1) / 4 - (y - 1) / 100 + (y - 1) / 400 - 730485 + x + d - 1 ≤ 10000000 := by omega
  rw [wb p1, wb p2, wb p3, wb p4, wb p5, wb p6, wb p7, wb p8, wb p9, wb p10, wb p11]

theorem day_no {y m d : Int} (h : ¬ Cv.IsDate y m d) : civil_Day.f y m d = some (0, 10) := by
  unfold civil_Day.f
  rw [dated_f, decide_eq_false h]
  rfl

end Go.Proofs.YtehnhedifhpalaaDoor.Cp
