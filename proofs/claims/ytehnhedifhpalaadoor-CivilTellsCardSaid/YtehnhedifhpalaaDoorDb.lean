/- Date of civil: each day has its date. -/
import Derived.Test.YtehnhedifhpalaaDoorDa
set_option linter.unusedVariables false
set_option linter.unusedSimpArgs false
namespace Go.Proofs.YtehnhedifhpalaaDoor.Cp
open Go.RowKit Go.Proofs.YtehnhedifhpalaaDoorW.PrintWords Go.Proofs.YtehnhedifhpalaaDoorW.PrintLast Go.Proofs.YtehnhedifhpalaaDoorW.PrintMore

theorem mn_min (a b : Int) : mn a b = min a b := by unfold mn; split <;> omega
theorem wb {n : Int} (h : -10000000 ≤ n ∧ n ≤ 10000000) : wrap64 n = n := w64 (by omega) (by omega)

theorem date_f {a : Int} (h : 0 ≤ a ∧ a ≤ 730484) : ∃ y m k, Cv.IsDate y m k ∧ Cv.dayOf y m k = a ∧ Ev (fun n => civil_Date.f n a) (y, m, k, 0) := by
  obtain ⟨r, hr⟩ : ∃ r, r = a % 146097 := ⟨_, rfl⟩
  obtain ⟨g, hg⟩ : ∃ g, g = min (r / 36524) 3 := ⟨_, rfl⟩
  obtain ⟨s, hs⟩ : ∃ s, s = r - g * 36524 := ⟨_, rfl⟩
  obtain ⟨f, hf⟩ : ∃ f, f = s / 1461 := ⟨_, rfl⟩
  obtain ⟨t, ht⟩ : ∃ t, t = s - f * 1461 := ⟨_, rfl⟩
  obtain ⟨o, ho⟩ : ∃ o, o = min (t / 365) 3 := ⟨_, rfl⟩
  obtain ⟨u, hu⟩ : ∃ u, u = t - o * 365 := ⟨_, rfl⟩
  obtain ⟨q, hq⟩ : ∃ q, q = a / 146097 := ⟨_, rfl⟩
  obtain ⟨k1, k2, k3⟩ := Cv.year_of (day := a) (q := q) (r := r) (by omega) (by omega) (by omega) hg hs hf ht ho hu
  obtain ⟨y, hy⟩ : ∃ y, y = 2001 + 400 * q + (100 * g + 4 * f + o) := ⟨_, rfl⟩
  rw [← hy] at k1 k3
  have hy2 := Cv.date_exists h.1 h.2 k1 k2 k3
  have r0 : 0 ≤ r ∧ r < 146097 := by omega
  have g0 : 0 ≤ g ∧ g ≤ 3 := by omega
  have s0 : 0 ≤ s ∧ s ≤ 36524 := by omega
  have f0 : 0 ≤ f ∧ f ≤ 24 := by omega
  have t0 : 0 ≤ t ∧ t < 1461 := by omega
  have o0 : 0 ≤ o ∧ o ≤ 3 := by omega
  have q0 : 0 ≤ q ∧ q ≤ 5 := by omega
  obtain ⟨n, n1, n2, n3, hE⟩ := date_l0 (y := y) (u := u) (by omega) (by rw [Cv.fst_13]; omega) 11 1 (by decide) (by decide) (by decide) (by rw [Cv.fst_1]; exact k2)
  obtain ⟨i1, i2⟩ := Cv.month_of n1.1 n1.2 n2 n3 hy2.1 hy2.2
  refine ⟨y, n, u - Cv.fst y n + 1, i1, by rw [i2, k1], ?_⟩
  have b0 : -10000000 ≤ r / 36524 ∧ r / 36524 ≤ 10000000 := by omega
  have b1 : -10000000 ≤ g * 36524 ∧ g * 36524 ≤ 10000000 := by omega
  have b2 : -10000000 ≤ r - g * 36524 ∧ r - g * 36524 ≤ 10000000 := by omega
  have b3 : -10000000 ≤ s / 1461 ∧ s / 1461 ≤ 10000000 := by omega
  have b4 : -10000000 ≤ f * 1461 ∧ f * 1461 ≤ 10000000 := by omega
  have b5 : -10000000 ≤ s - f * 1461 ∧ s - f * 1461 ≤ 10000000 := by omega
  have b6 : -10000000 ≤ t / 365 ∧ t / 365 ≤ 10000000 := by omega
  have b7 : -10000000 ≤ o * 365 ∧ o * 365 ≤ 10000000 := by omega
  have b8 : -10000000 ≤ t - o * 365 ∧ t - o * 365 ≤ 10000000 := by omega
  have b9 : -10000000 ≤ a / 146097 ∧ a / 146097 ≤ 10000000 := by omega
  have b10 : -10000000 ≤ 400 * q ∧ 400 * q ≤ 10000000 := by omega
  have b11 : -10000000 ≤ 100 * g ∧ 100 * g ≤ 10000000 := by omega
  have b12 : -10000000 ≤ 4 * f ∧ 4 * f ≤ 10000000 := by omega
  have b13 : -10000000 ≤ 2001 + 400 * q ∧ 2001 + 400 * q ≤ 10000000 := by omega
  have b14 : -10000000 ≤ 100 * g + 4 * f ∧ 100 * g + 4 * f ≤ 10000000 := by omega
  have b15 : -10000000 ≤ 100 * g + 4 * f + o ∧ 100 * g + 4 * f + o ≤ 10000000 := by omega
  have b16 : -10000000 ≤ 2001 + 400 * q + (100 * g + 4 * f + o) ∧ 2001 + 400 * q + (100 * g + 4 * f + o) ≤ 10000000 := by omega
  have c1 : ¬ a < 0 := by omega
  have c2 : ¬ a > 730484 := by omega
  have e1 : Int.tmod a 146097 = r := by rw [Int.tmod_eq_emod_of_nonneg h.1, hr]
  have e2 : mn (wrap64 (Int.tdiv r 36524)) 3 = g := by rw [Int.tdiv_eq_ediv_of_nonneg r0.1, wb b0, mn_min, hg]
  have e3 : wrap64 (r - wrap64 (g * 36524)) = s := by rw [wb b1, wb b2, hs]
  have e4 : wrap64 (Int.tdiv s 1461) = f := by rw [Int.tdiv_eq_ediv_of_nonneg s0.1, wb b3, hf]
  have e5 : wrap64 (s - wrap64 (f * 1461)) = t := by rw [wb b4, wb b5, ht]
  have e6 : mn (wrap64 (Int.tdiv t 365)) 3 = o := by rw [Int.tdiv_eq_ediv_of_nonneg t0.1, wb b6, mn_min, ho]
  have e7 : wrap64 (t - wrap64 (o * 365)) = u := by rw [wb b7, wb b8, hu]
  have e8 : wrap64 (Int.tdiv a 146097) = q := by rw [Int.tdiv_eq_ediv_of_nonneg h.1, wb b9, hq]
  have e9 : wrap64 (wrap64 (2001 + wrap64 (400 * q)) + wrap64 (wrap64 (wrap64 (100 * g) + wrap64 (4 * f)) + o)) = y := by
    rw [wb b10, wb b11, wb b12, wb b13, wb b14, wb b15, wb b16, hy]
  unfold civil_Date.f
  refine Ev.bind (ev_val (r := 0) (by unfold civil_within.f; rw [if_neg c1, if_neg c2])) (ev_pos rfl ?_)
  rw [e1, e2, e3, e4, e5, e6, e7, e8, e9]
  exact hE

end Go.Proofs.YtehnhedifhpalaaDoor.Cp
