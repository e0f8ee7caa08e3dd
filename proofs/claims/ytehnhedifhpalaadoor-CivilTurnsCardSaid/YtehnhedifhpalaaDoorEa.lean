/- CivilTurns: the plain function of the law returns true at every input. -/
import Derived.Test.YtehnhedifhpalaaDoorCp8
import Derived.Test.YtehnhedifhpalaaDoorCi
import Derived.Test.YtehnhedifhpalaaDoorDc
set_option linter.unusedVariables false
set_option linter.unusedSimpArgs false
namespace Go.Proofs.YtehnhedifhpalaaDoor.Cp
open Go.RowKit Go.Proofs.YtehnhedifhpalaaDoorW.PrintWords Go.Proofs.YtehnhedifhpalaaDoorW.PrintLast Go.Proofs.YtehnhedifhpalaaDoorW.PrintMore

theorem pick_f {n m : Int} (hm : 1 ≤ m ∧ m ≤ 1000000000000000) : ∃ d, letterbagkit_Pick.f n m = some d ∧ 0 ≤ d ∧ d < m := by
  unfold letterbagkit_Pick.f
  have h1 := Int.tmod_lt_of_pos n (show 0 < m by omega)
  have h2 : -m < Int.tmod n m := by
    have := Int.tmod_lt_of_pos (-n) (show 0 < m by omega)
    rw [Int.neg_tmod] at this
    omega
  rw [if_neg (by omega), if_neg (by omega)]
  generalize Int.tmod n m = r at *
  by_cases c : r < 0
  · rw [if_pos c]
    have b : -9223372036854775808 ≤ r + m ∧ r + m ≤ 9223372036854775807 := by omega
    refine ⟨r + m, by rw [w64 b.1 b.2], by omega, by omega⟩
  · rw [if_neg c]
    exact ⟨r, rfl, by omega, by omega⟩

theorem weekday_f {d : Int} (h : 0 ≤ d ∧ d ≤ 730484) : civil_Weekday.f d = some (d % 7, 0) := by
  unfold civil_Weekday.f civil_within.f
  rw [if_neg (by omega), if_neg (by omega)]
  simp only [Option.bind_some, if_true]
  rw [Int.tmod_eq_emod_of_nonneg h.1]

theorem leap_f {y : Int} (h : 0 ≤ y) : civil_Leap.f y = some (decide (Cv.leap y)) := by
  have e : civil_Leap.f y = some (leapB y) := by
    unfold civil_Leap.f leapB
    by_cases c1 : Int.tmod y 4 = 0
    · rw [if_pos c1, decide_eq_true c1]
      by_cases c2 : Int.tmod y 100 = 0
      · rw [if_pos c2, decide_eq_false (fun hh => hh c2)]
        simp only [Bool.false_or, Bool.true_and]; rfl
      · rw [if_neg c2, decide_eq_true c2]; rfl
    · rw [if_neg c1, decide_eq_false c1]; rfl
  rw [e, leapB_iff h]

theorem turns_all (a0 : Int) : Ev (fun k => letterbaglaw01_CivilTurns.f k a0) true := by
  obtain ⟨d, hp, h0, h1⟩ := pick_f (n := a0) (m := 584388) (by decide)
  obtain ⟨y, m, k, i1, i2, i3⟩ := date_f (a := d) (by omega)
  obtain ⟨z, n, l, j1, j2, j3⟩ := date_f (a := d + 146097) (by omega)
  have b : -10000000 ≤ d + 146097 ∧ d + 146097 ≤ 10000000 := by omega
  have hy := i1.y1
  have hz := j1.y1; have hz2 := j1.y2
  have hbig : y + 400 ≤ 4000 := by
    refine Classical.byContradiction fun hc => ?_
    have e1 := Cv.ys_mono (show 3601 ≤ y by omega)
    have e2 := (Cv.dayOf_bd i1).1
    have e3 : Cv.ys 3601 = 584388 := by decide
    omega
  have k1 : Cv.IsDate (y + 400) m k := ⟨by omega, hbig, i1.m1, i1.m2, i1.d1, by rw [Cv.mlen_400]; exact i1.d2⟩
  have k2 : Cv.dayOf (y + 400) m k = d + 146097 := by
    have := i2
    unfold Cv.dayOf at this ⊢
    rw [Cv.ys_400, Cv.fst_400]; omega
  obtain ⟨q1, q2, q3⟩ := Cv.dayOf_inj k1 j1 (by rw [k2, j2])
  subst q2; subst q3
  have hl : decide (Cv.leap y) = decide (Cv.leap z) := by
    rw [← q1, decide_eq_decide]; unfold Cv.leap; omega
  have hw : d % 7 = (d + 146097) % 7 := by omega
  have by4 : -10000000 ≤ y + 400 ∧ y + 400 ≤ 10000000 := by omega
  have w0 : wrap64 (wrap64 (wrap64 ((0 : Int) + 0) + 0) + 0) = 0 := by
    have z : wrap64 ((0 : Int) + 0) = 0 := wb (by decide)
    rw [z, z, z]
  unfold letterbaglaw01_CivilTurns.f
  refine Ev.bind awake_f (ev_pos rfl (Ev.bind (ev_val hp) (Ev.bind i3 ?_)))
  rw [wb b]
  refine Ev.bind j3 (Ev.bind (ev_val (weekday_f (by omega))) (Ev.bind (ev_val (weekday_f (by omega))) ?_))
  refine ev_pos w0 (ev_pos (by rw [wb by4]; exact q1.symm) (ev_pos rfl (ev_pos rfl (ev_pos hw ?_))))
  refine Ev.bind (ev_val (leap_f (by omega))) (Ev.bind (ev_val (leap_f (by omega))) (ev_eq ?_ (Ev.now _)))
  rw [hl]; simp

end Go.Proofs.YtehnhedifhpalaaDoor.Cp
