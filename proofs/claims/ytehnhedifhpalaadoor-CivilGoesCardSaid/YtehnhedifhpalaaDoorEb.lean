/- CivilGoes: the plain function of the law returns true at every input. -/
import Derived.Test.YtehnhedifhpalaaDoorEa
set_option linter.unusedVariables false
set_option linter.unusedSimpArgs false
namespace Go.Proofs.YtehnhedifhpalaaDoor.Cp
open Go.RowKit Go.Proofs.YtehnhedifhpalaaDoorW.PrintWords Go.Proofs.YtehnhedifhpalaaDoorW.PrintLast Go.Proofs.YtehnhedifhpalaaDoorW.PrintMore

theorem goes_all (a0 : Int) : Ev (fun k => letterbaglaw01_CivilGoes.f k a0) true := by
  obtain ⟨d, hp, h0, h1⟩ := pick_f (n := a0) (m := 730484) (by decide)
  obtain ⟨y, m, k, i1, i2, i3⟩ := date_f (a := d) (by omega)
  obtain ⟨z, n, l, j1, j2, j3⟩ := date_f (a := d + 1) (by omega)
  have hy := i1.y1; have hy2 := i1.y2; have hm1 := i1.m1; have hm2 := i1.m2; have hd1 := i1.d1; have hd2 := i1.d2
  have hml := Cv.mlen_bd y (m := m) hm1 hm2
  have b : -10000000 ≤ d + 1 ∧ d + 1 ≤ 10000000 := by omega
  have bk : -10000000 ≤ k + 1 ∧ k + 1 ≤ 10000000 := by omega
  have bm : -10000000 ≤ m + 1 ∧ m + 1 ≤ 10000000 := by omega
  have by1 : -10000000 ≤ y + 1 ∧ y + 1 ≤ 10000000 := by omega
  have b7 : -10000000 ≤ d % 7 + 1 ∧ d % 7 + 1 ≤ 10000000 := by omega
  have hw : (d + 1) % 7 = (d % 7 + 1) % 7 := by omega
  have n7 : 0 ≤ d % 7 + 1 := by omega
  have w0 : wrap64 (wrap64 (wrap64 ((0 : Int) + 0) + 0) + 0) = 0 := by
    have z : wrap64 ((0 : Int) + 0) = 0 := wb (by decide)
    rw [z, z, z]
  have hne : ((d + 1) % 7 != (d % 7 + 1) % 7) = false := by rw [hw]; simp
  have hdd : (d != d) = false := by simp
  unfold letterbaglaw01_CivilGoes.f
  refine Ev.bind awake_f (ev_pos rfl (Ev.bind (ev_val hp) (Ev.bind i3 ?_)))
  rw [wb b]
  refine Ev.bind j3 (Ev.bind (ev_val (weekday_f (by omega))) (Ev.bind (ev_val (weekday_f (by omega))) (ev_pos w0 ?_)))
  simp only [wb b7, Int.tmod_eq_emod_of_nonneg n7, hne]
  refine Ev.step (fun k => letterbaglaw01_CivilGoes.j0.eq_2 _ _ _ _ _ _ _ _ k) (ev_neg Bool.false_ne_true ?_)
  rw [day_f i1, i2, wb bk]
  refine Ev.bind (Ev.now _) ?_
  by_cases c : k + 1 ≤ Cv.mlen y m
  · have k1 : Cv.IsDate y m (k + 1) := ⟨hy, hy2, hm1, hm2, by omega, c⟩
    have k2 : Cv.dayOf y m (k + 1) = d + 1 := by unfold Cv.dayOf at i2 ⊢; omega
    obtain ⟨q1, q2, q3⟩ := Cv.dayOf_inj k1 j1 (by rw [k2, j2])
    subst q1; subst q2; subst q3
    rw [day_f k1]
    refine Ev.bind (Ev.now _) (ev_pos rfl ?_)
    simp only [hdd]
    refine Ev.step (fun k => letterbaglaw01_CivilGoes.j1.eq_2 _ _ _ _ _ _ _ _ k) (ev_neg Bool.false_ne_true (ev_pos rfl (ev_pos rfl (ev_pos rfl (ev_eq ?_ (Ev.now _))))))
    rw [wb bk]; simp
  · rw [day_no (fun h => c h.d2)]
    refine Ev.bind (Ev.now _) (ev_pos rfl ?_)
    simp only [hdd]
    have e10 : ¬ (10 : Int) = 0 := by decide
    refine Ev.step (fun k => letterbaglaw01_CivilGoes.j1.eq_2 _ _ _ _ _ _ _ _ k) (ev_neg Bool.false_ne_true (ev_neg e10 ?_))
    by_cases c2 : m < 12
    · have hml2 := Cv.mlen_bd y (m := m + 1) (by omega) (by omega)
      have k1 : Cv.IsDate y (m + 1) 1 := ⟨hy, hy2, by omega, by omega, by decide, by omega⟩
      have k2 : Cv.dayOf y (m + 1) 1 = d + 1 := by
        have := Cv.fst_succ y m
        unfold Cv.dayOf at i2 ⊢; omega
      obtain ⟨q1, q2, q3⟩ := Cv.dayOf_inj k1 j1 (by rw [k2, j2])
      subst q1; subst q2; subst q3
      exact ev_pos rfl (ev_pos rfl (ev_pos (by rw [wb bm]) (ev_pos c2 (Ev.now _))))
    · obtain rfl : m = 12 := by omega
      have e13 := Cv.fst_13 y
      have es := Cv.ys_succ y
      have ef := Cv.fst_succ y 12
      have hlt : y + 1 ≤ 4000 := by
        refine Classical.byContradiction fun hc => ?_
        have e1 : y = 4000 := by omega
        subst e1
        have e3 : Cv.ys 4001 = 730485 := by decide
        unfold Cv.dayOf at i2
        have ef2 : Cv.fst 4000 13 = Cv.fst 4000 12 + Cv.mlen 4000 12 := ef
        have es2 : Cv.ys 4001 = Cv.ys 4000 + 365 + Cv.lp 4000 := es
        omega
      have hml2 := Cv.mlen_bd (y + 1) (m := 1) (by decide) (by decide)
      have k1 : Cv.IsDate (y + 1) 1 1 := ⟨by omega, hlt, by decide, by decide, by decide, by omega⟩
      have k2 : Cv.dayOf (y + 1) 1 1 = d + 1 := by
        have ef2 : Cv.fst y 13 = Cv.fst y 12 + Cv.mlen y 12 := ef
        unfold Cv.dayOf at i2 ⊢
        rw [Cv.fst_1]; omega
      obtain ⟨q1, q2, q3⟩ := Cv.dayOf_inj k1 j1 (by rw [k2, j2])
      subst q1; subst q2; subst q3
      exact ev_pos rfl (ev_neg (by omega) (ev_pos (by rw [wb by1]) (ev_pos rfl (Ev.now _))))

end Go.Proofs.YtehnhedifhpalaaDoor.Cp
