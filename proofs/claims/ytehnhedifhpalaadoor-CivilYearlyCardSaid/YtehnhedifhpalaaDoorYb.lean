/- CivilYearly: the plain function of the law returns true at any three numbers. -/
import Derived.Test.YtehnhedifhpalaaDoorYa
import Derived.Test.YtehnhedifhpalaaDoorRz
import Derived.Test.YtehnhedifhpalaaDoorPk
import Derived.Test.YtehnhedifhpalaaDoorCi
set_option linter.unusedVariables false
set_option linter.unusedSimpArgs false
namespace Go.Proofs.YtehnhedifhpalaaDoor.Cp
open Go.RowKit Go.Proofs.YtehnhedifhpalaaDoorW.PrintWords Go.Proofs.YtehnhedifhpalaaDoorW.PrintLast Go.Proofs.YtehnhedifhpalaaDoorW.PrintMore

/-- Whether a day of the year lies from one to another one. -/
def lies (z x y : Int) : Bool := if x > y then (decide (z ≥ x) || decide (z ≤ y)) else (decide (z ≥ x) && decide (z ≤ y))

theorem date_2004 {y m d : Int} (h : Cv.IsDate y m d) : Cv.IsDate 2004 m d := by
  have h1 := h.m1; have h2 := h.m2; have h3 := h.d1; have h4 := h.d2
  refine ⟨by decide, by decide, h1, h2, h3, ?_⟩
  have e1 : Cv.lp 2004 = 1 := by decide
  have e2 := Cv.lp_01 y
  have : Cv.mlen y m ≤ Cv.mlen 2004 m := by
    rcases Cv.month_cases h1 h2 with rfl | rfl | rfl | rfl | rfl | rfl | rfl | rfl | rfl | rfl | rfl | rfl <;>
      simp [Cv.mlen, Cv.fst, Cv.ah, e1] <;> omega
  omega

theorem md_bd {y m d : Int} (h : Cv.IsDate y m d) : (1 ≤ m ∧ m ≤ 12) ∧ 1 ≤ d ∧ d ≤ 31 := by
  have := Cv.mlen_bd y h.m1 h.m2
  have := h.m1; have := h.m2; have := h.d1; have := h.d2
  omega

theorem md_wrap {m d : Int} (h : (1 ≤ m ∧ m ≤ 12) ∧ 1 ≤ d ∧ d ≤ 31) : wrap64 (wrap64 (100 * m) + d) = 100 * m + d := by
  have b1 : -10000000 ≤ 100 * m ∧ 100 * m ≤ 10000000 := by omega
  have b2 : -10000000 ≤ 100 * m + d ∧ 100 * m + d ≤ 10000000 := by omega
  rw [wb b1, wb b2]

theorem md_f {y m d : Int} (h : Cv.IsDate y m d) : Ev (fun k => md.f k (Cv.dayOf y m d)) (100 * m + d) := by
  unfold md.f
  exact Ev.bind (cdate_f h) (ev_eq (md_wrap (md_bd h)) (Ev.now _))

theorem dated_md {y m d : Int} (h : Cv.IsDate y m d) : civil_dated.f 2004 (wrap64 (Int.tdiv (100 * m + d) 100)) (Int.tmod (100 * m + d) 100) = some true := by
  have b := md_bd h
  have n : 0 ≤ 100 * m + d := by omega
  have b1 : -10000000 ≤ (100 * m + d) / 100 ∧ (100 * m + d) / 100 ≤ 10000000 := by omega
  rw [Int.tdiv_eq_ediv_of_nonneg n, Int.tmod_eq_emod_of_nonneg n, wb b1, show (100 * m + d) / 100 = m by omega, show (100 * m + d) % 100 = d by omega, dated_f, decide_eq_true (date_2004 h)]

theorem yearly_j0 {x y m d : Int} (h : (1 ≤ m ∧ m ≤ 12) ∧ 1 ≤ d ∧ d ≤ 31) : Ev (fun k => civil_Yearly.j0 k x y m d false) (lies (100 * m + d) x y, 0) := by
  refine Ev.step (fun k => civil_Yearly.j0.eq_2 _ _ _ _ _ k) (ev_neg Bool.false_ne_true ?_)
  rw [md_wrap h]
  unfold lies
  by_cases c1 : x > y
  · refine ev_pos c1 ?_
    rw [if_pos c1]
    by_cases c2 : 100 * m + d ≥ x
    · refine ev_pos c2 (ev_eq ?_ (Ev.now _))
      rw [decide_eq_true c2]; rfl
    · refine ev_neg c2 (ev_eq ?_ (Ev.now _))
      rw [decide_eq_false c2]; rfl
  · refine ev_neg c1 ?_
    rw [if_neg c1]
    by_cases c2 : 100 * m + d ≥ x
    · refine ev_pos c2 (ev_eq ?_ (Ev.now _))
      rw [decide_eq_true c2]; rfl
    · refine ev_neg c2 (ev_eq ?_ (Ev.now _))
      rw [decide_eq_false c2]; rfl

theorem yearly_f {y m d y1 m1 d1 y2 m2 d2 : Int} (h : Cv.IsDate y m d) (h1 : Cv.IsDate y1 m1 d1) (h2 : Cv.IsDate y2 m2 d2) :
    Ev (fun k => civil_Yearly.f k (Cv.dayOf y m d) (100 * m1 + d1) (100 * m2 + d2)) (lies (100 * m + d) (100 * m1 + d1) (100 * m2 + d2), 0) := by
  unfold civil_Yearly.f
  exact Ev.bind (cdate_f h) (ev_pos rfl (Ev.bind (ev_val (dated_md h1)) (ev_pos rfl (Ev.bind (ev_val (dated_md h2)) (yearly_j0 (md_bd h))))))

theorem lies_law (z x y : Int) : yearB (lies z x y) (lies z y x) (z == x || z == y) x y = true := by
  unfold yearB lies
  rcases Int.lt_trichotomy x y with c | c | c
  · rw [if_neg (by omega), if_neg (by omega), if_pos c]
    cases h1 : decide (z ≥ x) <;> cases h2 : decide (z ≤ y) <;> cases h3 : decide (z ≥ y) <;> cases h4 : decide (z ≤ x) <;> cases h5 : (z == x) <;> cases h6 : (z == y) <;>
      first | rfl | (exfalso; simp only [decide_eq_true_eq, decide_eq_false_iff_not, beq_iff_eq, beq_eq_false_iff_ne, ne_eq] at h1 h2 h3 h4 h5 h6; omega)
  · rw [if_pos c, if_neg (by omega), if_neg (by omega)]
    cases h1 : decide (z ≥ x) <;> cases h2 : decide (z ≤ y) <;> cases h3 : decide (z ≥ y) <;> cases h4 : decide (z ≤ x) <;> cases h5 : (z == x) <;> cases h6 : (z == y) <;>
      first | rfl | (exfalso; simp only [decide_eq_true_eq, decide_eq_false_iff_not, beq_iff_eq, beq_eq_false_iff_ne, ne_eq] at h1 h2 h3 h4 h5 h6; omega)
  · rw [if_neg (by omega), if_pos c, if_neg (by omega)]
    cases h1 : decide (z ≥ x) <;> cases h2 : decide (z ≤ y) <;> cases h3 : decide (z ≥ y) <;> cases h4 : decide (z ≤ x) <;> cases h5 : (z == x) <;> cases h6 : (z == y) <;>
      first | rfl | (exfalso; simp only [decide_eq_true_eq, decide_eq_false_iff_not, beq_iff_eq, beq_eq_false_iff_ne, ne_eq] at h1 h2 h3 h4 h5 h6; omega)

theorem day_pick (n : Int) : ∃ d, letterbaglaw01_day.f n = some d ∧ 0 ≤ d ∧ d ≤ 730484 := by
  obtain ⟨d, h, h0, h1⟩ := pick_f (n := n) (m := 730485) (by decide)
  refine ⟨d, ?_, h0, by omega⟩
  unfold letterbaglaw01_day.f
  rw [h]; rfl

theorem yearly_all (a0 a1 a2 : Int) : Ev (fun k => letterbaglaw01_CivilYearly.f k a0 a1 a2) true := by
  obtain ⟨d, p, p0, p1⟩ := day_pick a0
  obtain ⟨u, q, q0, q1⟩ := day_pick a1
  obtain ⟨v, r, r0, r1⟩ := day_pick a2
  obtain ⟨y, m, e, h, rfl⟩ := has_date ⟨p0, p1⟩
  obtain ⟨y1, m1, e1, h1, rfl⟩ := has_date ⟨q0, q1⟩
  obtain ⟨y2, m2, e2, h2, rfl⟩ := has_date ⟨r0, r1⟩
  have z0 : wrap64 ((0 : Int) + 0) = 0 := wb (by decide)
  unfold letterbaglaw01_CivilYearly.f
  refine Ev.bind awake_f (ev_pos rfl (Ev.bind (ev_val p) (Ev.bind (ev_val q) (Ev.bind (md_f h1) (Ev.bind (ev_val r) (Ev.bind (md_f h2) ?_))))))
  exact Ev.bind (yearly_f h h1 h2) (Ev.bind (yearly_f h h2 h1) (Ev.bind (md_f h) (ev_pos z0 (ev_eq (lies_law _ _ _) (Ev.now _)))))

end Go.Proofs.YtehnhedifhpalaaDoor.Cp
