/- CivilWrong: the plain function of the law returns true at any two numbers. -/
import Derived.Test.YtehnhedifhpalaaDoorRz
import Derived.Test.YtehnhedifhpalaaDoorPk
import Derived.Test.YtehnhedifhpalaaDoorCi
import Derived.Test.YtehnhedifhpalaaDoorCp5
import Derived.Test.YtehnhedifhpalaaDoorCg
set_option linter.unusedVariables false
set_option linter.unusedSimpArgs false
namespace Go.Proofs.YtehnhedifhpalaaDoor.Cp
open Go.RowKit Go.Proofs.YtehnhedifhpalaaDoorW.PrintWords Go.Proofs.YtehnhedifhpalaaDoorW.PrintLast Go.Proofs.YtehnhedifhpalaaDoorW.PrintMore

theorem weekB_no {a : Int} (h : ¬ (0 ≤ a ∧ a ≤ 730484)) : weekB a = (0, errOf a 730484) := by unfold weekB; rw [if_neg (errOf_ne h)]

theorem cworks_err {a : Int} {l : List Int} (hl : l.length ≤ 9223372036854775807) (hr : rightB l = true) (h : ¬ (0 ≤ a ∧ a ≤ 730484)) : Ev (fun k => civil_Works.f k a l) (false, errOf a 730484) := by
  have := right_f l hl
  rw [hr] at this
  unfold civil_Works.f
  exact Ev.bind this (ev_pos rfl (Ev.bind (ev_val (cwithin_f a _)) (ev_neg (errOf_ne h) (Ev.now _))))

theorem cworks_bad {a : Int} {l : List Int} (hl : l.length ≤ 9223372036854775807) (hr : rightB l = false) : Ev (fun k => civil_Works.f k a l) (false, 2) := by
  have := right_f l hl
  rw [hr] at this
  unfold civil_Works.f
  exact Ev.bind this (ev_neg Bool.false_ne_true (Ev.now _))

theorem cahead_err {a : Int} (h : ¬ (0 ≤ a ∧ a ≤ 730484)) : Ev (fun k => civil_Ahead.f k a 0 []) (0, errOf a 730484) := by
  unfold civil_Ahead.f errOf
  by_cases c : a < 0
  · refine ev_neg (by omega) (ev_eq ?_ (Ev.now _))
    rw [if_pos c]
  · refine ev_pos ⟨rfl, by omega, by decide⟩ (ev_neg (by omega) (ev_eq ?_ (Ev.now _)))
    rw [if_neg c, if_pos (by omega)]

theorem cahead_bad {a n : Int} {l : List Int} (hr : rightB l = false) : Ev (fun k => civil_Ahead.f k a n l) (0, 2) := by
  unfold civil_Ahead.f
  exact ev_neg (fun hc => by rw [hr] at hc; exact absurd hc.1 Bool.false_ne_true) (Ev.now _)

theorem cbetween_err {a : Int} (h : ¬ (0 ≤ a ∧ a ≤ 730484)) : civil_Between.f (mn a 0) a [] = some (0, errOf a 730484) := by
  unfold civil_Between.f errOf
  by_cases c : a < 0
  · rw [show mn a 0 = a by rw [mn_min]; omega, if_neg (by omega), if_pos c]
  · rw [show mn a 0 = 0 by rw [mn_min]; omega, if_pos ⟨rfl, by decide, by omega⟩, if_neg (by omega), if_neg c, if_pos (by omega)]

theorem cbetween_bad {a b : Int} {l : List Int} (hr : rightB l = false) : civil_Between.f a b l = some (0, 2) := by
  unfold civil_Between.f
  rw [if_neg (fun hc => by rw [hr] at hc; exact absurd hc.1 Bool.false_ne_true)]

theorem cyearly_err {a x y : Int} (h : ¬ (0 ≤ a ∧ a ≤ 730484)) : Ev (fun k => civil_Yearly.f k a x y) (false, errOf a 730484) := by
  unfold civil_Yearly.f
  exact Ev.bind (cdate_no h) (ev_neg (errOf_ne h) (Ev.now _))

theorem sum5 : wrap64 (wrap64 (wrap64 (wrap64 ((0 : Int) + 0) + 0) + 0) + 0) = 0 := by
  have z : wrap64 ((0 : Int) + 0) = 0 := wb (by decide)
  rw [z, z, z, z]
theorem sum3 : wrap64 (wrap64 ((0 : Int) + 0) + 0) = 0 := by
  have z : wrap64 ((0 : Int) + 0) = 0 := wb (by decide)
  rw [z, z]
theorem no_text : (strOfNums []).toList = ([] : List UInt8) := by rw [toList_data]; rfl

theorem wrong_round {x0 : Int} {xs : List S32} {n i d t : Int} {r : Bool} (hi : i < n) (h0 : 0 ≤ i) (hl : i < (xs.length : Int)) (hs : rd_T32 xs i = ⟨d, t, errOf d 730484⟩)
    (hd : ¬ (0 ≤ d ∧ d ≤ 730484)) (ht : ¬ (0 ≤ t ∧ t ≤ 1051898399)) (he : errOf t 1051898399 = errOf d 730484)
    (next : Ev (fun k => letterbaglaw01_CivilWrong.l0 k x0 xs n (wrap64 (i + 1))) r) : Ev (fun k => letterbaglaw01_CivilWrong.l0 k x0 xs n i) r := by
  refine Ev.step (fun k => letterbaglaw01_CivilWrong.l0.eq_2 _ _ _ _ k) (ev_pos hi (ev_pos h0 (ev_pos hl ?_)))
  rw [hs]
  dsimp only
  have hz : ((strOfNums []).toList != ([] : List UInt8)) = false := by rw [no_text]; rfl
  refine Ev.bind (cdate_no hd) (Ev.bind (ev_val (cweek_f d)) (Ev.bind (ctext_no hd) (Ev.bind (ctime_f d 0) ?_)))
  rw [weekB_no hd, timeB_err (by decide) hd]
  refine ev_pos rfl (ev_pos rfl (ev_pos rfl (ev_pos rfl (ev_pos sum5 ?_))))
  simp only [hz]
  refine Ev.step (fun k => letterbaglaw01_CivilWrong.j1.eq_2 _ _ _ _ _ _ _ _ k) (ev_neg Bool.false_ne_true ?_)
  refine Ev.bind (ev_val (csplit_f t)) ?_
  rw [splitB_no ht, he]
  refine Ev.bind (ctt_no ht) ?_
  rw [he]
  refine Ev.bind (cworks_err (by decide) rfl hd) (Ev.bind (cahead_err hd) (ev_pos rfl (ev_pos rfl (ev_pos rfl (ev_pos rfl (ev_pos sum3 (ev_pos no_text ?_)))))))
  refine Ev.step (fun k => letterbaglaw01_CivilWrong.j2.eq_2 _ _ _ _ _ _ _ _ k) (ev_neg Bool.false_ne_true ?_)
  exact Ev.bind (cyearly_err hd) (Ev.bind (ev_val (cbetween_err hd)) (ev_pos rfl (ev_pos rfl (ev_neg Bool.false_ne_true (ev_pos rfl next)))))

theorem bad_right {r : Int} (h : 0 ≤ r) : rightB [r, 0] = false := by
  unfold rightB rightFrom rightFrom
  rw [decide_eq_true (show (0 : Int) ≤ r from h)]
  simp

theorem yearly_bad {x y : Int} (h : ¬ Cv.IsDate 2004 (wrap64 (Int.tdiv x 100)) (Int.tmod x 100) ∨ ¬ Cv.IsDate 2004 (wrap64 (Int.tdiv y 100)) (Int.tmod y 100)) :
    Ev (fun k => civil_Yearly.f k 0 x y) (false, 10) := by
  obtain ⟨yy, m, d, i1, i2⟩ := has_date (a := 0) (by decide)
  have hdt := cdate_f i1
  rw [i2] at hdt
  unfold civil_Yearly.f
  refine Ev.bind hdt (ev_pos rfl (Ev.bind (ev_val (dated_f _ _ _)) ?_))
  by_cases c : Cv.IsDate 2004 (wrap64 (Int.tdiv x 100)) (Int.tmod x 100)
  · refine ev_pos (decide_eq_true c) (Ev.bind (ev_val (dated_f _ _ _)) ?_)
    have c2 : ¬ Cv.IsDate 2004 (wrap64 (Int.tdiv y 100)) (Int.tmod y 100) := by rcases h with h | h; exact absurd c h; exact h
    exact Ev.step (fun k => civil_Yearly.j0.eq_2 _ _ _ _ _ k) (ev_pos (by rw [decide_eq_false c2]; rfl) (Ev.now _))
  · exact ev_neg (by rw [decide_eq_false c]; exact Bool.false_ne_true) (Ev.step (fun k => civil_Yearly.j0.eq_2 _ _ _ _ _ k) (ev_pos rfl (Ev.now _)))

theorem wrong_end {x0 : Int} {xs : List S32} {n i : Int} (hi : ¬ i < n) : Ev (fun k => letterbaglaw01_CivilWrong.l0 k x0 xs n i) true := by
  obtain ⟨r, hr, r0, r1⟩ := pick_f (n := x0) (m := 1000) (by decide)
  have hb := bad_right r0
  have hf := right_f [r, 0] (by simp)
  rw [hb] at hf
  refine Ev.step (fun k => letterbaglaw01_CivilWrong.l0.eq_2 _ _ _ _ k) (ev_neg hi (Ev.bind (ev_val hr) (Ev.bind (Ev.now _) ?_)))
  refine Ev.bind (cworks_bad (by simp) hb) (Ev.bind (ev_val (cbetween_bad hb)) (Ev.bind (cahead_bad hb) (Ev.bind (yearly_bad (.inr ?_)) (Ev.bind (yearly_bad (.inl ?_)) ?_))))
  · intro h
    have := h.d2
    rw [show Int.tdiv 230 100 = 2 by decide, show Int.tmod 230 100 = 30 by decide, show wrap64 (2 : Int) = 2 from wb (by decide), show Cv.mlen 2004 2 = 29 by decide] at this
    omega
  · intro h
    have := h.m1
    rw [show Int.tdiv 0 100 = 0 by decide, show wrap64 (0 : Int) = 0 from wb (by decide)] at this
    omega
  · exact ev_pos rfl (ev_pos rfl (ev_pos rfl (ev_pos rfl (ev_pos rfl (Ev.bind hf (ev_eq rfl (Ev.now _)))))))

theorem wrong_all (a0 a1 : Int) : Ev (fun k => letterbaglaw01_CivilWrong.f k a0 a1) true := by
  obtain ⟨p, hp, p0, p1⟩ := pick_f (n := a0) (m := 1099511627776) (by decide)
  obtain ⟨q, hq, q0, q1⟩ := pick_f (n := a1) (m := 1099511627776) (by decide)
  have e1 : wrap64 (-1 - p) = -1 - p := w64 (by omega) (by omega)
  have e2 : wrap64 (-1 - q) = -1 - q := w64 (by omega) (by omega)
  have e3 : wrap64 (730485 + p) = 730485 + p := w64 (by omega) (by omega)
  have e4 : wrap64 (1051898400 + q) = 1051898400 + q := w64 (by omega) (by omega)
  have f1 : errOf (-1 - p) 730484 = 2 := by unfold errOf; rw [if_pos (by omega)]
  have f2 : errOf (-1 - q) 1051898399 = 2 := by unfold errOf; rw [if_pos (by omega)]
  have f3 : errOf (730485 + p) 730484 = 3 := by unfold errOf; rw [if_neg (by omega), if_pos (by omega)]
  have f4 : errOf (1051898400 + q) 1051898399 = 3 := by unfold errOf; rw [if_neg (by omega), if_pos (by omega)]
  have w1 : wrap64 ((0 : Int) + 1) = 1 := wb (by decide)
  have w2 : wrap64 ((1 : Int) + 1) = 2 := wb (by decide)
  unfold letterbaglaw01_CivilWrong.f
  refine Ev.bind awake_f (ev_pos rfl (Ev.bind (ev_val hp) (Ev.bind (ev_val hq) (Ev.bind (ev_val hp) (Ev.bind (ev_val hq) (Ev.bind (Ev.now _) ?_))))))
  rw [e1, e2, e3, e4]
  refine wrong_round (d := -1 - p) (t := -1 - q) (by simp) (by decide) (by simp) (by rw [f1]; rfl) (by omega) (by omega) (by rw [f1, f2]) ?_
  rw [w1]
  refine wrong_round (d := 730485 + p) (t := 1051898400 + q) (by simp) (by decide) (by simp) (by rw [f3]; rfl) (by omega) (by omega) (by rw [f3, f4]) ?_
  rw [w2]
  exact wrong_end (by simp)

end Go.Proofs.YtehnhedifhpalaaDoor.Cp
