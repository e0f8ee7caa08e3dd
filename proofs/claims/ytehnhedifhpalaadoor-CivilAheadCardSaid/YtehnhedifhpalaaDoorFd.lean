/- CivilAhead: the plain function of the law returns true at all lists and numbers. -/
import Derived.Test.YtehnhedifhpalaaDoorFc
import Derived.Test.YtehnhedifhpalaaDoorCp17
set_option linter.unusedVariables false
set_option linter.unusedSimpArgs false
namespace Go.Proofs.YtehnhedifhpalaaDoor.Cp
open Go.RowKit Go.Proofs.YtehnhedifhpalaaDoorW.PrintWords Go.Proofs.YtehnhedifhpalaaDoorW.PrintLast Go.Proofs.YtehnhedifhpalaaDoorW.PrintMore

theorem ahead_all (l : List Int) (a1 a2 : Int) (hb : ∀ x ∈ l, 0 ≤ x ∧ x ≤ 65535) : Ev (fun k => letterbaglaw01_CivilAhead.f k l a1 a2) true := by
  obtain ⟨H, hr, hl⟩ := list_f l hb
  obtain ⟨a, p, p0, p1⟩ := day_in a1
  obtain ⟨n, q, q0, q1⟩ := pick_f (n := a2) (m := 1048576) (by decide)
  have z0 : wrap64 ((0 : Int) + 0) = 0 := wb (by decide)
  have hlen := len_small hr
  unfold letterbaglaw01_CivilAhead.f
  refine Ev.bind awake_f (ev_pos rfl (Ev.bind hl (Ev.bind (ev_val p) (Ev.bind (ev_val q) ?_))))
  by_cases c : n < Cv.cnt (Cv.wk H) a 730485
  · obtain ⟨d, k1, k2⟩ := cahead_ok hr ⟨p0, p1⟩ q0 c
    have g1 := k1.ge; have g2 := k1.le; have g3 := k1.is; have g4 := k1.cnt
    have hw := cworks_f H d hlen
    rw [worksB_ok hr ⟨by omega, g2⟩, g3] at hw
    refine Ev.bind k2 (ev_pos rfl (Ev.bind hw (Ev.bind (ev_val (cbetween_ok hr p0 g1 g2)) (ev_pos rfl (ev_pos z0 (ev_neg (by omega) ?_))))))
    simp only [g4, bne_self_eq_false]
    refine Ev.step (fun k => letterbaglaw01_CivilAhead.j0.eq_2 _ _ _ _ _ k) (ev_neg Bool.false_ne_true ?_)
    by_cases e : d = 730484
    · exact ev_pos e (Ev.now _)
    · refine ev_neg e ?_
      have b1 : -10000000 ≤ n + 1 ∧ n + 1 ≤ 10000000 := by omega
      have b2 : -10000000 ≤ d + 1 ∧ d + 1 ≤ 10000000 := by omega
      rw [wb b1, wb b2]
      have s1 := Cv.cnt_succ (Cv.wk H) g1
      rw [if_pos g3, g4] at s1
      have s2 := Cv.cnt_split (Cv.wk H) (a := a) (b := d + 1) (by omega) 730485 (by omega)
      by_cases c2 : n + 1 < Cv.cnt (Cv.wk H) a 730485
      · obtain ⟨x, x1, x2⟩ := cahead_ok hr ⟨p0, p1⟩ (show 0 ≤ n + 1 by omega) c2
        obtain ⟨y, y1, y2⟩ := cahead_ok hr (a := d + 1) (n := 0) ⟨by omega, by omega⟩ (by omega) (by omega)
        have y3 : Cv.IsAhead (Cv.wk H) a (n + 1) y := by
          refine ⟨by have := y1.ge; omega, y1.le, y1.is, ?_⟩
          have := Cv.cnt_split (Cv.wk H) (a := a) (b := d + 1) (by omega) y y1.ge
          have := y1.cnt
          omega
        obtain rfl := x1.unique y3
        exact Ev.bind x2 (Ev.bind y2 (ev_pos rfl (ev_eq (by simp) (Ev.now _))))
      · refine Ev.bind (cahead_none hr p0 (by omega) (by omega)) (Ev.bind (cahead_none hr (by omega) (by omega) (by omega)) (ev_pos rfl (ev_eq (by simp) (Ev.now _))))
  · have s1 := Cv.cnt_succ (Cv.wk H) (show a ≤ 730484 by omega)
    have hw := cworks_f H 730484 hlen
    rw [worksB_ok hr ⟨by decide, by decide⟩] at hw
    have hlt := Cv.cnt_le_len (Cv.wk H) (show a ≤ 730484 by omega)
    have hnn := Cv.cnt_nonneg (Cv.wk H) a 730484
    have b1 : -10000000 ≤ Cv.cnt (Cv.wk H) a 730484 + 1 ∧ Cv.cnt (Cv.wk H) a 730484 + 1 ≤ 10000000 := by omega
    refine Ev.bind (cahead_none hr p0 q0 (by omega)) (ev_neg (by decide) (Ev.bind (ev_val (cbetween_ok hr p0 p1 (by decide))) (Ev.bind hw ?_)))
    rw [wb b1]
    have s2 : Cv.cnt (Cv.wk H) a 730485 = Cv.cnt (Cv.wk H) a 730484 + if Cv.wk H 730484 = true then 1 else 0 := s1
    by_cases w : Cv.wk H 730484 = true
    · rw [if_pos w] at s2
      exact ev_pos w (ev_pos rfl (ev_pos rfl (ev_pos z0 (ev_eq (decide_eq_true (by omega)) (Ev.now _)))))
    · rw [if_neg w] at s2
      exact ev_neg w (ev_pos rfl (ev_pos rfl (ev_pos z0 (ev_eq (decide_eq_true (by omega)) (Ev.now _)))))

end Go.Proofs.YtehnhedifhpalaaDoor.Cp
