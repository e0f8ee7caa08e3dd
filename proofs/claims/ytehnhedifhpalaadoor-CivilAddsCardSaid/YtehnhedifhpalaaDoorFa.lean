/- Works, Between and Ahead of civil, at lists of holidays: what they count. -/
import Derived.Test.YtehnhedifhpalaaDoorRz
import Derived.Test.YtehnhedifhpalaaDoorCg
import Derived.Test.YtehnhedifhpalaaDoorCd
import Derived.Test.YtehnhedifhpalaaDoorCp4
set_option linter.unusedVariables false
set_option linter.unusedSimpArgs false
namespace Go.Proofs.YtehnhedifhpalaaDoor.Cp
open Go.RowKit Go.Proofs.YtehnhedifhpalaaDoorW.PrintWords Go.Proofs.YtehnhedifhpalaaDoorW.PrintLast Go.Proofs.YtehnhedifhpalaaDoorW.PrintMore

theorem bs_same (F : List Int) (x n : Int) : ∀ (k : Nat) (lo hi : Int), slices_BinarySearch_int_int.l0 k F x n lo hi = Cq.slices_BinarySearch_int_int.l0 k F x n lo hi := by
  intro k
  induction k with
  | zero => intro lo hi; rfl
  | succ k ih =>
    intro lo hi
    rw [slices_BinarySearch_int_int.l0.eq_2, Cq.slices_BinarySearch_int_int.l0.eq_2]
    simp only [ih]
    rfl

theorem cbs_f {F : List Int} (hF : F.Pairwise (· < ·)) (hl : F.length ≤ 100000) (x : Int) : Ev (fun k => slices_BinarySearch_int_int.f k F x) ((Cv.less F x : Int), F.contains x) :=
  Ev.congr (fun k => bs_same F x _ k _ _) (Cq.bs_f hF hl x)

/-- What Works returns. -/
def worksB (l : List Int) (a : Int) : Bool × Int := if rightB l = true then (if errOf a 730484 = 0 then (Cv.wk l a, 0) else (false, errOf a 730484)) else (false, 2)
theorem worksB_bad {l : List Int} {a : Int} (h : rightB l = false) : worksB l a = (false, 2) := by unfold worksB; rw [h]; rfl
theorem worksB_err {l : List Int} {a : Int} (h : rightB l = true) (ha : ¬ (0 ≤ a ∧ a ≤ 730484)) : worksB l a = (false, errOf a 730484) := by unfold worksB; rw [if_pos h, if_neg (errOf_ne ha)]
theorem worksB_ok {l : List Int} {a : Int} (h : rightB l = true) (ha : 0 ≤ a ∧ a ≤ 730484) : worksB l a = (Cv.wk l a, 0) := by unfold worksB; rw [if_pos h, if_pos (errOf_ok ha)]

theorem cworks_f (l : List Int) (a : Int) (hl : l.length ≤ 9223372036854775807) : Ev (fun k => civil_Works.f k a l) (worksB l a) := by
  have hr := right_f l hl
  unfold civil_Works.f
  cases hR : rightB l with
  | false =>
    rw [hR] at hr
    rw [worksB_bad hR]
    exact Ev.bind hr (ev_neg Bool.false_ne_true (Ev.now _))
  | true =>
    rw [hR] at hr
    obtain ⟨h1, h2⟩ := rightB_of hR
    refine Ev.bind hr (ev_pos rfl (Ev.bind (ev_val (cwithin_f a _)) ?_))
    by_cases ha : 0 ≤ a ∧ a ≤ 730484
    · rw [worksB_ok hR ha]
      refine ev_pos (errOf_ok ha) (Ev.bind (cbs_f h1.ord (by omega) a) ?_)
      rw [Int.tmod_eq_emod_of_nonneg ha.1]
      unfold Cv.wk
      by_cases c : a % 7 < 5
      · refine ev_pos c (ev_eq ?_ (Ev.now _))
        rw [decide_eq_true c, Bool.true_and]
      · refine ev_neg c (ev_eq ?_ (Ev.now _))
        rw [decide_eq_false c, Bool.false_and]
    · rw [worksB_err hR ha]
      exact ev_neg (errOf_ne ha) (Ev.now _)

theorem cbetween_ok {l : List Int} {a b : Int} (hr : rightB l = true) (ha : 0 ≤ a) (hab : a ≤ b) (hb : b ≤ 730484) : civil_Between.f a b l = some (Cv.cnt (Cv.wk l) a b, 0) := by
  unfold civil_Between.f
  rw [if_pos ⟨hr, ha, hab⟩, if_pos hb, Cv.below_cnt (rightB_of hr).1 b hab]

theorem ahead_l0 {l : List Int} (hr : rightB l = true) {a n : Int} (hn : 0 ≤ n) (d : Nat) : ∀ lo hi : Int, a ≤ lo → lo ≤ hi → hi ≤ 730484 → hi - lo ≤ d → n < Cv.cnt (Cv.wk l) a (hi + 1) → (∀ e, a ≤ e → e < lo → Cv.cnt (Cv.wk l) a (e + 1) ≤ n) →
    ∃ e, Cv.IsAhead (Cv.wk l) a n e ∧ Ev (fun k => civil_Ahead.l0 l (Cv.below l a) n k lo hi) e := by
  induction d with
  | zero =>
    intro lo hi h1 h2 h3 h4 h5 h6
    obtain rfl : lo = hi := by omega
    exact ⟨lo, Cv.ahead_of_least hn h1 h3 h5 h6, Ev.step (fun k => civil_Ahead.l0.eq_2 _ _ _ _ _ k) (ev_neg (by omega) (Ev.now _))⟩
  | succ d ih =>
    intro lo hi h1 h2 h3 h4 h5 h6
    by_cases e : lo = hi
    · exact ih lo hi h1 h2 h3 (by omega) h5 h6
    · have hc := Cv.below_cnt (rightB_of hr).1 (a := a) ((lo + hi) / 2 + 1) (by omega)
      by_cases c : n < Cv.below l ((lo + hi) / 2 + 1) - Cv.below l a
      · obtain ⟨e, k1, k2⟩ := ih lo ((lo + hi) / 2) h1 (by omega) (by omega) (by omega) (by rw [← hc]; exact c) h6
        exact ⟨e, k1, Ev.step (fun k => civil_Ahead.l0.eq_2 _ _ _ _ _ k) (ev_pos (by omega) (ev_pos c k2))⟩
      · obtain ⟨e, k1, k2⟩ := ih ((lo + hi) / 2 + 1) hi (by omega) (by omega) h3 (by omega) h5 (fun e he he2 => by
          have := Cv.cnt_mono_right (Cv.wk l) (a := a) (b := e + 1) (c := (lo + hi) / 2 + 1) (by omega)
          omega)
        exact ⟨e, k1, Ev.step (fun k => civil_Ahead.l0.eq_2 _ _ _ _ _ k) (ev_pos (by omega) (ev_neg c k2))⟩

theorem cahead_ok {l : List Int} (hr : rightB l = true) {a n : Int} (ha : 0 ≤ a ∧ a ≤ 730484) (hn : 0 ≤ n) (hc : n < Cv.cnt (Cv.wk l) a 730485) :
    ∃ e, Cv.IsAhead (Cv.wk l) a n e ∧ Ev (fun k => civil_Ahead.f k a n l) (e, 0) := by
  obtain ⟨e, k1, k2⟩ := ahead_l0 hr hn (730484 - a).toNat a 730484 (by omega) ha.2 (by omega) (by omega) hc (fun e h1 h2 => by omega)
  refine ⟨e, k1, ?_⟩
  unfold civil_Ahead.f
  have hb := Cv.below_cnt (rightB_of hr).1 (a := a) 730485 (by omega)
  exact ev_pos ⟨hr, ha.1, hn⟩ (ev_pos ⟨ha.2, by rw [hb]; exact hc⟩ (Ev.bind k2 (Ev.now _)))

theorem cahead_none {l : List Int} (hr : rightB l = true) {a n : Int} (ha : 0 ≤ a) (hn : 0 ≤ n) (hc : Cv.cnt (Cv.wk l) a 730485 ≤ n) : Ev (fun k => civil_Ahead.f k a n l) (0, 3) := by
  unfold civil_Ahead.f
  refine ev_pos ⟨hr, ha, hn⟩ (ev_neg (fun h => ?_) (Ev.now _))
  have hb := Cv.below_cnt (rightB_of hr).1 (a := a) 730485 (by omega)
  omega

theorem cahead_arg {l : List Int} {a n : Int} (h : ¬ (rightB l = true ∧ 0 ≤ a ∧ 0 ≤ n)) : Ev (fun k => civil_Ahead.f k a n l) (0, 2) := by
  unfold civil_Ahead.f
  exact ev_neg h (Ev.now _)

end Go.Proofs.YtehnhedifhpalaaDoor.Cp
