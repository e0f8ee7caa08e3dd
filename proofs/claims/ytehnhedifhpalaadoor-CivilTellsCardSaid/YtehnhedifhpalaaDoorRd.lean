/- Texts, weekdays and times of the reference; CivilTells returns true at all numbers. -/
import Derived.Test.YtehnhedifhpalaaDoorRb
import Derived.Test.YtehnhedifhpalaaDoorRz
import Derived.Test.YtehnhedifhpalaaDoorCi
import Derived.Test.YtehnhedifhpalaaDoorCp12
import Derived.Test.YtehnhedifhpalaaDoorCp13
set_option linter.unusedVariables false
set_option linter.unusedSimpArgs false
namespace Go.Proofs.YtehnhedifhpalaaDoor.Cp
open Go.RowKit Go.Proofs.YtehnhedifhpalaaDoorW.PrintWords Go.Proofs.YtehnhedifhpalaaDoorW.PrintLast Go.Proofs.YtehnhedifhpalaaDoorW.PrintMore

theorem rweek_f (a : Int) : letterbagref01_Weekday.f a = some (weekB a) := by
  unfold letterbagref01_Weekday.f weekB
  rw [rwithin_f, Option.bind_some]
  split <;> rfl

theorem rsplit_f (a : Int) : letterbagref01_Split.f a = some (splitB a) := by
  unfold letterbagref01_Split.f splitB
  rw [rwithin_f, Option.bind_some]
  split <;> rfl

theorem rtime_f (d m : Int) : Ev (fun k => letterbagref01_Time.f k d m) (timeB d m) := by
  have no : ∀ x : Bool, x = true → timeB d m = (0, 2) → Ev (fun k => letterbagref01_Time.j0 k d m x) (timeB d m) := by
    intro x hx hm
    rw [hm]
    exact Ev.step (fun k => letterbagref01_Time.j0.eq_2 _ _ _ k) (ev_pos hx (Ev.now _))
  unfold letterbagref01_Time.f
  by_cases c0 : d < 0
  · refine ev_pos c0 (no _ rfl ?_)
    by_cases hm : m < 0 ∨ 1440 ≤ m
    · exact timeB_no hm
    · rw [timeB_err hm (by omega)]
      unfold errOf
      rw [if_pos c0]
  · refine ev_neg c0 ?_
    by_cases c1 : m < 0
    · exact ev_pos c1 (no _ rfl (timeB_no (.inl c1)))
    · refine ev_neg c1 ?_
      by_cases c2 : 1440 ≤ m
      · exact no _ (decide_eq_true (show m > 1439 by omega)) (timeB_no (.inr c2))
      · have hm : ¬ (m < 0 ∨ 1440 ≤ m) := by omega
        refine Ev.step (fun k => letterbagref01_Time.j0.eq_2 _ _ _ k) (ev_neg (by rw [decide_eq_false (show ¬ m > 1439 by omega)]; exact Bool.false_ne_true) ?_)
        by_cases c3 : d > 730484
        · refine ev_pos c3 (ev_eq ?_ (Ev.now _))
          rw [timeB_err hm (by omega)]
          unfold errOf
          rw [if_neg c0, if_pos c3]
        · refine ev_neg c3 (ev_eq ?_ (Ev.now _))
          rw [timeB_ok hm (by omega), w64 (n := 1440 * d) (by omega) (by omega), w64 (by omega) (by omega), Int.mul_comm]

theorem space_eq : (⟨#[32]⟩ : ByteArray) = strOfNums [32] := rfl

theorem colon_eq : (⟨#[58]⟩ : ByteArray) = strOfNums [58] := rfl

theorem rtt_f {y m d t : Int} (h : Cv.IsDate y m d) (ht : 0 ≤ t ∧ t ≤ 1051898399) (hd : t / 1440 = Cv.dayOf y m d) :
    Ev (fun k => letterbagref01_TimeText.f k t) (strOfNums (Cv.ttext y m d (t % 1440 / 60) (t % 1440 % 60)), 0) := by
  unfold letterbagref01_TimeText.f
  refine Ev.bind (ev_val (rsplit_f t)) ?_
  rw [splitB_ok ht]
  refine ev_pos rfl ?_
  have n0 : 0 ≤ t % 1440 ∧ t % 1440 < 1440 := by omega
  have b1 : -10000000 ≤ t % 1440 / 60 ∧ t % 1440 / 60 ≤ 10000000 := by omega
  rw [hd]
  refine Ev.bind (rtext_f h) ?_
  simp only [Int.tdiv_eq_ediv_of_nonneg n0.1, Int.tmod_eq_emod_of_nonneg n0.1, wb b1]
  refine ev_pos (by rw [strOfNums_size, Cv.dtext_len]; decide) (Ev.bind (rdigits_f (n := t % 1440 / 60) (by omega) 2 (by decide)) ?_)
  simp only [space_eq, str_append, strOfNums_size, List.length_append, Cv.dtext_len, Cv.dig_len, List.length_cons, List.length_nil]
  refine ev_pos (by decide) (ev_pos (by decide) (Ev.bind (rdigits_f (n := t % 1440 % 60) (by omega) 2 (by decide)) ?_))
  simp only [colon_eq, str_append, strOfNums_size, List.length_append, Cv.dtext_len, Cv.dig_len, List.length_cons, List.length_nil]
  refine ev_pos (by decide) (ev_eq ?_ (Ev.now _))
  unfold Cv.ttext
  simp

theorem rtt_no {t : Int} (ht : ¬ (0 ≤ t ∧ t ≤ 1051898399)) : Ev (fun k => letterbagref01_TimeText.f k t) (strOfNums [], errOf t 1051898399) := by
  unfold letterbagref01_TimeText.f
  refine Ev.bind (ev_val (rsplit_f t)) ?_
  rw [splitB_no ht]
  exact ev_neg (errOf_ne ht) (ev_eq rfl (Ev.now _))

theorem split_all (a : Int) : Ev (fun k => letterbaglaw01_split.f k a) true := by
  unfold letterbaglaw01_split.f
  by_cases h : 0 ≤ a ∧ a ≤ 1051898399
  · obtain ⟨y, m, d, h1, h2⟩ := has_date (a := a / 1440) (by omega)
    exact Ev.bind (ev_val (csplit_f a)) (Ev.bind (ev_val (rsplit_f a)) (Ev.bind (ctt_f h1 h h2.symm) (Ev.bind (rtt_f h1 h h2.symm) (ev_pos rfl (ev_pos rfl (ev_pos rfl (ev_pos rfl (ev_eq (by simp) (Ev.now _)))))))))
  · exact Ev.bind (ev_val (csplit_f a)) (Ev.bind (ev_val (rsplit_f a)) (Ev.bind (ctt_no h) (Ev.bind (rtt_no h) (ev_pos rfl (ev_pos rfl (ev_pos rfl (ev_pos rfl (ev_eq (by simp) (Ev.now _)))))))))

theorem date_j1 (a b : Int) : Ev (fun k => letterbaglaw01_date.j1 k a b false) true := by
  refine Ev.step (fun k => letterbaglaw01_date.j1.eq_2 _ _ _ k) (ev_neg Bool.false_ne_true ?_)
  exact Ev.bind (ctime_f a b) (Ev.bind (rtime_f a b) (ev_pos rfl (ev_pos rfl (Ev.bind (split_all _) (ev_pos rfl (Ev.bind (split_all _) (ev_pos rfl (Ev.bind (split_all _) (Ev.now _)))))))))

theorem date_j0 (a b : Int) : Ev (fun k => letterbaglaw01_date.j0 k a b false) true := by
  refine Ev.step (fun k => letterbaglaw01_date.j0.eq_2 _ _ _ k) (ev_neg Bool.false_ne_true ?_)
  refine Ev.bind (ev_val (cweek_f a)) (Ev.bind (ev_val (rweek_f a)) ?_)
  by_cases h : 0 ≤ a ∧ a ≤ 730484
  · obtain ⟨y, m, d, h1, h2⟩ := has_date h
    subst h2
    refine Ev.bind (ctext_f h1) (Ev.bind (rtext_f h1) (ev_pos rfl (ev_pos rfl (ev_pos rfl ?_))))
    simp only [bne_self_eq_false]
    exact date_j1 _ b
  · refine Ev.bind (ctext_no h) (Ev.bind (rtext_no h) (ev_pos rfl (ev_pos rfl (ev_pos rfl ?_))))
    simp only [bne_self_eq_false]
    exact date_j1 _ b

theorem date_all (a b : Int) : Ev (fun k => letterbaglaw01_date.f k a b) true := by
  unfold letterbaglaw01_date.f
  by_cases h : 0 ≤ a ∧ a ≤ 730484
  · obtain ⟨y, m, d, h1, h2⟩ := has_date h
    subst h2
    refine Ev.bind (cdate_f h1) (Ev.bind (rdate_f h1) (ev_pos rfl (ev_pos rfl (ev_pos rfl ?_))))
    simp only [bne_self_eq_false]
    exact date_j0 _ b
  · refine Ev.bind (cdate_no h) (Ev.bind (rdate_no h) (ev_pos rfl (ev_pos rfl (ev_pos rfl ?_))))
    simp only [bne_self_eq_false]
    exact date_j0 _ b

theorem rleap_b (y : Int) : letterbagref01_Leap.f y = some (leapB y) := by
  unfold letterbagref01_Leap.f leapB
  by_cases c4 : Int.tmod y 400 = 0
  · have d1 : (4 : Int) ∣ y := Int.dvd_trans (by decide) (Int.dvd_of_tmod_eq_zero c4)
    have c1 : Int.tmod y 4 = 0 := Int.dvd_iff_tmod_eq_zero.1 d1
    rw [if_pos c4, decide_eq_true c1, decide_eq_true c4]
    simp
  · rw [if_neg c4]
    by_cases c1 : Int.tmod y 4 = 0
    · rw [if_pos c1, decide_eq_true c1, decide_eq_false c4]
      by_cases c2 : Int.tmod y 100 = 0
      · rw [decide_eq_false (fun hh => hh c2), bne_eq_false_iff_eq.mpr c2]; rfl
      · rw [decide_eq_true c2, bne_iff_ne.mpr c2]; rfl
    · rw [if_neg c1, decide_eq_false c1]; rfl

theorem tells_all (y m d a b : Int) : Ev (fun k => letterbaglaw01_CivilTells.f k y m d a b) true := by
  unfold letterbaglaw01_CivilTells.f
  have tail : Ev (fun k => (letterbaglaw01_date.f k a b).bind fun t443 => (if t443 = true then ((letterbaglaw01_awake.f k).bind fun t444 => (some t444)) else (some false))) true :=
    Ev.bind (date_all a b) (ev_pos rfl (Ev.bind awake_f (Ev.now _)))
  by_cases h : Cv.IsDate y m d
  · exact Ev.bind (ev_val (day_f h)) (Ev.bind (rday_f h) (Ev.bind (ev_val (cleap_b y)) (Ev.bind (ev_val (rleap_b y)) (ev_pos (by simp) (ev_pos rfl (ev_pos rfl tail))))))
  · exact Ev.bind (ev_val (day_no h)) (Ev.bind (rday_no h) (Ev.bind (ev_val (cleap_b y)) (Ev.bind (ev_val (rleap_b y)) (ev_pos (by simp) (ev_pos rfl (ev_pos rfl tail))))))


end Go.Proofs.YtehnhedifhpalaaDoor.Cp
