/- Dates, texts, weekdays and times of civil: what the functions return at any numbers. The numbers that letterbagkit.Pick returns. -/
import Derived.Test.YtehnhedifhpalaaDoorDc
import Derived.Test.YtehnhedifhpalaaDoorCz
import Derived.Test.YtehnhedifhpalaaDoorBl
import Derived.Test.YtehnhedifhpalaaDoorCp3
import Derived.Test.YtehnhedifhpalaaDoorCf
set_option linter.unusedVariables false
set_option linter.unusedSimpArgs false
namespace Go.Proofs.YtehnhedifhpalaaDoor.Cp
open Go.RowKit Go.Proofs.YtehnhedifhpalaaDoorW.PrintWords Go.Proofs.YtehnhedifhpalaaDoorW.PrintLast Go.Proofs.YtehnhedifhpalaaDoorW.PrintMore

theorem cdate_f {y m k : Int} (h : Cv.IsDate y m k) : Ev (fun n => civil_Date.f n (Cv.dayOf y m k)) (y, m, k, 0) := by
  obtain ⟨y', m', k', i1, i2, i3⟩ := date_f (Cv.dayOf_bd h).2.2
  obtain ⟨rfl, rfl, rfl⟩ := Cv.dayOf_inj i1 h i2
  exact i3

/-- A day has a date. -/
theorem has_date {a : Int} (h : 0 ≤ a ∧ a ≤ 730484) : ∃ y m k, Cv.IsDate y m k ∧ Cv.dayOf y m k = a := by
  obtain ⟨y, m, k, h1, h2, _⟩ := date_f h
  exact ⟨y, m, k, h1, h2⟩

/-- The error of a number that should be from 0 to a greatest one. -/
def errOf (n most : Int) : Int := if n < 0 then 2 else if n > most then 3 else 0

theorem errOf_ok {n most : Int} (h : 0 ≤ n ∧ n ≤ most) : errOf n most = 0 := by unfold errOf; rw [if_neg (by omega), if_neg (by omega)]

theorem errOf_ne {n most : Int} (h : ¬ (0 ≤ n ∧ n ≤ most)) : errOf n most ≠ 0 := by unfold errOf; split <;> (try split) <;> omega

theorem cwithin_f (n most : Int) : civil_within.f n most = some (errOf n most) := by unfold civil_within.f errOf; split <;> (try split) <;> rfl

theorem cdate_no {a : Int} (h : ¬ (0 ≤ a ∧ a ≤ 730484)) : Ev (fun n => civil_Date.f n a) (0, 0, 0, errOf a 730484) := by
  unfold civil_Date.f
  exact Ev.bind (ev_val (cwithin_f a _)) (ev_neg (errOf_ne h) (Ev.now _))

theorem date_nat {y m d : Int} (h : Cv.IsDate y m d) : (0 ≤ y ∧ y ≤ 1000000) ∧ (0 ≤ m ∧ m ≤ 1000000) ∧ 0 ≤ d ∧ d ≤ 1000000 := by
  have := Cv.mlen_bd y h.m1 h.m2
  have := h.y1; have := h.y2; have := h.m1; have := h.m2; have := h.d1; have := h.d2
  omega

theorem ctext_f {y m d : Int} (h : Cv.IsDate y m d) : Ev (fun k => civil_Text.f k (Cv.dayOf y m d)) (strOfNums (Cv.dtext y m d), 0) := by
  unfold civil_Text.f
  exact Ev.bind (cdate_f h) (ev_pos rfl (ev_pos (date_nat h) (Ev.now _)))

theorem ctext_no {a : Int} (h : ¬ (0 ≤ a ∧ a ≤ 730484)) : Ev (fun k => civil_Text.f k a) (strOfNums [], errOf a 730484) := by
  unfold civil_Text.f
  exact Ev.bind (cdate_no h) (ev_neg (errOf_ne h) (ev_eq rfl (Ev.now _)))

def weekB (a : Int) : Int × Int := if errOf a 730484 = 0 then (Int.tmod a 7, 0) else (0, errOf a 730484)

theorem cweek_f (a : Int) : civil_Weekday.f a = some (weekB a) := by
  unfold civil_Weekday.f weekB
  rw [cwithin_f, Option.bind_some]
  split <;> rfl

def splitB (a : Int) : Int × Int × Int := if errOf a 1051898399 = 0 then (wrap64 (Int.tdiv a 1440), Int.tmod a 1440, 0) else (0, 0, errOf a 1051898399)

theorem csplit_f (a : Int) : civil_Split.f a = some (splitB a) := by
  unfold civil_Split.f splitB
  rw [cwithin_f, Option.bind_some]
  split <;> rfl

theorem splitB_ok {a : Int} (h : 0 ≤ a ∧ a ≤ 1051898399) : splitB a = (a / 1440, a % 1440, 0) := by
  unfold splitB
  have b : -10000000 ≤ a / 1440 ∧ a / 1440 ≤ 10000000 := by omega
  rw [if_pos (errOf_ok h), Int.tdiv_eq_ediv_of_nonneg h.1, Int.tmod_eq_emod_of_nonneg h.1, wb b]

theorem splitB_no {a : Int} (h : ¬ (0 ≤ a ∧ a ≤ 1051898399)) : splitB a = (0, 0, errOf a 1051898399) := by
  unfold splitB
  rw [if_neg (errOf_ne h)]

def timeB (d m : Int) : Int × Int := if m < 0 ∨ 1440 ≤ m then (0, 2) else if errOf d 730484 = 0 then (d * 1440 + m, 0) else (0, errOf d 730484)

theorem timeB_no {d m : Int} (h : m < 0 ∨ 1440 ≤ m) : timeB d m = (0, 2) := by unfold timeB; rw [if_pos h]

theorem timeB_ok {d m : Int} (h : ¬ (m < 0 ∨ 1440 ≤ m)) (hd : 0 ≤ d ∧ d ≤ 730484) : timeB d m = (d * 1440 + m, 0) := by unfold timeB; rw [if_neg h, if_pos (errOf_ok hd)]

theorem timeB_err {d m : Int} (h : ¬ (m < 0 ∨ 1440 ≤ m)) (hd : ¬ (0 ≤ d ∧ d ≤ 730484)) : timeB d m = (0, errOf d 730484) := by unfold timeB; rw [if_neg h, if_neg (errOf_ne hd)]

theorem ctime_f (d m : Int) : Ev (fun k => civil_Time.f k d m) (timeB d m) := by
  have no : ∀ x : Bool, x = true → (m < 0 ∨ 1440 ≤ m) → Ev (fun k => civil_Time.j0 k d m x) (timeB d m) := by
    intro x hx hm
    rw [timeB_no hm]
    exact Ev.step (fun k => civil_Time.j0.eq_2 _ _ _ k) (ev_pos hx (Ev.now _))
  unfold civil_Time.f
  by_cases c1 : m < 0
  · exact ev_pos c1 (no _ rfl (.inl c1))
  · refine ev_neg c1 ?_
    by_cases c2 : 1440 ≤ m
    · exact no _ (decide_eq_true c2) (.inr c2)
    · have hm : ¬ (m < 0 ∨ 1440 ≤ m) := by omega
      refine Ev.step (fun k => civil_Time.j0.eq_2 _ _ _ k) (ev_neg (by rw [decide_eq_false (show ¬ m ≥ 1440 from c2)]; exact Bool.false_ne_true) (Ev.bind (ev_val (cwithin_f d _)) ?_))
      by_cases hd : 0 ≤ d ∧ d ≤ 730484
      · refine ev_pos (errOf_ok hd) (ev_eq ?_ (Ev.now _))
        rw [timeB_ok hm hd, w64 (n := d * 1440) (by omega) (by omega), w64 (by omega) (by omega)]
      · refine ev_neg (errOf_ne hd) (ev_eq ?_ (Ev.now _))
        rw [timeB_err hm hd]

theorem ctt_f {y m d t : Int} (h : Cv.IsDate y m d) (ht : 0 ≤ t ∧ t ≤ 1051898399) (hd : t / 1440 = Cv.dayOf y m d) :
    Ev (fun k => civil_TimeText.f k t) (strOfNums (Cv.ttext y m d (t % 1440 / 60) (t % 1440 % 60)), 0) := by
  unfold civil_TimeText.f
  refine ev_neg (by omega) (ev_neg (by omega) ?_)
  rw [hd]
  refine Ev.bind (ctext_f h) (ev_pos (by rw [strOfNums_size, Cv.dtext_len]) (ev_eq ?_ (Ev.now _)))
  unfold Cv.ttext
  rw [← str_append]
  rfl

theorem ctt_no {t : Int} (ht : ¬ (0 ≤ t ∧ t ≤ 1051898399)) : Ev (fun k => civil_TimeText.f k t) (strOfNums [], errOf t 1051898399) := by
  unfold civil_TimeText.f errOf
  by_cases c : t < 0
  · exact ev_pos c (ev_eq (by rw [if_pos c]; rfl) (Ev.now _))
  · exact ev_neg c (ev_pos (by omega) (ev_eq (by rw [if_neg c, if_pos (by omega)]; rfl) (Ev.now _)))

theorem cleap_b (y : Int) : civil_Leap.f y = some (leapB y) := by
  unfold civil_Leap.f leapB
  by_cases c1 : Int.tmod y 4 = 0
  · rw [if_pos c1, decide_eq_true c1]
    by_cases c2 : Int.tmod y 100 = 0
    · rw [if_pos c2, decide_eq_false (fun hh => hh c2)]
      simp only [Bool.false_or, Bool.true_and]; rfl
    · rw [if_neg c2, decide_eq_true c2]; rfl
  · rw [if_neg c1, decide_eq_false c1]; rfl


end Go.Proofs.YtehnhedifhpalaaDoor.Cp

namespace Go.Proofs.YtehnhedifhpalaaDoor.Cp
open Go.RowKit Go.Proofs.YtehnhedifhpalaaDoorW.PrintWords Go.Proofs.YtehnhedifhpalaaDoorW.PrintLast Go.Proofs.YtehnhedifhpalaaDoorW.PrintMore

theorem pick_f {n m : Int} (hm : 1 ≤ m ∧ m ≤ 1000000000000000) : ∃ d, letterbagkit_Pick.f n m = some d ∧ 0 ≤ d ∧ d < m := by
  unfold letterbagkit_Pick.f
  have h1 := Int.tmod_lt_of_pos n (show 0 < m by omega)
  have h2 : -m < Int.tmod n m := by
    have := Int.tmod_lt_of_pos (-n) (show 0 < m by omega)
    rw [Int.neg_tmod] at this
    omega
  rw [if_neg (by omega), if_neg (by omega)]
  generalize Int.tmod n m = r at *
  by_cases c : r < 0
  · rw [if_pos c]
    have b : -9223372036854775808 ≤ r + m ∧ r + m ≤ 9223372036854775807 := by omega
    refine ⟨r + m, by rw [w64 b.1 b.2], by omega, by omega⟩
  · rw [if_neg c]
    exact ⟨r, rfl, by omega, by omega⟩


end Go.Proofs.YtehnhedifhpalaaDoor.Cp
