/- Read and ReadTime of civil. -/
import Derived.Test.YtehnhedifhpalaaDoorRn
set_option linter.unusedVariables false
set_option linter.unusedSimpArgs false
namespace Go.Proofs.YtehnhedifhpalaaDoor.Cp
open Go.RowKit Go.Proofs.YtehnhedifhpalaaDoorW.PrintWords Go.Proofs.YtehnhedifhpalaaDoorW.PrintLast Go.Proofs.YtehnhedifhpalaaDoorW.PrintMore

/-- A text of a date. -/
structure IsText (l : List Int) : Prop where
  len : l.length = 10
  a : l.getD 4 0 = 45
  b : l.getD 7 0 = 45
  y : allDig (l.take 4) = true
  m : allDig ((l.take 7).drop 5) = true
  d : allDig (l.drop 8) = true
  is : Cv.IsDate (Cv.num (l.take 4)) (Cv.num ((l.take 7).drop 5)) (Cv.num (l.drop 8))

open Classical in
noncomputable def readB (l : List Int) : Int × Int := if IsText l then (Cv.dayOf (Cv.num (l.take 4)) (Cv.num ((l.take 7).drop 5)) (Cv.num (l.drop 8)), 0) else (0, 11)

theorem readB_pos {l : List Int} (h : IsText l) : readB l = (Cv.dayOf (Cv.num (l.take 4)) (Cv.num ((l.take 7).drop 5)) (Cv.num (l.drop 8)), 0) := by unfold readB; rw [if_pos h]

theorem readB_neg {l : List Int} (h : ¬ IsText l) : readB l = (0, 11) := by unfold readB; rw [if_neg h]

theorem bt_getD (s : ByteArray) (i : Nat) (h : i < s.size) : bt s (i : Int) = (nb s).getD i 0 := by
  have h' : i < (nb s).length := by rw [nb_len]; exact h
  rw [bt_nb s i h', List.getD_eq_getElem?_getD, List.getElem?_eq_getElem h']; rfl

theorem cread_f (s : ByteArray) : Ev (fun k => civil_Read.f k s) (readB (nb s)) := by
  have es := nb_len s
  have end1 : ∀ x : Bool, x = true → ¬ IsText (nb s) → Ev (fun k => civil_Read.j0 k s x) (readB (nb s)) := by
    intro x hx hn
    rw [readB_neg hn]
    exact Ev.step (fun k => civil_Read.j0.eq_2 _ _ k) (ev_pos hx (Ev.now _))
  unfold civil_Read.f
  by_cases c : (s.size : Int) = 10
  · have c' : s.size = 10 := by omega
    refine ev_pos c (ev_pos (by omega) ?_)
    have e4 := bt_getD s 4 (by omega)
    have e7 := bt_getD s 7 (by omega)
    have e4' : bt s 4 = (nb s).getD 4 0 := e4
    have e7' : bt s 7 = (nb s).getD 7 0 := e7
    rw [e4', e7']
    by_cases c4 : (nb s).getD 4 0 = 45
    · refine ev_pos c4 (ev_pos (by omega) ?_)
      by_cases c7 : (nb s).getD 7 0 = 45
      · have hne : ((nb s).getD 7 0 != 45) = false := by rw [c7]; rfl
        rw [hne]
        refine Ev.step (fun k => civil_Read.j0.eq_2 _ _ k) (ev_neg Bool.false_ne_true (ev_pos (by decide) (ev_pos (by omega) ?_)))
        have n1 := cnumber_f (s.extract 0 4) (by rw [nb_extract, List.length_drop, List.length_take]; omega)
        have n2 := cnumber_f (s.extract 5 7) (by rw [nb_extract, List.length_drop, List.length_take]; omega)
        have n3 := cnumber_f (s.extract 8 s.size) (by rw [nb_extract, List.length_drop, List.length_take]; omega)
        rw [nb_extract, List.drop_zero] at n1
        rw [nb_extract] at n2
        rw [nb_extract, List.take_of_length_le (by omega)] at n3
        refine Ev.bind n1 (ev_pos (by decide) (ev_pos (by omega) (Ev.bind n2 (ev_pos (by omega) (Ev.bind n3 ?_)))))
        by_cases a1 : allDig ((nb s).take 4) = true
        · have b1 : cnum ((nb s).take 4) = (Cv.num ((nb s).take 4), true) := by unfold cnum; rw [if_pos a1]
          rw [b1]
          refine ev_pos rfl ?_
          by_cases a2 : allDig (((nb s).take 7).drop 5) = true
          · have b2 : cnum (((nb s).take 7).drop 5) = (Cv.num (((nb s).take 7).drop 5), true) := by unfold cnum; rw [if_pos a2]
            rw [b2]
            refine ev_pos rfl ?_
            by_cases a3 : allDig ((nb s).drop 8) = true
            · have b3 : cnum ((nb s).drop 8) = (Cv.num ((nb s).drop 8), true) := by unfold cnum; rw [if_pos a3]
              rw [b3]
              refine ev_pos rfl (Ev.bind (ev_val (dated_f _ _ _)) ?_)
              by_cases hd : Cv.IsDate (Cv.num ((nb s).take 4)) (Cv.num (((nb s).take 7).drop 5)) (Cv.num ((nb s).drop 8))
              · refine ev_pos (decide_eq_true hd) (Ev.bind (ev_val (day_f hd)) (ev_eq ?_ (Ev.now _)))
                rw [readB_pos ⟨by omega, c4, c7, a1, a2, a3, hd⟩]
              · refine ev_neg (by rw [decide_eq_false hd]; exact Bool.false_ne_true) (ev_eq ?_ (Ev.now _))
                rw [readB_neg (fun h => hd h.is)]
            · have b3 : cnum ((nb s).drop 8) = (0, false) := by unfold cnum; rw [if_neg a3]
              rw [b3]
              refine ev_neg Bool.false_ne_true (ev_eq ?_ (Ev.now _))
              rw [readB_neg (fun h => a3 h.d)]
          · have b2 : cnum (((nb s).take 7).drop 5) = (0, false) := by unfold cnum; rw [if_neg a2]
            rw [b2]
            refine ev_neg Bool.false_ne_true (ev_eq ?_ (Ev.now _))
            rw [readB_neg (fun h => a2 h.m)]
        · have b1 : cnum ((nb s).take 4) = (0, false) := by unfold cnum; rw [if_neg a1]
          rw [b1]
          refine ev_neg Bool.false_ne_true (ev_eq ?_ (Ev.now _))
          rw [readB_neg (fun h => a1 h.y)]
      · exact end1 _ (bne_iff_ne.mpr c7) (fun h => c7 h.b)
    · exact ev_neg c4 (end1 _ rfl (fun h => c4 h.a))
  · exact ev_neg c (end1 _ rfl (fun h => c (by have := h.len; omega)))

/-- A text of a time. -/
structure IsTimeText (l : List Int) : Prop where
  len : l.length = 16
  a : l.getD 10 0 = 32
  b : l.getD 13 0 = 58
  day : IsText (l.take 10)
  h : allDig ((l.take 13).drop 11) = true
  m : allDig (l.drop 14) = true
  h2 : Cv.num ((l.take 13).drop 11) ≤ 23
  m2 : Cv.num (l.drop 14) ≤ 59

open Classical in
noncomputable def readTB (l : List Int) : Int × Int := if IsTimeText l then ((readB (l.take 10)).1 * 1440 + Cv.num ((l.take 13).drop 11) * 60 + Cv.num (l.drop 14), 0) else (0, 11)

theorem readTB_pos {l : List Int} (h : IsTimeText l) : readTB l = ((readB (l.take 10)).1 * 1440 + Cv.num ((l.take 13).drop 11) * 60 + Cv.num (l.drop 14), 0) := by unfold readTB; rw [if_pos h]

theorem readTB_neg {l : List Int} (h : ¬ IsTimeText l) : readTB l = (0, 11) := by unfold readTB; rw [if_neg h]

theorem readB_bd (l : List Int) : 0 ≤ (readB l).1 ∧ (readB l).1 ≤ 730484 := by
  by_cases h : IsText l
  · rw [readB_pos h]; exact (Cv.dayOf_bd h.is).2.2
  · rw [readB_neg h]; exact ⟨by decide, by decide⟩

theorem readB_ok {l : List Int} : (readB l).2 = 0 ↔ IsText l := by
  by_cases h : IsText l
  · rw [readB_pos h]; exact ⟨fun _ => h, fun _ => rfl⟩
  · rw [readB_neg h]; exact ⟨fun hc => absurd hc (by decide), fun h' => absurd h' h⟩

theorem creadtime_f (s : ByteArray) : Ev (fun k => civil_ReadTime.f k s) (readTB (nb s)) := by
  have es := nb_len s
  have end1 : ∀ x : Bool, x = true → ¬ IsTimeText (nb s) → Ev (fun k => civil_ReadTime.j0 k s x) (readTB (nb s)) := by
    intro x hx hn
    rw [readTB_neg hn]
    exact Ev.step (fun k => civil_ReadTime.j0.eq_2 _ _ k) (ev_pos hx (Ev.now _))
  unfold civil_ReadTime.f
  by_cases c : (s.size : Int) = 16
  · have c' : s.size = 16 := by omega
    refine ev_pos c (ev_pos (by omega) ?_)
    have e4' : bt s 10 = (nb s).getD 10 0 := bt_getD s 10 (by omega)
    have e7' : bt s 13 = (nb s).getD 13 0 := bt_getD s 13 (by omega)
    rw [e4', e7']
    by_cases c4 : (nb s).getD 10 0 = 32
    · refine ev_pos c4 (ev_pos (by omega) ?_)
      by_cases c7 : (nb s).getD 13 0 = 58
      · have hne : ((nb s).getD 13 0 != 58) = false := by rw [c7]; rfl
        rw [hne]
        refine Ev.step (fun k => civil_ReadTime.j0.eq_2 _ _ k) (ev_neg Bool.false_ne_true (ev_pos (by decide) (ev_pos (by omega) ?_)))
        have n1 := cread_f (s.extract 0 10)
        have n2 := cnumber_f (s.extract 11 13) (by rw [nb_extract, List.length_drop, List.length_take]; omega)
        have n3 := cnumber_f (s.extract 14 s.size) (by rw [nb_extract, List.length_drop, List.length_take]; omega)
        rw [nb_extract, List.drop_zero] at n1
        rw [nb_extract] at n2
        rw [nb_extract, List.take_of_length_le (by omega)] at n3
        refine Ev.bind n1 (ev_pos (by decide) (ev_pos (by omega) (Ev.bind n2 (ev_pos (by omega) (Ev.bind n3 ?_)))))
        by_cases a1 : (readB ((nb s).take 10)).2 = 0
        · refine ev_pos a1 ?_
          by_cases a2 : allDig (((nb s).take 13).drop 11) = true
          · have b2 : cnum (((nb s).take 13).drop 11) = (Cv.num (((nb s).take 13).drop 11), true) := by unfold cnum; rw [if_pos a2]
            rw [b2]
            refine ev_pos rfl ?_
            by_cases a3 : allDig ((nb s).drop 14) = true
            · have b3 : cnum ((nb s).drop 14) = (Cv.num ((nb s).drop 14), true) := by unfold cnum; rw [if_pos a3]
              rw [b3]
              refine ev_pos rfl ?_
              have hn1 := num_bd (l := ((nb s).take 13).drop 11) (by rw [List.length_drop, List.length_take]; omega) a2
              have hn2 := num_bd (l := (nb s).drop 14) (by rw [List.length_drop]; omega) a3
              have hr := readB_bd ((nb s).take 10)
              by_cases h2 : Cv.num (((nb s).take 13).drop 11) > 23
              · refine ev_pos h2 (ev_eq ?_ (Ev.now _))
                rw [readTB_neg (fun h => by have := h.h2; omega)]
              · refine ev_neg h2 ?_
                by_cases m2 : Cv.num ((nb s).drop 14) > 59
                · refine ev_pos m2 (ev_eq ?_ (Ev.now _))
                  rw [readTB_neg (fun h => by have := h.m2; omega)]
                · refine ev_neg m2 (ev_eq ?_ (Ev.now _))
                  rw [readTB_pos ⟨by omega, c4, c7, readB_ok.1 a1, a2, a3, by omega, by omega⟩]
                  generalize (readB ((nb s).take 10)).1 = x at *
                  generalize Cv.num (((nb s).take 13).drop 11) = u at *
                  generalize Cv.num ((nb s).drop 14) = v at *
                  have q1 : -9223372036854775808 ≤ x * 1440 ∧ x * 1440 ≤ 9223372036854775807 := by omega
                  have q2 : -9223372036854775808 ≤ u * 60 ∧ u * 60 ≤ 9223372036854775807 := by omega
                  have q3 : -9223372036854775808 ≤ x * 1440 + u * 60 ∧ x * 1440 + u * 60 ≤ 9223372036854775807 := by omega
                  have q4 : -9223372036854775808 ≤ x * 1440 + u * 60 + v ∧ x * 1440 + u * 60 + v ≤ 9223372036854775807 := by omega
                  rw [w64 q1.1 q1.2, w64 q2.1 q2.2, w64 q3.1 q3.2, w64 q4.1 q4.2]
            · have b3 : cnum ((nb s).drop 14) = (0, false) := by unfold cnum; rw [if_neg a3]
              rw [b3]
              refine ev_neg Bool.false_ne_true (ev_eq ?_ (Ev.now _))
              rw [readTB_neg (fun h => a3 h.m)]
          · have b2 : cnum (((nb s).take 13).drop 11) = (0, false) := by unfold cnum; rw [if_neg a2]
            rw [b2]
            refine ev_neg Bool.false_ne_true (ev_eq ?_ (Ev.now _))
            rw [readTB_neg (fun h => a2 h.h)]
        · refine ev_neg a1 (ev_eq ?_ (Ev.now _))
          rw [readTB_neg (fun h => a1 (readB_ok.2 h.day))]
      · exact end1 _ (bne_iff_ne.mpr c7) (fun h => c7 h.b)
    · exact ev_neg c4 (end1 _ rfl (fun h => c4 h.a))
  · exact ev_neg c (end1 _ rfl (fun h => c (by have := h.len; omega)))


end Go.Proofs.YtehnhedifhpalaaDoor.Cp
