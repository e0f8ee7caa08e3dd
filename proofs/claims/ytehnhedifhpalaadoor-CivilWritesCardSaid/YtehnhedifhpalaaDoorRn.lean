/- Numbers that texts are: of civil. -/
import Derived.Test.YtehnhedifhpalaaDoorCp2
import Derived.Test.YtehnhedifhpalaaDoorCu
import Derived.Test.YtehnhedifhpalaaDoorDc
import Derived.Test.YtehnhedifhpalaaDoorBl
import Derived.Test.YtehnhedifhpalaaDoorCvD
set_option linter.unusedVariables false
set_option linter.unusedSimpArgs false
namespace Go.Proofs.YtehnhedifhpalaaDoor.Cp
open Go.RowKit Go.Proofs.YtehnhedifhpalaaDoorW.PrintWords Go.Proofs.YtehnhedifhpalaaDoorW.PrintLast Go.Proofs.YtehnhedifhpalaaDoorW.PrintMore

def allDig (l : List Int) : Bool := l.all fun b => decide (Cv.isDig b)

theorem allDig_iff {l : List Int} : allDig l = true ↔ ∀ b ∈ l, Cv.isDig b := by simp [allDig]

theorem ten_le : ∀ i : Nat, i ≤ 4 → Cv.ten i ≤ 10000 := by decide

theorem num_bd {l : List Int} (hl : l.length ≤ 4) (h : allDig l = true) : 0 ≤ Cv.num l ∧ Cv.num l < 10000 := by
  obtain ⟨_, h1, h2⟩ := Cv.dig_num l.length l rfl (allDig_iff.1 h)
  have := ten_le _ hl
  omega

theorem allDig_take {l : List Int} {i : Nat} (hi : i < l.length) : allDig (l.take (i + 1)) = (allDig (l.take i) && decide (Cv.isDig l[i])) := by
  unfold allDig; rw [List.take_succ_eq_append_getElem hi, List.all_append, List.all_cons, List.all_nil, Bool.and_true]

theorem num_take {l : List Int} {i : Nat} (hi : i < l.length) : Cv.num (l.take (i + 1)) = Cv.num (l.take i) * 10 + (l[i] - 48) := by
  rw [List.take_succ_eq_append_getElem hi, Cv.num_snoc]

theorem allDig_no {l : List Int} {i : Nat} (hi : i < l.length) (h : ¬ Cv.isDig l[i]) : allDig l = false := by
  rw [Bool.eq_false_iff]
  intro hc
  exact h (allDig_iff.1 hc _ (List.getElem_mem hi))

def cnum (l : List Int) : Int × Bool := if allDig l = true then (Cv.num l, true) else (0, false)

theorem cnumber_l0 (s : ByteArray) (hs : (nb s).length ≤ 4) (d : Nat) : ∀ i : Nat, i ≤ (nb s).length → (nb s).length - i = d → allDig ((nb s).take i) = true →
    Ev (fun k => civil_number.l0 k s (Cv.num ((nb s).take i)) (s.size : Int) (i : Int)) (cnum (nb s)) := by
  have es := nb_len s
  induction d with
  | zero =>
    intro i hi hd ha
    rw [List.take_of_length_le (by omega)] at ha ⊢
    refine Ev.step (fun k => civil_number.l0.eq_2 _ _ _ _ k) (ev_neg (by omega) (ev_eq ?_ (Ev.now _)))
    unfold cnum; rw [if_pos ha]
  | succ d ih =>
    intro i hi hd ha
    have c : i < (nb s).length := by omega
    have hb := num_bd (l := (nb s).take i) (by rw [List.length_take]; omega) ha
    have q0 : -10000000 ≤ (i : Int) + 1 ∧ (i : Int) + 1 ≤ 10000000 := by omega
    have e0 : (i : Int) + 1 = ((i + 1 : Nat) : Int) := by omega
    refine Ev.step (fun k => civil_number.l0.eq_2 _ _ _ _ k) (ev_pos (by omega) (ev_pos (by omega) (ev_pos (by omega) ?_)))
    rw [bt_nb s i c]
    by_cases c1 : (nb s)[i] < 48
    · refine ev_pos c1 (ev_eq ?_ (Ev.now _))
      unfold cnum; rw [allDig_no c (by unfold Cv.isDig; omega)]; rfl
    · refine ev_neg c1 ?_
      by_cases c2 : (nb s)[i] > 57
      · refine ev_pos c2 (ev_eq ?_ (Ev.now _))
        unfold cnum; rw [allDig_no c (by unfold Cv.isDig; omega)]; rfl
      · refine ev_neg c2 ?_
        have hdg : Cv.isDig (nb s)[i] := by unfold Cv.isDig; omega
        have ha1 : allDig ((nb s).take (i + 1)) = true := by rw [allDig_take c, ha, decide_eq_true hdg]; rfl
        have ih1 := ih (i + 1) (by omega) (by omega) ha1
        have e1 : ((nb s)[i] - 48) % 256 = (nb s)[i] - 48 := by omega
        have q1 : -10000000 ≤ Cv.num ((nb s).take i) * 10 ∧ Cv.num ((nb s).take i) * 10 ≤ 10000000 := by omega
        have q2 : -10000000 ≤ Cv.num ((nb s).take i) * 10 + ((nb s)[i] - 48) ∧ Cv.num ((nb s).take i) * 10 + ((nb s)[i] - 48) ≤ 10000000 := by omega
        rw [wb q0, e1, wb q1, wb q2, e0, ← num_take c]
        exact ih1

theorem cnumber_f (s : ByteArray) (hs : (nb s).length ≤ 4) : Ev (fun k => civil_number.f k s) (cnum (nb s)) := by
  have := cnumber_l0 s hs _ 0 (by omega) rfl (by simp [allDig])
  exact this


end Go.Proofs.YtehnhedifhpalaaDoor.Cp
