/- What Right of civil returns; what that says of a list. -/
import Derived.Test.YtehnhedifhpalaaDoorCp1
import Derived.Test.YtehnhedifhpalaaDoorCf
set_option linter.unusedVariables false
set_option linter.unusedSimpArgs false
namespace Go.Proofs.YtehnhedifhpalaaDoor.Cp
open Go.RowKit Go.Proofs.YtehnhedifhpalaaDoorW.PrintWords Go.Proofs.YtehnhedifhpalaaDoorW.PrintLast Go.Proofs.YtehnhedifhpalaaDoorW.PrintMore

theorem right_l0 (l : List Int) (hl : l.length ≤ 9223372036854775807) (d : Nat) : ∀ (i : Nat) (last : Int), i ≤ l.length → l.length - i = d →
    Ev (fun k => civil_Right.l0 k l last l (l.length : Int) (i : Int)) (rightFrom last (l.drop i) && decide (l.length ≤ 1000)) := by
  induction d with
  | zero =>
    intro i last hi hd
    refine Ev.step (fun k => civil_Right.l0.eq_2 _ _ _ _ _ k) ?_
    rw [List.drop_of_length_le (by omega)]
    refine ev_neg (by omega) (ev_eq ?_ (Ev.now _))
    simp only [rightFrom, Bool.true_and]
    rw [Bool.eq_iff_iff]
    simp only [decide_eq_true_eq]
    omega
  | succ d ih =>
    intro i last hi hd
    have c : i < l.length := by omega
    have ci : (i : Int) < (l.length : Int) := by omega
    have b1 : -9223372036854775808 ≤ (i : Int) + 1 ∧ (i : Int) + 1 ≤ 9223372036854775807 := by omega
    have e1 : (i : Int) + 1 = ((i + 1 : Nat) : Int) := by omega
    have ih1 := ih (i + 1) l[i] (by omega) (by omega)
    refine Ev.step (fun k => civil_Right.l0.eq_2 _ _ _ _ _ k) ?_
    refine ev_pos ci (ev_pos (by omega) (ev_pos ci ?_))
    rw [rd_get c, w64 b1.1 b1.2, e1, List.drop_eq_getElem_cons c]
    simp only [rightFrom]
    by_cases c1 : l[i] ≤ last
    · refine ev_pos c1 (ev_eq ?_ (Ev.now _))
      rw [decide_eq_true c1]; rfl
    · refine ev_neg c1 ?_
      by_cases c2 : l[i] > 730484
      · refine ev_pos c2 (ev_eq ?_ (Ev.now _))
        rw [decide_eq_false c1, decide_eq_true (show 730484 < l[i] from c2)]; rfl
      · refine ev_neg c2 (ev_eq ?_ ih1)
        rw [decide_eq_false c1, decide_eq_false (show ¬ 730484 < l[i] from c2)]; rfl

theorem right_f (l : List Int) (hl : l.length ≤ 9223372036854775807) : Ev (fun k => civil_Right.f k l) (rightB l) := by
  unfold civil_Right.f rightB
  have h := right_l0 l hl (l.length - 0) 0 (-1) (by omega) rfl
  rw [List.drop_zero] at h
  exact h

theorem right_of {l : List Int} : ∀ {last : Int}, rightFrom last l = true → (∀ d ∈ l, last < d ∧ d ≤ 730484) ∧ l.Pairwise (· < ·) := by
  induction l with
  | nil => intro last _; exact ⟨by simp, List.Pairwise.nil⟩
  | cons a l ih =>
    intro last h
    simp only [rightFrom, Bool.and_eq_true, Bool.not_eq_true', decide_eq_false_iff_not] at h
    obtain ⟨⟨h1, h2⟩, h3⟩ := h
    obtain ⟨k1, k2⟩ := ih h3
    refine ⟨fun d hd => ?_, List.pairwise_cons.2 ⟨fun b hb => (k1 b hb).1, k2⟩⟩
    rcases List.mem_cons.1 hd with rfl | hd
    · omega
    · have := k1 d hd; omega

theorem rightB_of {l : List Int} (h : rightB l = true) : Cv.Right l ∧ l.length ≤ 1000 := by
  unfold rightB at h
  simp only [Bool.and_eq_true, decide_eq_true_eq] at h
  obtain ⟨k1, k2⟩ := right_of h.1
  exact ⟨⟨k2, fun d hd => by have := k1 d hd; omega⟩, h.2⟩

end Go.Proofs.YtehnhedifhpalaaDoor.Cp
