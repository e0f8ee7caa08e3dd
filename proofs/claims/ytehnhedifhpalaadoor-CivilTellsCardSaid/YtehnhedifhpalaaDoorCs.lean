/- slices.BinarySearch over a rising list: how many numbers are less, and whether it is there. -/
import Derived.Test.YtehnhedifhpalaaDoorCq
import Derived.Test.YtehnhedifhpalaaDoorCu
import Derived.Test.YtehnhedifhpalaaDoorCvB
set_option linter.unusedVariables false
set_option linter.unusedSimpArgs false
namespace Go.Proofs.YtehnhedifhpalaaDoor.Cq
open Go.Proofs.YtehnhedifhpalaaDoor.Cp
open Go.RowKit Go.Proofs.YtehnhedifhpalaaDoorW.PrintWords Go.Proofs.YtehnhedifhpalaaDoorW.PrintLast Go.Proofs.YtehnhedifhpalaaDoorW.PrintMore

theorem less_split {F : List Int} {x : Int} {n : Nat} (hn : n ≤ F.length) (h1 : ∀ i (h : i < F.length), i < n → F[i] < x) (h2 : ∀ i (h : i < F.length), n ≤ i → x ≤ F[i]) : Cv.less F x = n := by
  unfold Cv.less
  have e1 : (F.take n).filter (fun h => decide (h < x)) = F.take n := by
    rw [List.filter_eq_self]
    intro a ha
    obtain ⟨i, hi, rfl⟩ := List.getElem_of_mem ha
    rw [List.length_take] at hi
    rw [List.getElem_take]
    exact decide_eq_true (h1 i (by omega) (by omega))
  have e2 : (F.drop n).filter (fun h => decide (h < x)) = [] := by
    rw [List.filter_eq_nil_iff]
    intro a ha
    obtain ⟨i, hi, rfl⟩ := List.getElem_of_mem ha
    rw [List.length_drop] at hi
    rw [List.getElem_drop]
    have := h2 (n + i) (by omega) (by omega)
    simp; omega
  have e3 : F.filter (fun h => decide (h < x)) = F.take n := by
    conv => lhs; rw [← List.take_append_drop n F]
    rw [List.filter_append, e1, e2, List.append_nil]
  rw [e3, List.length_take]
  omega

theorem less_f (a b : Int) : cmp_Less_int.f a b = some (decide (a < b)) := by
  unfold cmp_Less_int.f cmp_isNaN_int.f
  simp

theorem bs_l0 {F : List Int} (hF : F.Pairwise (· < ·)) (hl : F.length ≤ 100000) (x : Int) (d : Nat) : ∀ lo hi : Nat, lo ≤ hi → hi ≤ F.length → hi - lo ≤ d → (∀ i (h : i < F.length), i < lo → F[i] < x) → (∀ i (h : i < F.length), hi ≤ i → x ≤ F[i]) →
    Ev (fun k => slices_BinarySearch_int_int.l0 k F x (F.length : Int) (lo : Int) (hi : Int)) ((Cv.less F x : Int), F.contains x) := by
  induction d with
  | zero =>
    intro lo hi h1 h2 h3 h4 h5
    obtain rfl : lo = hi := by omega
    have hless := less_split h2 h4 h5
    have hq := List.pairwise_iff_getElem.1 hF
    refine Ev.step (fun k => slices_BinarySearch_int_int.l0.eq_2 _ _ _ _ _ k) ?_
    refine ev_neg (by omega) ?_
    by_cases c : (lo : Int) < (F.length : Int)
    · have cn : lo < F.length := by omega
      refine ev_pos c (ev_pos (by omega) (ev_pos c ?_))
      rw [rd_get cn]
      by_cases e : F[lo] = x
      · refine ev_pos e (ev_eq ?_ (Ev.now _))
        rw [hless]
        have : F.contains x = true := by simpa using (e ▸ List.getElem_mem cn : x ∈ F)
        rw [this]
      · refine ev_neg e (Ev.bind (ev_val (r := false) (by unfold slices_isNaN_int.f; simp)) (ev_neg Bool.false_ne_true (ev_eq ?_ (Ev.now _))))
        rw [hless]
        have : F.contains x = false := by
          rw [Bool.eq_false_iff]
          intro hc
          obtain ⟨i, hi, hx⟩ := List.getElem_of_mem (show x ∈ F by simpa using hc)
          rcases Nat.lt_trichotomy i lo with h | h | h
          · have := h4 i hi h; omega
          · subst h; exact e hx
          · have := hq lo i cn hi h
            have := h5 lo cn (Nat.le_refl _)
            omega
        rw [this]
    · refine ev_neg c (ev_eq ?_ (Ev.now _))
      rw [hless]
      have : F.contains x = false := by
        rw [Bool.eq_false_iff]
        intro hc
        obtain ⟨i, hi, hx⟩ := List.getElem_of_mem (show x ∈ F by simpa using hc)
        have := h4 i hi (by omega)
        omega
      rw [this]
  | succ d ih =>
    intro lo hi h1 h2 h3 h4 h5
    by_cases e : lo = hi
    · exact ih lo hi h1 h2 (by omega) h4 h5
    · have hq := List.pairwise_iff_getElem.1 hF
      have cm : (lo + hi) / 2 < F.length := by omega
      have b1 : -9223372036854775808 ≤ (lo : Int) + (hi : Int) ∧ (lo : Int) + (hi : Int) ≤ 9223372036854775807 ∧ 0 ≤ (lo : Int) + (hi : Int) := by omega
      have e1 : ((lo : Int) + (hi : Int)) / 2 = (((lo + hi) / 2 : Nat) : Int) := by omega
      have b2 : -9223372036854775808 ≤ (((lo + hi) / 2 : Nat) : Int) ∧ (((lo + hi) / 2 : Nat) : Int) ≤ 9223372036854775807 := by omega
      have c1 : (0 : Int) ≤ (((lo + hi) / 2 : Nat) : Int) := by omega
      have c2 : (((lo + hi) / 2 : Nat) : Int) < (F.length : Int) := by omega
      refine Ev.step (fun k => slices_BinarySearch_int_int.l0.eq_2 _ _ _ _ _ k) ?_
      refine ev_pos (by omega) ?_
      rw [w64 b1.1 b1.2.1, wu64 b1.2.2 b1.2.1, e1, w64 b2.1 b2.2, rd_get cm, wsucc cm (by omega)]
      refine ev_pos c1 (ev_pos c2 (Ev.bind (ev_val (less_f _ _)) ?_))
      by_cases c : F[(lo + hi) / 2] < x
      · refine ev_pos (decide_eq_true c) (ih _ _ (by omega) h2 (by omega) (fun i hi' hl' => ?_) h5)
        by_cases e2 : i = (lo + hi) / 2
        · subst e2; exact c
        · have := hq i ((lo + hi) / 2) hi' cm (by omega)
          omega
      · refine ev_neg (by simpa using c) (ih _ _ (by omega) (by omega) (by omega) h4 (fun i hi' hl' => ?_))
        by_cases e2 : i = (lo + hi) / 2
        · subst e2; omega
        · have := hq ((lo + hi) / 2) i cm hi' (by omega)
          omega

theorem bs_f {F : List Int} (hF : F.Pairwise (· < ·)) (hl : F.length ≤ 100000) (x : Int) : Ev (fun k => slices_BinarySearch_int_int.f k F x) ((Cv.less F x : Int), F.contains x) := by
  unfold slices_BinarySearch_int_int.f
  exact bs_l0 hF hl x F.length 0 F.length (by omega) (by omega) (by omega) (fun i h h' => absurd h' (by omega)) (fun i h h' => absurd h' (by omega))

end Go.Proofs.YtehnhedifhpalaaDoor.Cq
