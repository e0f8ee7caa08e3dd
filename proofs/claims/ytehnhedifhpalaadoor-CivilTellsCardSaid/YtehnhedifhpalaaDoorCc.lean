/- The closure that counts makes, and counts itself: the walks. -/
import Derived.Test.YtehnhedifhpalaaDoorCs
namespace Go.Proofs.YtehnhedifhpalaaDoor.Cq
open Go.Proofs.YtehnhedifhpalaaDoor.Cp
open Go.RowKit Go.Proofs.YtehnhedifhpalaaDoorW.PrintWords Go.Proofs.YtehnhedifhpalaaDoorW.PrintLast Go.Proofs.YtehnhedifhpalaaDoorW.PrintMore
attribute [local go_sem] max2_int min2_int max_two min_two max_three min_three max_four min_four
set_option linter.unusedVariables false
set_option linter.unusedSimpArgs false

set_option maxHeartbeats 2000000 in
theorem weekdays_any (d : Int) (w : World) (hd : 0 ≤ d ∧ d ≤ 730485) : Calls Tryd.prog 73 #[.int .i64 d] w fun e w' => e = .returned (.int .i64 (Cv.wdays d)) ∧ Drawn0 w w' := by
  have e1 : Int.tdiv d 7 = d / 7 := Int.tdiv_eq_ediv_of_nonneg hd.1
  have e2 : Int.tmod d 7 = d % 7 := Int.tmod_eq_emod_of_nonneg hd.1
  have b1 : (-9223372036854775808 ≤ d / 7 ∧ d / 7 ≤ 9223372036854775807) ∧ (-9223372036854775808 ≤ d / 7 * 5 ∧ d / 7 * 5 ≤ 9223372036854775807) ∧ (-9223372036854775808 ≤ d / 7 * 5 + d % 7 ∧ d / 7 * 5 + d % 7 ≤ 9223372036854775807) ∧ -9223372036854775808 ≤ d / 7 * 5 + 5 ∧ d / 7 * 5 + 5 ≤ 9223372036854775807 := by omega
  have w1 := w64 b1.1.1 b1.1.2
  have w2 := w64 b1.2.1.1 b1.2.1.2
  have w3 := w64 b1.2.2.1.1 b1.2.2.1.2
  have w4 := w64 b1.2.2.2.1 b1.2.2.2.2
  clear b1
  clear hd
  by_cases c : d % 7 ≤ 5
  · have e : Cv.wdays d = d / 7 * 5 + d % 7 := by clear w1 w2 w3 w4 e1 e2; unfold Cv.wdays; omega
    rw [e]
    clear e
    have c1 : (5 < d % 7) = False := eq_false (by clear w1 w2 w3 w4 e1 e2; omega)
    have c2 : (d % 7 ≤ 5) = True := eq_true c
    clear c
    go_enter Tryd.func73, Tryd.ntmps73
    go_wp2
    go_ret
    exact ⟨by first | rfl | simp [w3], Drawn0.refl _⟩
  · have e : Cv.wdays d = d / 7 * 5 + 5 := by clear w1 w2 w3 w4 e1 e2; unfold Cv.wdays; omega
    rw [e]
    clear e
    have c1 : (5 < d % 7) = True := eq_true (by clear w1 w2 w3 w4 e1 e2; omega)
    have c2 : (d % 7 ≤ 5) = False := eq_false c
    clear c
    go_enter Tryd.func73, Tryd.ntmps73
    go_wp2
    go_ret
    exact ⟨by first | rfl | simp [w4], Drawn0.refl _⟩

set_option maxHeartbeats 4000000 in
set_option maxRecDepth 100000 in
theorem clos_any (g : Nat) (A : Option Addr) (c : Nat) (F : List Int) (d : Int) (w : World) (hcell : w.cell? ⟨g, 0, none⟩ = some (.slice A F.length c)) (hF : Kd.C (Kd.int .i64) w A F.length F) (hc : F.length ≤ c)
    (hs : F.Pairwise (· < ·)) (hl : F.length ≤ 1000) (hd : 0 ≤ d ∧ d ≤ 730485) :
    Calls Tryd.prog 72 #[.int .i64 d, .pointer (some ⟨g, 0, none⟩)] w fun e w' => e = .returned (.int .i64 (Cv.wdays d - Cv.less F d)) ∧ Drawn0 w w' := by
  obtain ⟨k, hk⟩ := (bs_f hs (by omega) d).rounds
  have hwd : ∀ w, Calls Tryd.prog 73 #[.int .i64 d] w fun e w' => e = .returned (.int .i64 (Cv.wdays d)) ∧ Drawn0 w w' := fun w => weekdays_any d w hd
  have hb : 0 ≤ Cv.wdays d ∧ Cv.wdays d ≤ 1000000 := by unfold Cv.wdays; omega
  have hless : Cv.less F d ≤ 1000 := by unfold Cv.less; exact Nat.le_trans (List.length_filter_le _ _) hl
  have b1 : -9223372036854775808 ≤ Cv.wdays d - (Cv.less F d : Int) ∧ Cv.wdays d - (Cv.less F d : Int) ≤ 9223372036854775807 := by omega
  have w1 := w64 b1.1 b1.2
  clear b1
  generalize Cv.wdays d = x at *
  generalize Cv.less F d = y at *
  generalize F.contains d = z at *
  have HK := Aside0.mk hk
  have HF := Aside0.mk hF
  have HC := Aside0.mk hc
  clear hk hF hc hs hl hd hb hless
  go_enter Tryd.func72, Tryd.ntmps72
  go_wp2_with (first | (go_at_call 57; (with_reducible refine (slices_BinarySearch_int_int.calls k _ _ F d _ _ _ ?side1 ?side2 HK.out).mono ?_); (case side1 => exact HF.out); (case side2 => exact HC.out); rintro e w' ⟨rfl, ⟨nd, rfl⟩⟩) | (go_at_call 73; (with_reducible refine (hwd _).mono ?_); rintro e w' ⟨rfl, ⟨nd, rfl⟩⟩))
  go_ret
  exact ⟨by first | rfl | simp [w1], by first | exact Drawn0.refl _ | exact (Drawn0.refl _).step _ | exact ((Drawn0.refl _).step _).step _⟩

end Go.Proofs.YtehnhedifhpalaaDoor.Cq
