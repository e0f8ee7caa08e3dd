/- Between and Ahead of civil: the machine's calls do what the plain functions say. -/
import Derived.Test.YtehnhedifhpalaaDoorCg
import Derived.Test.YtehnhedifhpalaaDoorCd
namespace Go.Proofs.YtehnhedifhpalaaDoor.Cp
open Go.RowKit Go.Proofs.YtehnhedifhpalaaDoorW.PrintWords Go.Proofs.YtehnhedifhpalaaDoorW.PrintLast Go.Proofs.YtehnhedifhpalaaDoorW.PrintMore
attribute [local go_sem] max2_int min2_int max_two min_two max_three min_three max_four min_four
set_option linter.unusedVariables false
set_option linter.unusedSimpArgs false

theorem below_bd {l : List Int} (h : l.length ≤ 1000) {d : Int} (hd : 0 ≤ d ∧ d ≤ 730485) : -1000 ≤ Cv.wdays d - (Cv.less (Cv.freeOf l) d : Int) ∧ Cv.wdays d - (Cv.less (Cv.freeOf l) d : Int) ≤ 1000000 := by
  have h1 : Cv.less (Cv.freeOf l) d ≤ 1000 := by
    unfold Cv.less
    exact Nat.le_trans (List.length_filter_le _ _) (Nat.le_trans (List.length_filter_le _ _) h)
  have h2 : 0 ≤ Cv.wdays d ∧ Cv.wdays d ≤ 1000000 := by unfold Cv.wdays; omega
  omega

theorem first_below (w : World) (n : Nat) : Below w.heap.size w (w.drewN n) := ((Drawn0.refl w).step n).below

set_option maxHeartbeats 8000000 in
set_option maxRecDepth 100000 in
theorem civil_Between.calls (a0 : Int) (a1 : Int) (A2 : Option Addr) (c2 : Nat) (l2 : List Int) (r1 : Int) (r2 : Int) (w : World) (hr2 : Kd.C (Kd.int .i64) w A2 l2.length l2) (hc2 : l2.length ≤ c2) (h : civil_Between.f a0 a1 l2 = some (r1, r2)) :
    Calls Tryd.prog 28 #[.int .i64 a0, .int .i64 a1, .slice A2 l2.length c2] w fun e w' => e = .returned (.tuple #[.int .i64 r1, .int .i64 r2]) ∧ Below w.heap.size w w' := by
  obtain ⟨kr, hkr⟩ := (right_f l2 hr2.2.1).rounds
  have HR := Aside0.mk hr2
  have HC := Aside0.mk hc2
  clear hr2 hc2
  unfold civil_Between.f at h
  cases R : rightB l2 with
  | false =>
    rw [R] at h hkr
    have HKR := Aside0.mk hkr
    clear hkr
    simp at h
    obtain ⟨rfl, rfl⟩ := h
    go_enter Tryd.func28, Tryd.ntmps28
    go_wp2_with (first | (go_at_call 29; (with_reducible refine (civil_Right.calls kr _ _ l2 false _ ?side1 ?side2 HKR.out).mono ?_); (case side1 => exact HR.out); (case side2 => exact HC.out); rintro e w' ⟨rfl, ⟨nd, rfl⟩⟩))
    go_ret2
    exact ⟨rfl, by first | exact Below.refl _ _ | exact ((Drawn0.refl _).step _).below⟩
  | true =>
    rw [R] at h hkr
    have HKR := Aside0.mk hkr
    clear hkr
    obtain ⟨hright, hlen⟩ := rightB_of R
    by_cases c0 : a0 < 0
    · have d0 : decide (a0 < 0) = true := decide_eq_true c0
      rw [if_neg (by omega)] at h
      obtain ⟨rfl, rfl⟩ : 0 = r1 ∧ 2 = r2 := by simpa using h
      clear h c0
      go_enter Tryd.func28, Tryd.ntmps28
      go_wp2_with (first | (go_at_call 29; (with_reducible refine (civil_Right.calls kr _ _ l2 true _ ?side1 ?side2 HKR.out).mono ?_); (case side1 => exact HR.out); (case side2 => exact HC.out); rintro e w' ⟨rfl, ⟨nd, rfl⟩⟩))
      go_ret2
      exact ⟨rfl, by first | exact Below.refl _ _ | exact ((Drawn0.refl _).step _).below⟩
    · have d0 : decide (a0 < 0) = false := decide_eq_false c0
      by_cases c1 : a1 < a0
      · have d1 : decide (a1 < a0) = true := decide_eq_true c1
        rw [if_neg (by omega)] at h
        obtain ⟨rfl, rfl⟩ : 0 = r1 ∧ 2 = r2 := by simpa using h
        clear h c0 c1
        go_enter Tryd.func28, Tryd.ntmps28
        go_wp2_with (first | (go_at_call 29; (with_reducible refine (civil_Right.calls kr _ _ l2 true _ ?side1 ?side2 HKR.out).mono ?_); (case side1 => exact HR.out); (case side2 => exact HC.out); rintro e w' ⟨rfl, ⟨nd, rfl⟩⟩))
        go_ret2
        exact ⟨rfl, by first | exact Below.refl _ _ | exact ((Drawn0.refl _).step _).below⟩
      · have d1 : decide (a1 < a0) = false := decide_eq_false c1
        rw [if_pos ⟨rfl, by omega, by omega⟩] at h
        by_cases cc : a1 ≤ 730484
        · have d2 : decide (730484 < a1) = false := decide_eq_false (by omega)
          rw [if_pos cc] at h
          have b0 := below_bd hlen (d := a0) (by omega)
          have b1 := below_bd hlen (d := a1) (by omega)
          obtain ⟨e1, rfl⟩ : Cv.below l2 a1 - Cv.below l2 a0 = r1 ∧ 0 = r2 := by simpa using h
          unfold Cv.below at e1
          have hcl1 := fun (g : Nat) (A : Option Addr) (c : Nat) (w : World) (h1 : w.cell? ⟨g, 0, none⟩ = some (.slice A (Cv.freeOf l2).length c)) (h2 : Kd.C (Kd.int .i64) w A (Cv.freeOf l2).length (Cv.freeOf l2)) (h3 : (Cv.freeOf l2).length ≤ c) =>
            Cq.clos_any g A c (Cv.freeOf l2) a1 w h1 h2 h3 (List.Pairwise.filter _ hright.ord) (Nat.le_trans (Cq.free_len _) hlen) ⟨by omega, by omega⟩
          have hcl0 := fun (g : Nat) (A : Option Addr) (c : Nat) (w : World) (h1 : w.cell? ⟨g, 0, none⟩ = some (.slice A (Cv.freeOf l2).length c)) (h2 : Kd.C (Kd.int .i64) w A (Cv.freeOf l2).length (Cv.freeOf l2)) (h3 : (Cv.freeOf l2).length ≤ c) =>
            Cq.clos_any g A c (Cv.freeOf l2) a0 w h1 h2 h3 (List.Pairwise.filter _ hright.ord) (Nat.le_trans (Cq.free_len _) hlen) ⟨by omega, by omega⟩
          have hcounts := fun (w : World) (h1 : Kd.C (Kd.int .i64) w A2 l2.length l2) => Cq.counts_any A2 c2 l2 w h1 hlen (fun d hd => (hright.bd d hd).1)
          generalize Cv.wdays a1 - (Cv.less (Cv.freeOf l2) a1 : Int) = x1 at *
          generalize Cv.wdays a0 - (Cv.less (Cv.freeOf l2) a0 : Int) = x0 at *
          have EW : wrap64 (x1 - x0) = x1 - x0 := w64 (by omega) (by omega)
          subst e1
          clear h c0 c1 cc b0 b1 hright hlen
          go_enter Tryd.func28, Tryd.ntmps28
          go_wp2_with (first | (go_at_call 29; (with_reducible refine (civil_Right.calls kr _ _ l2 true _ ?side1 ?side2 HKR.out).mono ?_); (case side1 => exact HR.out); (case side2 => exact HC.out); rintro e w' ⟨rfl, ⟨nd, rfl⟩⟩) | (go_at_call 58; refine (hcounts _ ?side1).mono ?_; (case side1 => first | exact HR.out | exact Kd.C_drewN HR.out _); rintro e w2 ⟨g, A, c, rfl, hcell, hC, hlc, hb⟩; have HCE := Aside0.mk hcell; have HCC := Aside0.mk hC; have HLC := Aside0.mk hlc; have HB := Aside0.mk (below_step (first_below w nd) hb); clear hC hlc hb) | (go_at_call 72; (with_reducible refine (hcl1 g A c _ ?side1 ?side2 HLC.out).mono ?_); (case side1 => exact HCE.out); (case side2 => first | exact HCC.out | exact Kd.C_drewN HCC.out _); rintro e w' ⟨rfl, ⟨nd1, rfl⟩⟩) | (go_at_call 72; (with_reducible refine (hcl0 g A c _ ?side1 ?side2 HLC.out).mono ?_); (case side1 => exact HCE.out); (case side2 => first | exact HCC.out | exact Kd.C_drewN HCC.out _); rintro e w' ⟨rfl, ⟨nd0, rfl⟩⟩))
          go_ret2
          exact ⟨by first | rfl | simp [EW], below_step HB.out (first_below w2 _)⟩
        · have d2 : decide (730484 < a1) = true := decide_eq_true (by omega)
          rw [if_neg cc] at h
          obtain ⟨rfl, rfl⟩ : 0 = r1 ∧ 3 = r2 := by simpa using h
          clear h c0 c1 cc
          go_enter Tryd.func28, Tryd.ntmps28
          go_wp2_with (first | (go_at_call 29; (with_reducible refine (civil_Right.calls kr _ _ l2 true _ ?side1 ?side2 HKR.out).mono ?_); (case side1 => exact HR.out); (case side2 => exact HC.out); rintro e w' ⟨rfl, ⟨nd, rfl⟩⟩))
          go_ret2
          exact ⟨rfl, by first | exact Below.refl _ _ | exact ((Drawn0.refl _).step _).below⟩

set_option maxHeartbeats 8000000 in
set_option maxRecDepth 100000 in
theorem civil_Ahead.calls (k : Nat) (a0 : Int) (a1 : Int) (A2 : Option Addr) (c2 : Nat) (l2 : List Int) (r1 : Int) (r2 : Int) (w : World) (hr2 : Kd.C (Kd.int .i64) w A2 l2.length l2) (hc2 : l2.length ≤ c2) (h : civil_Ahead.f k a0 a1 l2 = some (r1, r2)) :
    Calls Tryd.prog 26 #[.int .i64 a0, .int .i64 a1, .slice A2 l2.length c2] w fun e w' => e = .returned (.tuple #[.int .i64 r1, .int .i64 r2]) ∧ Below w.heap.size w w' := by
  obtain ⟨kr, hkr⟩ := (right_f l2 hr2.2.1).rounds
  have HR := Aside0.mk hr2
  have HC := Aside0.mk hc2
  clear hr2 hc2
  unfold civil_Ahead.f at h
  cases R : rightB l2 with
  | false =>
    rw [R] at h hkr
    have HKR := Aside0.mk hkr
    clear hkr
    simp at h
    obtain ⟨rfl, rfl⟩ := h
    go_enter Tryd.func26, Tryd.ntmps26
    go_wp2_with (first | (go_at_call 29; (with_reducible refine (civil_Right.calls kr _ _ l2 false _ ?side1 ?side2 HKR.out).mono ?_); (case side1 => exact HR.out); (case side2 => exact HC.out); rintro e w' ⟨rfl, ⟨nd, rfl⟩⟩))
    go_ret2
    exact ⟨rfl, by first | exact Below.refl _ _ | exact ((Drawn0.refl _).step _).below⟩
  | true =>
    rw [R] at h hkr
    have HKR := Aside0.mk hkr
    clear hkr
    obtain ⟨hright, hlen⟩ := rightB_of R
    by_cases c0 : a0 < 0
    · have d0 : decide (a0 < 0) = true := decide_eq_true c0
      rw [if_neg (by omega)] at h
      obtain ⟨rfl, rfl⟩ : 0 = r1 ∧ 2 = r2 := by simpa using h
      clear h c0
      go_enter Tryd.func26, Tryd.ntmps26
      go_wp2_with (first | (go_at_call 29; (with_reducible refine (civil_Right.calls kr _ _ l2 true _ ?side1 ?side2 HKR.out).mono ?_); (case side1 => exact HR.out); (case side2 => exact HC.out); rintro e w' ⟨rfl, ⟨nd, rfl⟩⟩))
      go_ret2
      exact ⟨rfl, by first | exact Below.refl _ _ | exact ((Drawn0.refl _).step _).below⟩
    · have d0 : decide (a0 < 0) = false := decide_eq_false c0
      by_cases c1 : a1 < 0
      · have d1 : decide (a1 < 0) = true := decide_eq_true c1
        rw [if_neg (by omega)] at h
        obtain ⟨rfl, rfl⟩ : 0 = r1 ∧ 2 = r2 := by simpa using h
        clear h c0 c1
        go_enter Tryd.func26, Tryd.ntmps26
        go_wp2_with (first | (go_at_call 29; (with_reducible refine (civil_Right.calls kr _ _ l2 true _ ?side1 ?side2 HKR.out).mono ?_); (case side1 => exact HR.out); (case side2 => exact HC.out); rintro e w' ⟨rfl, ⟨nd, rfl⟩⟩))
        go_ret2
        exact ⟨rfl, by first | exact Below.refl _ _ | exact ((Drawn0.refl _).step _).below⟩
      · have d1 : decide (a1 < 0) = false := decide_eq_false c1
        rw [if_pos ⟨rfl, by omega, by omega⟩] at h
        have hcl := fun (d : Int) (h0 : 0 ≤ d) (h1 : d ≤ 730485) (g : Nat) (A : Option Addr) (c : Nat) (w : World) (h2 : w.cell? ⟨g, 0, none⟩ = some (.slice A (Cv.freeOf l2).length c)) (h3 : Kd.C (Kd.int .i64) w A (Cv.freeOf l2).length (Cv.freeOf l2)) (h4 : (Cv.freeOf l2).length ≤ c) =>
          show Calls Tryd.prog 72 #[.int .i64 d, .pointer (some ⟨g, 0, none⟩)] w fun e w' => e = .returned (.int .i64 (Cv.below l2 d)) ∧ Drawn0 w w' from Cq.clos_any g A c (Cv.freeOf l2) d w h2 h3 h4 (List.Pairwise.filter _ hright.ord) (Nat.le_trans (Cq.free_len _) hlen) ⟨h0, h1⟩
        have hcounts := fun (w : World) (h1 : Kd.C (Kd.int .i64) w A2 l2.length l2) => Cq.counts_any A2 c2 l2 w h1 hlen (fun d hd => (hright.bd d hd).1)
        have hbd : ∀ d, 0 ≤ d → d ≤ 730485 → -1000 ≤ Cv.below l2 d ∧ Cv.below l2 d ≤ 1000000 := fun d h0 h1 => below_bd hlen ⟨h0, h1⟩
        clear hright hlen
        generalize hB : Cv.below l2 = B at *
        by_cases cc : a0 ≤ 730484
        · have d2 : decide (730484 < a0) = false := decide_eq_false (by omega)
          have b0 := hbd a0 (by omega) (by omega)
          have b1 := hbd 730485 (by omega) (by omega)
          have hcl0 := hcl a0 (by omega) (by omega)
          have hcl1 := hcl 730485 (by omega) (by omega)
          have EW : wrap64 (B 730485 - B a0) = B 730485 - B a0 := w64 (by omega) (by omega)
          by_cases cn : a1 < B 730485 - B a0
          · have d3 : decide (B 730485 - B a0 ≤ a1) = false := decide_eq_false (by omega)
            rw [if_pos ⟨cc, cn⟩] at h
            obtain ⟨dd, hd, e⟩ := Option.bind_eq_some_iff.mp h
            obtain ⟨rfl, rfl⟩ : dd = r1 ∧ 0 = r2 := by simpa using e
            have HA := Aside0.mk hd
            have HBD := Aside0.mk hbd
            have HCL := Aside0.mk hcl
            have HBE := Aside0.mk hB
            have HZ : Aside0 (0 ≤ a0 ∧ a0 ≤ 730484) := ⟨by omega, cc⟩
            clear h hd e c0 c1 cc cn b0 b1 hcl hbd hB
            go_enter Tryd.func26, Tryd.ntmps26
            go_wp2_with (first | (go_at_call 29; (with_reducible refine (civil_Right.calls kr _ _ l2 true _ ?side1 ?side2 HKR.out).mono ?_); (case side1 => exact HR.out); (case side2 => exact HC.out); rintro e w' ⟨rfl, ⟨nd, rfl⟩⟩) | (go_at_call 58; refine (hcounts _ ?side1).mono ?_; (case side1 => first | exact HR.out | exact Kd.C_drewN HR.out _); rintro e w2 ⟨g, A, c, rfl, hcell, hC, hlc, hb⟩; have HCE := Aside0.mk hcell; have HCC := Aside0.mk hC; have HLC := Aside0.mk hlc; have HB := Aside0.mk (below_step (first_below w nd) hb); clear hcell hC hlc hb) | (go_at_call 72; (with_reducible refine (hcl1 g A c _ ?side1 ?side2 HLC.out).mono ?_); (case side1 => exact HCE.out); (case side2 => first | exact HCC.out | exact Kd.C_drewN HCC.out _); rintro e w' ⟨rfl, ⟨nd1, rfl⟩⟩) | (go_at_call 72; (with_reducible refine (hcl0 g A c _ ?side1 ?side2 HLC.out).mono ?_); (case side1 => exact HCE.out); (case side2 => first | exact HCC.out | exact Kd.C_drewN HCC.out _); rintro e w' ⟨rfl, ⟨nd1, rfl⟩⟩))
            clear EW d3 hcl1
            go_loopg [9, 10] k (fun kq v9 v10 wr => ∃ lo hi : Int, v9 = .int .i64 lo ∧ v10 = .int .i64 hi ∧ Aside0 (civil_Ahead.l0 l2 (B a0) a1 kq lo hi = some dd) ∧ Aside0 (a0 ≤ lo ∧ lo ≤ hi ∧ hi ≤ 730484) ∧ ∃ q, wr = w2.drewN q)
            case atStart => exact ⟨a0, 730484, rfl, rfl, HA, ⟨Int.le_refl _, HZ.out.2, Int.le_refl _⟩, _, rfl⟩
            case round =>
              clear HA
              obtain ⟨lo, hi, rfl, rfl, HA, HI, q, rfl⟩ := hrel
              cases gk with
              | zero => exact absurd HA.out (by simp [civil_Ahead.l0])
              | succ k1 =>
                have H := HA.out
                clear HA
                simp only [civil_Ahead.l0, HBE.out] at H
                by_cases c : lo < hi
                · rw [if_pos c] at H
                  have cb0 : decide (lo < hi) = true := decide_eq_true c
                  have hz := HZ.out
                  have hi2 := HI.out
                  have e2 : Int.tdiv (lo + hi) 2 = (lo + hi) / 2 := Int.tdiv_eq_ediv_of_nonneg (by omega)
                  have hm : lo ≤ (lo + hi) / 2 ∧ (lo + hi) / 2 < hi := by omega
                  have b0 := HBD.out a0 (by omega) (by omega)
                  generalize (lo + hi) / 2 = m at H e2 hm
                  have bm := HBD.out (m + 1) (by omega) (by omega)
                  have hclm := HCL.out (m + 1) (by omega) (by omega)
                  have q1 : -9223372036854775808 ≤ lo + hi ∧ lo + hi ≤ 9223372036854775807 := by omega
                  have q3 : -9223372036854775808 ≤ m ∧ m ≤ 9223372036854775807 := by omega
                  have q4 : -9223372036854775808 ≤ m + 1 ∧ m + 1 ≤ 9223372036854775807 := by omega
                  have q5 : -9223372036854775808 ≤ B (m + 1) - B a0 ∧ B (m + 1) - B a0 ≤ 9223372036854775807 := by omega
                  have HM := Aside0.mk hm
                  have w1 := w64 q1.1 q1.2
                  have w3 := w64 q3.1 q3.2
                  have w4 := w64 q4.1 q4.2
                  have w5 := w64 q5.1 q5.2
                  clear q1 q3 q4 q5 b0 bm hz hi2 hm c
                  by_cases cn : a1 < B (m + 1) - B a0
                  · rw [if_pos cn] at H
                    have dn : decide (a1 < B (m + 1) - B a0) = true := decide_eq_true cn
                    have H' := Aside0.mk H
                    clear H cn
                    go_wp2_with (first | (go_at_call 72; (with_reducible refine (hclm g A c _ ?side1 ?side2 HLC.out).mono ?_); (case side1 => exact HCE.out); (case side2 => first | exact HCC.out | exact Kd.C_drewN HCC.out _); rintro e w' ⟨rfl, ⟨nd1, rfl⟩⟩) | (go_at_call 72; (with_reducible refine (hcl0 g A c _ ?side1 ?side2 HLC.out).mono ?_); (case side1 => exact HCE.out); (case side2 => first | exact HCC.out | exact Kd.C_drewN HCC.out _); rintro e w' ⟨rfl, ⟨nd0, rfl⟩⟩))
                    go_roundg k1
                    case measure => omega
                    case rel => exact ⟨lo, m, rfl, by first | rfl | simp [w3], H', ⟨by have := HI.out; have := HM.out; omega⟩, _, rfl⟩
                  · rw [if_neg cn] at H
                    have dn : decide (a1 < B (m + 1) - B a0) = false := decide_eq_false cn
                    have H' := Aside0.mk H
                    clear H cn
                    go_wp2_with (first | (go_at_call 72; (with_reducible refine (hclm g A c _ ?side1 ?side2 HLC.out).mono ?_); (case side1 => exact HCE.out); (case side2 => first | exact HCC.out | exact Kd.C_drewN HCC.out _); rintro e w' ⟨rfl, ⟨nd1, rfl⟩⟩) | (go_at_call 72; (with_reducible refine (hcl0 g A c _ ?side1 ?side2 HLC.out).mono ?_); (case side1 => exact HCE.out); (case side2 => first | exact HCC.out | exact Kd.C_drewN HCC.out _); rintro e w' ⟨rfl, ⟨nd0, rfl⟩⟩))
                    go_roundg k1
                    case measure => omega
                    case rel => exact ⟨m + 1, hi, by first | rfl | simp [w4], rfl, H', ⟨by have := HI.out; have := HM.out; omega⟩, _, rfl⟩
                · rw [if_neg c] at H
                  have cb0 : decide (lo < hi) = false := decide_eq_false c
                  obtain rfl := Option.some.inj H
                  clear H c
                  go_wp2
                  go_ret2
                  exact ⟨rfl, below_step HB.out (first_below w2 _)⟩
          · have d3 : decide (B 730485 - B a0 ≤ a1) = true := decide_eq_true (by omega)
            rw [if_neg (fun hh => cn hh.2)] at h
            obtain ⟨rfl, rfl⟩ : 0 = r1 ∧ 3 = r2 := by simpa using h
            clear h c0 c1 cc cn b0 b1 hcl hbd
            go_enter Tryd.func26, Tryd.ntmps26
            go_wp2_with (first | (go_at_call 29; (with_reducible refine (civil_Right.calls kr _ _ l2 true _ ?side1 ?side2 HKR.out).mono ?_); (case side1 => exact HR.out); (case side2 => exact HC.out); rintro e w' ⟨rfl, ⟨nd, rfl⟩⟩) | (go_at_call 58; refine (hcounts _ ?side1).mono ?_; (case side1 => first | exact HR.out | exact Kd.C_drewN HR.out _); rintro e w2 ⟨g, A, c, rfl, hcell, hC, hlc, hb⟩; have HCE := Aside0.mk hcell; have HCC := Aside0.mk hC; have HLC := Aside0.mk hlc; have HB := Aside0.mk (below_step (first_below w nd) hb); clear hcell hC hlc hb) | (go_at_call 72; (with_reducible refine (hcl1 g A c _ ?side1 ?side2 HLC.out).mono ?_); (case side1 => exact HCE.out); (case side2 => first | exact HCC.out | exact Kd.C_drewN HCC.out _); rintro e w' ⟨rfl, ⟨nd1, rfl⟩⟩) | (go_at_call 72; (with_reducible refine (hcl0 g A c _ ?side1 ?side2 HLC.out).mono ?_); (case side1 => exact HCE.out); (case side2 => first | exact HCC.out | exact Kd.C_drewN HCC.out _); rintro e w' ⟨rfl, ⟨nd1, rfl⟩⟩))
            go_ret2
            exact ⟨rfl, below_step HB.out (first_below w2 _)⟩
        · have d2 : decide (730484 < a0) = true := decide_eq_true (by omega)
          rw [if_neg (fun hh => cc hh.1)] at h
          obtain ⟨rfl, rfl⟩ : 0 = r1 ∧ 3 = r2 := by simpa using h
          clear h c0 c1 cc hcl hbd
          go_enter Tryd.func26, Tryd.ntmps26
          go_wp2_with (first | (go_at_call 29; (with_reducible refine (civil_Right.calls kr _ _ l2 true _ ?side1 ?side2 HKR.out).mono ?_); (case side1 => exact HR.out); (case side2 => exact HC.out); rintro e w' ⟨rfl, ⟨nd, rfl⟩⟩) | (go_at_call 58; refine (hcounts _ ?side1).mono ?_; (case side1 => first | exact HR.out | exact Kd.C_drewN HR.out _); rintro e w2 ⟨g, A, c, rfl, hcell, hC, hlc, hb⟩; have HCE := Aside0.mk hcell; have HCC := Aside0.mk hC; have HLC := Aside0.mk hlc; have HB := Aside0.mk (below_step (first_below w nd) hb); clear hcell hC hlc hb))
          go_ret2
          exact ⟨rfl, by first | exact HB.out | exact below_step HB.out (first_below w2 _)⟩
end Go.Proofs.YtehnhedifhpalaaDoor.Cp
