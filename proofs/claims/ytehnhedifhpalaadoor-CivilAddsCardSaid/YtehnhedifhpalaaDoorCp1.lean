/- Functions of the given program as plain Lean functions, and proofs that the machine's calls do what these say; written by a program of this session (myprint.py, over the kit's print). -/
import Derived.Test.YtehnhedifhpalaaDoorCp0
import Derived.Test.YtehnhedifhpalaaDoorCf
namespace Go.Proofs.YtehnhedifhpalaaDoor.Cp
open Go.RowKit Go.Proofs.YtehnhedifhpalaaDoorW.PrintWords Go.Proofs.YtehnhedifhpalaaDoorW.PrintLast Go.Proofs.YtehnhedifhpalaaDoorW.PrintMore
attribute [local go_sem] max2_int min2_int max_two min_two max_three min_three max_four min_four   -- for this text's walks alone
set_option linter.unusedVariables false
set_option linter.unusedSimpArgs false

/-! ### civil_within: function 54 -/
def civil_within.f (a0 : Int) (a1 : Int) : Option (Int) := if a0 < 0 then (some 2) else (if a0 > a1 then (some 3) else (some 0))
set_option maxHeartbeats 8000000 in
set_option maxRecDepth 100000 in
theorem civil_within.calls (a0 : Int) (a1 : Int) (r : Int) (w : World) (h : civil_within.f a0 a1 = some r) :
    Calls Tryd.prog 54 #[.int .i64 a0, .int .i64 a1] w fun e w' => e = .returned (.int .i64 r) ∧ Drawn0 w w' := by
  have H : (if a0 < 0 then (some 2) else (if a0 > a1 then (some 3) else (some 0))) = some r := h
  clear h
  by_cases c3 : a0 < 0
  · rw [if_pos c3] at H
    have c3b0 : decide (a0 < 0) = true := decide_eq_true c3
    clear c3
    obtain rfl := Option.some.inj H
    go_enter Tryd.func54, Tryd.ntmps54
    go_wp2
    go_ret
    exact ⟨by first | rfl | (simp; done) | (simp [*]; done) | (simp; exact (show ∀ a_ b_ : Bool, (a_ == b_) = (!(a_ != b_)) from by decide) _ _), by repeat (first | exact Drawn0.refl _ | apply Drawn0.step)⟩
  · rw [if_neg c3] at H
    have c3b0 : decide (a0 < 0) = false := decide_eq_false c3
    clear c3
    by_cases c4 : a0 > a1
    · rw [if_pos c4] at H
      have c4b0 : decide (a1 < a0) = true := decide_eq_true c4
      clear c4
      obtain rfl := Option.some.inj H
      go_enter Tryd.func54, Tryd.ntmps54
      go_wp2
      go_ret
      exact ⟨by first | rfl | (simp; done) | (simp [*]; done) | (simp; exact (show ∀ a_ b_ : Bool, (a_ == b_) = (!(a_ != b_)) from by decide) _ _), by repeat (first | exact Drawn0.refl _ | apply Drawn0.step)⟩
    · rw [if_neg c4] at H
      have c4b0 : decide (a1 < a0) = false := decide_eq_false c4
      clear c4
      obtain rfl := Option.some.inj H
      go_enter Tryd.func54, Tryd.ntmps54
      go_wp2
      go_ret
      exact ⟨by first | rfl | (simp; done) | (simp [*]; done) | (simp; exact (show ∀ a_ b_ : Bool, (a_ == b_) = (!(a_ != b_)) from by decide) _ _), by repeat (first | exact Drawn0.refl _ | apply Drawn0.step)⟩

/-! ### civil_Leap: function 35 -/
def civil_Leap.f (a0 : Int) : Option (Bool) := if (Int.tmod a0 4) = 0 then (if (Int.tmod a0 100) = 0 then (some ((Int.tmod a0 400) == 0)) else (some true)) else (some false)
set_option maxHeartbeats 8000000 in
set_option maxRecDepth 100000 in
theorem civil_Leap.calls (a0 : Int) (r : Bool) (w : World) (h : civil_Leap.f a0 = some r) :
    Calls Tryd.prog 35 #[.int .i64 a0] w fun e w' => e = .returned (.bool r) ∧ Drawn0 w w' := by
  have H : (if (Int.tmod a0 4) = 0 then (if (Int.tmod a0 100) = 0 then (some ((Int.tmod a0 400) == 0)) else (some true)) else (some false)) = some r := h
  clear h
  by_cases c2 : (Int.tmod a0 4) = 0
  · rw [if_pos c2] at H
    have c2b0 : ((Int.tmod a0 4) == 0) = true := beq_iff_eq.mpr c2
    have c2b1 : ((Int.tmod a0 4) != 0) = false := bne_eq_false_iff_eq.mpr c2
    clear c2
    by_cases c3 : (Int.tmod a0 100) = 0
    · rw [if_pos c3] at H
      have c3b0 : ((Int.tmod a0 100) == 0) = true := beq_iff_eq.mpr c3
      have c3b1 : ((Int.tmod a0 100) != 0) = false := bne_eq_false_iff_eq.mpr c3
      clear c3
      obtain rfl := Option.some.inj H
      go_enter Tryd.func35, Tryd.ntmps35
      go_wp2
      go_ret
      exact ⟨by first | rfl | (simp; done) | (simp [*]; done) | (simp; exact (show ∀ a_ b_ : Bool, (a_ == b_) = (!(a_ != b_)) from by decide) _ _), by repeat (first | exact Drawn0.refl _ | apply Drawn0.step)⟩
    · rw [if_neg c3] at H
      have c3b0 : ((Int.tmod a0 100) == 0) = false := beq_eq_false_iff_ne.mpr c3
      have c3b1 : ((Int.tmod a0 100) != 0) = true := bne_iff_ne.mpr c3
      obtain rfl := Option.some.inj H
      go_enter Tryd.func35, Tryd.ntmps35
      go_wp2
      go_ret
      exact ⟨by first | rfl | (simp; done) | (simp [*]; done) | (simp; exact (show ∀ a_ b_ : Bool, (a_ == b_) = (!(a_ != b_)) from by decide) _ _), by repeat (first | exact Drawn0.refl _ | apply Drawn0.step)⟩
  · rw [if_neg c2] at H
    have c2b0 : ((Int.tmod a0 4) == 0) = false := beq_eq_false_iff_ne.mpr c2
    have c2b1 : ((Int.tmod a0 4) != 0) = true := bne_iff_ne.mpr c2
    obtain rfl := Option.some.inj H
    go_enter Tryd.func35, Tryd.ntmps35
    go_wp2
    go_ret
    exact ⟨by first | rfl | (simp; done) | (simp [*]; done) | (simp; exact (show ∀ a_ b_ : Bool, (a_ == b_) = (!(a_ != b_)) from by decide) _ _), by repeat (first | exact Drawn0.refl _ | apply Drawn0.step)⟩

/-! ### civil_Date: function 19 -/
def civil_Date.l0 : Nat → Int → Int → Int → Option (Int × Int × Int × Int)
  | 0, _, _, _ => none
  | k + 1, x0, x7, x11 => (civil_first.f x7 (wrap64 (x11 + 1))).bind fun t102 => (if x0 ≥ t102 then (civil_Date.l0 k x0 x7 (wrap64 (x11 + 1))) else ((civil_first.f x7 x11).bind fun t103 => (some (x7, x11, wrap64 ((wrap64 (x0 - t103)) + 1), 0))))
def civil_Date.f (k : Nat) (a0 : Int) : Option (Int × Int × Int × Int) := (civil_within.f a0 730484).bind fun t101 => (if t101 = 0 then (civil_Date.l0 k (wrap64 ((wrap64 ((wrap64 ((Int.tmod a0 146097) - (wrap64 ((mn (wrap64 (Int.tdiv (Int.tmod a0 146097) 36524)) 3) * 36524)))) - (wrap64 ((wrap64 (Int.tdiv (wrap64 ((Int.tmod a0 146097) - (wrap64 ((mn (wrap64 (Int.tdiv (Int.tmod a0 146097) 36524)) 3) * 36524)))) 1461)) * 1461)))) - (wrap64 ((mn (wrap64 (Int.tdiv (wrap64 ((wrap64 ((Int.tmod a0 146097) - (wrap64 ((mn (wrap64 (Int.tdiv (Int.tmod a0 146097) 36524)) 3) * 36524)))) - (wrap64 ((wrap64 (Int.tdiv (wrap64 ((Int.tmod a0 146097) - (wrap64 ((mn (wrap64 (Int.tdiv (Int.tmod a0 146097) 36524)) 3) * 36524)))) 1461)) * 1461)))) 365)) 3) * 365)))) (wrap64 ((wrap64 (2001 + (wrap64 (400 * (wrap64 (Int.tdiv a0 146097)))))) + (wrap64 ((wrap64 ((wrap64 (100 * (mn (wrap64 (Int.tdiv (Int.tmod a0 146097) 36524)) 3))) + (wrap64 (4 * (wrap64 (Int.tdiv (wrap64 ((Int.tmod a0 146097) - (wrap64 ((mn (wrap64 (Int.tdiv (Int.tmod a0 146097) 36524)) 3) * 36524)))) 1461)))))) + (mn (wrap64 (Int.tdiv (wrap64 ((wrap64 ((Int.tmod a0 146097) - (wrap64 ((mn (wrap64 (Int.tdiv (Int.tmod a0 146097) 36524)) 3) * 36524)))) - (wrap64 ((wrap64 (Int.tdiv (wrap64 ((Int.tmod a0 146097) - (wrap64 ((mn (wrap64 (Int.tdiv (Int.tmod a0 146097) 36524)) 3) * 36524)))) 1461)) * 1461)))) 365)) 3))))) 1) else (some (0, 0, 0, t101)))
theorem civil_Date.mono_l : ∀ k, (∀ y0 y1 y2, LeO (civil_Date.l0 k y0 y1 y2) (civil_Date.l0 (k + 1) y0 y1 y2))
  | 0 => fun _ _ _ r h => by simp [civil_Date.l0] at h
  | k + 1 => by
    have ih0 := civil_Date.mono_l k
    · intro y0 y1 y2
      unfold civil_Date.l0
      repeat' first
      | (with_reducible exact ih0 _ _ _)
      | (with_reducible exact LeO.refl _)
      | (with_reducible exact LeO.none _)
      | (with_reducible refine LeO.ite ?_ ?_)
      | (with_reducible refine LeO.bind ?_ (fun _ => ?_))
      | exact ih0 _ _ _
      | exact LeO.none _
      | refine LeO.ite ?_ ?_
      | refine LeO.bind ?_ (fun _ => ?_)
theorem civil_Date.mono : ∀ a0 k, LeO (civil_Date.f k a0) (civil_Date.f (k + 1) a0) := by
  intro a0 k
  have ih0 := civil_Date.mono_l k
  unfold civil_Date.f
  repeat' first
      | (with_reducible exact ih0 _ _ _)
      | (with_reducible exact LeO.refl _)
      | (with_reducible exact LeO.none _)
      | (with_reducible refine LeO.ite ?_ ?_)
      | (with_reducible refine LeO.bind ?_ (fun _ => ?_))
      | exact ih0 _ _ _
      | exact LeO.none _
      | refine LeO.ite ?_ ?_
      | refine LeO.bind ?_ (fun _ => ?_)
set_option maxHeartbeats 8000000 in
set_option maxRecDepth 100000 in
theorem civil_Date.calls (k : Nat) (a0 : Int) (r1 : Int) (r2 : Int) (r3 : Int) (r4 : Int) (w : World) (hg : Aside0 (Tab w)) (h : civil_Date.f k a0 = some (r1, r2, r3, r4)) :
    Calls Tryd.prog 19 #[.int .i64 a0] w fun e w' => e = .returned (.tuple #[.int .i64 r1, .int .i64 r2, .int .i64 r3, .int .i64 r4]) ∧ Below w.heap.size w w' := by
  have HB := Aside0.mk (Below.refl w.heap.size w)
  have H : ((civil_within.f a0 730484).bind fun t101 => (if t101 = 0 then (civil_Date.l0 k (wrap64 ((wrap64 ((wrap64 ((Int.tmod a0 146097) - (wrap64 ((mn (wrap64 (Int.tdiv (Int.tmod a0 146097) 36524)) 3) * 36524)))) - (wrap64 ((wrap64 (Int.tdiv (wrap64 ((Int.tmod a0 146097) - (wrap64 ((mn (wrap64 (Int.tdiv (Int.tmod a0 146097) 36524)) 3) * 36524)))) 1461)) * 1461)))) - (wrap64 ((mn (wrap64 (Int.tdiv (wrap64 ((wrap64 ((Int.tmod a0 146097) - (wrap64 ((mn (wrap64 (Int.tdiv (Int.tmod a0 146097) 36524)) 3) * 36524)))) - (wrap64 ((wrap64 (Int.tdiv (wrap64 ((Int.tmod a0 146097) - (wrap64 ((mn (wrap64 (Int.tdiv (Int.tmod a0 146097) 36524)) 3) * 36524)))) 1461)) * 1461)))) 365)) 3) * 365)))) (wrap64 ((wrap64 (2001 + (wrap64 (400 * (wrap64 (Int.tdiv a0 146097)))))) + (wrap64 ((wrap64 ((wrap64 (100 * (mn (wrap64 (Int.tdiv (Int.tmod a0 146097) 36524)) 3))) + (wrap64 (4 * (wrap64 (Int.tdiv (wrap64 ((Int.tmod a0 146097) - (wrap64 ((mn (wrap64 (Int.tdiv (Int.tmod a0 146097) 36524)) 3) * 36524)))) 1461)))))) + (mn (wrap64 (Int.tdiv (wrap64 ((wrap64 ((Int.tmod a0 146097) - (wrap64 ((mn (wrap64 (Int.tdiv (Int.tmod a0 146097) 36524)) 3) * 36524)))) - (wrap64 ((wrap64 (Int.tdiv (wrap64 ((Int.tmod a0 146097) - (wrap64 ((mn (wrap64 (Int.tdiv (Int.tmod a0 146097) 36524)) 3) * 36524)))) 1461)) * 1461)))) 365)) 3))))) 1) else (some (0, 0, 0, t101)))) = some (r1, r2, r3, r4) := h
  clear h
  replace H := Option.bind_eq_some_iff.mp H
  obtain ⟨t101, A20, H⟩ := H
  replace H : (if t101 = 0 then (civil_Date.l0 k (wrap64 ((wrap64 ((wrap64 ((Int.tmod a0 146097) - (wrap64 ((mn (wrap64 (Int.tdiv (Int.tmod a0 146097) 36524)) 3) * 36524)))) - (wrap64 ((wrap64 (Int.tdiv (wrap64 ((Int.tmod a0 146097) - (wrap64 ((mn (wrap64 (Int.tdiv (Int.tmod a0 146097) 36524)) 3) * 36524)))) 1461)) * 1461)))) - (wrap64 ((mn (wrap64 (Int.tdiv (wrap64 ((wrap64 ((Int.tmod a0 146097) - (wrap64 ((mn (wrap64 (Int.tdiv (Int.tmod a0 146097) 36524)) 3) * 36524)))) - (wrap64 ((wrap64 (Int.tdiv (wrap64 ((Int.tmod a0 146097) - (wrap64 ((mn (wrap64 (Int.tdiv (Int.tmod a0 146097) 36524)) 3) * 36524)))) 1461)) * 1461)))) 365)) 3) * 365)))) (wrap64 ((wrap64 (2001 + (wrap64 (400 * (wrap64 (Int.tdiv a0 146097)))))) + (wrap64 ((wrap64 ((wrap64 (100 * (mn (wrap64 (Int.tdiv (Int.tmod a0 146097) 36524)) 3))) + (wrap64 (4 * (wrap64 (Int.tdiv (wrap64 ((Int.tmod a0 146097) - (wrap64 ((mn (wrap64 (Int.tdiv (Int.tmod a0 146097) 36524)) 3) * 36524)))) 1461)))))) + (mn (wrap64 (Int.tdiv (wrap64 ((wrap64 ((Int.tmod a0 146097) - (wrap64 ((mn (wrap64 (Int.tdiv (Int.tmod a0 146097) 36524)) 3) * 36524)))) - (wrap64 ((wrap64 (Int.tdiv (wrap64 ((Int.tmod a0 146097) - (wrap64 ((mn (wrap64 (Int.tdiv (Int.tmod a0 146097) 36524)) 3) * 36524)))) 1461)) * 1461)))) 365)) 3))))) 1) else (some (0, 0, 0, t101))) = some (r1, r2, r3, r4) := H
  have A2 := Aside0.mk A20
  clear A20
  by_cases c3 : t101 = 0
  · rw [if_pos c3] at H
    have c3b0 : (t101 == 0) = true := beq_iff_eq.mpr c3
    have c3b1 : (t101 != 0) = false := bne_eq_false_iff_eq.mpr c3
    clear c3
    obtain ⟨ji4, hji4⟩ : ∃ j_ : Int, (mn (wrap64 (Int.tdiv (Int.tmod a0 146097) 36524)) 3) = j_ := ⟨_, rfl⟩
    replace H : (civil_Date.l0 k (wrap64 ((wrap64 ((wrap64 ((Int.tmod a0 146097) - (wrap64 ((ji4) * 36524)))) - (wrap64 ((wrap64 (Int.tdiv (wrap64 ((Int.tmod a0 146097) - (wrap64 ((ji4) * 36524)))) 1461)) * 1461)))) - (wrap64 ((mn (wrap64 (Int.tdiv (wrap64 ((wrap64 ((Int.tmod a0 146097) - (wrap64 ((ji4) * 36524)))) - (wrap64 ((wrap64 (Int.tdiv (wrap64 ((Int.tmod a0 146097) - (wrap64 ((ji4) * 36524)))) 1461)) * 1461)))) 365)) 3) * 365)))) (wrap64 ((wrap64 (2001 + (wrap64 (400 * (wrap64 (Int.tdiv a0 146097)))))) + (wrap64 ((wrap64 ((wrap64 (100 * (ji4))) + (wrap64 (4 * (wrap64 (Int.tdiv (wrap64 ((Int.tmod a0 146097) - (wrap64 ((ji4) * 36524)))) 1461)))))) + (mn (wrap64 (Int.tdiv (wrap64 ((wrap64 ((Int.tmod a0 146097) - (wrap64 ((ji4) * 36524)))) - (wrap64 ((wrap64 (Int.tdiv (wrap64 ((Int.tmod a0 146097) - (wrap64 ((ji4) * 36524)))) 1461)) * 1461)))) 365)) 3))))) 1) = some (r1, r2, r3, r4) := by first | (rw [hji4] at H; exact H) | (simp only [hji4] at H ⊢; exact H)
    (try rw [hji4] at A2)
    (try (have hji4h : ji4 ≤ 3 := by (rw [← hji4]; unfold mn; (repeat' split) <;> omega)))
    (try (have hji4g : ji4 ≤ 64 := by omega))
    have hji4_ : (if 3 < (wrap64 (Int.tdiv (Int.tmod a0 146097) 36524)) then 3 else (wrap64 (Int.tdiv (Int.tmod a0 146097) 36524))) = ji4 := hji4
    obtain ⟨ji5, hji5⟩ : ∃ j_ : Int, (mn (wrap64 (Int.tdiv (wrap64 ((wrap64 ((Int.tmod a0 146097) - (wrap64 ((ji4) * 36524)))) - (wrap64 ((wrap64 (Int.tdiv (wrap64 ((Int.tmod a0 146097) - (wrap64 ((ji4) * 36524)))) 1461)) * 1461)))) 365)) 3) = j_ := ⟨_, rfl⟩
    replace H : (civil_Date.l0 k (wrap64 ((wrap64 ((wrap64 ((Int.tmod a0 146097) - (wrap64 ((ji4) * 36524)))) - (wrap64 ((wrap64 (Int.tdiv (wrap64 ((Int.tmod a0 146097) - (wrap64 ((ji4) * 36524)))) 1461)) * 1461)))) - (wrap64 ((ji5) * 365)))) (wrap64 ((wrap64 (2001 + (wrap64 (400 * (wrap64 (Int.tdiv a0 146097)))))) + (wrap64 ((wrap64 ((wrap64 (100 * (ji4))) + (wrap64 (4 * (wrap64 (Int.tdiv (wrap64 ((Int.tmod a0 146097) - (wrap64 ((ji4) * 36524)))) 1461)))))) + (ji5))))) 1) = some (r1, r2, r3, r4) := by first | (rw [hji5] at H; exact H) | (simp only [hji5] at H ⊢; exact H)
    (try rw [hji5] at A2)
    have hji5_ : (if 3 < (wrap64 (Int.tdiv (wrap64 ((wrap64 ((Int.tmod a0 146097) - (wrap64 ((ji4) * 36524)))) - (wrap64 ((wrap64 (Int.tdiv (wrap64 ((Int.tmod a0 146097) - (wrap64 ((ji4) * 36524)))) 1461)) * 1461)))) 365)) then 3 else (wrap64 (Int.tdiv (wrap64 ((wrap64 ((Int.tmod a0 146097) - (wrap64 ((ji4) * 36524)))) - (wrap64 ((wrap64 (Int.tdiv (wrap64 ((Int.tmod a0 146097) - (wrap64 ((ji4) * 36524)))) 1461)) * 1461)))) 365))) = ji5 := hji5
    have H' := Aside0.mk H
    clear H
    go_enter Tryd.func19, Tryd.ntmps19
    go_wp2_with (first | ((with_reducible refine gate_callee (f := 54) rfl ?_); refine goesL_ (some 13) rfl rfl Tryd.func54 (by kernel_rfl) rfl #[.int .i64 a0, .int .i64 730484] rfl (by (try simp only [List.map_toArray, List.map_cons, List.map_nil]); first | done | rfl | (simp only [List.length_drop, List.length_take]; rfl)) ?_; (with_reducible refine (civil_within.calls a0 730484 t101 _ A2.out).mono ?_); rintro e w' ⟨rfl, ⟨nd, rfl⟩⟩; refine ⟨_, rfl, ?_⟩))
    go_loopg [11] k (fun kq v11 w' => ∃ (x11_1 : Int), v11 = .int .i64 x11_1 ∧ Aside0 (civil_Date.l0 kq (wrap64 ((wrap64 ((wrap64 ((Int.tmod a0 146097) - (wrap64 ((ji4) * 36524)))) - (wrap64 ((wrap64 (Int.tdiv (wrap64 ((Int.tmod a0 146097) - (wrap64 ((ji4) * 36524)))) 1461)) * 1461)))) - (wrap64 ((ji5) * 365)))) (wrap64 ((wrap64 (2001 + (wrap64 (400 * (wrap64 (Int.tdiv a0 146097)))))) + (wrap64 ((wrap64 ((wrap64 (100 * (ji4))) + (wrap64 (4 * (wrap64 (Int.tdiv (wrap64 ((Int.tmod a0 146097) - (wrap64 ((ji4) * 36524)))) 1461)))))) + (ji5))))) x11_1 = some (r1, r2, r3, r4)) ∧ Aside0 (kq ≤ k) ∧ Aside0 (Below w.heap.size w w'))
    case atStart => exact ⟨(1), (by first | rfl | (simp; done) | (simp [*]; done) | (simp; exact (show ∀ a_ b_ : Bool, (a_ == b_) = (!(a_ != b_)) from by decide) _ _) | (rw [Bool.eq_iff_iff]; simp; done) | (simp; rw [Bool.eq_iff_iff]; simp; done)), H', ⟨Nat.le_refl _⟩, ⟨by repeat (first | (with_reducible first | exact HB.out | apply below_alloc | apply pw_below_drewN | apply below_drew1) | exact HB.out)⟩⟩
    case round =>
      clear H'
      try clear c1
      try clear p2
      try clear c3
      try clear c3b0
      try clear c3b1
      try clear c5
      obtain ⟨x11_1, rfl, HA, HK1, HB⟩ := hrel
      cases gk with
      | zero => exact absurd HA.out (by simp [civil_Date.l0])
      | succ k1 =>
        have H := HA.out
        clear HA
        simp only [civil_Date.l0] at H
        replace H := Option.bind_eq_some_iff.mp H
        obtain ⟨t102, A60, H⟩ := H
        replace H : (if (wrap64 ((wrap64 ((wrap64 ((Int.tmod a0 146097) - (wrap64 ((ji4) * 36524)))) - (wrap64 ((wrap64 (Int.tdiv (wrap64 ((Int.tmod a0 146097) - (wrap64 ((ji4) * 36524)))) 1461)) * 1461)))) - (wrap64 ((ji5) * 365)))) ≥ t102 then (civil_Date.l0 k1 (wrap64 ((wrap64 ((wrap64 ((Int.tmod a0 146097) - (wrap64 ((ji4) * 36524)))) - (wrap64 ((wrap64 (Int.tdiv (wrap64 ((Int.tmod a0 146097) - (wrap64 ((ji4) * 36524)))) 1461)) * 1461)))) - (wrap64 ((ji5) * 365)))) (wrap64 ((wrap64 (2001 + (wrap64 (400 * (wrap64 (Int.tdiv a0 146097)))))) + (wrap64 ((wrap64 ((wrap64 (100 * (ji4))) + (wrap64 (4 * (wrap64 (Int.tdiv (wrap64 ((Int.tmod a0 146097) - (wrap64 ((ji4) * 36524)))) 1461)))))) + (ji5))))) (wrap64 (x11_1 + 1))) else ((civil_first.f (wrap64 ((wrap64 (2001 + (wrap64 (400 * (wrap64 (Int.tdiv a0 146097)))))) + (wrap64 ((wrap64 ((wrap64 (100 * (ji4))) + (wrap64 (4 * (wrap64 (Int.tdiv (wrap64 ((Int.tmod a0 146097) - (wrap64 ((ji4) * 36524)))) 1461)))))) + (ji5))))) x11_1).bind fun t103 => (some ((wrap64 ((wrap64 (2001 + (wrap64 (400 * (wrap64 (Int.tdiv a0 146097)))))) + (wrap64 ((wrap64 ((wrap64 (100 * (ji4))) + (wrap64 (4 * (wrap64 (Int.tdiv (wrap64 ((Int.tmod a0 146097) - (wrap64 ((ji4) * 36524)))) 1461)))))) + (ji5))))), x11_1, wrap64 ((wrap64 ((wrap64 ((wrap64 ((wrap64 ((Int.tmod a0 146097) - (wrap64 ((ji4) * 36524)))) - (wrap64 ((wrap64 (Int.tdiv (wrap64 ((Int.tmod a0 146097) - (wrap64 ((ji4) * 36524)))) 1461)) * 1461)))) - (wrap64 ((ji5) * 365)))) - t103)) + 1), 0)))) = some (r1, r2, r3, r4) := H
        have A6 := Aside0.mk A60
        clear A60
        by_cases c7 : (wrap64 ((wrap64 ((wrap64 ((Int.tmod a0 146097) - (wrap64 ((ji4) * 36524)))) - (wrap64 ((wrap64 (Int.tdiv (wrap64 ((Int.tmod a0 146097) - (wrap64 ((ji4) * 36524)))) 1461)) * 1461)))) - (wrap64 ((ji5) * 365)))) ≥ t102
        · rw [if_pos c7] at H
          have c7b0 : decide (t102 ≤ (wrap64 ((wrap64 ((wrap64 ((Int.tmod a0 146097) - (wrap64 ((ji4) * 36524)))) - (wrap64 ((wrap64 (Int.tdiv (wrap64 ((Int.tmod a0 146097) - (wrap64 ((ji4) * 36524)))) 1461)) * 1461)))) - (wrap64 ((ji5) * 365))))) = true := decide_eq_true c7
          clear c7
          have H' := Aside0.mk H
          clear H
          go_wp2_with (first | ((with_reducible refine gate_callee (f := 55) rfl ?_); refine goesL_ (some 56) rfl rfl Tryd.func55 (by kernel_rfl) rfl #[.int .i64 (wrap64 ((wrap64 (2001 + (wrap64 (400 * (wrap64 (Int.tdiv a0 146097)))))) + (wrap64 ((wrap64 ((wrap64 (100 * (ji4))) + (wrap64 (4 * (wrap64 (Int.tdiv (wrap64 ((Int.tmod a0 146097) - (wrap64 ((ji4) * 36524)))) 1461)))))) + (ji5))))), .int .i64 (wrap64 (x11_1 + 1))] rfl (by (try simp only [List.map_toArray, List.map_cons, List.map_nil]); first | done | (simp only [hji4, hji5]; rfl) | rfl | (simp only [List.length_drop, List.length_take]; rfl)) ?_; (with_reducible refine (civil_first.calls (wrap64 ((wrap64 (2001 + (wrap64 (400 * (wrap64 (Int.tdiv a0 146097)))))) + (wrap64 ((wrap64 ((wrap64 (100 * (ji4))) + (wrap64 (4 * (wrap64 (Int.tdiv (wrap64 ((Int.tmod a0 146097) - (wrap64 ((ji4) * 36524)))) 1461)))))) + (ji5))))) (wrap64 (x11_1 + 1)) t102 _ ?tabG A6.out).mono ?_); (case tabG => (first | exact hg | exact ⟨hg.out.below (by repeat (first | (with_reducible first | exact HB.out | apply below_alloc | apply pw_below_drewN | apply below_drew1) | exact HB.out))⟩ | exact hg | exact ⟨hg.out.drewN _⟩ | exact ⟨(hg.out.drewN _).drewN _⟩ | exact ⟨hg.out.drawn (by assumption)⟩)); rintro e w' ⟨rfl, ⟨nd, rfl⟩⟩; refine ⟨_, rfl, ?_⟩))
          go_roundg k1
          case measure => have := HK1.out; omega
          case rel => exact ⟨(wrap64 (x11_1 + 1)), (by first | rfl | (simp; done) | (simp [*]; done) | (simp; exact (show ∀ a_ b_ : Bool, (a_ == b_) = (!(a_ != b_)) from by decide) _ _) | (rw [Bool.eq_iff_iff]; simp; done) | (simp; rw [Bool.eq_iff_iff]; simp; done)), H', ⟨by have := HK1.out; omega⟩, ⟨by repeat (first | (with_reducible first | exact HB.out | apply below_alloc | apply pw_below_drewN | apply below_drew1) | exact HB.out)⟩⟩
        · rw [if_neg c7] at H
          have c7b0 : decide (t102 ≤ (wrap64 ((wrap64 ((wrap64 ((Int.tmod a0 146097) - (wrap64 ((ji4) * 36524)))) - (wrap64 ((wrap64 (Int.tdiv (wrap64 ((Int.tmod a0 146097) - (wrap64 ((ji4) * 36524)))) 1461)) * 1461)))) - (wrap64 ((ji5) * 365))))) = false := decide_eq_false c7
          clear c7
          replace H := Option.bind_eq_some_iff.mp H
          obtain ⟨t103, A80, H⟩ := H
          replace H : (some ((wrap64 ((wrap64 (2001 + (wrap64 (400 * (wrap64 (Int.tdiv a0 146097)))))) + (wrap64 ((wrap64 ((wrap64 (100 * (ji4))) + (wrap64 (4 * (wrap64 (Int.tdiv (wrap64 ((Int.tmod a0 146097) - (wrap64 ((ji4) * 36524)))) 1461)))))) + (ji5))))), x11_1, wrap64 ((wrap64 ((wrap64 ((wrap64 ((wrap64 ((Int.tmod a0 146097) - (wrap64 ((ji4) * 36524)))) - (wrap64 ((wrap64 (Int.tdiv (wrap64 ((Int.tmod a0 146097) - (wrap64 ((ji4) * 36524)))) 1461)) * 1461)))) - (wrap64 ((ji5) * 365)))) - t103)) + 1), 0)) = some (r1, r2, r3, r4) := H
          have A8 := Aside0.mk A80
          clear A80
          simp only [Option.some.injEq, Prod.mk.injEq] at H
          obtain ⟨rfl, rfl, rfl, rfl⟩ := H
          go_wp2_with (first | ((with_reducible refine gate_callee (f := 55) rfl ?_); refine goesL_ (some 56) rfl rfl Tryd.func55 (by kernel_rfl) rfl #[.int .i64 (wrap64 ((wrap64 (2001 + (wrap64 (400 * (wrap64 (Int.tdiv a0 146097)))))) + (wrap64 ((wrap64 ((wrap64 (100 * (ji4))) + (wrap64 (4 * (wrap64 (Int.tdiv (wrap64 ((Int.tmod a0 146097) - (wrap64 ((ji4) * 36524)))) 1461)))))) + (ji5))))), .int .i64 (wrap64 (x11_1 + 1))] rfl (by (try simp only [List.map_toArray, List.map_cons, List.map_nil]); first | done | (simp only [hji4, hji5]; rfl) | rfl | (simp only [List.length_drop, List.length_take]; rfl)) ?_; (with_reducible refine (civil_first.calls (wrap64 ((wrap64 (2001 + (wrap64 (400 * (wrap64 (Int.tdiv a0 146097)))))) + (wrap64 ((wrap64 ((wrap64 (100 * (ji4))) + (wrap64 (4 * (wrap64 (Int.tdiv (wrap64 ((Int.tmod a0 146097) - (wrap64 ((ji4) * 36524)))) 1461)))))) + (ji5))))) (wrap64 (x11_1 + 1)) t102 _ ?tabG A6.out).mono ?_); (case tabG => (first | exact hg | exact ⟨hg.out.below (by repeat (first | (with_reducible first | exact HB.out | apply below_alloc | apply pw_below_drewN | apply below_drew1) | exact HB.out))⟩ | exact hg | exact ⟨hg.out.drewN _⟩ | exact ⟨(hg.out.drewN _).drewN _⟩ | exact ⟨hg.out.drawn (by assumption)⟩)); rintro e w' ⟨rfl, ⟨nd, rfl⟩⟩; refine ⟨_, rfl, ?_⟩) | ((with_reducible refine gate_callee (f := 55) rfl ?_); refine goesL_ (some 65) rfl rfl Tryd.func55 (by kernel_rfl) rfl #[.int .i64 (wrap64 ((wrap64 (2001 + (wrap64 (400 * (wrap64 (Int.tdiv a0 146097)))))) + (wrap64 ((wrap64 ((wrap64 (100 * (ji4))) + (wrap64 (4 * (wrap64 (Int.tdiv (wrap64 ((Int.tmod a0 146097) - (wrap64 ((ji4) * 36524)))) 1461)))))) + (ji5))))), .int .i64 x11_1] rfl (by (try simp only [List.map_toArray, List.map_cons, List.map_nil]); first | done | (simp only [hji4, hji5]; rfl) | rfl | (simp only [List.length_drop, List.length_take]; rfl)) ?_; (with_reducible refine (civil_first.calls (wrap64 ((wrap64 (2001 + (wrap64 (400 * (wrap64 (Int.tdiv a0 146097)))))) + (wrap64 ((wrap64 ((wrap64 (100 * (ji4))) + (wrap64 (4 * (wrap64 (Int.tdiv (wrap64 ((Int.tmod a0 146097) - (wrap64 ((ji4) * 36524)))) 1461)))))) + (ji5))))) x11_1 t103 _ ?tabG A8.out).mono ?_); (case tabG => (first | exact hg | exact ⟨hg.out.below (by repeat (first | (with_reducible first | exact HB.out | apply below_alloc | apply pw_below_drewN | apply below_drew1) | exact HB.out))⟩ | exact hg | exact ⟨hg.out.drewN _⟩ | exact ⟨(hg.out.drewN _).drewN _⟩ | exact ⟨hg.out.drawn (by assumption)⟩)); rintro e w' ⟨rfl, ⟨nd, rfl⟩⟩; refine ⟨_, rfl, ?_⟩))
          refine bodyPost_ret (results_list (rs := [.tmp 2, .tmp 3, .tmp 4, .tmp 5]) rfl (by simp) (.tmp (.tmp (.tmp (.tmp .nil))))) rfl ?_
          exact ⟨by first | rfl | (simp [errW_none, errW_some] <;> rfl) | (simp only [← hji4, ← hji5]; first | rfl | (simp [errW_none, errW_some] <;> rfl)) | (simp [*, errW_none, errW_some] <;> rfl), by repeat (first | (with_reducible first | exact HB.out | apply below_alloc | apply pw_below_drewN | apply below_drew1) | exact HB.out)⟩
  · rw [if_neg c3] at H
    have c3b0 : (t101 == 0) = false := beq_eq_false_iff_ne.mpr c3
    have c3b1 : (t101 != 0) = true := bne_iff_ne.mpr c3
    simp only [Option.some.injEq, Prod.mk.injEq] at H
    obtain ⟨rfl, rfl, rfl, rfl⟩ := H
    go_enter Tryd.func19, Tryd.ntmps19
    go_wp2_with (first | ((with_reducible refine gate_callee (f := 54) rfl ?_); refine goesL_ (some 13) rfl rfl Tryd.func54 (by kernel_rfl) rfl #[.int .i64 a0, .int .i64 730484] rfl (by (try simp only [List.map_toArray, List.map_cons, List.map_nil]); first | done | rfl | (simp only [List.length_drop, List.length_take]; rfl)) ?_; (with_reducible refine (civil_within.calls a0 730484 t101 _ A2.out).mono ?_); rintro e w' ⟨rfl, ⟨nd, rfl⟩⟩; refine ⟨_, rfl, ?_⟩))
    refine bodyPost_ret (results_list (rs := [.tmp 2, .tmp 3, .tmp 4, .tmp 5]) rfl (by simp) (.tmp (.tmp (.tmp (.tmp .nil))))) rfl ?_
    exact ⟨by first | rfl | (simp [errW_none, errW_some] <;> rfl) | (simp [*, errW_none, errW_some] <;> rfl), by repeat (first | (with_reducible first | exact HB.out | apply below_alloc | apply pw_below_drewN | apply below_drew1) | exact HB.out)⟩

/-! ### civil_Weekday: function 20 -/
def civil_Weekday.f (a0 : Int) : Option (Int × Int) := (civil_within.f a0 730484).bind fun t104 => (if t104 = 0 then (some (Int.tmod a0 7, 0)) else (some (0, t104)))
set_option maxHeartbeats 8000000 in
set_option maxRecDepth 100000 in
theorem civil_Weekday.calls (a0 : Int) (r1 : Int) (r2 : Int) (w : World) (h : civil_Weekday.f a0 = some (r1, r2)) :
    Calls Tryd.prog 20 #[.int .i64 a0] w fun e w' => e = .returned (.tuple #[.int .i64 r1, .int .i64 r2]) ∧ Drawn0 w w' := by
  have H : ((civil_within.f a0 730484).bind fun t104 => (if t104 = 0 then (some (Int.tmod a0 7, 0)) else (some (0, t104)))) = some (r1, r2) := h
  clear h
  replace H := Option.bind_eq_some_iff.mp H
  obtain ⟨t104, A20, H⟩ := H
  replace H : (if t104 = 0 then (some (Int.tmod a0 7, 0)) else (some (0, t104))) = some (r1, r2) := H
  have A2 := Aside0.mk A20
  clear A20
  by_cases c3 : t104 = 0
  · rw [if_pos c3] at H
    have c3b0 : (t104 == 0) = true := beq_iff_eq.mpr c3
    have c3b1 : (t104 != 0) = false := bne_eq_false_iff_eq.mpr c3
    clear c3
    simp only [Option.some.injEq, Prod.mk.injEq] at H
    obtain ⟨rfl, rfl⟩ := H
    go_enter Tryd.func20, Tryd.ntmps20
    go_wp2_with (first | ((with_reducible refine gate_callee (f := 54) rfl ?_); refine goesL_ (some 6) rfl rfl Tryd.func54 (by kernel_rfl) rfl #[.int .i64 a0, .int .i64 730484] rfl (by (try simp only [List.map_toArray, List.map_cons, List.map_nil]); first | done | rfl | (simp only [List.length_drop, List.length_take]; rfl)) ?_; (with_reducible refine (civil_within.calls a0 730484 t104 _ A2.out).mono ?_); rintro e w' ⟨rfl, ⟨nd, rfl⟩⟩; refine ⟨_, rfl, ?_⟩))
    go_ret2
    exact ⟨by first | rfl | (simp; done) | (simp [*]; done) | (simp; exact (show ∀ a_ b_ : Bool, (a_ == b_) = (!(a_ != b_)) from by decide) _ _), by repeat (first | exact Drawn0.refl _ | apply Drawn0.step)⟩
  · rw [if_neg c3] at H
    have c3b0 : (t104 == 0) = false := beq_eq_false_iff_ne.mpr c3
    have c3b1 : (t104 != 0) = true := bne_iff_ne.mpr c3
    simp only [Option.some.injEq, Prod.mk.injEq] at H
    obtain ⟨rfl, rfl⟩ := H
    go_enter Tryd.func20, Tryd.ntmps20
    go_wp2_with (first | ((with_reducible refine gate_callee (f := 54) rfl ?_); refine goesL_ (some 6) rfl rfl Tryd.func54 (by kernel_rfl) rfl #[.int .i64 a0, .int .i64 730484] rfl (by (try simp only [List.map_toArray, List.map_cons, List.map_nil]); first | done | rfl | (simp only [List.length_drop, List.length_take]; rfl)) ?_; (with_reducible refine (civil_within.calls a0 730484 t104 _ A2.out).mono ?_); rintro e w' ⟨rfl, ⟨nd, rfl⟩⟩; refine ⟨_, rfl, ?_⟩))
    go_ret2
    exact ⟨by first | rfl | (simp; done) | (simp [*]; done) | (simp; exact (show ∀ a_ b_ : Bool, (a_ == b_) = (!(a_ != b_)) from by decide) _ _), by repeat (first | exact Drawn0.refl _ | apply Drawn0.step)⟩

/-! ### civil_put: function 56 -/
def civil_put.l0 : Nat → List Int → Int → Int → Option (List Int)
  | 0, _, _, _ => none
  | k + 1, x0, x1, x4 => if x4 ≥ 0 then (if 0 ≤ x4 then (if x4 < (x0.length : Int) then (civil_put.l0 k (x0.set (x4 : Int).toNat ((wrap64 (48 + (Int.tmod x1 10))) % 256)) (wrap64 (Int.tdiv x1 10)) (wrap64 (x4 - 1))) else (none)) else (none)) else (some x0)
def civil_put.f (k : Nat) (l0 : List Int) (a1 : Int) : Option (List Int) := civil_put.l0 k l0 a1 (wrap64 ((l0.length : Int) - 1))
theorem civil_put.mono_l : ∀ k, (∀ y0 y1 y2, LeO (civil_put.l0 k y0 y1 y2) (civil_put.l0 (k + 1) y0 y1 y2))
  | 0 => fun _ _ _ r h => by simp [civil_put.l0] at h
  | k + 1 => by
    have ih0 := civil_put.mono_l k
    · intro y0 y1 y2
      unfold civil_put.l0
      repeat' first
      | (with_reducible exact ih0 _ _ _)
      | (with_reducible exact LeO.refl _)
      | (with_reducible exact LeO.none _)
      | (with_reducible refine LeO.ite ?_ ?_)
      | (with_reducible refine LeO.bind ?_ (fun _ => ?_))
      | exact ih0 _ _ _
      | exact LeO.none _
      | refine LeO.ite ?_ ?_
      | refine LeO.bind ?_ (fun _ => ?_)
theorem civil_put.mono : ∀ a0 a1 k, LeO (civil_put.f k a0 a1) (civil_put.f (k + 1) a0 a1) := by
  intro a0 a1 k
  have ih0 := civil_put.mono_l k
  unfold civil_put.f
  repeat' first
      | (with_reducible exact ih0 _ _ _)
      | (with_reducible exact LeO.refl _)
      | (with_reducible exact LeO.none _)
      | (with_reducible refine LeO.ite ?_ ?_)
      | (with_reducible refine LeO.bind ?_ (fun _ => ?_))
      | exact ih0 _ _ _
      | exact LeO.none _
      | refine LeO.ite ?_ ?_
      | refine LeO.bind ?_ (fun _ => ?_)
set_option maxHeartbeats 8000000 in
set_option maxRecDepth 100000 in
theorem civil_put.calls (k : Nat) (P0_ : Nat → Prop) (u9000_ : Value) (l0 : List Int) (a1 : Int) (r : List Int) (w0 w : World) (hB : Below w0.heap.size w0 w) (ho0 : Kd.R (Kd.int .u8) 5 w w0.heap.size P0_ u9000_ l0) (h : civil_put.f k l0 a1 = some r) :
    Calls Tryd.prog 56 #[u9000_, .int .i64 a1] w fun e w' => e = .returned (.tuple #[]) ∧ Kd.R (Kd.int .u8) 5 w' w0.heap.size (fun k_ => (P0_ k_ ∨ w.heap.size ≤ k_)) u9000_ r ∧ Below w0.heap.size w0 w' ∧ Kept w w' (fun k_ => P0_ k_) := by
  have HO0 := Aside0.mk (show Kd.R (Kd.int .u8) 5 w w0.heap.size (fun k_ => (P0_ k_ ∨ w.heap.size ≤ k_)) u9000_ l0 from Kd.R_mono ho0 (fun k_ hk => (.inl hk)))
  have HK := Aside0.mk (Kept.refl w (fun k_ => P0_ k_))
  have HW0 := Aside0.mk hB.size
  have HB := Aside0.mk hB
  clear hB
  have H : (civil_put.l0 k l0 a1 (wrap64 ((l0.length : Int) - 1))) = some r := h
  clear h
  have H' := Aside0.mk H
  clear H
  obtain ⟨Ao3, co3, eo3⟩ := Kd.R_slice HO0.out
  subst eo3
  go_enter Tryd.func56, Tryd.ntmps56
  go_wp2
  go_loopg [1, 4] k (fun kq v1 v4 w' => ∃ (x0_1 : List Int) (x1_1 : Int) (x4_1 : Int), v1 = .int .i64 x1_1 ∧ v4 = .int .i64 x4_1 ∧ Aside0 (civil_put.l0 kq x0_1 x1_1 x4_1 = some r) ∧ Aside0 (kq ≤ k) ∧ Aside0 (Kd.R (Kd.int .u8) 5 w' w0.heap.size (fun k_ => (P0_ k_ ∨ w.heap.size ≤ k_)) (.slice Ao3 l0.length co3) x0_1) ∧ Aside0 (Kept w w' (fun k_ => P0_ k_)) ∧ Aside0 (Below w0.heap.size w0 w'))
  case atStart => exact ⟨(l0), (a1), (wrap64 ((l0.length : Int) - 1)), (by first | rfl | (simp; done) | (simp [*]; done) | (simp; exact (show ∀ a_ b_ : Bool, (a_ == b_) = (!(a_ != b_)) from by decide) _ _) | (rw [Bool.eq_iff_iff]; simp; done) | (simp; rw [Bool.eq_iff_iff]; simp; done)), (by first | rfl | (simp; done) | (simp [*]; done) | (simp; exact (show ∀ a_ b_ : Bool, (a_ == b_) = (!(a_ != b_)) from by decide) _ _) | (rw [Bool.eq_iff_iff]; simp; done) | (simp; rw [Bool.eq_iff_iff]; simp; done)), H', ⟨Nat.le_refl _⟩, ⟨by (with_reducible repeat (first | apply Kd.R_alloc | apply Kd.R_drewN | apply Kd.R_drew)); exact HO0.out⟩, ⟨by repeat (first | (with_reducible first | exact HK.out | apply Kept.alloc | apply Kept.drewN | apply Kept.drew) | exact HK.out)⟩, ⟨by repeat (first | (with_reducible first | exact HB.out | apply below_alloc | apply pw_below_drewN | apply below_drew1) | exact HB.out)⟩⟩
  case round =>
    clear H'
    try clear p2
    obtain ⟨x0_1, x1_1, x4_1, rfl, rfl, HA, HK1, HO_0, HK, HB⟩ := hrel
    have hl0_1 := (Kd.R_reads' HO_0.out).1
    rw [hl0_1] at HO_0
    (try simp only [hl0_1])
    cases gk with
    | zero => exact absurd HA.out (by simp [civil_put.l0])
    | succ k1 =>
      have H := HA.out
      clear HA
      simp only [civil_put.l0] at H
      by_cases c4 : x4_1 ≥ 0
      · rw [if_pos c4] at H
        have c4b0 : decide (0 ≤ x4_1) = true := decide_eq_true c4
        clear c4
        by_cases c5 : 0 ≤ x4_1
        · rw [if_pos c5] at H
          have c5b0 : decide (0 ≤ x4_1) = true := decide_eq_true c5
          clear c5
          by_cases c6 : x4_1 < (x0_1.length : Int)
          · rw [if_pos c6] at H
            have c6b0 : decide (x4_1 < (x0_1.length : Int)) = true := decide_eq_true c6
            clear c6
            obtain ⟨y105, hy105⟩ : ∃ y_ : List Int, y_ = (x0_1.set (x4_1 : Int).toNat ((wrap64 (48 + (Int.tmod x1_1 10))) % 256)) := ⟨_, rfl⟩
            replace H : (civil_put.l0 k1 y105 (wrap64 (Int.tdiv x1_1 10)) (wrap64 (x4_1 - 1))) = some r := by first | (rw [hy105]; with_reducible exact H) | (have H2_ := (Option.bind_some _ _).symm.trans H; rw [hy105]; with_reducible exact H2_) | (have H2_ := (Option.bind_some _ _).symm.trans H; with_reducible exact H2_) | with_reducible exact H | (rw [hy105]; exact H) | exact H
            have Ny105 := Aside0.mk hy105
            clear hy105
            have H' := Aside0.mk H
            clear H
            have p7 : 0 ≤ (x4_1 : Int) := of_decide_eq_true (by first | (with_reducible assumption) | assumption)
            have q7 : (x4_1 : Int) < ((x0_1.length : Int) : Int) := of_decide_eq_true (by first | (with_reducible assumption) | assumption)
            obtain ⟨go7, co7, eo7, gb7, gl7, cl7, HG7⟩ := Kd.R_form HO_0.out (by omega)
            (first | cases eo7 | (injection eo7 with ea_ en_ ec_; (first | subst ea_ | (injection ea_ with ea_; subst ea_)); subst ec_; clear en_))
            have GB7 := Aside0.mk gb7
            have GG7 := Aside0.mk HG7
            clear gb7 gl7 HG7
            have HMgo7 := Aside0.mk (show (P0_ go7 ∨ w.heap.size ≤ go7) from (HO_0.out.1 _ rfl))
            obtain ⟨hx7_0, hf7_0⟩ := Kd.R_celln 0 HO_0.out (x4_1 : Int) p7 q7
            replace p7 := eq_true p7
            replace q7 := eq_true q7
            have HP8 := Kd.R_putg HO_0.out (x4_1 : Int) ((wrap64 (48 + (Int.tmod x1_1 10))) % 256)
            go_wp2_with (first | ((with_reducible refine gate_store (t := 5) (p := 18) rfl ?_); refine store_event (t := 5) (p := 18) (v := ?vo_w9) (w1 := (wr.setCell ⟨go7, (x4_1 : Int).toNat, none⟩ (.int .u8 ((wrap64 (48 + (Int.tmod x1_1 10))) % 256)))) ?hg ?ho ?hn ?hr ?_; (case ho => rfl); (case hg => rfl); (case hn => rfl); (case hr => first | (go_simp; done) | (go_simp; rfl)); intro w9 hw; have hg : wr.grownBy w9 (some go7) := (by rw [hw]; exact HP8.2); have hp_ : Kd.R (Kd.int .u8) 5 w9 w0.heap.size (fun k_ => (P0_ k_ ∨ w.heap.size ≤ k_)) (.slice (some ⟨go7, 0, none⟩) x0_1.length co3) y105 := (by rw [hw, Ny105.out]; exact HP8.1); clear HP8; have n0_ := Aside0.mk (hp_); have n1_ := Aside0.mk ((by rw [hw]; exact below_set (HB.out) GB7.out : Below w0.heap.size w0 w9)); have n2_ := Aside0.mk (Kept.of_grown (S := (fun k_ => P0_ k_)) hg (by repeat (first | (with_reducible first | exact HK.out | apply Kept.alloc | apply Kept.drewN | apply Kept.drew) | exact HK.out)) (fun k_ e_ => (HO_0.out.1 k_ e_))); clear HO_0; clear HB; clear HK; have HO_0 := n0_; have HB := n1_; have HK := n2_; clear n0_ n1_ n2_; clear hg hw hp_))
            (try simp only [← hl0_1])
            go_roundg k1
            case measure => have := HK1.out; omega
            case rel => exact ⟨(y105), (wrap64 (Int.tdiv x1_1 10)), (wrap64 (x4_1 - 1)), (by first | rfl | (simp; done) | (simp [*]; done) | (simp; exact (show ∀ a_ b_ : Bool, (a_ == b_) = (!(a_ != b_)) from by decide) _ _) | (rw [Bool.eq_iff_iff]; simp; done) | (simp; rw [Bool.eq_iff_iff]; simp; done)), (by first | rfl | (simp; done) | (simp [*]; done) | (simp; exact (show ∀ a_ b_ : Bool, (a_ == b_) = (!(a_ != b_)) from by decide) _ _) | (rw [Bool.eq_iff_iff]; simp; done) | (simp; rw [Bool.eq_iff_iff]; simp; done)), H', ⟨by have := HK1.out; omega⟩, ⟨by (try simp only [hl0_1]); (with_reducible repeat (first | apply Kd.R_alloc | apply Kd.R_drewN | apply Kd.R_drew)); exact HO_0.out⟩, ⟨by repeat (first | (with_reducible first | exact HK.out | apply Kept.alloc | apply Kept.drewN | apply Kept.drew) | exact HK.out)⟩, ⟨by repeat (first | (with_reducible first | exact HB.out | apply below_alloc | apply pw_below_drewN | apply below_drew1) | exact HB.out)⟩⟩
          · rw [if_neg c6] at H
            exact absurd H (by simp)
        · rw [if_neg c5] at H
          exact absurd H (by simp)
      · rw [if_neg c4] at H
        have c4b0 : decide (0 ≤ x4_1) = false := decide_eq_false c4
        clear c4
        obtain rfl := Option.some.inj H
        go_wp2
        first | go_end0 | ((try simp only [Exit.inBlock, Exit.then]); refine bodyPost_ret (results_none rfl _ _ _) rfl ?_)
        exact ⟨by first | rfl | (simp [errW_none, errW_some] <;> rfl) | (simp [*, errW_none, errW_some] <;> rfl), (by first | exact (by (with_reducible repeat (first | apply Kd.R_alloc | apply Kd.R_drewN | apply Kd.R_drew)); exact HO_0.out) | (simp only [hl0_1]; exact (by (with_reducible repeat (first | apply Kd.R_alloc | apply Kd.R_drewN | apply Kd.R_drew)); exact HO_0.out))), by repeat (first | (with_reducible first | exact HB.out | apply below_alloc | apply pw_below_drewN | apply below_drew1) | exact HB.out), by repeat (first | (with_reducible first | exact HK.out | apply Kept.alloc | apply Kept.drewN | apply Kept.drew) | exact HK.out)⟩

/-! ### civil_Right: function 29 -/
def civil_Right.l0 : Nat → List Int → Int → List Int → Int → Int → Option (Bool)
  | 0, _, _, _, _, _ => none
  | k + 1, x0, x3, x6, x7, x8 => if x8 < x7 then (if 0 ≤ x8 then (if x8 < (x6.length : Int) then (if (rd x6 x8) ≤ x3 then (some false) else (if (rd x6 x8) > 730484 then (some false) else (civil_Right.l0 k x0 (rd x6 x8) x6 x7 (wrap64 (x8 + 1))))) else (none)) else (none)) else (some (decide ((x0.length : Int) ≤ 1000)))
def civil_Right.f (k : Nat) (l0 : List Int) : Option (Bool) := civil_Right.l0 k l0 (-1) l0 (l0.length : Int) 0
theorem civil_Right.mono_l : ∀ k, (∀ y0 y1 y2 y3 y4, LeO (civil_Right.l0 k y0 y1 y2 y3 y4) (civil_Right.l0 (k + 1) y0 y1 y2 y3 y4))
  | 0 => fun _ _ _ _ _ r h => by simp [civil_Right.l0] at h
  | k + 1 => by
    have ih0 := civil_Right.mono_l k
    · intro y0 y1 y2 y3 y4
      unfold civil_Right.l0
      repeat' first
      | (with_reducible exact ih0 _ _ _ _ _)
      | (with_reducible exact LeO.refl _)
      | (with_reducible exact LeO.none _)
      | (with_reducible refine LeO.ite ?_ ?_)
      | (with_reducible refine LeO.bind ?_ (fun _ => ?_))
      | exact ih0 _ _ _ _ _
      | exact LeO.none _
      | refine LeO.ite ?_ ?_
      | refine LeO.bind ?_ (fun _ => ?_)
theorem civil_Right.mono : ∀ a0 k, LeO (civil_Right.f k a0) (civil_Right.f (k + 1) a0) := by
  intro a0 k
  have ih0 := civil_Right.mono_l k
  unfold civil_Right.f
  repeat' first
      | (with_reducible exact ih0 _ _ _ _ _)
      | (with_reducible exact LeO.refl _)
      | (with_reducible exact LeO.none _)
      | (with_reducible refine LeO.ite ?_ ?_)
      | (with_reducible refine LeO.bind ?_ (fun _ => ?_))
      | exact ih0 _ _ _ _ _
      | exact LeO.none _
      | refine LeO.ite ?_ ?_
      | refine LeO.bind ?_ (fun _ => ?_)
set_option maxHeartbeats 8000000 in
set_option maxRecDepth 100000 in
theorem civil_Right.calls (k : Nat) (A0 : Option Addr) (c0 : Nat) (l0 : List Int) (r : Bool) (w : World) (hr0 : Kd.C (Kd.int .i64) w A0 l0.length l0) (hc0 : l0.length ≤ c0) (h : civil_Right.f k l0 = some r) :
    Calls Tryd.prog 29 #[.slice A0 l0.length c0] w fun e w' => e = .returned (.bool r) ∧ Drawn0 w w' := by
  have HR0 := Aside0.mk hr0
  have HC0 := Aside0.mk hc0
  clear hr0 hc0
  have H : (civil_Right.l0 k l0 (-1) l0 (l0.length : Int) 0) = some r := h
  clear h
  have H' := Aside0.mk H
  clear H
  go_enter Tryd.func29, Tryd.ntmps29
  go_wp2
  go_loopg [3, 8] k (fun kq v3 v8 w' => ∃ (x3_1 : Int) (x8_1 : Int), v3 = .int .i64 x3_1 ∧ v8 = .int .i64 x8_1 ∧ Aside0 (civil_Right.l0 kq l0 x3_1 l0 (l0.length : Int) x8_1 = some r) ∧ Aside0 (kq ≤ k) ∧ Drawn0 w w')
  case atStart => exact ⟨((-1)), (0), (by first | rfl | (simp; done) | (simp [*]; done) | (simp; exact (show ∀ a_ b_ : Bool, (a_ == b_) = (!(a_ != b_)) from by decide) _ _) | (rw [Bool.eq_iff_iff]; simp; done) | (simp; rw [Bool.eq_iff_iff]; simp; done)), (by first | rfl | (simp; done) | (simp [*]; done) | (simp; exact (show ∀ a_ b_ : Bool, (a_ == b_) = (!(a_ != b_)) from by decide) _ _) | (rw [Bool.eq_iff_iff]; simp; done) | (simp; rw [Bool.eq_iff_iff]; simp; done)), H', ⟨Nat.le_refl _⟩, by repeat (first | exact Drawn0.refl _ | apply Drawn0.step)⟩
  case round =>
    clear H'
    obtain ⟨x3_1, x8_1, rfl, rfl, HA, HK1, ⟨m1, rfl⟩⟩ := hrel
    cases gk with
    | zero => exact absurd HA.out (by simp [civil_Right.l0])
    | succ k1 =>
      have H := HA.out
      clear HA
      simp only [civil_Right.l0] at H
      by_cases c2 : x8_1 < (l0.length : Int)
      · rw [if_pos c2] at H
        have c2b0 : decide (x8_1 < (l0.length : Int)) = true := decide_eq_true c2
        clear c2
        by_cases c3 : 0 ≤ x8_1
        · rw [if_pos c3] at H
          have c3b0 : decide (0 ≤ x8_1) = true := decide_eq_true c3
          clear c3
          by_cases c4 : x8_1 < (l0.length : Int)
          · rw [if_pos c4] at H
            have c4b0 : decide (x8_1 < (l0.length : Int)) = true := decide_eq_true c4
            clear c4
            by_cases c5 : (rd l0 x8_1) ≤ x3_1
            · rw [if_pos c5] at H
              have c5b0 : decide ((rd l0 x8_1) ≤ x3_1) = true := decide_eq_true c5
              clear c5
              obtain rfl := Option.some.inj H
              have p106 : 0 ≤ (x8_1 : Int) := of_decide_eq_true (by first | (with_reducible assumption) | assumption)
              have q106 : x8_1 < (l0.length : Int) := of_decide_eq_true (by first | (with_reducible assumption) | assumption)
              obtain ⟨ad106, e106, hx106_0⟩ := Kd.at_int HR0.out x8_1 p106 q106
              cases e106
              replace p106 := eq_true p106
              replace q106 := eq_true q106
              go_wp2
              go_ret
              exact ⟨by first | rfl | (simp; done) | (simp [*]; done) | (simp; exact (show ∀ a_ b_ : Bool, (a_ == b_) = (!(a_ != b_)) from by decide) _ _), by repeat (first | exact Drawn0.refl _ | apply Drawn0.step)⟩
            · rw [if_neg c5] at H
              have c5b0 : decide ((rd l0 x8_1) ≤ x3_1) = false := decide_eq_false c5
              clear c5
              by_cases c6 : (rd l0 x8_1) > 730484
              · rw [if_pos c6] at H
                have c6b0 : decide (730484 < (rd l0 x8_1)) = true := decide_eq_true c6
                clear c6
                obtain rfl := Option.some.inj H
                have p106 : 0 ≤ (x8_1 : Int) := of_decide_eq_true (by first | (with_reducible assumption) | assumption)
                have q106 : x8_1 < (l0.length : Int) := of_decide_eq_true (by first | (with_reducible assumption) | assumption)
                obtain ⟨ad106, e106, hx106_0⟩ := Kd.at_int HR0.out x8_1 p106 q106
                cases e106
                replace p106 := eq_true p106
                replace q106 := eq_true q106
                go_wp2
                go_ret
                exact ⟨by first | rfl | (simp; done) | (simp [*]; done) | (simp; exact (show ∀ a_ b_ : Bool, (a_ == b_) = (!(a_ != b_)) from by decide) _ _), by repeat (first | exact Drawn0.refl _ | apply Drawn0.step)⟩
              · rw [if_neg c6] at H
                have c6b0 : decide (730484 < (rd l0 x8_1)) = false := decide_eq_false c6
                clear c6
                have H' := Aside0.mk H
                clear H
                have p106 : 0 ≤ (x8_1 : Int) := of_decide_eq_true (by first | (with_reducible assumption) | assumption)
                have q106 : x8_1 < (l0.length : Int) := of_decide_eq_true (by first | (with_reducible assumption) | assumption)
                obtain ⟨ad106, e106, hx106_0⟩ := Kd.at_int HR0.out x8_1 p106 q106
                cases e106
                replace p106 := eq_true p106
                replace q106 := eq_true q106
                go_wp2
                go_roundg k1
                case measure => have := HK1.out; omega
                case rel => exact ⟨(rd l0 x8_1), (wrap64 (x8_1 + 1)), (by first | rfl | (simp; done) | (simp [*]; done) | (simp; exact (show ∀ a_ b_ : Bool, (a_ == b_) = (!(a_ != b_)) from by decide) _ _) | (rw [Bool.eq_iff_iff]; simp; done) | (simp; rw [Bool.eq_iff_iff]; simp; done)), (by first | rfl | (simp; done) | (simp [*]; done) | (simp; exact (show ∀ a_ b_ : Bool, (a_ == b_) = (!(a_ != b_)) from by decide) _ _) | (rw [Bool.eq_iff_iff]; simp; done) | (simp; rw [Bool.eq_iff_iff]; simp; done)), H', ⟨by have := HK1.out; omega⟩, by repeat (first | exact Drawn0.refl _ | apply Drawn0.step)⟩
          · rw [if_neg c4] at H
            exact absurd H (by simp)
        · rw [if_neg c3] at H
          exact absurd H (by simp)
      · rw [if_neg c2] at H
        have c2b0 : decide (x8_1 < (l0.length : Int)) = false := decide_eq_false c2
        clear c2
        obtain rfl := Option.some.inj H
        go_wp2
        go_ret
        exact ⟨by first | rfl | (simp; done) | (simp [*]; done) | (simp; exact (show ∀ a_ b_ : Bool, (a_ == b_) = (!(a_ != b_)) from by decide) _ _), by repeat (first | exact Drawn0.refl _ | apply Drawn0.step)⟩

/-! ### civil_dated: function 59 -/
def civil_dated.f (a0 : Int) (a1 : Int) (a2 : Int) : Option (Bool) := if a0 ≥ 2001 then (if a0 ≤ 4000 then (if a1 ≥ 1 then (if a1 ≤ 12 then (if a2 ≥ 1 then ((civil_first.f a0 (wrap64 (a1 + 1))).bind fun t107 => ((civil_first.f a0 a1).bind fun t108 => (some (decide (a2 ≤ (wrap64 (t107 - t108))))))) else (some false)) else (some false)) else (some false)) else (some false)) else (some false)
set_option maxHeartbeats 8000000 in
set_option maxRecDepth 100000 in
theorem civil_dated.calls (a0 : Int) (a1 : Int) (a2 : Int) (r : Bool) (w : World) (hg : Aside0 (Tab w)) (h : civil_dated.f a0 a1 a2 = some r) :
    Calls Tryd.prog 59 #[.int .i64 a0, .int .i64 a1, .int .i64 a2] w fun e w' => e = .returned (.bool r) ∧ Drawn0 w w' := by
  have H : (if a0 ≥ 2001 then (if a0 ≤ 4000 then (if a1 ≥ 1 then (if a1 ≤ 12 then (if a2 ≥ 1 then ((civil_first.f a0 (wrap64 (a1 + 1))).bind fun t107 => ((civil_first.f a0 a1).bind fun t108 => (some (decide (a2 ≤ (wrap64 (t107 - t108))))))) else (some false)) else (some false)) else (some false)) else (some false)) else (some false)) = some r := h
  clear h
  by_cases c4 : a0 ≥ 2001
  · rw [if_pos c4] at H
    have c4b0 : decide (2001 ≤ a0) = true := decide_eq_true c4
    clear c4
    by_cases c5 : a0 ≤ 4000
    · rw [if_pos c5] at H
      have c5b0 : decide (a0 ≤ 4000) = true := decide_eq_true c5
      clear c5
      by_cases c6 : a1 ≥ 1
      · rw [if_pos c6] at H
        have c6b0 : decide (1 ≤ a1) = true := decide_eq_true c6
        clear c6
        by_cases c7 : a1 ≤ 12
        · rw [if_pos c7] at H
          have c7b0 : decide (a1 ≤ 12) = true := decide_eq_true c7
          clear c7
          by_cases c8 : a2 ≥ 1
          · rw [if_pos c8] at H
            have c8b0 : decide (1 ≤ a2) = true := decide_eq_true c8
            clear c8
            replace H := Option.bind_eq_some_iff.mp H
            obtain ⟨t107, A90, H⟩ := H
            replace H : ((civil_first.f a0 a1).bind fun t108 => (some (decide (a2 ≤ (wrap64 (t107 - t108)))))) = some r := H
            have A9 := Aside0.mk A90
            clear A90
            replace H := Option.bind_eq_some_iff.mp H
            obtain ⟨t108, A100, H⟩ := H
            replace H : (some (decide (a2 ≤ (wrap64 (t107 - t108))))) = some r := H
            have A10 := Aside0.mk A100
            clear A100
            obtain rfl := Option.some.inj H
            go_enter Tryd.func59, Tryd.ntmps59
            go_wp2_with (first | (go_at_call 55; (with_reducible refine (civil_first.calls a0 (wrap64 (a1 + 1)) t107 _ ?tabG A9.out).mono ?_); (case tabG => (first | exact hg | exact ⟨hg.out.drewN _⟩ | exact ⟨(hg.out.drewN _).drewN _⟩ | exact ⟨hg.out.drawn (by assumption)⟩)); rintro e w' ⟨rfl, ⟨nd, rfl⟩⟩) | (go_at_call 55; (with_reducible refine (civil_first.calls a0 a1 t108 _ ?tabG A10.out).mono ?_); (case tabG => (first | exact hg | exact ⟨hg.out.drewN _⟩ | exact ⟨(hg.out.drewN _).drewN _⟩ | exact ⟨hg.out.drawn (by assumption)⟩)); rintro e w' ⟨rfl, ⟨nd, rfl⟩⟩))
            go_ret
            exact ⟨by first | rfl | (simp; done) | (simp [*]; done) | (simp; exact (show ∀ a_ b_ : Bool, (a_ == b_) = (!(a_ != b_)) from by decide) _ _), by repeat (first | exact Drawn0.refl _ | apply Drawn0.step)⟩
          · rw [if_neg c8] at H
            have c8b0 : decide (1 ≤ a2) = false := decide_eq_false c8
            clear c8
            obtain rfl := Option.some.inj H
            go_enter Tryd.func59, Tryd.ntmps59
            go_wp2
            go_ret
            exact ⟨by first | rfl | (simp; done) | (simp [*]; done) | (simp; exact (show ∀ a_ b_ : Bool, (a_ == b_) = (!(a_ != b_)) from by decide) _ _), by repeat (first | exact Drawn0.refl _ | apply Drawn0.step)⟩
        · rw [if_neg c7] at H
          have c7b0 : decide (a1 ≤ 12) = false := decide_eq_false c7
          clear c7
          obtain rfl := Option.some.inj H
          go_enter Tryd.func59, Tryd.ntmps59
          go_wp2
          go_ret
          exact ⟨by first | rfl | (simp; done) | (simp [*]; done) | (simp; exact (show ∀ a_ b_ : Bool, (a_ == b_) = (!(a_ != b_)) from by decide) _ _), by repeat (first | exact Drawn0.refl _ | apply Drawn0.step)⟩
      · rw [if_neg c6] at H
        have c6b0 : decide (1 ≤ a1) = false := decide_eq_false c6
        clear c6
        obtain rfl := Option.some.inj H
        go_enter Tryd.func59, Tryd.ntmps59
        go_wp2
        go_ret
        exact ⟨by first | rfl | (simp; done) | (simp [*]; done) | (simp; exact (show ∀ a_ b_ : Bool, (a_ == b_) = (!(a_ != b_)) from by decide) _ _), by repeat (first | exact Drawn0.refl _ | apply Drawn0.step)⟩
    · rw [if_neg c5] at H
      have c5b0 : decide (a0 ≤ 4000) = false := decide_eq_false c5
      clear c5
      obtain rfl := Option.some.inj H
      go_enter Tryd.func59, Tryd.ntmps59
      go_wp2
      go_ret
      exact ⟨by first | rfl | (simp; done) | (simp [*]; done) | (simp; exact (show ∀ a_ b_ : Bool, (a_ == b_) = (!(a_ != b_)) from by decide) _ _), by repeat (first | exact Drawn0.refl _ | apply Drawn0.step)⟩
  · rw [if_neg c4] at H
    have c4b0 : decide (2001 ≤ a0) = false := decide_eq_false c4
    clear c4
    obtain rfl := Option.some.inj H
    go_enter Tryd.func59, Tryd.ntmps59
    go_wp2
    go_ret
    exact ⟨by first | rfl | (simp; done) | (simp [*]; done) | (simp; exact (show ∀ a_ b_ : Bool, (a_ == b_) = (!(a_ != b_)) from by decide) _ _), by repeat (first | exact Drawn0.refl _ | apply Drawn0.step)⟩

/-! ### civil_Yearly: function 27 -/
def civil_Yearly.j0 : Nat → Int → Int → Int → Int → Bool → Option (Bool × Int)
  | 0, _, _, _, _, _ => none
  | k + 1, x1, x2, x9, x10, x36 => if x36 = true then (some (false, 10)) else (if x1 > x2 then (if (wrap64 ((wrap64 (100 * x9)) + x10)) ≥ x1 then (some (true, 0)) else (some (decide ((wrap64 ((wrap64 (100 * x9)) + x10)) ≤ x2), 0))) else (if (wrap64 ((wrap64 (100 * x9)) + x10)) ≥ x1 then (some (decide ((wrap64 ((wrap64 (100 * x9)) + x10)) ≤ x2), 0)) else (some (false, 0))))
def civil_Yearly.f (k : Nat) (a0 : Int) (a1 : Int) (a2 : Int) : Option (Bool × Int) := (civil_Date.f k a0).bind fun bt109 => (if bt109.2.2.2 = 0 then ((civil_dated.f 2004 (wrap64 (Int.tdiv a1 100)) (Int.tmod a1 100)).bind fun t113 => (if t113 = true then ((civil_dated.f 2004 (wrap64 (Int.tdiv a2 100)) (Int.tmod a2 100)).bind fun t114 => (civil_Yearly.j0 k a1 a2 bt109.2.1 bt109.2.2.1 (!t114))) else (civil_Yearly.j0 k a1 a2 bt109.2.1 bt109.2.2.1 true))) else (some (false, bt109.2.2.2)))
theorem civil_Yearly.mono_l : ∀ k, (∀ y0 y1 y2 y3 y4, LeO (civil_Yearly.j0 k y0 y1 y2 y3 y4) (civil_Yearly.j0 (k + 1) y0 y1 y2 y3 y4))
  | 0 => fun _ _ _ _ _ r h => by simp [civil_Yearly.j0] at h
  | k + 1 => by
    have ih0 := civil_Yearly.mono_l k
    · intro y0 y1 y2 y3 y4
      unfold civil_Yearly.j0
      repeat' first
      | (with_reducible exact ih0 _ _ _ _ _)
      | (with_reducible exact civil_Date.mono _ _)
      | (with_reducible exact LeO.refl _)
      | (with_reducible exact LeO.none _)
      | (with_reducible refine LeO.ite ?_ ?_)
      | (with_reducible refine LeO.bind ?_ (fun _ => ?_))
      | exact ih0 _ _ _ _ _
      | exact civil_Date.mono _ _
      | exact LeO.none _
      | refine LeO.ite ?_ ?_
      | refine LeO.bind ?_ (fun _ => ?_)
theorem civil_Yearly.mono : ∀ a0 a1 a2 k, LeO (civil_Yearly.f k a0 a1 a2) (civil_Yearly.f (k + 1) a0 a1 a2) := by
  intro a0 a1 a2 k
  have ih0 := civil_Yearly.mono_l k
  unfold civil_Yearly.f
  repeat' first
      | (with_reducible exact ih0 _ _ _ _ _)
      | (with_reducible exact civil_Date.mono _ _)
      | (with_reducible exact LeO.refl _)
      | (with_reducible exact LeO.none _)
      | (with_reducible refine LeO.ite ?_ ?_)
      | (with_reducible refine LeO.bind ?_ (fun _ => ?_))
      | exact ih0 _ _ _ _ _
      | exact civil_Date.mono _ _
      | exact LeO.none _
      | refine LeO.ite ?_ ?_
      | refine LeO.bind ?_ (fun _ => ?_)
set_option maxHeartbeats 8000000 in
set_option maxRecDepth 100000 in
theorem civil_Yearly.calls (k : Nat) (a0 : Int) (a1 : Int) (a2 : Int) (r1 : Bool) (r2 : Int) (w : World) (hg : Aside0 (Tab w)) (h : civil_Yearly.f k a0 a1 a2 = some (r1, r2)) :
    Calls Tryd.prog 27 #[.int .i64 a0, .int .i64 a1, .int .i64 a2] w fun e w' => e = .returned (.tuple #[.bool r1, .int .i64 r2]) ∧ Below w.heap.size w w' := by
  have HB := Aside0.mk (Below.refl w.heap.size w)
  have H : ((civil_Date.f k a0).bind fun bt109 => (if bt109.2.2.2 = 0 then ((civil_dated.f 2004 (wrap64 (Int.tdiv a1 100)) (Int.tmod a1 100)).bind fun t113 => (if t113 = true then ((civil_dated.f 2004 (wrap64 (Int.tdiv a2 100)) (Int.tmod a2 100)).bind fun t114 => (civil_Yearly.j0 k a1 a2 bt109.2.1 bt109.2.2.1 (!t114))) else (civil_Yearly.j0 k a1 a2 bt109.2.1 bt109.2.2.1 true))) else (some (false, bt109.2.2.2)))) = some (r1, r2) := h
  clear h
  replace H := Option.bind_eq_some_iff.mp H
  obtain ⟨⟨t109, t110, t111, t112⟩, A40, H⟩ := H
  replace H : (if t112 = 0 then ((civil_dated.f 2004 (wrap64 (Int.tdiv a1 100)) (Int.tmod a1 100)).bind fun t113 => (if t113 = true then ((civil_dated.f 2004 (wrap64 (Int.tdiv a2 100)) (Int.tmod a2 100)).bind fun t114 => (civil_Yearly.j0 k a1 a2 t110 t111 (!t114))) else (civil_Yearly.j0 k a1 a2 t110 t111 true))) else (some (false, t112))) = some (r1, r2) := H
  have A4 := Aside0.mk A40
  clear A40
  by_cases c5 : t112 = 0
  · rw [if_pos c5] at H
    have c5b0 : (t112 == 0) = true := beq_iff_eq.mpr c5
    have c5b1 : (t112 != 0) = false := bne_eq_false_iff_eq.mpr c5
    clear c5
    have HC6 := Aside0.mk H
    clear H
    go_enter Tryd.func27, Tryd.ntmps27
    go_upto_region 4 with (first | ((with_reducible refine gate_callee (f := 19) rfl ?_); refine goesL_ (some 15) rfl rfl Tryd.func19 (by kernel_rfl) rfl #[.int .i64 a0] rfl (by (try simp only [List.map_toArray, List.map_cons, List.map_nil]); first | done | rfl | (simp only [List.length_drop, List.length_take]; rfl)) ?_; (with_reducible refine (civil_Date.calls k a0 t109 t110 t111 t112 _ ?tabG A4.out).mono ?_); (case tabG => (first | exact hg | exact ⟨hg.out.below (by repeat (first | (with_reducible first | exact HB.out | apply below_alloc | apply pw_below_drewN | apply below_drew1) | exact HB.out))⟩)); rintro e w7 ⟨rfl, hb⟩; refine ⟨_, rfl, ?_⟩; have n0_ := Aside0.mk (below_step (by repeat (first | (with_reducible first | exact HB.out | apply below_alloc | apply pw_below_drewN | apply below_drew1) | exact HB.out)) hb); clear HB; have HB := n0_; clear n0_; (try clear hb); (try clear hb2); (try clear hk); (try clear hi)))
    (try simp only [Act.put, List.setIfInBounds_toArray, List.set_cons_zero, List.set_cons_succ])
    go_cut [36] (fun v36 wc => ∃ (kq : Nat) (x36_5 : Bool), v36 = .bool x36_5 ∧ Aside0 (civil_Yearly.j0 kq a1 a2 t110 t111 x36_5 = some (r1, r2)) ∧ Aside0 (kq ≤ k) ∧ Aside0 (Below w.heap.size w wc))
    case first =>
      have H := HC6.out
      clear HC6
      replace H := Option.bind_eq_some_iff.mp H
      obtain ⟨t113, A80, H⟩ := H
      replace H : (if t113 = true then ((civil_dated.f 2004 (wrap64 (Int.tdiv a2 100)) (Int.tmod a2 100)).bind fun t114 => (civil_Yearly.j0 k a1 a2 t110 t111 (!t114))) else (civil_Yearly.j0 k a1 a2 t110 t111 true)) = some (r1, r2) := H
      have A8 := Aside0.mk A80
      clear A80
      by_cases c9 : t113 = true
      · subst c9
        have H1 : ((civil_dated.f 2004 (wrap64 (Int.tdiv a2 100)) (Int.tmod a2 100)).bind fun t114 => (civil_Yearly.j0 k a1 a2 t110 t111 (!t114))) = some (r1, r2) := by rw [if_pos rfl] at H; exact H
        clear H
        have H := H1
        clear H1
        replace H := Option.bind_eq_some_iff.mp H
        obtain ⟨t114, A100, H⟩ := H
        replace H : (civil_Yearly.j0 k a1 a2 t110 t111 (!t114)) = some (r1, r2) := H
        have A10 := Aside0.mk A100
        clear A100
        have H' := Aside0.mk H
        clear H
        go_wp2_with (first | ((with_reducible refine gate_callee (f := 59) rfl ?_); refine goesL_ (some 27) rfl rfl Tryd.func59 (by kernel_rfl) rfl #[.int .i64 2004, .int .i64 (wrap64 (Int.tdiv a1 100)), .int .i64 (Int.tmod a1 100)] rfl (by (try simp only [List.map_toArray, List.map_cons, List.map_nil]); first | done | rfl | (simp only [List.length_drop, List.length_take]; rfl)) ?_; (with_reducible refine (civil_dated.calls 2004 (wrap64 (Int.tdiv a1 100)) (Int.tmod a1 100) true _ ?tabG A8.out).mono ?_); (case tabG => (first | exact hg | exact ⟨hg.out.below (by repeat (first | (with_reducible first | exact HB.out | apply below_alloc | apply pw_below_drewN | apply below_drew1) | exact HB.out))⟩ | exact hg | exact ⟨hg.out.drewN _⟩ | exact ⟨(hg.out.drewN _).drewN _⟩ | exact ⟨hg.out.drawn (by assumption)⟩)); rintro e w' ⟨rfl, ⟨nd, rfl⟩⟩; refine ⟨_, rfl, ?_⟩) | (go_at_call 59; (with_reducible refine (civil_dated.calls 2004 (wrap64 (Int.tdiv a2 100)) (Int.tmod a2 100) t114 _ ?tabG A10.out).mono ?_); (case tabG => (first | exact hg | exact ⟨hg.out.below (by repeat (first | (with_reducible first | exact HB.out | apply below_alloc | apply pw_below_drewN | apply below_drew1) | exact HB.out))⟩ | exact hg | exact ⟨hg.out.drewN _⟩ | exact ⟨(hg.out.drewN _).drewN _⟩ | exact ⟨hg.out.drawn (by assumption)⟩)); rintro e w' ⟨rfl, ⟨nd, rfl⟩⟩))
        go_meet
        case rel => exact ⟨_, (!t114), (by first | rfl | (simp; done) | (simp [*]; done) | (simp; exact (show ∀ a_ b_ : Bool, (a_ == b_) = (!(a_ != b_)) from by decide) _ _) | (rw [Bool.eq_iff_iff]; simp; done) | (simp; rw [Bool.eq_iff_iff]; simp; done)), H', ⟨by first | omega | exact Nat.le_refl _⟩, ⟨by repeat (first | (with_reducible first | exact HB.out | apply below_alloc | apply pw_below_drewN | apply below_drew1) | exact HB.out)⟩⟩
      · replace c9 := Bool.eq_false_iff.mpr c9
        subst c9
        have H1 : (civil_Yearly.j0 k a1 a2 t110 t111 true) = some (r1, r2) := by rw [if_neg (show ¬ (false = true) by decide)] at H; exact H
        clear H
        have H := H1
        clear H1
        have H' := Aside0.mk H
        clear H
        go_wp2_with (first | ((with_reducible refine gate_callee (f := 59) rfl ?_); refine goesL_ (some 27) rfl rfl Tryd.func59 (by kernel_rfl) rfl #[.int .i64 2004, .int .i64 (wrap64 (Int.tdiv a1 100)), .int .i64 (Int.tmod a1 100)] rfl (by (try simp only [List.map_toArray, List.map_cons, List.map_nil]); first | done | rfl | (simp only [List.length_drop, List.length_take]; rfl)) ?_; (with_reducible refine (civil_dated.calls 2004 (wrap64 (Int.tdiv a1 100)) (Int.tmod a1 100) false _ ?tabG A8.out).mono ?_); (case tabG => (first | exact hg | exact ⟨hg.out.below (by repeat (first | (with_reducible first | exact HB.out | apply below_alloc | apply pw_below_drewN | apply below_drew1) | exact HB.out))⟩ | exact hg | exact ⟨hg.out.drewN _⟩ | exact ⟨(hg.out.drewN _).drewN _⟩ | exact ⟨hg.out.drawn (by assumption)⟩)); rintro e w' ⟨rfl, ⟨nd, rfl⟩⟩; refine ⟨_, rfl, ?_⟩))
        go_meet
        case rel => exact ⟨_, (true), (by first | rfl | (simp; done) | (simp [*]; done) | (simp; exact (show ∀ a_ b_ : Bool, (a_ == b_) = (!(a_ != b_)) from by decide) _ _) | (rw [Bool.eq_iff_iff]; simp; done) | (simp; rw [Bool.eq_iff_iff]; simp; done)), H', ⟨by first | omega | exact Nat.le_refl _⟩, ⟨by repeat (first | (with_reducible first | exact HB.out | apply below_alloc | apply pw_below_drewN | apply below_drew1) | exact HB.out)⟩⟩
    case rest =>
      clear HC6
      try clear c1
      try clear c2
      try clear p2
      try clear c5
      try clear c5b0
      try clear c5b1
      try clear p6
      try clear c9
      obtain ⟨kq, x36_5, rfl, HA, HJ5, HB⟩ := hcut
      cases kq with
      | zero => exact absurd HA.out (by simp [civil_Yearly.j0])
      | succ kj5 =>
        have H := HA.out
        clear HA
        simp only [civil_Yearly.j0] at H
        by_cases c11 : x36_5 = true
        · subst c11
          have H1 : (some (false, 10)) = some (r1, r2) := by rw [if_pos rfl] at H; exact H
          clear H
          have H := H1
          clear H1
          simp only [Option.some.injEq, Prod.mk.injEq] at H
          obtain ⟨rfl, rfl⟩ := H
          go_wp2
          go_ret2
          exact ⟨by first | rfl | (simp [errW_none, errW_some] <;> rfl) | (simp [*, errW_none, errW_some] <;> rfl), by repeat (first | (with_reducible first | exact HB.out | apply below_alloc | apply pw_below_drewN | apply below_drew1) | exact HB.out)⟩
        · replace c11 := Bool.eq_false_iff.mpr c11
          subst c11
          have H1 : (if a1 > a2 then (if (wrap64 ((wrap64 (100 * t110)) + t111)) ≥ a1 then (some (true, 0)) else (some (decide ((wrap64 ((wrap64 (100 * t110)) + t111)) ≤ a2), 0))) else (if (wrap64 ((wrap64 (100 * t110)) + t111)) ≥ a1 then (some (decide ((wrap64 ((wrap64 (100 * t110)) + t111)) ≤ a2), 0)) else (some (false, 0)))) = some (r1, r2) := by rw [if_neg (show ¬ (false = true) by decide)] at H; exact H
          clear H
          have H := H1
          clear H1
          by_cases c12 : a1 > a2
          · rw [if_pos c12] at H
            have c12b0 : decide (a2 < a1) = true := decide_eq_true c12
            clear c12
            by_cases c13 : (wrap64 ((wrap64 (100 * t110)) + t111)) ≥ a1
            · rw [if_pos c13] at H
              have c13b0 : decide (a1 ≤ (wrap64 ((wrap64 (100 * t110)) + t111))) = true := decide_eq_true c13
              clear c13
              simp only [Option.some.injEq, Prod.mk.injEq] at H
              obtain ⟨rfl, rfl⟩ := H
              go_wp2
              go_ret2
              exact ⟨by first | rfl | (simp [errW_none, errW_some] <;> rfl) | (simp [*, errW_none, errW_some] <;> rfl), by repeat (first | (with_reducible first | exact HB.out | apply below_alloc | apply pw_below_drewN | apply below_drew1) | exact HB.out)⟩
            · rw [if_neg c13] at H
              have c13b0 : decide (a1 ≤ (wrap64 ((wrap64 (100 * t110)) + t111))) = false := decide_eq_false c13
              clear c13
              simp only [Option.some.injEq, Prod.mk.injEq] at H
              obtain ⟨rfl, rfl⟩ := H
              go_wp2
              go_ret2
              exact ⟨by first | rfl | (simp [errW_none, errW_some] <;> rfl) | (simp [*, errW_none, errW_some] <;> rfl), by repeat (first | (with_reducible first | exact HB.out | apply below_alloc | apply pw_below_drewN | apply below_drew1) | exact HB.out)⟩
          · rw [if_neg c12] at H
            have c12b0 : decide (a2 < a1) = false := decide_eq_false c12
            clear c12
            by_cases c14 : (wrap64 ((wrap64 (100 * t110)) + t111)) ≥ a1
            · rw [if_pos c14] at H
              have c14b0 : decide (a1 ≤ (wrap64 ((wrap64 (100 * t110)) + t111))) = true := decide_eq_true c14
              clear c14
              simp only [Option.some.injEq, Prod.mk.injEq] at H
              obtain ⟨rfl, rfl⟩ := H
              go_wp2
              go_ret2
              exact ⟨by first | rfl | (simp [errW_none, errW_some] <;> rfl) | (simp [*, errW_none, errW_some] <;> rfl), by repeat (first | (with_reducible first | exact HB.out | apply below_alloc | apply pw_below_drewN | apply below_drew1) | exact HB.out)⟩
            · rw [if_neg c14] at H
              have c14b0 : decide (a1 ≤ (wrap64 ((wrap64 (100 * t110)) + t111))) = false := decide_eq_false c14
              clear c14
              simp only [Option.some.injEq, Prod.mk.injEq] at H
              obtain ⟨rfl, rfl⟩ := H
              go_wp2
              go_ret2
              exact ⟨by first | rfl | (simp [errW_none, errW_some] <;> rfl) | (simp [*, errW_none, errW_some] <;> rfl), by repeat (first | (with_reducible first | exact HB.out | apply below_alloc | apply pw_below_drewN | apply below_drew1) | exact HB.out)⟩
  · rw [if_neg c5] at H
    have c5b0 : (t112 == 0) = false := beq_eq_false_iff_ne.mpr c5
    have c5b1 : (t112 != 0) = true := bne_iff_ne.mpr c5
    simp only [Option.some.injEq, Prod.mk.injEq] at H
    obtain ⟨rfl, rfl⟩ := H
    go_enter Tryd.func27, Tryd.ntmps27
    go_wp2_with (first | ((with_reducible refine gate_callee (f := 19) rfl ?_); refine goesL_ (some 15) rfl rfl Tryd.func19 (by kernel_rfl) rfl #[.int .i64 a0] rfl (by (try simp only [List.map_toArray, List.map_cons, List.map_nil]); first | done | rfl | (simp only [List.length_drop, List.length_take]; rfl)) ?_; (with_reducible refine (civil_Date.calls k a0 t109 t110 t111 t112 _ ?tabG A4.out).mono ?_); (case tabG => (first | exact hg | exact ⟨hg.out.below (by repeat (first | (with_reducible first | exact HB.out | apply below_alloc | apply pw_below_drewN | apply below_drew1) | exact HB.out))⟩)); rintro e w15 ⟨rfl, hb⟩; refine ⟨_, rfl, ?_⟩; have n0_ := Aside0.mk (below_step (by repeat (first | (with_reducible first | exact HB.out | apply below_alloc | apply pw_below_drewN | apply below_drew1) | exact HB.out)) hb); clear HB; have HB := n0_; clear n0_; (try clear hb); (try clear hb2); (try clear hk); (try clear hi)))
    go_ret2
    exact ⟨by first | rfl | (simp [errW_none, errW_some] <;> rfl) | (simp [*, errW_none, errW_some] <;> rfl), by repeat (first | (with_reducible first | exact HB.out | apply below_alloc | apply pw_below_drewN | apply below_drew1) | exact HB.out)⟩

/-! ### civil_Day: function 34 -/
def civil_Day.f (a0 : Int) (a1 : Int) (a2 : Int) : Option (Int × Int) := (civil_dated.f a0 a1 a2).bind fun t115 => (if t115 = true then ((civil_first.f a0 a1).bind fun t116 => (some (wrap64 ((wrap64 ((wrap64 ((wrap64 ((wrap64 ((wrap64 ((wrap64 ((wrap64 (365 * (wrap64 (a0 - 1)))) + (wrap64 (Int.tdiv (wrap64 (a0 - 1)) 4)))) - (wrap64 (Int.tdiv (wrap64 (a0 - 1)) 100)))) + (wrap64 (Int.tdiv (wrap64 (a0 - 1)) 400)))) - 730485)) + t116)) + a2)) - 1), 0))) else (some (0, 10)))
set_option maxHeartbeats 8000000 in
set_option maxRecDepth 100000 in
theorem civil_Day.calls (a0 : Int) (a1 : Int) (a2 : Int) (r1 : Int) (r2 : Int) (w : World) (hg : Aside0 (Tab w)) (h : civil_Day.f a0 a1 a2 = some (r1, r2)) :
    Calls Tryd.prog 34 #[.int .i64 a0, .int .i64 a1, .int .i64 a2] w fun e w' => e = .returned (.tuple #[.int .i64 r1, .int .i64 r2]) ∧ Drawn0 w w' := by
  have H : ((civil_dated.f a0 a1 a2).bind fun t115 => (if t115 = true then ((civil_first.f a0 a1).bind fun t116 => (some (wrap64 ((wrap64 ((wrap64 ((wrap64 ((wrap64 ((wrap64 ((wrap64 ((wrap64 (365 * (wrap64 (a0 - 1)))) + (wrap64 (Int.tdiv (wrap64 (a0 - 1)) 4)))) - (wrap64 (Int.tdiv (wrap64 (a0 - 1)) 100)))) + (wrap64 (Int.tdiv (wrap64 (a0 - 1)) 400)))) - 730485)) + t116)) + a2)) - 1), 0))) else (some (0, 10)))) = some (r1, r2) := h
  clear h
  replace H := Option.bind_eq_some_iff.mp H
  obtain ⟨t115, A40, H⟩ := H
  replace H : (if t115 = true then ((civil_first.f a0 a1).bind fun t116 => (some (wrap64 ((wrap64 ((wrap64 ((wrap64 ((wrap64 ((wrap64 ((wrap64 ((wrap64 (365 * (wrap64 (a0 - 1)))) + (wrap64 (Int.tdiv (wrap64 (a0 - 1)) 4)))) - (wrap64 (Int.tdiv (wrap64 (a0 - 1)) 100)))) + (wrap64 (Int.tdiv (wrap64 (a0 - 1)) 400)))) - 730485)) + t116)) + a2)) - 1), 0))) else (some (0, 10))) = some (r1, r2) := H
  have A4 := Aside0.mk A40
  clear A40
  by_cases c5 : t115 = true
  · subst c5
    have H1 : ((civil_first.f a0 a1).bind fun t116 => (some (wrap64 ((wrap64 ((wrap64 ((wrap64 ((wrap64 ((wrap64 ((wrap64 ((wrap64 (365 * (wrap64 (a0 - 1)))) + (wrap64 (Int.tdiv (wrap64 (a0 - 1)) 4)))) - (wrap64 (Int.tdiv (wrap64 (a0 - 1)) 100)))) + (wrap64 (Int.tdiv (wrap64 (a0 - 1)) 400)))) - 730485)) + t116)) + a2)) - 1), 0))) = some (r1, r2) := by rw [if_pos rfl] at H; exact H
    clear H
    have H := H1
    clear H1
    replace H := Option.bind_eq_some_iff.mp H
    obtain ⟨t116, A60, H⟩ := H
    replace H : (some (wrap64 ((wrap64 ((wrap64 ((wrap64 ((wrap64 ((wrap64 ((wrap64 ((wrap64 (365 * (wrap64 (a0 - 1)))) + (wrap64 (Int.tdiv (wrap64 (a0 - 1)) 4)))) - (wrap64 (Int.tdiv (wrap64 (a0 - 1)) 100)))) + (wrap64 (Int.tdiv (wrap64 (a0 - 1)) 400)))) - 730485)) + t116)) + a2)) - 1), 0)) = some (r1, r2) := H
    have A6 := Aside0.mk A60
    clear A60
    simp only [Option.some.injEq, Prod.mk.injEq] at H
    obtain ⟨rfl, rfl⟩ := H
    go_enter Tryd.func34, Tryd.ntmps34
    go_wp2_with (first | ((with_reducible refine gate_callee (f := 59) rfl ?_); refine goesL_ (some 12) rfl rfl Tryd.func59 (by kernel_rfl) rfl #[.int .i64 a0, .int .i64 a1, .int .i64 a2] rfl (by (try simp only [List.map_toArray, List.map_cons, List.map_nil]); first | done | rfl | (simp only [List.length_drop, List.length_take]; rfl)) ?_; (with_reducible refine (civil_dated.calls a0 a1 a2 true _ ?tabG A4.out).mono ?_); (case tabG => (first | exact hg | exact ⟨hg.out.drewN _⟩ | exact ⟨(hg.out.drewN _).drewN _⟩ | exact ⟨hg.out.drawn (by assumption)⟩)); rintro e w' ⟨rfl, ⟨nd, rfl⟩⟩; refine ⟨_, rfl, ?_⟩) | ((with_reducible refine gate_callee (f := 55) rfl ?_); refine goesL_ (some 30) rfl rfl Tryd.func55 (by kernel_rfl) rfl #[.int .i64 a0, .int .i64 a1] rfl (by (try simp only [List.map_toArray, List.map_cons, List.map_nil]); first | done | rfl | (simp only [List.length_drop, List.length_take]; rfl)) ?_; (with_reducible refine (civil_first.calls a0 a1 t116 _ ?tabG A6.out).mono ?_); (case tabG => (first | exact hg | exact ⟨hg.out.drewN _⟩ | exact ⟨(hg.out.drewN _).drewN _⟩ | exact ⟨hg.out.drawn (by assumption)⟩)); rintro e w' ⟨rfl, ⟨nd, rfl⟩⟩; refine ⟨_, rfl, ?_⟩))
    go_ret2
    exact ⟨by first | rfl | (simp; done) | (simp [*]; done) | (simp; exact (show ∀ a_ b_ : Bool, (a_ == b_) = (!(a_ != b_)) from by decide) _ _), by repeat (first | exact Drawn0.refl _ | apply Drawn0.step)⟩
  · replace c5 := Bool.eq_false_iff.mpr c5
    subst c5
    have H1 : (some (0, 10)) = some (r1, r2) := by rw [if_neg (show ¬ (false = true) by decide)] at H; exact H
    clear H
    have H := H1
    clear H1
    simp only [Option.some.injEq, Prod.mk.injEq] at H
    obtain ⟨rfl, rfl⟩ := H
    go_enter Tryd.func34, Tryd.ntmps34
    go_wp2_with (first | ((with_reducible refine gate_callee (f := 59) rfl ?_); refine goesL_ (some 12) rfl rfl Tryd.func59 (by kernel_rfl) rfl #[.int .i64 a0, .int .i64 a1, .int .i64 a2] rfl (by (try simp only [List.map_toArray, List.map_cons, List.map_nil]); first | done | rfl | (simp only [List.length_drop, List.length_take]; rfl)) ?_; (with_reducible refine (civil_dated.calls a0 a1 a2 false _ ?tabG A4.out).mono ?_); (case tabG => (first | exact hg | exact ⟨hg.out.drewN _⟩ | exact ⟨(hg.out.drewN _).drewN _⟩ | exact ⟨hg.out.drawn (by assumption)⟩)); rintro e w' ⟨rfl, ⟨nd, rfl⟩⟩; refine ⟨_, rfl, ?_⟩))
    go_ret2
    exact ⟨by first | rfl | (simp; done) | (simp [*]; done) | (simp; exact (show ∀ a_ b_ : Bool, (a_ == b_) = (!(a_ != b_)) from by decide) _ _), by repeat (first | exact Drawn0.refl _ | apply Drawn0.step)⟩

end Go.Proofs.YtehnhedifhpalaaDoor.Cp
