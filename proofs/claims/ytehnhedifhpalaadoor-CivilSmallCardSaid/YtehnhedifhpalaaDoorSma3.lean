/- CivilSmall: for every input (it has none) the law returns true; the package variable civil.ahead is as the program's text lays it: the given tie, no condition of this session's. (Joined by a program of this session, civpack.py: the kit's printed words, printed walks, the plain law, the row and its card.) -/
import Derived.Test.YtehnhedifhpalaaDoorSma2
set_option linter.unusedVariables false
set_option linter.unusedSimpArgs false
namespace Go.Proofs.YtehnhedifhpalaaDoor.Cp
open Go.RowKit Go.Proofs.YtehnhedifhpalaaDoorW.PrintWords Go.Proofs.YtehnhedifhpalaaDoorW.PrintLast Go.Proofs.YtehnhedifhpalaaDoorW.PrintMore
attribute [local go_sem] max2_int min2_int max_two min_two max_three min_three max_four min_four   -- for this text's walks alone
set_option linter.unusedVariables false
set_option linter.unusedSimpArgs false
def letterbagref01_works.l0 : Nat → Int → List Int → Int → Option (Bool)
 | 0, _, _, _ => none
 | k + 1, x0, x1, x5 => if x5 < (x1.length : Int) then (if 0 ≤ x5 then (if (rd x1 x5) = x0 then (some false) else (letterbagref01_works.l0 k x0 x1 (wrap64 (x5 + 1)))) else (none)) else (some (decide ((Int.tmod x0 7) < 5)))
def letterbagref01_works.f (k : Nat) (a0 : Int) (l1 : List Int) : Option (Bool) := letterbagref01_works.l0 k a0 l1 0
set_option maxHeartbeats 8000000 in
set_option maxRecDepth 100000 in
theorem letterbagref01_works.calls (k : Nat) (a0 : Int) (A1 : Option Addr) (c1 : Nat) (l1 : List Int) (r : Bool) (w : World) (hr1 : Kd.C (Kd.int .i64) w A1 l1.length l1) (hc1 : l1.length ≤ c1) (h : letterbagref01_works.f k a0 l1 = some r) :
  Calls Tryd.prog 69 #[.int .i64 a0, .slice A1 l1.length c1] w fun e w' => e = .returned (.bool r) ∧ Drawn0 w w' := by
 have HR1 := Aside0.mk hr1
 have HC1 := Aside0.mk hc1
 clear hr1 hc1
 have H : (letterbagref01_works.l0 k a0 l1 0) = some r := h
 clear h
 have H' := Aside0.mk H
 clear H
 go_enter Tryd.func69, Tryd.ntmps69
 go_wp2
 go_loopg [5] k (fun kq v5 w' => ∃ (x5_1 : Int), v5 = .int .i64 x5_1 ∧ Aside0 (letterbagref01_works.l0 kq a0 l1 x5_1 = some r) ∧ Aside0 (kq ≤ k) ∧ Drawn0 w w')
 case atStart => exact ⟨(0), (by first | rfl | (simp; done) | (simp [*]; done) | (simp; exact (show ∀ a_ b_ : Bool, (a_ == b_) = (!(a_ != b_)) from by decide) _ _) | (rw [Bool.eq_iff_iff]; simp; done) | (simp; rw [Bool.eq_iff_iff]; simp; done)), H', ⟨Nat.le_refl _⟩, by repeat (first | exact Drawn0.refl _ | apply Drawn0.step)⟩
 case round =>
  clear H'
  try clear c1
  try clear p2
  obtain ⟨x5_1, rfl, HA, HK1, ⟨m1, rfl⟩⟩ := hrel
  cases gk with
  | zero => exact absurd HA.out (by simp [letterbagref01_works.l0])
  | succ k1 =>
   have H := HA.out
   clear HA
   simp only [letterbagref01_works.l0] at H
   by_cases c3 : x5_1 < (l1.length : Int)
   ·rw [if_pos c3] at H
    have c3b0 : decide (x5_1 < (l1.length : Int)) = true := decide_eq_true c3
    clear c3
    by_cases c4 : 0 ≤ x5_1
    ·rw [if_pos c4] at H
     have c4b0 : decide (0 ≤ x5_1) = true := decide_eq_true c4
     clear c4
     by_cases c5 : (rd l1 x5_1) = a0
     ·rw [if_pos c5] at H
      have c5b0 : ((rd l1 x5_1) == a0) = true := beq_iff_eq.mpr c5
      have c5b1 : ((rd l1 x5_1) != a0) = false := bne_eq_false_iff_eq.mpr c5
      clear c5
      obtain rfl := Option.some.inj H
      have p305 : 0 ≤ (x5_1 : Int) := of_decide_eq_true (by first | (with_reducible assumption) | assumption)
      have q305 : x5_1 < (l1.length : Int) := of_decide_eq_true (by first | (with_reducible assumption) | assumption)
      obtain ⟨ad305, e305, hx305_0⟩ := Kd.at_int HR1.out x5_1 p305 q305
      cases e305
      replace p305 := eq_true p305
      replace q305 := eq_true q305
      go_wp2
      go_ret
      exact ⟨by first | rfl | (simp; done) | (simp [*]; done) | (simp; exact (show ∀ a_ b_ : Bool, (a_ == b_) = (!(a_ != b_)) from by decide) _ _), by repeat (first | exact Drawn0.refl _ | apply Drawn0.step)⟩
     ·rw [if_neg c5] at H
      have c5b0 : ((rd l1 x5_1) == a0) = false := beq_eq_false_iff_ne.mpr c5
      have c5b1 : ((rd l1 x5_1) != a0) = true := bne_iff_ne.mpr c5
      have H' := Aside0.mk H
      clear H
      have p305 : 0 ≤ (x5_1 : Int) := of_decide_eq_true (by first | (with_reducible assumption) | assumption)
      have q305 : x5_1 < (l1.length : Int) := of_decide_eq_true (by first | (with_reducible assumption) | assumption)
      obtain ⟨ad305, e305, hx305_0⟩ := Kd.at_int HR1.out x5_1 p305 q305
      cases e305
      replace p305 := eq_true p305
      replace q305 := eq_true q305
      go_wp2
      go_roundg k1
      case measure => have := HK1.out; omega
      case rel => exact ⟨(wrap64 (x5_1 + 1)), (by first | rfl | (simp; done) | (simp [*]; done) | (simp; exact (show ∀ a_ b_ : Bool, (a_ == b_) = (!(a_ != b_)) from by decide) _ _) | (rw [Bool.eq_iff_iff]; simp; done) | (simp; rw [Bool.eq_iff_iff]; simp; done)), H', ⟨by have := HK1.out; omega⟩, by repeat (first | exact Drawn0.refl _ | apply Drawn0.step)⟩
    ·rw [if_neg c4] at H
     exact absurd H (by simp)
   ·rw [if_neg c3] at H
    have c3b0 : decide (x5_1 < (l1.length : Int)) = false := decide_eq_false c3
    clear c3
    obtain rfl := Option.some.inj H
    go_wp2
    go_ret
    exact ⟨by first | rfl | (simp; done) | (simp [*]; done) | (simp; exact (show ∀ a_ b_ : Bool, (a_ == b_) = (!(a_ != b_)) from by decide) _ _), by repeat (first | exact Drawn0.refl _ | apply Drawn0.step)⟩
def letterbagref01_Works.f (k : Nat) (a0 : Int) (l1 : List Int) : Option (Bool × Int) := (letterbagref01_Right.f k l1).bind fun t306 => (if t306 = true then ((letterbagref01_within.f a0 730484).bind fun t307 => (if t307 = 0 then ((letterbagref01_works.f k a0 l1).bind fun t308 => (some (t308, 0))) else (some (false, t307)))) else (some (false, 2)))
set_option maxHeartbeats 8000000 in
set_option maxRecDepth 100000 in
theorem letterbagref01_Works.calls (k : Nat) (a0 : Int) (A1 : Option Addr) (c1 : Nat) (l1 : List Int) (r1 : Bool) (r2 : Int) (w : World) (hr1 : Kd.C (Kd.int .i64) w A1 l1.length l1) (hc1 : l1.length ≤ c1) (h : letterbagref01_Works.f k a0 l1 = some (r1, r2)) :
  Calls Tryd.prog 48 #[.int .i64 a0, .slice A1 l1.length c1] w fun e w' => e = .returned (.tuple #[.bool r1, .int .i64 r2]) ∧ Drawn0 w w' := by
 have HR1 := Aside0.mk hr1
 have HC1 := Aside0.mk hc1
 clear hr1 hc1
 have H : ((letterbagref01_Right.f k l1).bind fun t306 => (if t306 = true then ((letterbagref01_within.f a0 730484).bind fun t307 => (if t307 = 0 then ((letterbagref01_works.f k a0 l1).bind fun t308 => (some (t308, 0))) else (some (false, t307)))) else (some (false, 2)))) = some (r1, r2) := h
 clear h
 replace H := Option.bind_eq_some_iff.mp H
 obtain ⟨t306, A30, H⟩ := H
 replace H : (if t306 = true then ((letterbagref01_within.f a0 730484).bind fun t307 => (if t307 = 0 then ((letterbagref01_works.f k a0 l1).bind fun t308 => (some (t308, 0))) else (some (false, t307)))) else (some (false, 2))) = some (r1, r2) := H
 have A3 := Aside0.mk A30
 clear A30
 by_cases c4 : t306 = true
 ·subst c4
  have H1 : ((letterbagref01_within.f a0 730484).bind fun t307 => (if t307 = 0 then ((letterbagref01_works.f k a0 l1).bind fun t308 => (some (t308, 0))) else (some (false, t307)))) = some (r1, r2) := by rw [if_pos rfl] at H; exact H
  clear H
  have H := H1
  clear H1
  replace H := Option.bind_eq_some_iff.mp H
  obtain ⟨t307, A50, H⟩ := H
  replace H : (if t307 = 0 then ((letterbagref01_works.f k a0 l1).bind fun t308 => (some (t308, 0))) else (some (false, t307))) = some (r1, r2) := H
  have A5 := Aside0.mk A50
  clear A50
  by_cases c6 : t307 = 0
  ·rw [if_pos c6] at H
   have c6b0 : (t307 == 0) = true := beq_iff_eq.mpr c6
   have c6b1 : (t307 != 0) = false := bne_eq_false_iff_eq.mpr c6
   clear c6
   replace H := Option.bind_eq_some_iff.mp H
   obtain ⟨t308, A70, H⟩ := H
   replace H : (some (t308, 0)) = some (r1, r2) := H
   have A7 := Aside0.mk A70
   clear A70
   simp only [Option.some.injEq, Prod.mk.injEq] at H
   obtain ⟨rfl, rfl⟩ := H
   go_enter Tryd.func48, Tryd.ntmps48
   go_wp2_with (first | ((with_reducible refine gate_callee (f := 49) rfl ?_); refine goesL_ (some 8) rfl rfl Tryd.func49 (by kernel_rfl) rfl #[.slice A1 l1.length c1] rfl (by (try simp only [List.map_toArray, List.map_cons, List.map_nil]); first | done | rfl | (simp only [List.length_drop, List.length_take]; rfl)) ?_; (with_reducible refine (letterbagref01_Right.calls k _ _ l1 true _ ?side1 ?side2 A3.out).mono ?_); (case side1 => repeat (first | exact HR1.out | (with_reducible refine Kd.C_alloc ?_ _) | (with_reducible refine Kd.C_drewN ?_ _) | (with_reducible refine Kd.C_drew ?_))); (case side2 => exact HC1.out); rintro e w' ⟨rfl, ⟨nd, rfl⟩⟩; refine ⟨_, rfl, ?_⟩) | ((with_reducible refine gate_callee (f := 64) rfl ?_); refine goesL_ (some 11) rfl rfl Tryd.func64 (by kernel_rfl) rfl #[.int .i64 a0, .int .i64 730484] rfl (by (try simp only [List.map_toArray, List.map_cons, List.map_nil]); first | done | rfl | (simp only [List.length_drop, List.length_take]; rfl)) ?_; (with_reducible refine (letterbagref01_within.calls a0 730484 t307 _ A5.out).mono ?_); rintro e w' ⟨rfl, ⟨nd, rfl⟩⟩; refine ⟨_, rfl, ?_⟩) | ((with_reducible refine gate_callee (f := 69) rfl ?_); refine goesL_ (some 17) rfl rfl Tryd.func69 (by kernel_rfl) rfl #[.int .i64 a0, .slice A1 l1.length c1] rfl (by (try simp only [List.map_toArray, List.map_cons, List.map_nil]); first | done | rfl | (simp only [List.length_drop, List.length_take]; rfl)) ?_; (with_reducible refine (letterbagref01_works.calls k a0 _ _ l1 t308 _ ?side1 ?side2 A7.out).mono ?_); (case side1 => repeat (first | exact HR1.out | (with_reducible refine Kd.C_alloc ?_ _) | (with_reducible refine Kd.C_drewN ?_ _) | (with_reducible refine Kd.C_drew ?_))); (case side2 => exact HC1.out); rintro e w' ⟨rfl, ⟨nd, rfl⟩⟩; refine ⟨_, rfl, ?_⟩))
   go_ret2
   exact ⟨by first | rfl | (simp; done) | (simp [*]; done) | (simp; exact (show ∀ a_ b_ : Bool, (a_ == b_) = (!(a_ != b_)) from by decide) _ _), by repeat (first | exact Drawn0.refl _ | apply Drawn0.step)⟩
  ·rw [if_neg c6] at H
   have c6b0 : (t307 == 0) = false := beq_eq_false_iff_ne.mpr c6
   have c6b1 : (t307 != 0) = true := bne_iff_ne.mpr c6
   simp only [Option.some.injEq, Prod.mk.injEq] at H
   obtain ⟨rfl, rfl⟩ := H
   go_enter Tryd.func48, Tryd.ntmps48
   go_wp2_with (first | ((with_reducible refine gate_callee (f := 49) rfl ?_); refine goesL_ (some 8) rfl rfl Tryd.func49 (by kernel_rfl) rfl #[.slice A1 l1.length c1] rfl (by (try simp only [List.map_toArray, List.map_cons, List.map_nil]); first | done | rfl | (simp only [List.length_drop, List.length_take]; rfl)) ?_; (with_reducible refine (letterbagref01_Right.calls k _ _ l1 true _ ?side1 ?side2 A3.out).mono ?_); (case side1 => repeat (first | exact HR1.out | (with_reducible refine Kd.C_alloc ?_ _) | (with_reducible refine Kd.C_drewN ?_ _) | (with_reducible refine Kd.C_drew ?_))); (case side2 => exact HC1.out); rintro e w' ⟨rfl, ⟨nd, rfl⟩⟩; refine ⟨_, rfl, ?_⟩) | ((with_reducible refine gate_callee (f := 64) rfl ?_); refine goesL_ (some 11) rfl rfl Tryd.func64 (by kernel_rfl) rfl #[.int .i64 a0, .int .i64 730484] rfl (by (try simp only [List.map_toArray, List.map_cons, List.map_nil]); first | done | rfl | (simp only [List.length_drop, List.length_take]; rfl)) ?_; (with_reducible refine (letterbagref01_within.calls a0 730484 t307 _ A5.out).mono ?_); rintro e w' ⟨rfl, ⟨nd, rfl⟩⟩; refine ⟨_, rfl, ?_⟩))
   go_ret2
   exact ⟨by first | rfl | (simp; done) | (simp [*]; done) | (simp; exact (show ∀ a_ b_ : Bool, (a_ == b_) = (!(a_ != b_)) from by decide) _ _), by repeat (first | exact Drawn0.refl _ | apply Drawn0.step)⟩
 ·replace c4 := Bool.eq_false_iff.mpr c4
  subst c4
  have H1 : (some (false, 2)) = some (r1, r2) := by rw [if_neg (show ¬ (false = true) by decide)] at H; exact H
  clear H
  have H := H1
  clear H1
  simp only [Option.some.injEq, Prod.mk.injEq] at H
  obtain ⟨rfl, rfl⟩ := H
  go_enter Tryd.func48, Tryd.ntmps48
  go_wp2_with (first | ((with_reducible refine gate_callee (f := 49) rfl ?_); refine goesL_ (some 8) rfl rfl Tryd.func49 (by kernel_rfl) rfl #[.slice A1 l1.length c1] rfl (by (try simp only [List.map_toArray, List.map_cons, List.map_nil]); first | done | rfl | (simp only [List.length_drop, List.length_take]; rfl)) ?_; (with_reducible refine (letterbagref01_Right.calls k _ _ l1 false _ ?side1 ?side2 A3.out).mono ?_); (case side1 => repeat (first | exact HR1.out | (with_reducible refine Kd.C_alloc ?_ _) | (with_reducible refine Kd.C_drewN ?_ _) | (with_reducible refine Kd.C_drew ?_))); (case side2 => exact HC1.out); rintro e w' ⟨rfl, ⟨nd, rfl⟩⟩; refine ⟨_, rfl, ?_⟩))
  go_ret2
  exact ⟨by first | rfl | (simp; done) | (simp [*]; done) | (simp; exact (show ∀ a_ b_ : Bool, (a_ == b_) = (!(a_ != b_)) from by decide) _ _), by repeat (first | exact Drawn0.refl _ | apply Drawn0.step)⟩
mutual
def letterbagref01_Between.j0 : Nat → Int → Int → List Int → Bool → Option (Int × Int)
 | 0, _, _, _, _ => none
 | k + 1, x0, x1, x2, x21 => if x21 = true then (some (0, 2)) else (if x1 > 730484 then (some (0, 3)) else (letterbagref01_Between.l0 k x1 x2 0 x0))
def letterbagref01_Between.l0 : Nat → Int → List Int → Int → Int → Option (Int × Int)
 | 0, _, _, _, _ => none
 | k + 1, x1, x2, x8, x9 => if x9 < x1 then ((letterbagref01_works.f k x9 x2).bind fun t310 => (if t310 = true then (letterbagref01_Between.l0 k x1 x2 (wrap64 (x8 + 1)) (wrap64 (x9 + 1))) else (letterbagref01_Between.l0 k x1 x2 x8 (wrap64 (x9 + 1))))) else (some (x8, 0))
end
def letterbagref01_Between.f (k : Nat) (a0 : Int) (a1 : Int) (l2 : List Int) : Option (Int × Int) := (letterbagref01_Right.f k l2).bind fun t309 => (if t309 = true then (if a0 < 0 then (letterbagref01_Between.j0 k a0 a1 l2 true) else (letterbagref01_Between.j0 k a0 a1 l2 (decide (a1 < a0)))) else (letterbagref01_Between.j0 k a0 a1 l2 true))
set_option maxHeartbeats 8000000 in
set_option maxRecDepth 100000 in
theorem letterbagref01_Between.calls (k : Nat) (a0 : Int) (a1 : Int) (A2 : Option Addr) (c2 : Nat) (l2 : List Int) (r1 : Int) (r2 : Int) (w : World) (hr2 : Kd.C (Kd.int .i64) w A2 l2.length l2) (hc2 : l2.length ≤ c2) (h : letterbagref01_Between.f k a0 a1 l2 = some (r1, r2)) :
  Calls Tryd.prog 50 #[.int .i64 a0, .int .i64 a1, .slice A2 l2.length c2] w fun e w' => e = .returned (.tuple #[.int .i64 r1, .int .i64 r2]) ∧ Drawn0 w w' := by
 have HR2 := Aside0.mk hr2
 have HC2 := Aside0.mk hc2
 clear hr2 hc2
 have H : ((letterbagref01_Right.f k l2).bind fun t309 => (if t309 = true then (if a0 < 0 then (letterbagref01_Between.j0 k a0 a1 l2 true) else (letterbagref01_Between.j0 k a0 a1 l2 (decide (a1 < a0)))) else (letterbagref01_Between.j0 k a0 a1 l2 true))) = some (r1, r2) := h
 clear h
 have HC4 := Aside0.mk H
 clear H
 go_enter Tryd.func50, Tryd.ntmps50
 go_upto_region 1 with (fail)
 go_cut [21] (fun v21 wc => ∃ (kq : Nat) (x21_3 : Bool), v21 = .bool x21_3 ∧ Aside0 (letterbagref01_Between.j0 kq a0 a1 l2 x21_3 = some (r1, r2)) ∧ Aside0 (kq ≤ k) ∧ Drawn0 w wc)
 case first =>
  have H := HC4.out
  clear HC4
  replace H := Option.bind_eq_some_iff.mp H
  obtain ⟨t309, A50, H⟩ := H
  replace H : (if t309 = true then (if a0 < 0 then (letterbagref01_Between.j0 k a0 a1 l2 true) else (letterbagref01_Between.j0 k a0 a1 l2 (decide (a1 < a0)))) else (letterbagref01_Between.j0 k a0 a1 l2 true)) = some (r1, r2) := H
  have A5 := Aside0.mk A50
  clear A50
  by_cases c6 : t309 = true
  ·subst c6
   have H1 : (if a0 < 0 then (letterbagref01_Between.j0 k a0 a1 l2 true) else (letterbagref01_Between.j0 k a0 a1 l2 (decide (a1 < a0)))) = some (r1, r2) := by rw [if_pos rfl] at H; exact H
   clear H
   have H := H1
   clear H1
   by_cases c7 : a0 < 0
   ·rw [if_pos c7] at H
    have c7b0 : decide (a0 < 0) = true := decide_eq_true c7
    clear c7
    (first | rw [c7b0] | (simp only [i64_w, i32_w]; rw [c7b0]) | skip)
    have H' := Aside0.mk H
    clear H
    go_wp2_with (first | ((with_reducible refine gate_callee (f := 49) rfl ?_); refine goesL_ (some 11) rfl rfl Tryd.func49 (by kernel_rfl) rfl #[.slice A2 l2.length c2] rfl (by (try simp only [List.map_toArray, List.map_cons, List.map_nil]); first | done | rfl | (simp only [List.length_drop, List.length_take]; rfl)) ?_; (with_reducible refine (letterbagref01_Right.calls k _ _ l2 true _ ?side1 ?side2 A5.out).mono ?_); (case side1 => repeat (first | exact HR2.out | (with_reducible refine Kd.C_alloc ?_ _) | (with_reducible refine Kd.C_drewN ?_ _) | (with_reducible refine Kd.C_drew ?_))); (case side2 => exact HC2.out); rintro e w' ⟨rfl, ⟨nd, rfl⟩⟩; refine ⟨_, rfl, ?_⟩))
    go_meet
    case rel => exact ⟨_, (true), (by first | rfl | (simp; done) | (simp [*]; done) | (simp; exact (show ∀ a_ b_ : Bool, (a_ == b_) = (!(a_ != b_)) from by decide) _ _) | (rw [Bool.eq_iff_iff]; simp; done) | (simp; rw [Bool.eq_iff_iff]; simp; done)), H', ⟨by first | omega | exact Nat.le_refl _⟩, by repeat (first | exact Drawn0.refl _ | apply Drawn0.step)⟩
   ·rw [if_neg c7] at H
    have c7b0 : decide (a0 < 0) = false := decide_eq_false c7
    clear c7
    (first | rw [c7b0] | (simp only [i64_w, i32_w]; rw [c7b0]) | skip)
    have H' := Aside0.mk H
    clear H
    go_wp2_with (first | ((with_reducible refine gate_callee (f := 49) rfl ?_); refine goesL_ (some 11) rfl rfl Tryd.func49 (by kernel_rfl) rfl #[.slice A2 l2.length c2] rfl (by (try simp only [List.map_toArray, List.map_cons, List.map_nil]); first | done | rfl | (simp only [List.length_drop, List.length_take]; rfl)) ?_; (with_reducible refine (letterbagref01_Right.calls k _ _ l2 true _ ?side1 ?side2 A5.out).mono ?_); (case side1 => repeat (first | exact HR2.out | (with_reducible refine Kd.C_alloc ?_ _) | (with_reducible refine Kd.C_drewN ?_ _) | (with_reducible refine Kd.C_drew ?_))); (case side2 => exact HC2.out); rintro e w' ⟨rfl, ⟨nd, rfl⟩⟩; refine ⟨_, rfl, ?_⟩))
    go_meet
    case rel => exact ⟨_, (decide (a1 < a0)), (by first | rfl | (simp; done) | (simp [*]; done) | (simp; exact (show ∀ a_ b_ : Bool, (a_ == b_) = (!(a_ != b_)) from by decide) _ _) | (rw [Bool.eq_iff_iff]; simp; done) | (simp; rw [Bool.eq_iff_iff]; simp; done)), H', ⟨by first | omega | exact Nat.le_refl _⟩, by repeat (first | exact Drawn0.refl _ | apply Drawn0.step)⟩
  ·replace c6 := Bool.eq_false_iff.mpr c6
   subst c6
   have H1 : (letterbagref01_Between.j0 k a0 a1 l2 true) = some (r1, r2) := by rw [if_neg (show ¬ (false = true) by decide)] at H; exact H
   clear H
   have H := H1
   clear H1
   have H' := Aside0.mk H
   clear H
   go_wp2_with (first | ((with_reducible refine gate_callee (f := 49) rfl ?_); refine goesL_ (some 11) rfl rfl Tryd.func49 (by kernel_rfl) rfl #[.slice A2 l2.length c2] rfl (by (try simp only [List.map_toArray, List.map_cons, List.map_nil]); first | done | rfl | (simp only [List.length_drop, List.length_take]; rfl)) ?_; (with_reducible refine (letterbagref01_Right.calls k _ _ l2 false _ ?side1 ?side2 A5.out).mono ?_); (case side1 => repeat (first | exact HR2.out | (with_reducible refine Kd.C_alloc ?_ _) | (with_reducible refine Kd.C_drewN ?_ _) | (with_reducible refine Kd.C_drew ?_))); (case side2 => exact HC2.out); rintro e w' ⟨rfl, ⟨nd, rfl⟩⟩; refine ⟨_, rfl, ?_⟩))
   go_meet
   case rel => exact ⟨_, (true), (by first | rfl | (simp; done) | (simp [*]; done) | (simp; exact (show ∀ a_ b_ : Bool, (a_ == b_) = (!(a_ != b_)) from by decide) _ _) | (rw [Bool.eq_iff_iff]; simp; done) | (simp; rw [Bool.eq_iff_iff]; simp; done)), H', ⟨by first | omega | exact Nat.le_refl _⟩, by repeat (first | exact Drawn0.refl _ | apply Drawn0.step)⟩
 case rest =>
  clear HC4
  try clear c2
  try clear p2
  try clear c4
  try clear c5
  try clear c6
  try clear c7
  try clear c7b0
  obtain ⟨kq, x21_3, rfl, HA, HJ3, ⟨mc3, rfl⟩⟩ := hcut
  cases kq with
  | zero => exact absurd HA.out (by simp [letterbagref01_Between.j0])
  | succ kj3 =>
   have H := HA.out
   clear HA
   simp only [letterbagref01_Between.j0] at H
   by_cases c8 : x21_3 = true
   ·subst c8
    have H1 : (some (0, 2)) = some (r1, r2) := by rw [if_pos rfl] at H; exact H
    clear H
    have H := H1
    clear H1
    simp only [Option.some.injEq, Prod.mk.injEq] at H
    obtain ⟨rfl, rfl⟩ := H
    go_wp2
    go_ret2
    exact ⟨by first | rfl | (simp; done) | (simp [*]; done) | (simp; exact (show ∀ a_ b_ : Bool, (a_ == b_) = (!(a_ != b_)) from by decide) _ _), by repeat (first | exact Drawn0.refl _ | apply Drawn0.step)⟩
   ·replace c8 := Bool.eq_false_iff.mpr c8
    subst c8
    have H1 : (if a1 > 730484 then (some (0, 3)) else (letterbagref01_Between.l0 kj3 a1 l2 0 a0)) = some (r1, r2) := by rw [if_neg (show ¬ (false = true) by decide)] at H; exact H
    clear H
    have H := H1
    clear H1
    by_cases c9 : a1 > 730484
    ·rw [if_pos c9] at H
     have c9b0 : decide (730484 < a1) = true := decide_eq_true c9
     clear c9
     simp only [Option.some.injEq, Prod.mk.injEq] at H
     obtain ⟨rfl, rfl⟩ := H
     go_wp2
     go_ret2
     exact ⟨by first | rfl | (simp; done) | (simp [*]; done) | (simp; exact (show ∀ a_ b_ : Bool, (a_ == b_) = (!(a_ != b_)) from by decide) _ _), by repeat (first | exact Drawn0.refl _ | apply Drawn0.step)⟩
    ·rw [if_neg c9] at H
     have c9b0 : decide (730484 < a1) = false := decide_eq_false c9
     clear c9
     have H' := Aside0.mk H
     clear H
     go_wp2
     go_loopg [8, 9] kj3 (fun kq v8 v9 w' => ∃ (x8_2 : Int) (x9_2 : Int), v8 = .int .i64 x8_2 ∧ v9 = .int .i64 x9_2 ∧ Aside0 (letterbagref01_Between.l0 kq a1 l2 x8_2 x9_2 = some (r1, r2)) ∧ Aside0 (kq ≤ kj3) ∧ Drawn0 w w')
     case atStart => exact ⟨(0), (a0), (by first | rfl | (simp; done) | (simp [*]; done) | (simp; exact (show ∀ a_ b_ : Bool, (a_ == b_) = (!(a_ != b_)) from by decide) _ _) | (rw [Bool.eq_iff_iff]; simp; done) | (simp; rw [Bool.eq_iff_iff]; simp; done)), (by first | rfl | (simp; done) | (simp [*]; done) | (simp; exact (show ∀ a_ b_ : Bool, (a_ == b_) = (!(a_ != b_)) from by decide) _ _) | (rw [Bool.eq_iff_iff]; simp; done) | (simp; rw [Bool.eq_iff_iff]; simp; done)), H', ⟨Nat.le_refl _⟩, by repeat (first | exact Drawn0.refl _ | apply Drawn0.step)⟩
     case round =>
      clear H'
      try clear c2
      try clear p2
      try clear c3
      try clear c4
      try clear c5
      try clear c6
      try clear c7
      try clear c7b0
      try clear c8
      try clear c9
      try clear c9b0
      try clear p2
      obtain ⟨x8_2, x9_2, rfl, rfl, HA, HK2, ⟨m2, rfl⟩⟩ := hrel
      cases gk with
      | zero => exact absurd HA.out (by simp [letterbagref01_Between.l0])
      | succ k2 =>
       have H := HA.out
       clear HA
       simp only [letterbagref01_Between.l0] at H
       by_cases c10 : x9_2 < a1
       ·rw [if_pos c10] at H
        have c10b0 : decide (x9_2 < a1) = true := decide_eq_true c10
        clear c10
        replace H := Option.bind_eq_some_iff.mp H
        obtain ⟨t310, A110, H⟩ := H
        replace H : (if t310 = true then (letterbagref01_Between.l0 k2 a1 l2 (wrap64 (x8_2 + 1)) (wrap64 (x9_2 + 1))) else (letterbagref01_Between.l0 k2 a1 l2 x8_2 (wrap64 (x9_2 + 1)))) = some (r1, r2) := H
        have A11 := Aside0.mk A110
        clear A110
        by_cases c12 : t310 = true
        ·subst c12
         have H1 : (letterbagref01_Between.l0 k2 a1 l2 (wrap64 (x8_2 + 1)) (wrap64 (x9_2 + 1))) = some (r1, r2) := by rw [if_pos rfl] at H; exact H
         clear H
         have H := H1
         clear H1
         have H' := Aside0.mk H
         clear H
         go_wp2_with (first | ((with_reducible refine gate_callee (f := 69) rfl ?_); refine goesL_ (some 32) rfl rfl Tryd.func69 (by kernel_rfl) rfl #[.int .i64 x9_2, .slice A2 l2.length c2] rfl (by (try simp only [List.map_toArray, List.map_cons, List.map_nil]); first | done | rfl | (simp only [List.length_drop, List.length_take]; rfl)) ?_; (with_reducible refine (letterbagref01_works.calls k2 x9_2 _ _ l2 true _ ?side1 ?side2 A11.out).mono ?_); (case side1 => repeat (first | exact HR2.out | (with_reducible refine Kd.C_alloc ?_ _) | (with_reducible refine Kd.C_drewN ?_ _) | (with_reducible refine Kd.C_drew ?_))); (case side2 => exact HC2.out); rintro e w' ⟨rfl, ⟨nd, rfl⟩⟩; refine ⟨_, rfl, ?_⟩))
         go_roundg k2
         case measure => have := HJ3.out; have := HK2.out; omega
         case rel => exact ⟨(wrap64 (x8_2 + 1)), (wrap64 (x9_2 + 1)), (by first | rfl | (simp; done) | (simp [*]; done) | (simp; exact (show ∀ a_ b_ : Bool, (a_ == b_) = (!(a_ != b_)) from by decide) _ _) | (rw [Bool.eq_iff_iff]; simp; done) | (simp; rw [Bool.eq_iff_iff]; simp; done)), (by first | rfl | (simp; done) | (simp [*]; done) | (simp; exact (show ∀ a_ b_ : Bool, (a_ == b_) = (!(a_ != b_)) from by decide) _ _) | (rw [Bool.eq_iff_iff]; simp; done) | (simp; rw [Bool.eq_iff_iff]; simp; done)), H', ⟨by have := HJ3.out; have := HK2.out; omega⟩, by repeat (first | exact Drawn0.refl _ | apply Drawn0.step)⟩
        ·replace c12 := Bool.eq_false_iff.mpr c12
         subst c12
         have H1 : (letterbagref01_Between.l0 k2 a1 l2 x8_2 (wrap64 (x9_2 + 1))) = some (r1, r2) := by rw [if_neg (show ¬ (false = true) by decide)] at H; exact H
         clear H
         have H := H1
         clear H1
         have H' := Aside0.mk H
         clear H
         go_wp2_with (first | ((with_reducible refine gate_callee (f := 69) rfl ?_); refine goesL_ (some 32) rfl rfl Tryd.func69 (by kernel_rfl) rfl #[.int .i64 x9_2, .slice A2 l2.length c2] rfl (by (try simp only [List.map_toArray, List.map_cons, List.map_nil]); first | done | rfl | (simp only [List.length_drop, List.length_take]; rfl)) ?_; (with_reducible refine (letterbagref01_works.calls k2 x9_2 _ _ l2 false _ ?side1 ?side2 A11.out).mono ?_); (case side1 => repeat (first | exact HR2.out | (with_reducible refine Kd.C_alloc ?_ _) | (with_reducible refine Kd.C_drewN ?_ _) | (with_reducible refine Kd.C_drew ?_))); (case side2 => exact HC2.out); rintro e w' ⟨rfl, ⟨nd, rfl⟩⟩; refine ⟨_, rfl, ?_⟩))
         go_roundg k2
         case measure => have := HJ3.out; have := HK2.out; omega
         case rel => exact ⟨(x8_2), (wrap64 (x9_2 + 1)), (by first | rfl | (simp; done) | (simp [*]; done) | (simp; exact (show ∀ a_ b_ : Bool, (a_ == b_) = (!(a_ != b_)) from by decide) _ _) | (rw [Bool.eq_iff_iff]; simp; done) | (simp; rw [Bool.eq_iff_iff]; simp; done)), (by first | rfl | (simp; done) | (simp [*]; done) | (simp; exact (show ∀ a_ b_ : Bool, (a_ == b_) = (!(a_ != b_)) from by decide) _ _) | (rw [Bool.eq_iff_iff]; simp; done) | (simp; rw [Bool.eq_iff_iff]; simp; done)), H', ⟨by have := HJ3.out; have := HK2.out; omega⟩, by repeat (first | exact Drawn0.refl _ | apply Drawn0.step)⟩
       ·rw [if_neg c10] at H
        have c10b0 : decide (x9_2 < a1) = false := decide_eq_false c10
        clear c10
        simp only [Option.some.injEq, Prod.mk.injEq] at H
        obtain ⟨rfl, rfl⟩ := H
        go_wp2
        go_ret2
        exact ⟨by first | rfl | (simp; done) | (simp [*]; done) | (simp; exact (show ∀ a_ b_ : Bool, (a_ == b_) = (!(a_ != b_)) from by decide) _ _), by repeat (first | exact Drawn0.refl _ | apply Drawn0.step)⟩
mutual
def letterbagref01_Ahead.j0 : Nat → Int → Int → List Int → Bool → Option (Int × Int)
 | 0, _, _, _, _ => none
 | k + 1, x0, x1, x2, x19 => if x19 = true then (some (0, 2)) else (letterbagref01_Ahead.l0 k x1 x2 x0)
def letterbagref01_Ahead.l0 : Nat → Int → List Int → Int → Option (Int × Int)
 | 0, _, _, _ => none
 | k + 1, x1, x2, x8 => if x8 ≤ 730484 then ((letterbagref01_works.f k x8 x2).bind fun t312 => (if t312 = true then (if x1 = 0 then (some (x8, 0)) else (letterbagref01_Ahead.l0 k (wrap64 (x1 - 1)) x2 (wrap64 (x8 + 1)))) else (letterbagref01_Ahead.l0 k x1 x2 (wrap64 (x8 + 1))))) else (some (0, 3))
end
def letterbagref01_Ahead.f (k : Nat) (a0 : Int) (a1 : Int) (l2 : List Int) : Option (Int × Int) := (letterbagref01_Right.f k l2).bind fun t311 => (if t311 = true then (if a0 < 0 then (letterbagref01_Ahead.j0 k a0 a1 l2 true) else (letterbagref01_Ahead.j0 k a0 a1 l2 (decide (a1 < 0)))) else (letterbagref01_Ahead.j0 k a0 a1 l2 true))
set_option maxHeartbeats 8000000 in
set_option maxRecDepth 100000 in
theorem letterbagref01_Ahead.calls (k : Nat) (a0 : Int) (a1 : Int) (A2 : Option Addr) (c2 : Nat) (l2 : List Int) (r1 : Int) (r2 : Int) (w : World) (hr2 : Kd.C (Kd.int .i64) w A2 l2.length l2) (hc2 : l2.length ≤ c2) (h : letterbagref01_Ahead.f k a0 a1 l2 = some (r1, r2)) :
  Calls Tryd.prog 51 #[.int .i64 a0, .int .i64 a1, .slice A2 l2.length c2] w fun e w' => e = .returned (.tuple #[.int .i64 r1, .int .i64 r2]) ∧ Drawn0 w w' := by
 have HR2 := Aside0.mk hr2
 have HC2 := Aside0.mk hc2
 clear hr2 hc2
 have H : ((letterbagref01_Right.f k l2).bind fun t311 => (if t311 = true then (if a0 < 0 then (letterbagref01_Ahead.j0 k a0 a1 l2 true) else (letterbagref01_Ahead.j0 k a0 a1 l2 (decide (a1 < 0)))) else (letterbagref01_Ahead.j0 k a0 a1 l2 true))) = some (r1, r2) := h
 clear h
 have HC4 := Aside0.mk H
 clear H
 go_enter Tryd.func51, Tryd.ntmps51
 go_upto_region 1 with (fail)
 go_cut [19] (fun v19 wc => ∃ (kq : Nat) (x19_3 : Bool), v19 = .bool x19_3 ∧ Aside0 (letterbagref01_Ahead.j0 kq a0 a1 l2 x19_3 = some (r1, r2)) ∧ Aside0 (kq ≤ k) ∧ Drawn0 w wc)
 case first =>
  have H := HC4.out
  clear HC4
  replace H := Option.bind_eq_some_iff.mp H
  obtain ⟨t311, A50, H⟩ := H
  replace H : (if t311 = true then (if a0 < 0 then (letterbagref01_Ahead.j0 k a0 a1 l2 true) else (letterbagref01_Ahead.j0 k a0 a1 l2 (decide (a1 < 0)))) else (letterbagref01_Ahead.j0 k a0 a1 l2 true)) = some (r1, r2) := H
  have A5 := Aside0.mk A50
  clear A50
  by_cases c6 : t311 = true
  ·subst c6
   have H1 : (if a0 < 0 then (letterbagref01_Ahead.j0 k a0 a1 l2 true) else (letterbagref01_Ahead.j0 k a0 a1 l2 (decide (a1 < 0)))) = some (r1, r2) := by rw [if_pos rfl] at H; exact H
   clear H
   have H := H1
   clear H1
   by_cases c7 : a0 < 0
   ·rw [if_pos c7] at H
    have c7b0 : decide (a0 < 0) = true := decide_eq_true c7
    clear c7
    (first | rw [c7b0] | (simp only [i64_w, i32_w]; rw [c7b0]) | skip)
    have H' := Aside0.mk H
    clear H
    go_wp2_with (first | ((with_reducible refine gate_callee (f := 49) rfl ?_); refine goesL_ (some 10) rfl rfl Tryd.func49 (by kernel_rfl) rfl #[.slice A2 l2.length c2] rfl (by (try simp only [List.map_toArray, List.map_cons, List.map_nil]); first | done | rfl | (simp only [List.length_drop, List.length_take]; rfl)) ?_; (with_reducible refine (letterbagref01_Right.calls k _ _ l2 true _ ?side1 ?side2 A5.out).mono ?_); (case side1 => repeat (first | exact HR2.out | (with_reducible refine Kd.C_alloc ?_ _) | (with_reducible refine Kd.C_drewN ?_ _) | (with_reducible refine Kd.C_drew ?_))); (case side2 => exact HC2.out); rintro e w' ⟨rfl, ⟨nd, rfl⟩⟩; refine ⟨_, rfl, ?_⟩))
    go_meet
    case rel => exact ⟨_, (true), (by first | rfl | (simp; done) | (simp [*]; done) | (simp; exact (show ∀ a_ b_ : Bool, (a_ == b_) = (!(a_ != b_)) from by decide) _ _) | (rw [Bool.eq_iff_iff]; simp; done) | (simp; rw [Bool.eq_iff_iff]; simp; done)), H', ⟨by first | omega | exact Nat.le_refl _⟩, by repeat (first | exact Drawn0.refl _ | apply Drawn0.step)⟩
   ·rw [if_neg c7] at H
    have c7b0 : decide (a0 < 0) = false := decide_eq_false c7
    clear c7
    (first | rw [c7b0] | (simp only [i64_w, i32_w]; rw [c7b0]) | skip)
    have H' := Aside0.mk H
    clear H
    go_wp2_with (first | ((with_reducible refine gate_callee (f := 49) rfl ?_); refine goesL_ (some 10) rfl rfl Tryd.func49 (by kernel_rfl) rfl #[.slice A2 l2.length c2] rfl (by (try simp only [List.map_toArray, List.map_cons, List.map_nil]); first | done | rfl | (simp only [List.length_drop, List.length_take]; rfl)) ?_; (with_reducible refine (letterbagref01_Right.calls k _ _ l2 true _ ?side1 ?side2 A5.out).mono ?_); (case side1 => repeat (first | exact HR2.out | (with_reducible refine Kd.C_alloc ?_ _) | (with_reducible refine Kd.C_drewN ?_ _) | (with_reducible refine Kd.C_drew ?_))); (case side2 => exact HC2.out); rintro e w' ⟨rfl, ⟨nd, rfl⟩⟩; refine ⟨_, rfl, ?_⟩))
    go_meet
    case rel => exact ⟨_, (decide (a1 < 0)), (by first | rfl | (simp; done) | (simp [*]; done) | (simp; exact (show ∀ a_ b_ : Bool, (a_ == b_) = (!(a_ != b_)) from by decide) _ _) | (rw [Bool.eq_iff_iff]; simp; done) | (simp; rw [Bool.eq_iff_iff]; simp; done)), H', ⟨by first | omega | exact Nat.le_refl _⟩, by repeat (first | exact Drawn0.refl _ | apply Drawn0.step)⟩
  ·replace c6 := Bool.eq_false_iff.mpr c6
   subst c6
   have H1 : (letterbagref01_Ahead.j0 k a0 a1 l2 true) = some (r1, r2) := by rw [if_neg (show ¬ (false = true) by decide)] at H; exact H
   clear H
   have H := H1
   clear H1
   have H' := Aside0.mk H
   clear H
   go_wp2_with (first | ((with_reducible refine gate_callee (f := 49) rfl ?_); refine goesL_ (some 10) rfl rfl Tryd.func49 (by kernel_rfl) rfl #[.slice A2 l2.length c2] rfl (by (try simp only [List.map_toArray, List.map_cons, List.map_nil]); first | done | rfl | (simp only [List.length_drop, List.length_take]; rfl)) ?_; (with_reducible refine (letterbagref01_Right.calls k _ _ l2 false _ ?side1 ?side2 A5.out).mono ?_); (case side1 => repeat (first | exact HR2.out | (with_reducible refine Kd.C_alloc ?_ _) | (with_reducible refine Kd.C_drewN ?_ _) | (with_reducible refine Kd.C_drew ?_))); (case side2 => exact HC2.out); rintro e w' ⟨rfl, ⟨nd, rfl⟩⟩; refine ⟨_, rfl, ?_⟩))
   go_meet
   case rel => exact ⟨_, (true), (by first | rfl | (simp; done) | (simp [*]; done) | (simp; exact (show ∀ a_ b_ : Bool, (a_ == b_) = (!(a_ != b_)) from by decide) _ _) | (rw [Bool.eq_iff_iff]; simp; done) | (simp; rw [Bool.eq_iff_iff]; simp; done)), H', ⟨by first | omega | exact Nat.le_refl _⟩, by repeat (first | exact Drawn0.refl _ | apply Drawn0.step)⟩
 case rest =>
  clear HC4
  try clear c2
  try clear p2
  try clear c4
  try clear c5
  try clear c6
  try clear c7
  try clear c7b0
  obtain ⟨kq, x19_3, rfl, HA, HJ3, ⟨mc3, rfl⟩⟩ := hcut
  cases kq with
  | zero => exact absurd HA.out (by simp [letterbagref01_Ahead.j0])
  | succ kj3 =>
   have H := HA.out
   clear HA
   simp only [letterbagref01_Ahead.j0] at H
   by_cases c8 : x19_3 = true
   ·subst c8
    have H1 : (some (0, 2)) = some (r1, r2) := by rw [if_pos rfl] at H; exact H
    clear H
    have H := H1
    clear H1
    simp only [Option.some.injEq, Prod.mk.injEq] at H
    obtain ⟨rfl, rfl⟩ := H
    go_wp2
    go_ret2
    exact ⟨by first | rfl | (simp; done) | (simp [*]; done) | (simp; exact (show ∀ a_ b_ : Bool, (a_ == b_) = (!(a_ != b_)) from by decide) _ _), by repeat (first | exact Drawn0.refl _ | apply Drawn0.step)⟩
   ·replace c8 := Bool.eq_false_iff.mpr c8
    subst c8
    have H1 : (letterbagref01_Ahead.l0 kj3 a1 l2 a0) = some (r1, r2) := by rw [if_neg (show ¬ (false = true) by decide)] at H; exact H
    clear H
    have H := H1
    clear H1
    have H' := Aside0.mk H
    clear H
    go_wp2
    go_loopg [1, 8] kj3 (fun kq v1 v8 w' => ∃ (x1_2 : Int) (x8_2 : Int), v1 = .int .i64 x1_2 ∧ v8 = .int .i64 x8_2 ∧ Aside0 (letterbagref01_Ahead.l0 kq x1_2 l2 x8_2 = some (r1, r2)) ∧ Aside0 (kq ≤ kj3) ∧ Drawn0 w w')
    case atStart => exact ⟨(a1), (a0), (by first | rfl | (simp; done) | (simp [*]; done) | (simp; exact (show ∀ a_ b_ : Bool, (a_ == b_) = (!(a_ != b_)) from by decide) _ _) | (rw [Bool.eq_iff_iff]; simp; done) | (simp; rw [Bool.eq_iff_iff]; simp; done)), (by first | rfl | (simp; done) | (simp [*]; done) | (simp; exact (show ∀ a_ b_ : Bool, (a_ == b_) = (!(a_ != b_)) from by decide) _ _) | (rw [Bool.eq_iff_iff]; simp; done) | (simp; rw [Bool.eq_iff_iff]; simp; done)), H', ⟨Nat.le_refl _⟩, by repeat (first | exact Drawn0.refl _ | apply Drawn0.step)⟩
    case round =>
     clear H'
     try clear c2
     try clear p2
     try clear c3
     try clear c4
     try clear c5
     try clear c6
     try clear c7
     try clear c7b0
     try clear c8
     try clear p2
     obtain ⟨x1_2, x8_2, rfl, rfl, HA, HK2, ⟨m2, rfl⟩⟩ := hrel
     cases gk with
     | zero => exact absurd HA.out (by simp [letterbagref01_Ahead.l0])
     | succ k2 =>
      have H := HA.out
      clear HA
      simp only [letterbagref01_Ahead.l0] at H
      by_cases c9 : x8_2 ≤ 730484
      ·rw [if_pos c9] at H
       have c9b0 : decide (x8_2 ≤ 730484) = true := decide_eq_true c9
       clear c9
       replace H := Option.bind_eq_some_iff.mp H
       obtain ⟨t312, A100, H⟩ := H
       replace H : (if t312 = true then (if x1_2 = 0 then (some (x8_2, 0)) else (letterbagref01_Ahead.l0 k2 (wrap64 (x1_2 - 1)) l2 (wrap64 (x8_2 + 1)))) else (letterbagref01_Ahead.l0 k2 x1_2 l2 (wrap64 (x8_2 + 1)))) = some (r1, r2) := H
       have A10 := Aside0.mk A100
       clear A100
       by_cases c11 : t312 = true
       ·subst c11
        have H1 : (if x1_2 = 0 then (some (x8_2, 0)) else (letterbagref01_Ahead.l0 k2 (wrap64 (x1_2 - 1)) l2 (wrap64 (x8_2 + 1)))) = some (r1, r2) := by rw [if_pos rfl] at H; exact H
        clear H
        have H := H1
        clear H1
        by_cases c12 : x1_2 = 0
        ·rw [if_pos c12] at H
         have c12b0 : (x1_2 == 0) = true := beq_iff_eq.mpr c12
         have c12b1 : (x1_2 != 0) = false := bne_eq_false_iff_eq.mpr c12
         clear c12
         simp only [Option.some.injEq, Prod.mk.injEq] at H
         obtain ⟨rfl, rfl⟩ := H
         go_wp2_with (first | ((with_reducible refine gate_callee (f := 69) rfl ?_); refine goesL_ (some 27) rfl rfl Tryd.func69 (by kernel_rfl) rfl #[.int .i64 x8_2, .slice A2 l2.length c2] rfl (by (try simp only [List.map_toArray, List.map_cons, List.map_nil]); first | done | rfl | (simp only [List.length_drop, List.length_take]; rfl)) ?_; (with_reducible refine (letterbagref01_works.calls k2 x8_2 _ _ l2 true _ ?side1 ?side2 A10.out).mono ?_); (case side1 => repeat (first | exact HR2.out | (with_reducible refine Kd.C_alloc ?_ _) | (with_reducible refine Kd.C_drewN ?_ _) | (with_reducible refine Kd.C_drew ?_))); (case side2 => exact HC2.out); rintro e w' ⟨rfl, ⟨nd, rfl⟩⟩; refine ⟨_, rfl, ?_⟩))
         go_ret2
         exact ⟨by first | rfl | (simp; done) | (simp [*]; done) | (simp; exact (show ∀ a_ b_ : Bool, (a_ == b_) = (!(a_ != b_)) from by decide) _ _), by repeat (first | exact Drawn0.refl _ | apply Drawn0.step)⟩
        ·rw [if_neg c12] at H
         have c12b0 : (x1_2 == 0) = false := beq_eq_false_iff_ne.mpr c12
         have c12b1 : (x1_2 != 0) = true := bne_iff_ne.mpr c12
         have H' := Aside0.mk H
         clear H
         go_wp2_with (first | ((with_reducible refine gate_callee (f := 69) rfl ?_); refine goesL_ (some 27) rfl rfl Tryd.func69 (by kernel_rfl) rfl #[.int .i64 x8_2, .slice A2 l2.length c2] rfl (by (try simp only [List.map_toArray, List.map_cons, List.map_nil]); first | done | rfl | (simp only [List.length_drop, List.length_take]; rfl)) ?_; (with_reducible refine (letterbagref01_works.calls k2 x8_2 _ _ l2 true _ ?side1 ?side2 A10.out).mono ?_); (case side1 => repeat (first | exact HR2.out | (with_reducible refine Kd.C_alloc ?_ _) | (with_reducible refine Kd.C_drewN ?_ _) | (with_reducible refine Kd.C_drew ?_))); (case side2 => exact HC2.out); rintro e w' ⟨rfl, ⟨nd, rfl⟩⟩; refine ⟨_, rfl, ?_⟩))
         go_roundg k2
         case measure => have := HJ3.out; have := HK2.out; omega
         case rel => exact ⟨(wrap64 (x1_2 - 1)), (wrap64 (x8_2 + 1)), (by first | rfl | (simp; done) | (simp [*]; done) | (simp; exact (show ∀ a_ b_ : Bool, (a_ == b_) = (!(a_ != b_)) from by decide) _ _) | (rw [Bool.eq_iff_iff]; simp; done) | (simp; rw [Bool.eq_iff_iff]; simp; done)), (by first | rfl | (simp; done) | (simp [*]; done) | (simp; exact (show ∀ a_ b_ : Bool, (a_ == b_) = (!(a_ != b_)) from by decide) _ _) | (rw [Bool.eq_iff_iff]; simp; done) | (simp; rw [Bool.eq_iff_iff]; simp; done)), H', ⟨by have := HJ3.out; have := HK2.out; omega⟩, by repeat (first | exact Drawn0.refl _ | apply Drawn0.step)⟩
       ·replace c11 := Bool.eq_false_iff.mpr c11
        subst c11
        have H1 : (letterbagref01_Ahead.l0 k2 x1_2 l2 (wrap64 (x8_2 + 1))) = some (r1, r2) := by rw [if_neg (show ¬ (false = true) by decide)] at H; exact H
        clear H
        have H := H1
        clear H1
        have H' := Aside0.mk H
        clear H
        go_wp2_with (first | ((with_reducible refine gate_callee (f := 69) rfl ?_); refine goesL_ (some 27) rfl rfl Tryd.func69 (by kernel_rfl) rfl #[.int .i64 x8_2, .slice A2 l2.length c2] rfl (by (try simp only [List.map_toArray, List.map_cons, List.map_nil]); first | done | rfl | (simp only [List.length_drop, List.length_take]; rfl)) ?_; (with_reducible refine (letterbagref01_works.calls k2 x8_2 _ _ l2 false _ ?side1 ?side2 A10.out).mono ?_); (case side1 => repeat (first | exact HR2.out | (with_reducible refine Kd.C_alloc ?_ _) | (with_reducible refine Kd.C_drewN ?_ _) | (with_reducible refine Kd.C_drew ?_))); (case side2 => exact HC2.out); rintro e w' ⟨rfl, ⟨nd, rfl⟩⟩; refine ⟨_, rfl, ?_⟩))
        go_roundg k2
        case measure => have := HJ3.out; have := HK2.out; omega
        case rel => exact ⟨(x1_2), (wrap64 (x8_2 + 1)), (by first | rfl | (simp; done) | (simp [*]; done) | (simp; exact (show ∀ a_ b_ : Bool, (a_ == b_) = (!(a_ != b_)) from by decide) _ _) | (rw [Bool.eq_iff_iff]; simp; done) | (simp; rw [Bool.eq_iff_iff]; simp; done)), (by first | rfl | (simp; done) | (simp [*]; done) | (simp; exact (show ∀ a_ b_ : Bool, (a_ == b_) = (!(a_ != b_)) from by decide) _ _) | (rw [Bool.eq_iff_iff]; simp; done) | (simp; rw [Bool.eq_iff_iff]; simp; done)), H', ⟨by have := HJ3.out; have := HK2.out; omega⟩, by repeat (first | exact Drawn0.refl _ | apply Drawn0.step)⟩
      ·rw [if_neg c9] at H
       have c9b0 : decide (x8_2 ≤ 730484) = false := decide_eq_false c9
       clear c9
       simp only [Option.some.injEq, Prod.mk.injEq] at H
       obtain ⟨rfl, rfl⟩ := H
       go_wp2
       go_ret2
       exact ⟨by first | rfl | (simp; done) | (simp [*]; done) | (simp; exact (show ∀ a_ b_ : Bool, (a_ == b_) = (!(a_ != b_)) from by decide) _ _), by repeat (first | exact Drawn0.refl _ | apply Drawn0.step)⟩
def letterbagref01_Yearly.j0 : Nat → Int → Int → Int → Int → Bool → Option (Bool × Int)
 | 0, _, _, _, _, _ => none
 | k + 1, x1, x2, x9, x10, x36 => if x36 = true then (some (false, 10)) else (if x1 ≤ x2 then (if (wrap64 ((wrap64 (100 * x9)) + x10)) ≥ x1 then (some (decide ((wrap64 ((wrap64 (100 * x9)) + x10)) ≤ x2), 0)) else (some (false, 0))) else (if (wrap64 ((wrap64 (100 * x9)) + x10)) ≥ x1 then (some (true, 0)) else (some (decide ((wrap64 ((wrap64 (100 * x9)) + x10)) ≤ x2), 0))))
def letterbagref01_Yearly.f (k : Nat) (a0 : Int) (a1 : Int) (a2 : Int) : Option (Bool × Int) := (letterbagref01_Date.f k a0).bind fun bt313 => (if bt313.2.2.2 = 0 then ((letterbagref01_date.f 2004 (wrap64 (Int.tdiv a1 100)) (Int.tmod a1 100)).bind fun t317 => (if t317 = true then ((letterbagref01_date.f 2004 (wrap64 (Int.tdiv a2 100)) (Int.tmod a2 100)).bind fun t318 => (letterbagref01_Yearly.j0 k a1 a2 bt313.2.1 bt313.2.2.1 (!t318))) else (letterbagref01_Yearly.j0 k a1 a2 bt313.2.1 bt313.2.2.1 true))) else (some (false, bt313.2.2.2)))
set_option maxHeartbeats 8000000 in
set_option maxRecDepth 100000 in
theorem letterbagref01_Yearly.calls (k : Nat) (a0 : Int) (a1 : Int) (a2 : Int) (r1 : Bool) (r2 : Int) (w : World) (h : letterbagref01_Yearly.f k a0 a1 a2 = some (r1, r2)) :
  Calls Tryd.prog 52 #[.int .i64 a0, .int .i64 a1, .int .i64 a2] w fun e w' => e = .returned (.tuple #[.bool r1, .int .i64 r2]) ∧ Drawn0 w w' := by
 have H : ((letterbagref01_Date.f k a0).bind fun bt313 => (if bt313.2.2.2 = 0 then ((letterbagref01_date.f 2004 (wrap64 (Int.tdiv a1 100)) (Int.tmod a1 100)).bind fun t317 => (if t317 = true then ((letterbagref01_date.f 2004 (wrap64 (Int.tdiv a2 100)) (Int.tmod a2 100)).bind fun t318 => (letterbagref01_Yearly.j0 k a1 a2 bt313.2.1 bt313.2.2.1 (!t318))) else (letterbagref01_Yearly.j0 k a1 a2 bt313.2.1 bt313.2.2.1 true))) else (some (false, bt313.2.2.2)))) = some (r1, r2) := h
 clear h
 replace H := Option.bind_eq_some_iff.mp H
 obtain ⟨⟨t313, t314, t315, t316⟩, A40, H⟩ := H
 replace H : (if t316 = 0 then ((letterbagref01_date.f 2004 (wrap64 (Int.tdiv a1 100)) (Int.tmod a1 100)).bind fun t317 => (if t317 = true then ((letterbagref01_date.f 2004 (wrap64 (Int.tdiv a2 100)) (Int.tmod a2 100)).bind fun t318 => (letterbagref01_Yearly.j0 k a1 a2 t314 t315 (!t318))) else (letterbagref01_Yearly.j0 k a1 a2 t314 t315 true))) else (some (false, t316))) = some (r1, r2) := H
 have A4 := Aside0.mk A40
 clear A40
 by_cases c5 : t316 = 0
 ·rw [if_pos c5] at H
  have c5b0 : (t316 == 0) = true := beq_iff_eq.mpr c5
  have c5b1 : (t316 != 0) = false := bne_eq_false_iff_eq.mpr c5
  clear c5
  have HC6 := Aside0.mk H
  clear H
  go_enter Tryd.func52, Tryd.ntmps52
  go_upto_region 4 with (first | ((with_reducible refine gate_callee (f := 41) rfl ?_); refine goesL_ (some 15) rfl rfl Tryd.func41 (by kernel_rfl) rfl #[.int .i64 a0] rfl (by (try simp only [List.map_toArray, List.map_cons, List.map_nil]); first | done | rfl | (simp only [List.length_drop, List.length_take]; rfl)) ?_; (with_reducible refine (letterbagref01_Date.calls k a0 t313 t314 t315 t316 _ A4.out).mono ?_); rintro e w' ⟨rfl, ⟨nd, rfl⟩⟩; refine ⟨_, rfl, ?_⟩))
  (try simp only [Act.put, List.setIfInBounds_toArray, List.set_cons_zero, List.set_cons_succ])
  go_cut [36] (fun v36 wc => ∃ (kq : Nat) (x36_5 : Bool), v36 = .bool x36_5 ∧ Aside0 (letterbagref01_Yearly.j0 kq a1 a2 t314 t315 x36_5 = some (r1, r2)) ∧ Aside0 (kq ≤ k) ∧ Drawn0 w wc)
  case first =>
   have H := HC6.out
   clear HC6
   replace H := Option.bind_eq_some_iff.mp H
   obtain ⟨t317, A70, H⟩ := H
   replace H : (if t317 = true then ((letterbagref01_date.f 2004 (wrap64 (Int.tdiv a2 100)) (Int.tmod a2 100)).bind fun t318 => (letterbagref01_Yearly.j0 k a1 a2 t314 t315 (!t318))) else (letterbagref01_Yearly.j0 k a1 a2 t314 t315 true)) = some (r1, r2) := H
   have A7 := Aside0.mk A70
   clear A70
   by_cases c8 : t317 = true
   ·subst c8
    have H1 : ((letterbagref01_date.f 2004 (wrap64 (Int.tdiv a2 100)) (Int.tmod a2 100)).bind fun t318 => (letterbagref01_Yearly.j0 k a1 a2 t314 t315 (!t318))) = some (r1, r2) := by rw [if_pos rfl] at H; exact H
    clear H
    have H := H1
    clear H1
    replace H := Option.bind_eq_some_iff.mp H
    obtain ⟨t318, A90, H⟩ := H
    replace H : (letterbagref01_Yearly.j0 k a1 a2 t314 t315 (!t318)) = some (r1, r2) := H
    have A9 := Aside0.mk A90
    clear A90
    have H' := Aside0.mk H
    clear H
    go_wp2_with (first | ((with_reducible refine gate_callee (f := 62) rfl ?_); refine goesL_ (some 27) rfl rfl Tryd.func62 (by kernel_rfl) rfl #[.int .i64 2004, .int .i64 (wrap64 (Int.tdiv a1 100)), .int .i64 (Int.tmod a1 100)] rfl (by (try simp only [List.map_toArray, List.map_cons, List.map_nil]); first | done | rfl | (simp only [List.length_drop, List.length_take]; rfl)) ?_; (with_reducible refine (letterbagref01_date.calls 2004 (wrap64 (Int.tdiv a1 100)) (Int.tmod a1 100) true _ A7.out).mono ?_); rintro e w' ⟨rfl, ⟨nd, rfl⟩⟩; refine ⟨_, rfl, ?_⟩) | (go_at_call 62; (with_reducible refine (letterbagref01_date.calls 2004 (wrap64 (Int.tdiv a2 100)) (Int.tmod a2 100) t318 _ A9.out).mono ?_); rintro e w' ⟨rfl, ⟨nd, rfl⟩⟩))
    go_meet
    case rel => exact ⟨_, (!t318), (by first | rfl | (simp; done) | (simp [*]; done) | (simp; exact (show ∀ a_ b_ : Bool, (a_ == b_) = (!(a_ != b_)) from by decide) _ _) | (rw [Bool.eq_iff_iff]; simp; done) | (simp; rw [Bool.eq_iff_iff]; simp; done)), H', ⟨by first | omega | exact Nat.le_refl _⟩, by repeat (first | exact Drawn0.refl _ | apply Drawn0.step)⟩
   ·replace c8 := Bool.eq_false_iff.mpr c8
    subst c8
    have H1 : (letterbagref01_Yearly.j0 k a1 a2 t314 t315 true) = some (r1, r2) := by rw [if_neg (show ¬ (false = true) by decide)] at H; exact H
    clear H
    have H := H1
    clear H1
    have H' := Aside0.mk H
    clear H
    go_wp2_with (first | ((with_reducible refine gate_callee (f := 62) rfl ?_); refine goesL_ (some 27) rfl rfl Tryd.func62 (by kernel_rfl) rfl #[.int .i64 2004, .int .i64 (wrap64 (Int.tdiv a1 100)), .int .i64 (Int.tmod a1 100)] rfl (by (try simp only [List.map_toArray, List.map_cons, List.map_nil]); first | done | rfl | (simp only [List.length_drop, List.length_take]; rfl)) ?_; (with_reducible refine (letterbagref01_date.calls 2004 (wrap64 (Int.tdiv a1 100)) (Int.tmod a1 100) false _ A7.out).mono ?_); rintro e w' ⟨rfl, ⟨nd, rfl⟩⟩; refine ⟨_, rfl, ?_⟩))
    go_meet
    case rel => exact ⟨_, (true), (by first | rfl | (simp; done) | (simp [*]; done) | (simp; exact (show ∀ a_ b_ : Bool, (a_ == b_) = (!(a_ != b_)) from by decide) _ _) | (rw [Bool.eq_iff_iff]; simp; done) | (simp; rw [Bool.eq_iff_iff]; simp; done)), H', ⟨by first | omega | exact Nat.le_refl _⟩, by repeat (first | exact Drawn0.refl _ | apply Drawn0.step)⟩
  case rest =>
   clear HC6
   try clear p2
   try clear c4
   try clear c5
   try clear c5b0
   try clear c5b1
   try clear c6
   try clear p6
   try clear c8
   obtain ⟨kq, x36_5, rfl, HA, HJ5, ⟨mc5, rfl⟩⟩ := hcut
   cases kq with
   | zero => exact absurd HA.out (by simp [letterbagref01_Yearly.j0])
   | succ kj5 =>
    have H := HA.out
    clear HA
    simp only [letterbagref01_Yearly.j0] at H
    by_cases c10 : x36_5 = true
    ·subst c10
     have H1 : (some (false, 10)) = some (r1, r2) := by rw [if_pos rfl] at H; exact H
     clear H
     have H := H1
     clear H1
     simp only [Option.some.injEq, Prod.mk.injEq] at H
     obtain ⟨rfl, rfl⟩ := H
     go_wp2
     go_ret2
     exact ⟨by first | rfl | (simp; done) | (simp [*]; done) | (simp; exact (show ∀ a_ b_ : Bool, (a_ == b_) = (!(a_ != b_)) from by decide) _ _), by repeat (first | exact Drawn0.refl _ | apply Drawn0.step)⟩
    ·replace c10 := Bool.eq_false_iff.mpr c10
     subst c10
     have H1 : (if a1 ≤ a2 then (if (wrap64 ((wrap64 (100 * t314)) + t315)) ≥ a1 then (some (decide ((wrap64 ((wrap64 (100 * t314)) + t315)) ≤ a2), 0)) else (some (false, 0))) else (if (wrap64 ((wrap64 (100 * t314)) + t315)) ≥ a1 then (some (true, 0)) else (some (decide ((wrap64 ((wrap64 (100 * t314)) + t315)) ≤ a2), 0)))) = some (r1, r2) := by rw [if_neg (show ¬ (false = true) by decide)] at H; exact H
     clear H
     have H := H1
     clear H1
     by_cases c11 : a1 ≤ a2
     ·rw [if_pos c11] at H
      have c11b0 : decide (a1 ≤ a2) = true := decide_eq_true c11
      clear c11
      by_cases c12 : (wrap64 ((wrap64 (100 * t314)) + t315)) ≥ a1
      ·rw [if_pos c12] at H
       have c12b0 : decide (a1 ≤ (wrap64 ((wrap64 (100 * t314)) + t315))) = true := decide_eq_true c12
       clear c12
       simp only [Option.some.injEq, Prod.mk.injEq] at H
       obtain ⟨rfl, rfl⟩ := H
       go_wp2
       go_ret2
       exact ⟨by first | rfl | (simp; done) | (simp [*]; done) | (simp; exact (show ∀ a_ b_ : Bool, (a_ == b_) = (!(a_ != b_)) from by decide) _ _), by repeat (first | exact Drawn0.refl _ | apply Drawn0.step)⟩
      ·rw [if_neg c12] at H
       have c12b0 : decide (a1 ≤ (wrap64 ((wrap64 (100 * t314)) + t315))) = false := decide_eq_false c12
       clear c12
       simp only [Option.some.injEq, Prod.mk.injEq] at H
       obtain ⟨rfl, rfl⟩ := H
       go_wp2
       go_ret2
       exact ⟨by first | rfl | (simp; done) | (simp [*]; done) | (simp; exact (show ∀ a_ b_ : Bool, (a_ == b_) = (!(a_ != b_)) from by decide) _ _), by repeat (first | exact Drawn0.refl _ | apply Drawn0.step)⟩
     ·rw [if_neg c11] at H
      have c11b0 : decide (a1 ≤ a2) = false := decide_eq_false c11
      clear c11
      by_cases c13 : (wrap64 ((wrap64 (100 * t314)) + t315)) ≥ a1
      ·rw [if_pos c13] at H
       have c13b0 : decide (a1 ≤ (wrap64 ((wrap64 (100 * t314)) + t315))) = true := decide_eq_true c13
       clear c13
       simp only [Option.some.injEq, Prod.mk.injEq] at H
       obtain ⟨rfl, rfl⟩ := H
       go_wp2
       go_ret2
       exact ⟨by first | rfl | (simp; done) | (simp [*]; done) | (simp; exact (show ∀ a_ b_ : Bool, (a_ == b_) = (!(a_ != b_)) from by decide) _ _), by repeat (first | exact Drawn0.refl _ | apply Drawn0.step)⟩
      ·rw [if_neg c13] at H
       have c13b0 : decide (a1 ≤ (wrap64 ((wrap64 (100 * t314)) + t315))) = false := decide_eq_false c13
       clear c13
       simp only [Option.some.injEq, Prod.mk.injEq] at H
       obtain ⟨rfl, rfl⟩ := H
       go_wp2
       go_ret2
       exact ⟨by first | rfl | (simp; done) | (simp [*]; done) | (simp; exact (show ∀ a_ b_ : Bool, (a_ == b_) = (!(a_ != b_)) from by decide) _ _), by repeat (first | exact Drawn0.refl _ | apply Drawn0.step)⟩
 ·rw [if_neg c5] at H
  have c5b0 : (t316 == 0) = false := beq_eq_false_iff_ne.mpr c5
  have c5b1 : (t316 != 0) = true := bne_iff_ne.mpr c5
  simp only [Option.some.injEq, Prod.mk.injEq] at H
  obtain ⟨rfl, rfl⟩ := H
  go_enter Tryd.func52, Tryd.ntmps52
  go_wp2_with (first | ((with_reducible refine gate_callee (f := 41) rfl ?_); refine goesL_ (some 15) rfl rfl Tryd.func41 (by kernel_rfl) rfl #[.int .i64 a0] rfl (by (try simp only [List.map_toArray, List.map_cons, List.map_nil]); first | done | rfl | (simp only [List.length_drop, List.length_take]; rfl)) ?_; (with_reducible refine (letterbagref01_Date.calls k a0 t313 t314 t315 t316 _ A4.out).mono ?_); rintro e w' ⟨rfl, ⟨nd, rfl⟩⟩; refine ⟨_, rfl, ?_⟩))
  go_ret2
  exact ⟨by first | rfl | (simp; done) | (simp [*]; done) | (simp; exact (show ∀ a_ b_ : Bool, (a_ == b_) = (!(a_ != b_)) from by decide) _ _), by repeat (first | exact Drawn0.refl _ | apply Drawn0.step)⟩
end Go.Proofs.YtehnhedifhpalaaDoor.Cp
set_option linter.unusedVariables false
set_option linter.unusedSimpArgs false
namespace Go.Proofs.YtehnhedifhpalaaDoor.Cp
open Go.RowKit Go.Proofs.YtehnhedifhpalaaDoorW.PrintWords Go.Proofs.YtehnhedifhpalaaDoorW.PrintLast Go.Proofs.YtehnhedifhpalaaDoorW.PrintMore
attribute [local go_sem] max2_int min2_int max_two min_two max_three min_three max_four min_four
def letterbaglaw01_civilWorks.f (k : Nat) (l : List Int) (a1 a2 a3 a4 a5 : Int) : Option Bool :=
  (letterbaglaw01_few.f l a1 a2 a3).bind fun t => if t = true then
    (civil_Works.f k a1 l).bind fun x => (letterbagref01_Works.f k a1 l).bind fun y => (civil_Right.f k l).bind fun r => (letterbagref01_Right.f k l).bind fun q =>
    (civil_Between.f a1 a2 l).bind fun c => (letterbagref01_Between.f k a1 a2 l).bind fun d => (civil_Ahead.f k a1 a3 l).bind fun i => (letterbagref01_Ahead.f k a1 a3 l).bind fun j =>
    (civil_Yearly.f k a1 a4 a5).bind fun u => (letterbagref01_Yearly.f k a1 a4 a5).bind fun v =>
    if x = y ∧ r = q ∧ c = d ∧ i = j ∧ u = v then some true else none
  else some true
set_option maxHeartbeats 8000000 in
set_option maxRecDepth 100000 in
theorem letterbaglaw01_civilWorks.calls (k : Nat) (A0 : Option Addr) (c0 : Nat) (l0 : List Int) (a1 a2 a3 a4 a5 : Int) (r : Bool) (w : World) (hg : Aside0 (Tab w)) (hr0 : Kd.C (Kd.int .i64) w A0 l0.length l0) (hc0 : l0.length ≤ c0) (h : letterbaglaw01_civilWorks.f k l0 a1 a2 a3 a4 a5 = some r) :
    Calls Tryd.prog 15 #[.slice A0 l0.length c0, .int .i64 a1, .int .i64 a2, .int .i64 a3, .int .i64 a4, .int .i64 a5] w fun e w' => e = .returned (.bool r) ∧ Below w.heap.size w w' := by
  have HR := Aside0.mk hr0
  have HC := Aside0.mk hc0
  clear hr0 hc0
  unfold letterbaglaw01_civilWorks.f at h
  obtain ⟨t, hf, h⟩ := Option.bind_eq_some_iff.mp h
  have HF := Aside0.mk hf
  by_cases ct : t = true
  · subst ct
    rw [if_pos rfl] at h
    obtain ⟨⟨x1, x2⟩, hx, h⟩ := Option.bind_eq_some_iff.mp h
    obtain ⟨⟨y1, y2⟩, hy, h⟩ := Option.bind_eq_some_iff.mp h
    obtain ⟨ri, hri, h⟩ := Option.bind_eq_some_iff.mp h
    obtain ⟨qi, hqi, h⟩ := Option.bind_eq_some_iff.mp h
    obtain ⟨⟨b1, b2⟩, hb, h⟩ := Option.bind_eq_some_iff.mp h
    obtain ⟨⟨d1, d2⟩, hd, h⟩ := Option.bind_eq_some_iff.mp h
    obtain ⟨⟨i1, i2⟩, hi, h⟩ := Option.bind_eq_some_iff.mp h
    obtain ⟨⟨j1, j2⟩, hj, h⟩ := Option.bind_eq_some_iff.mp h
    obtain ⟨⟨u1, u2⟩, hu, h⟩ := Option.bind_eq_some_iff.mp h
    obtain ⟨⟨v1, v2⟩, hv, h⟩ := Option.bind_eq_some_iff.mp h
    try simp only at h
    by_cases ce : (x1, x2) = (y1, y2) ∧ ri = qi ∧ (b1, b2) = (d1, d2) ∧ (i1, i2) = (j1, j2) ∧ (u1, u2) = (v1, v2)
    · rw [if_pos ce] at h
      obtain rfl := Option.some.inj h
      obtain ⟨e1, rfl, e2, e3, e4⟩ := ce
      obtain ⟨rfl, rfl⟩ := Prod.mk.inj e1
      obtain ⟨rfl, rfl⟩ := Prod.mk.inj e2
      obtain ⟨rfl, rfl⟩ := Prod.mk.inj e3
      obtain ⟨rfl, rfl⟩ := Prod.mk.inj e4
      have hn : l0.length ≤ 60 := by
        unfold letterbaglaw01_few.f at hf
        by_cases c : (l0.length : Int) ≤ 60
        · omega
        · rw [if_neg c] at hf; exact absurd hf (by simp)
      have HN := Aside0.mk hn
      have HX := Aside0.mk hx
      have HY := Aside0.mk hy
      have HRI := Aside0.mk hri
      have HQI := Aside0.mk hqi
      have HB := Aside0.mk hb
      have HD := Aside0.mk hd
      have HI := Aside0.mk hi
      have HJ := Aside0.mk hj
      have HU := Aside0.mk hu
      have HV := Aside0.mk hv
      clear hf hx hy hri hqi hb hd hi hj hu hv e1 e2 e3 e4 hn h
      go_enter Tryd.func15, Tryd.ntmps15
      go_wp2_with (first
        | (go_at_call 46; (with_reducible refine (letterbaglaw01_few.calls _ _ l0 a1 a2 a3 true _ ?side1 ?side2 HF.out).mono ?_); (case side1 => exact HR.out); (case side2 => exact HC.out); rintro e w1 ⟨rfl, ⟨nd, rfl⟩⟩)
        | (go_at_call 47; (with_reducible refine (lent_ex _ _ l0 _ ?side1 ?side2 HN.out).mono ?_); (case side1 => exact Kd.C_drewN HR.out _); (case side2 => exact HC.out); rintro e w1 ⟨g, rfl, hl, hb⟩; have ST := Aside0.mk (St.mk (below_then (first_below w nd) (below_size (first_below w nd)) hb) ((hg.out.drewN nd).below hb) hl (Kd.C_below (Kd.C_drewN HR.out nd) hb)); clear hl hb)
        | (go_at_call 25; (with_reducible refine (civil_Works.calls k a1 _ _ l0 x1 x2 _ ?side1 ?side2 HX.out).mono ?_); (case side1 => exact lent_list ST.out.lent HN.out); (case side2 => exact Nat.le_add_right _ _); rintro e w1 ⟨rfl, hb⟩; replace ST := Aside0.mk (ST.out.step hb.below); clear hb)
        | (go_at_call 48; (with_reducible refine (letterbagref01_Works.calls k a1 _ _ l0 x1 x2 _ ?side1 ?side2 HY.out).mono ?_); (case side1 => exact ST.out.arg); (case side2 => exact HC.out); rintro e w1 ⟨rfl, hb⟩; replace ST := Aside0.mk (ST.out.step hb.below); clear hb)
        | (go_at_call 29; (with_reducible refine (civil_Right.calls k _ _ l0 ri _ ?side1 ?side2 HRI.out).mono ?_); (case side1 => exact lent_list ST.out.lent HN.out); (case side2 => exact Nat.le_add_right _ _); rintro e w1 ⟨rfl, hb⟩; replace ST := Aside0.mk (ST.out.step hb.below); clear hb)
        | (go_at_call 49; (with_reducible refine (letterbagref01_Right.calls k _ _ l0 ri _ ?side1 ?side2 HQI.out).mono ?_); (case side1 => exact ST.out.arg); (case side2 => exact HC.out); rintro e w1 ⟨rfl, hb⟩; replace ST := Aside0.mk (ST.out.step hb.below); clear hb)
        | (go_at_call 28; (with_reducible refine (civil_Between.calls a1 a2 _ _ l0 b1 b2 _ ?side1 ?side2 HB.out).mono ?_); (case side1 => exact lent_list ST.out.lent HN.out); (case side2 => exact Nat.le_add_right _ _); rintro e w1 ⟨rfl, hb⟩; replace ST := Aside0.mk (ST.out.step hb); clear hb)
        | (go_at_call 50; (with_reducible refine (letterbagref01_Between.calls k a1 a2 _ _ l0 b1 b2 _ ?side1 ?side2 HD.out).mono ?_); (case side1 => exact ST.out.arg); (case side2 => exact HC.out); rintro e w1 ⟨rfl, hb⟩; replace ST := Aside0.mk (ST.out.step hb.below); clear hb)
        | (go_at_call 26; (with_reducible refine (civil_Ahead.calls k a1 a3 _ _ l0 i1 i2 _ ?side1 ?side2 HI.out).mono ?_); (case side1 => exact lent_list ST.out.lent HN.out); (case side2 => exact Nat.le_add_right _ _); rintro e w1 ⟨rfl, hb⟩; replace ST := Aside0.mk (ST.out.step hb); clear hb)
        | (go_at_call 51; (with_reducible refine (letterbagref01_Ahead.calls k a1 a3 _ _ l0 i1 i2 _ ?side1 ?side2 HJ.out).mono ?_); (case side1 => exact ST.out.arg); (case side2 => exact HC.out); rintro e w1 ⟨rfl, hb⟩; replace ST := Aside0.mk (ST.out.step hb.below); clear hb)
        | (go_at_call 27; (with_reducible refine (civil_Yearly.calls k a1 a4 a5 u1 u2 _ ?tabG HU.out).mono ?_); (case tabG => exact ⟨ST.out.tab⟩); rintro e w1 ⟨rfl, hb⟩; replace ST := Aside0.mk (ST.out.step hb); clear hb)
        | (go_at_call 52; (with_reducible refine (letterbagref01_Yearly.calls k a1 a4 a5 u1 u2 _ HV.out).mono ?_); rintro e w1 ⟨rfl, hb⟩; replace ST := Aside0.mk (ST.out.step hb.below); clear hb)
        | (go_at_call 53; (with_reducible refine (kept_any _ _ _ _ l0 _ ?side1 ?side2 ?side3 ?side4 ?side5).mono ?_); (case side1 => exact ST.out.lent); (case side2 => exact ST.out.arg); (case side3 => exact HC.out); (case side4 => exact HN.out); (case side5 => exact Nat.le_refl _); rintro e w1 ⟨rfl, hb⟩; replace ST := Aside0.mk (ST.out.step hb.below); clear hb))
      go_ret
      exact ⟨rfl, ST.out.below⟩
    · rw [if_neg ce] at h; exact absurd h (by simp)
  · rw [if_neg ct] at h
    obtain rfl := Option.some.inj h
    obtain rfl : t = false := by simpa using ct
    clear hf ct h
    go_enter Tryd.func15, Tryd.ntmps15
    go_wp2_with (first
      | (go_at_call 46; (with_reducible refine (letterbaglaw01_few.calls _ _ l0 a1 a2 a3 false _ ?side1 ?side2 HF.out).mono ?_); (case side1 => exact HR.out); (case side2 => exact HC.out); rintro e w1 ⟨rfl, ⟨nd, rfl⟩⟩))
    go_ret
    exact ⟨rfl, first_below w nd⟩
end Go.Proofs.YtehnhedifhpalaaDoor.Cp
set_option linter.unusedVariables false
set_option linter.unusedSimpArgs false
namespace Go.Proofs.YtehnhedifhpalaaDoor.Cp
open Go.RowKit Go.Proofs.YtehnhedifhpalaaDoorW.PrintWords Go.Proofs.YtehnhedifhpalaaDoorW.PrintLast Go.Proofs.YtehnhedifhpalaaDoorW.PrintMore
set_option maxRecDepth 100000 in
theorem awake_f : Ev (fun k => letterbaglaw01_awake.f k) true := Ev.of letterbaglaw01_awake.mono (k := 60) (by kernel_rfl)
end Go.Proofs.YtehnhedifhpalaaDoor.Cp
set_option linter.unusedVariables false
set_option linter.unusedSimpArgs false
namespace Go.Proofs.YtehnhedifhpalaaDoor.Cp
open Go.RowKit Go.Proofs.YtehnhedifhpalaaDoorW.PrintWords Go.Proofs.YtehnhedifhpalaaDoorW.PrintLast Go.Proofs.YtehnhedifhpalaaDoorW.PrintMore
def prevOf (l : List Int) (i : Nat) : Int := if i = 0 then -1 else l.getD (i - 1) 0
theorem prev_succ {l : List Int} {i : Nat} (h : i < l.length) : prevOf l (i + 1) = l[i] := by
  unfold prevOf
  rw [if_neg (by omega), Nat.add_sub_cancel, List.getD_eq_getElem?_getD, List.getElem?_eq_getElem h]; rfl
theorem rright_l0 (l : List Int) (hl : l.length ≤ 1000000) (d : Nat) : ∀ i : Nat, i ≤ l.length → l.length - i = d → -1 ≤ prevOf l i →
    Ev (fun k => letterbagref01_Right.l0 k l (i : Int)) (rightFrom (prevOf l i) (l.drop i) && decide (l.length ≤ 1000)) := by
  induction d with
  | zero =>
    intro i hi hd hp
    refine Ev.step (fun k => letterbagref01_Right.l0.eq_2 _ _ k) ?_
    rw [List.drop_of_length_le (by omega)]
    refine ev_neg (by omega) (ev_eq ?_ (Ev.now _))
    simp only [rightFrom, Bool.true_and]
    rw [Bool.eq_iff_iff]
    simp only [decide_eq_true_eq]
    omega
  | succ d ih =>
    intro i hi hd hp
    have c : i < l.length := by omega
    have e1 : (i : Int) + 1 = ((i + 1 : Nat) : Int) := by omega
    have b1 : -10000000 ≤ (i : Int) + 1 ∧ (i : Int) + 1 ≤ 10000000 := by omega
    refine Ev.step (fun k => letterbagref01_Right.l0.eq_2 _ _ k) ?_
    refine ev_pos (by omega) (ev_pos (by omega) ?_)
    rw [rd_get c, wb b1, e1, List.drop_eq_getElem_cons c]
    simp only [rightFrom]
    by_cases c0 : l[i] < 0
    · refine ev_pos c0 (ev_eq ?_ (Ev.now _))
      rw [decide_eq_true (show l[i] ≤ prevOf l i by omega)]; rfl
    · refine ev_neg c0 ?_
      by_cases c1 : l[i] > 730484
      · refine ev_pos c1 (ev_eq ?_ (Ev.now _))
        rw [decide_eq_true (show 730484 < l[i] from c1), Bool.not_true, Bool.and_false, Bool.false_and, Bool.false_and]
      · refine ev_neg c1 ?_
        have ih1 := ih (i + 1) (by omega) (by omega) (by rw [prev_succ c]; omega)
        rw [prev_succ c] at ih1
        by_cases c2 : (i : Int) > 0
        · have ci : i - 1 < l.length := by omega
          have b2 : -10000000 ≤ (i : Int) - 1 ∧ (i : Int) - 1 ≤ 10000000 := by omega
          have e2 : (i : Int) - 1 = ((i - 1 : Nat) : Int) := by omega
          have ep : prevOf l i = l[i - 1] := by
            have := prev_succ ci
            rwa [show i - 1 + 1 = i by omega] at this
          rw [wb b2, e2, rd_get ci, ← ep]
          refine ev_pos c2 (ev_pos (by omega) (ev_pos (by omega) ?_))
          by_cases c3 : prevOf l i ≥ l[i]
          · refine ev_pos c3 (ev_eq ?_ (Ev.now _))
            rw [decide_eq_true (show l[i] ≤ prevOf l i from c3)]; rfl
          · refine ev_neg c3 (ev_eq ?_ ih1)
            rw [decide_eq_false (show ¬ l[i] ≤ prevOf l i from c3), decide_eq_false (show ¬ 730484 < l[i] from c1)]; rfl
        · refine ev_neg c2 (ev_eq ?_ ih1)
          obtain rfl : i = 0 := by omega
          have ep : prevOf l 0 = -1 := rfl
          rw [ep, decide_eq_false (show ¬ l[0] ≤ (-1 : Int) by omega), decide_eq_false (show ¬ (730484 : Int) < l[0] from c1)]; rfl
theorem rright_f (l : List Int) (hl : l.length ≤ 1000000) : Ev (fun k => letterbagref01_Right.f k l) (rightB l) := by
  have := rright_l0 l hl (l.length - 0) 0 (by omega) rfl (by show (-1 : Int) ≤ -1; decide)
  rw [List.drop_zero] at this
  exact this
theorem rworks_l0 (l : List Int) (hl : l.length ≤ 1000000) (a : Int) (ha : 0 ≤ a) (d : Nat) : ∀ i : Nat, i ≤ l.length → l.length - i = d →
    Ev (fun k => letterbagref01_works.l0 k a l (i : Int)) (decide (a % 7 < 5) && !(l.drop i).contains a) := by
  induction d with
  | zero =>
    intro i hi hd
    refine Ev.step (fun k => letterbagref01_works.l0.eq_2 _ _ _ k) ?_
    rw [List.drop_of_length_le (by omega), Int.tmod_eq_emod_of_nonneg ha]
    exact ev_neg (by omega) (ev_eq (by simp) (Ev.now _))
  | succ d ih =>
    intro i hi hd
    have c : i < l.length := by omega
    have e1 : (i : Int) + 1 = ((i + 1 : Nat) : Int) := by omega
    have b1 : -10000000 ≤ (i : Int) + 1 ∧ (i : Int) + 1 ≤ 10000000 := by omega
    refine Ev.step (fun k => letterbagref01_works.l0.eq_2 _ _ _ k) ?_
    refine ev_pos (by omega) (ev_pos (by omega) ?_)
    rw [rd_get c, wb b1, e1, List.drop_eq_getElem_cons c, List.contains_cons]
    by_cases c0 : l[i] = a
    · refine ev_pos c0 (ev_eq ?_ (Ev.now _))
      simp [c0]
    · refine ev_neg c0 (ev_eq ?_ (ih (i + 1) (by omega) (by omega)))
      rw [beq_eq_false_iff_ne.mpr (Ne.symm c0), Bool.false_or]
theorem rworks_f (l : List Int) (hl : l.length ≤ 1000000) {a : Int} (ha : 0 ≤ a) : Ev (fun k => letterbagref01_works.f k a l) (Cv.wk l a) := by
  have := rworks_l0 l hl a ha _ 0 (by omega) rfl
  rw [List.drop_zero] at this
  exact this
theorem rWorks_f (l : List Int) (a : Int) (hl : l.length ≤ 1000000) : Ev (fun k => letterbagref01_Works.f k a l) (worksB l a) := by
  have hr := rright_f l hl
  unfold letterbagref01_Works.f
  cases hR : rightB l with
  | false =>
    rw [hR] at hr
    rw [worksB_bad hR]
    exact Ev.bind hr (ev_neg Bool.false_ne_true (Ev.now _))
  | true =>
    rw [hR] at hr
    refine Ev.bind hr (ev_pos rfl (Ev.bind (ev_val (rwithin_f a _)) ?_))
    by_cases ha : 0 ≤ a ∧ a ≤ 730484
    · rw [worksB_ok hR ha]
      exact ev_pos (errOf_ok ha) (Ev.bind (rworks_f l hl ha.1) (Ev.now _))
    · rw [worksB_err hR ha]
      exact ev_neg (errOf_ne ha) (Ev.now _)
theorem rbetween_l0 (l : List Int) (hl : l.length ≤ 1000000) {a b : Int} (ha : 0 ≤ a) (hb : b ≤ 730484) (d : Nat) : ∀ x : Int, a ≤ x → x ≤ b → b - x = d →
    Ev (fun k => letterbagref01_Between.l0 k b l (Cv.cnt (Cv.wk l) a x) x) (Cv.cnt (Cv.wk l) a b, 0) := by
  induction d with
  | zero =>
    intro x h1 h2 hd
    obtain rfl : x = b := by omega
    exact Ev.step (fun k => letterbagref01_Between.l0.eq_2 _ _ _ _ k) (ev_neg (by omega) (Ev.now _))
  | succ d ih =>
    intro x h1 h2 hd
    have hc := Cv.cnt_le_len (Cv.wk l) h1
    have hc0 := Cv.cnt_nonneg (Cv.wk l) a x
    have hs := Cv.cnt_succ (Cv.wk l) h1
    have b1 : -10000000 ≤ x + 1 ∧ x + 1 ≤ 10000000 := by omega
    have b2 : -10000000 ≤ Cv.cnt (Cv.wk l) a x + 1 ∧ Cv.cnt (Cv.wk l) a x + 1 ≤ 10000000 := by omega
    have ih1 := ih (x + 1) (by omega) (by omega) (by omega)
    refine Ev.step (fun k => letterbagref01_Between.l0.eq_2 _ _ _ _ k) (ev_pos (by omega) (Ev.bind (rworks_f l hl (a := x) (by omega)) ?_))
    rw [wb b1, wb b2]
    by_cases c : Cv.wk l x = true
    · rw [if_pos c] at hs
      refine ev_pos c ?_
      rw [← hs]
      exact ih1
    · rw [if_neg c, Int.add_zero] at hs
      refine ev_neg c ?_
      rw [← hs]
      exact ih1
def betB (l : List Int) (a b : Int) : Int × Int := if rightB l = true ∧ 0 ≤ a ∧ a ≤ b then (if b ≤ 730484 then (Cv.cnt (Cv.wk l) a b, 0) else (0, 3)) else (0, 2)
theorem cbetween_f (l : List Int) (a b : Int) : civil_Between.f a b l = some (betB l a b) := by
  unfold betB
  by_cases h : rightB l = true ∧ 0 ≤ a ∧ a ≤ b
  · rw [if_pos h]
    by_cases c : b ≤ 730484
    · rw [if_pos c, cbetween_ok h.1 h.2.1 h.2.2 c]
    · unfold civil_Between.f
      rw [if_pos h, if_neg c, if_neg c]
  · unfold civil_Between.f
    rw [if_neg h, if_neg h]
theorem rbetween_f (l : List Int) (hl : l.length ≤ 1000000) (a b : Int) : Ev (fun k => letterbagref01_Between.f k a b l) (betB l a b) := by
  have hr := rright_f l hl
  have no : ∀ x : Bool, x = true → ¬ (rightB l = true ∧ 0 ≤ a ∧ a ≤ b) → Ev (fun k => letterbagref01_Between.j0 k a b l x) (betB l a b) := by
    intro x hx hn
    unfold betB
    rw [if_neg hn]
    exact Ev.step (fun k => letterbagref01_Between.j0.eq_2 _ _ _ _ k) (ev_pos hx (Ev.now _))
  unfold letterbagref01_Between.f
  cases hR : rightB l with
  | false =>
    rw [hR] at hr
    exact Ev.bind hr (ev_neg Bool.false_ne_true (no _ rfl (fun h => by rw [hR] at h; exact absurd h.1 Bool.false_ne_true)))
  | true =>
    rw [hR] at hr
    refine Ev.bind hr (ev_pos rfl ?_)
    by_cases c1 : a < 0
    · exact ev_pos c1 (no _ rfl (fun h => by omega))
    · refine ev_neg c1 ?_
      by_cases c2 : b < a
      · exact no _ (decide_eq_true c2) (fun h => by omega)
      · refine Ev.step (fun k => letterbagref01_Between.j0.eq_2 _ _ _ _ k) (ev_neg (by rw [decide_eq_false c2]; exact Bool.false_ne_true) ?_)
        unfold betB
        rw [if_pos ⟨hR, by omega, by omega⟩]
        by_cases c3 : b > 730484
        · refine ev_pos c3 (ev_eq ?_ (Ev.now _))
          rw [if_neg (by omega)]
        · refine ev_neg c3 ?_
          rw [if_pos (by omega)]
          have := rbetween_l0 l hl (a := a) (b := b) (by omega) (by omega) (b - a).toNat a (by omega) (by omega) (by omega)
          rw [Cv.cnt_nil _ (Int.le_refl a)] at this
          exact this
theorem rahead_l0 (l : List Int) (hl : l.length ≤ 1000000) (d : Nat) : ∀ x m : Int, 0 ≤ x → x ≤ 730485 → 730485 - x = d → (0 ≤ m ∧ m ≤ 10000000) →
    (∃ e, Cv.IsAhead (Cv.wk l) x m e ∧ Ev (fun k => letterbagref01_Ahead.l0 k m l x) (e, 0)) ∨ (Cv.cnt (Cv.wk l) x 730485 ≤ m ∧ Ev (fun k => letterbagref01_Ahead.l0 k m l x) (0, 3)) := by
  induction d with
  | zero =>
    intro x m h0 h1 hd hm
    obtain rfl : x = 730485 := by omega
    refine .inr ⟨by rw [Cv.cnt_nil _ (Int.le_refl _)]; exact hm.1, Ev.step (fun k => letterbagref01_Ahead.l0.eq_2 _ _ _ k) (ev_neg (by omega) (Ev.now _))⟩
  | succ d ih =>
    intro x m h0 h1 hd hm
    have hx := Cv.cnt_split (Cv.wk l) (a := x) (b := x + 1) (by omega) 730485 (by omega)
    have hs := Cv.cnt_succ (Cv.wk l) (Int.le_refl x)
    rw [Cv.cnt_nil _ (Int.le_refl x)] at hs
    have b1 : -10000000 ≤ x + 1 ∧ x + 1 ≤ 10000000 := by omega
    have b2 : -10000000 ≤ m - 1 ∧ m - 1 ≤ 10000000 := by omega
    have go : ∀ {r : Int × Int}, Ev (fun k => (letterbagref01_works.f k x l).bind fun t312 => (if t312 = true then (if m = 0 then (some (x, 0)) else (letterbagref01_Ahead.l0 k (wrap64 (m - 1)) l (wrap64 (x + 1)))) else (letterbagref01_Ahead.l0 k m l (wrap64 (x + 1))))) r → Ev (fun k => letterbagref01_Ahead.l0 k m l x) r :=
      fun h => Ev.step (fun k => letterbagref01_Ahead.l0.eq_2 _ _ _ k) (ev_pos (by omega) h)
    have hw := rworks_f l hl h0
    rw [wb b1, wb b2] at go
    cases c : Cv.wk l x with
    | true =>
      rw [c] at hw hs
      simp only [if_true] at hs
      by_cases c0 : m = 0
      · refine .inl ⟨x, ⟨Int.le_refl x, by omega, c, by rw [Cv.cnt_nil _ (Int.le_refl x), c0]⟩, go (Ev.bind hw (ev_pos rfl (ev_pos c0 (Ev.now _))))⟩
      · rcases ih (x + 1) (m - 1) (by omega) (by omega) (by omega) (by omega) with ⟨e, k1, k2⟩ | ⟨k1, k2⟩
        · refine .inl ⟨e, ⟨by have := k1.ge; omega, k1.le, k1.is, ?_⟩, go (Ev.bind hw (ev_pos rfl (ev_neg c0 k2)))⟩
          have := Cv.cnt_split (Cv.wk l) (a := x) (b := x + 1) (by omega) e k1.ge
          have := k1.cnt
          omega
        · exact .inr ⟨by omega, go (Ev.bind hw (ev_pos rfl (ev_neg c0 k2)))⟩
    | false =>
      rw [c] at hw hs
      simp only [Bool.false_eq_true, if_false] at hs
      rcases ih (x + 1) m (by omega) (by omega) (by omega) hm with ⟨e, k1, k2⟩ | ⟨k1, k2⟩
      · refine .inl ⟨e, ⟨by have := k1.ge; omega, k1.le, k1.is, ?_⟩, go (Ev.bind hw (ev_neg Bool.false_ne_true k2))⟩
        have := Cv.cnt_split (Cv.wk l) (a := x) (b := x + 1) (by omega) e k1.ge
        have := k1.cnt
        omega
      · exact .inr ⟨by omega, go (Ev.bind hw (ev_neg Bool.false_ne_true k2))⟩
theorem ahead_same (l : List Int) (hl : l.length ≤ 1000000) (a n : Int) (hn : n ≤ 10000000) : ∃ r, Ev (fun k => civil_Ahead.f k a n l) r ∧ Ev (fun k => letterbagref01_Ahead.f k a n l) r := by
  have hr := rright_f l hl
  by_cases h : rightB l = true ∧ 0 ≤ a ∧ 0 ≤ n
  · have rf : ∀ {r : Int × Int}, Ev (fun k => letterbagref01_Ahead.l0 k n l a) r → Ev (fun k => letterbagref01_Ahead.f k a n l) r := by
      intro r hx
      unfold letterbagref01_Ahead.f
      rw [h.1] at hr
      exact Ev.bind hr (ev_pos rfl (ev_neg (by omega) (Ev.step (fun k => letterbagref01_Ahead.j0.eq_2 _ _ _ _ k) (ev_neg (by rw [decide_eq_false (show ¬ n < 0 by omega)]; exact Bool.false_ne_true) hx))))
    by_cases c : a ≤ 730484
    · rcases rahead_l0 l hl (730485 - a).toNat a n h.2.1 (by omega) (by omega) (by omega) with ⟨e, k1, k2⟩ | ⟨k1, k2⟩
      · have hlt : n < Cv.cnt (Cv.wk l) a 730485 := by
          refine Classical.byContradiction fun hc => Cv.ahead_none (p := Cv.wk l) (a := a) (n := n) (by omega) e k1
        obtain ⟨e', j1, j2⟩ := cahead_ok h.1 ⟨h.2.1, c⟩ h.2.2 hlt
        obtain rfl := k1.unique j1
        exact ⟨_, j2, rf k2⟩
      · exact ⟨_, cahead_none h.1 h.2.1 h.2.2 k1, rf k2⟩
    · refine ⟨(0, 3), cahead_none h.1 h.2.1 h.2.2 (by rw [Cv.cnt_nil _ (by omega)]; exact h.2.2), rf ?_⟩
      exact Ev.step (fun k => letterbagref01_Ahead.l0.eq_2 _ _ _ k) (ev_neg c (Ev.now _))
  · refine ⟨(0, 2), cahead_arg h, ?_⟩
    have no : ∀ x : Bool, x = true → Ev (fun k => letterbagref01_Ahead.j0 k a n l x) (0, 2) := fun x hx => Ev.step (fun k => letterbagref01_Ahead.j0.eq_2 _ _ _ _ k) (ev_pos hx (Ev.now _))
    unfold letterbagref01_Ahead.f
    cases hR : rightB l with
    | false =>
      rw [hR] at hr
      exact Ev.bind hr (ev_neg Bool.false_ne_true (no _ rfl))
    | true =>
      rw [hR] at hr
      refine Ev.bind hr (ev_pos rfl ?_)
      by_cases c1 : a < 0
      · exact ev_pos c1 (no _ rfl)
      · exact ev_neg c1 (no _ (decide_eq_true (Classical.byContradiction fun hc => h ⟨hR, by omega, by omega⟩)))
theorem j0_same (x y m d : Int) (b : Bool) : ∃ r, Ev (fun k => civil_Yearly.j0 k x y m d b) r ∧ Ev (fun k => letterbagref01_Yearly.j0 k x y m d b) r := by
  cases b with
  | true => exact ⟨_, Ev.step (fun k => civil_Yearly.j0.eq_2 _ _ _ _ _ k) (ev_pos rfl (Ev.now _)), Ev.step (fun k => letterbagref01_Yearly.j0.eq_2 _ _ _ _ _ k) (ev_pos rfl (Ev.now _))⟩
  | false =>
    have cs : ∀ {r}, Ev (fun k => (if x > y then (if (wrap64 ((wrap64 (100 * m)) + d)) ≥ x then (some (true, 0)) else (some (decide ((wrap64 ((wrap64 (100 * m)) + d)) ≤ y), 0))) else (if (wrap64 ((wrap64 (100 * m)) + d)) ≥ x then (some (decide ((wrap64 ((wrap64 (100 * m)) + d)) ≤ y), 0)) else (some (false, (0 : Int)))))) r → Ev (fun k => civil_Yearly.j0 k x y m d false) r :=
      fun h => Ev.step (fun k => civil_Yearly.j0.eq_2 _ _ _ _ _ k) (ev_neg Bool.false_ne_true h)
    have rs : ∀ {r}, Ev (fun k => (if x ≤ y then (if (wrap64 ((wrap64 (100 * m)) + d)) ≥ x then (some (decide ((wrap64 ((wrap64 (100 * m)) + d)) ≤ y), 0)) else (some (false, 0))) else (if (wrap64 ((wrap64 (100 * m)) + d)) ≥ x then (some (true, 0)) else (some (decide ((wrap64 ((wrap64 (100 * m)) + d)) ≤ y), (0 : Int)))))) r → Ev (fun k => letterbagref01_Yearly.j0 k x y m d false) r :=
      fun h => Ev.step (fun k => letterbagref01_Yearly.j0.eq_2 _ _ _ _ _ k) (ev_neg Bool.false_ne_true h)
    generalize wrap64 ((wrap64 (100 * m)) + d) = z at cs rs
    by_cases c1 : x > y
    · have c2 : ¬ x ≤ y := by omega
      by_cases c3 : z ≥ x
      · exact ⟨_, cs (ev_pos c1 (ev_pos c3 (Ev.now _))), rs (ev_neg c2 (ev_pos c3 (Ev.now _)))⟩
      · exact ⟨_, cs (ev_pos c1 (ev_neg c3 (Ev.now _))), rs (ev_neg c2 (ev_neg c3 (Ev.now _)))⟩
    · have c2 : x ≤ y := by omega
      by_cases c3 : z ≥ x
      · exact ⟨_, cs (ev_neg c1 (ev_pos c3 (Ev.now _))), rs (ev_pos c2 (ev_pos c3 (Ev.now _)))⟩
      · exact ⟨_, cs (ev_neg c1 (ev_neg c3 (Ev.now _))), rs (ev_pos c2 (ev_neg c3 (Ev.now _)))⟩
theorem yearly_same (a x y : Int) : ∃ r, Ev (fun k => civil_Yearly.f k a x y) r ∧ Ev (fun k => letterbagref01_Yearly.f k a x y) r := by
  unfold civil_Yearly.f letterbagref01_Yearly.f
  by_cases h : 0 ≤ a ∧ a ≤ 730484
  · obtain ⟨yy, m, d, i1, i2⟩ := has_date h
    subst i2
    by_cases c : Cv.IsDate 2004 (wrap64 (Int.tdiv x 100)) (Int.tmod x 100)
    · obtain ⟨r, k1, k2⟩ := j0_same x y m d (!decide (Cv.IsDate 2004 (wrap64 (Int.tdiv y 100)) (Int.tmod y 100)))
      exact ⟨r, Ev.bind (cdate_f i1) (ev_pos rfl (Ev.bind (ev_val (dated_f _ _ _)) (ev_pos (decide_eq_true c) (Ev.bind (ev_val (dated_f _ _ _)) k1)))),
        Ev.bind (rdate_f i1) (ev_pos rfl (Ev.bind (ev_val (rdate_b _ _ _)) (ev_pos (decide_eq_true c) (Ev.bind (ev_val (rdate_b _ _ _)) k2))))⟩
    · obtain ⟨r, k1, k2⟩ := j0_same x y m d true
      have cf : ¬ decide (Cv.IsDate 2004 (wrap64 (Int.tdiv x 100)) (Int.tmod x 100)) = true := by rw [decide_eq_false c]; exact Bool.false_ne_true
      exact ⟨r, Ev.bind (cdate_f i1) (ev_pos rfl (Ev.bind (ev_val (dated_f _ _ _)) (ev_neg cf k1))), Ev.bind (rdate_f i1) (ev_pos rfl (Ev.bind (ev_val (rdate_b _ _ _)) (ev_neg cf k2)))⟩
  · exact ⟨_, Ev.bind (cdate_no h) (ev_neg (errOf_ne h) (Ev.now _)), Ev.bind (rdate_no h) (ev_neg (errOf_ne h) (Ev.now _))⟩
theorem few_f (l : List Int) (a b n : Int) : ∃ t, letterbaglaw01_few.f l a b n = some t ∧ (t = true → l.length ≤ 60 ∧ n ≤ 1000) := by
  unfold letterbaglaw01_few.f
  by_cases c1 : (l.length : Int) ≤ 60
  · rw [if_pos c1]
    by_cases c2 : b ≤ wrap64 (a + 4000)
    · rw [if_pos c2]
      exact ⟨_, rfl, fun h => ⟨by omega, of_decide_eq_true h⟩⟩
    · rw [if_neg c2]
      exact ⟨_, rfl, fun h => absurd h Bool.false_ne_true⟩
  · rw [if_neg c1]
    exact ⟨_, rfl, fun h => absurd h Bool.false_ne_true⟩
theorem civilWorks_all (l : List Int) (a1 a2 a3 a4 a5 : Int) : Ev (fun k => letterbaglaw01_civilWorks.f k l a1 a2 a3 a4 a5) true := by
  obtain ⟨t, ht, hb⟩ := few_f l a1 a2 a3
  unfold letterbaglaw01_civilWorks.f
  refine Ev.bind (ev_val ht) ?_
  by_cases c : t = true
  · obtain ⟨hl, hn⟩ := hb c
    obtain ⟨i, i1, i2⟩ := ahead_same l (by omega) a1 a3 (by omega)
    obtain ⟨u, u1, u2⟩ := yearly_same a1 a4 a5
    refine ev_pos c (Ev.bind (cworks_f l a1 (by omega)) (Ev.bind (rWorks_f l a1 (by omega)) (Ev.bind (right_f l (by omega)) (Ev.bind (rright_f l (by omega)) ?_))))
    exact Ev.bind (ev_val (cbetween_f l a1 a2)) (Ev.bind (rbetween_f l (by omega) a1 a2) (Ev.bind i1 (Ev.bind i2 (Ev.bind u1 (Ev.bind u2 (ev_pos ⟨rfl, rfl, rfl, rfl, rfl⟩ (Ev.now _)))))))
  · exact ev_neg c (Ev.now _)
end Go.Proofs.YtehnhedifhpalaaDoor.Cp
set_option linter.unusedVariables false
set_option linter.unusedSimpArgs false
namespace Go.Proofs.YtehnhedifhpalaaDoor.Cp
open Go.RowKit Go.Proofs.YtehnhedifhpalaaDoorW.PrintWords Go.Proofs.YtehnhedifhpalaaDoorW.PrintLast Go.Proofs.YtehnhedifhpalaaDoorW.PrintMore
theorem rightFrom_mk : ∀ (l : List Int) (last : Int), (∀ d ∈ l, last < d ∧ d ≤ 730484) → l.Pairwise (· < ·) → rightFrom last l = true := by
  intro l
  induction l with
  | nil => intro last _ _; rfl
  | cons a l ih =>
    intro last h1 h2
    obtain ⟨k1, k2⟩ := List.pairwise_cons.1 h2
    have ha := h1 a (List.mem_cons_self)
    simp only [rightFrom]
    rw [decide_eq_false (show ¬ a ≤ last by omega), decide_eq_false (show ¬ (730484 : Int) < a by omega), ih a (fun d hd => ⟨k1 d hd, (h1 d (List.mem_cons_of_mem _ hd)).2⟩) k2]
    rfl
theorem rightB_mk {l : List Int} (h1 : l.Pairwise (· < ·)) (h2 : ∀ d ∈ l, 0 ≤ d ∧ d ≤ 730484) (h3 : l.length ≤ 1000) : rightB l = true := by
  unfold rightB
  rw [rightFrom_mk l (-1) (fun d hd => by have := h2 d hd; omega) h1, decide_eq_true h3]
  rfl
end Go.Proofs.YtehnhedifhpalaaDoor.Cp
namespace Go.Proofs.YtehnhedifhpalaaDoor.Cp
open Go.RowKit Go.Proofs.YtehnhedifhpalaaDoorW.PrintWords Go.Proofs.YtehnhedifhpalaaDoorW.PrintLast Go.Proofs.YtehnhedifhpalaaDoorW.PrintMore
attribute [local go_sem] max2_int min2_int max_two min_two max_three min_three max_four min_four   -- for this text's walks alone
set_option linter.unusedVariables false
set_option linter.unusedSimpArgs false
def letterbagref01_Weekday.f (a0 : Int) : Option (Int × Int) := (letterbagref01_within.f a0 730484).bind fun t395 => (if t395 = 0 then (some (Int.tmod a0 7, 0)) else (some (0, t395)))
set_option maxHeartbeats 8000000 in
set_option maxRecDepth 100000 in
theorem letterbagref01_Weekday.calls (a0 : Int) (r1 : Int) (r2 : Int) (w : World) (h : letterbagref01_Weekday.f a0 = some (r1, r2)) :
  Calls Tryd.prog 42 #[.int .i64 a0] w fun e w' => e = .returned (.tuple #[.int .i64 r1, .int .i64 r2]) ∧ Drawn0 w w' := by
 have H : ((letterbagref01_within.f a0 730484).bind fun t395 => (if t395 = 0 then (some (Int.tmod a0 7, 0)) else (some (0, t395)))) = some (r1, r2) := h
 clear h
 replace H := Option.bind_eq_some_iff.mp H
 obtain ⟨t395, A20, H⟩ := H
 replace H : (if t395 = 0 then (some (Int.tmod a0 7, 0)) else (some (0, t395))) = some (r1, r2) := H
 have A2 := Aside0.mk A20
 clear A20
 by_cases c3 : t395 = 0
 ·rw [if_pos c3] at H
  have c3b0 : (t395 == 0) = true := beq_iff_eq.mpr c3
  have c3b1 : (t395 != 0) = false := bne_eq_false_iff_eq.mpr c3
  clear c3
  simp only [Option.some.injEq, Prod.mk.injEq] at H
  obtain ⟨rfl, rfl⟩ := H
  go_enter Tryd.func42, Tryd.ntmps42
  go_wp2_with (first | ((with_reducible refine gate_callee (f := 64) rfl ?_); refine goesL_ (some 6) rfl rfl Tryd.func64 (by kernel_rfl) rfl #[.int .i64 a0, .int .i64 730484] rfl (by (try simp only [List.map_toArray, List.map_cons, List.map_nil]); first | done | rfl | (simp only [List.length_drop, List.length_take]; rfl)) ?_; (with_reducible refine (letterbagref01_within.calls a0 730484 t395 _ A2.out).mono ?_); rintro e w' ⟨rfl, ⟨nd, rfl⟩⟩; refine ⟨_, rfl, ?_⟩))
  go_ret2
  exact ⟨by first | rfl | (simp; done) | (simp [*]; done) | (simp; exact (show ∀ a_ b_ : Bool, (a_ == b_) = (!(a_ != b_)) from by decide) _ _), by repeat (first | exact Drawn0.refl _ | apply Drawn0.step)⟩
 ·rw [if_neg c3] at H
  have c3b0 : (t395 == 0) = false := beq_eq_false_iff_ne.mpr c3
  have c3b1 : (t395 != 0) = true := bne_iff_ne.mpr c3
  simp only [Option.some.injEq, Prod.mk.injEq] at H
  obtain ⟨rfl, rfl⟩ := H
  go_enter Tryd.func42, Tryd.ntmps42
  go_wp2_with (first | ((with_reducible refine gate_callee (f := 64) rfl ?_); refine goesL_ (some 6) rfl rfl Tryd.func64 (by kernel_rfl) rfl #[.int .i64 a0, .int .i64 730484] rfl (by (try simp only [List.map_toArray, List.map_cons, List.map_nil]); first | done | rfl | (simp only [List.length_drop, List.length_take]; rfl)) ?_; (with_reducible refine (letterbagref01_within.calls a0 730484 t395 _ A2.out).mono ?_); rintro e w' ⟨rfl, ⟨nd, rfl⟩⟩; refine ⟨_, rfl, ?_⟩))
  go_ret2
  exact ⟨by first | rfl | (simp; done) | (simp [*]; done) | (simp; exact (show ∀ a_ b_ : Bool, (a_ == b_) = (!(a_ != b_)) from by decide) _ _), by repeat (first | exact Drawn0.refl _ | apply Drawn0.step)⟩
def letterbagref01_Time.j0 : Nat → Int → Int → Bool → Option (Int × Int)
 | 0, _, _, _ => none
 | k + 1, x0, x1, x15 => if x15 = true then (some (0, 2)) else (if x0 > 730484 then (some (0, 3)) else (some (wrap64 ((wrap64 (1440 * x0)) + x1), 0)))
def letterbagref01_Time.f (k : Nat) (a0 : Int) (a1 : Int) : Option (Int × Int) := if a0 < 0 then (letterbagref01_Time.j0 k a0 a1 true) else (if a1 < 0 then (letterbagref01_Time.j0 k a0 a1 true) else (letterbagref01_Time.j0 k a0 a1 (decide (a1 > 1439))))
set_option maxHeartbeats 8000000 in
set_option maxRecDepth 100000 in
theorem letterbagref01_Time.calls (k : Nat) (a0 : Int) (a1 : Int) (r1 : Int) (r2 : Int) (w : World) (h : letterbagref01_Time.f k a0 a1 = some (r1, r2)) :
  Calls Tryd.prog 44 #[.int .i64 a0, .int .i64 a1] w fun e w' => e = .returned (.tuple #[.int .i64 r1, .int .i64 r2]) ∧ Drawn0 w w' := by
 have H : (if a0 < 0 then (letterbagref01_Time.j0 k a0 a1 true) else (if a1 < 0 then (letterbagref01_Time.j0 k a0 a1 true) else (letterbagref01_Time.j0 k a0 a1 (decide (a1 > 1439))))) = some (r1, r2) := h
 clear h
 have HC3 := Aside0.mk H
 clear H
 go_enter Tryd.func44, Tryd.ntmps44
 go_upto_region 1 with (fail)
 go_cut [15] (fun v15 wc => ∃ (kq : Nat) (x15_2 : Bool), v15 = .bool x15_2 ∧ Aside0 (letterbagref01_Time.j0 kq a0 a1 x15_2 = some (r1, r2)) ∧ Aside0 (kq ≤ k) ∧ Drawn0 w wc)
 case first =>
  have H := HC3.out
  clear HC3
  by_cases c4 : a0 < 0
  ·rw [if_pos c4] at H
   have c4b0 : decide (a0 < 0) = true := decide_eq_true c4
   clear c4
   (first | rw [c4b0] | (simp only [i64_w, i32_w]; rw [c4b0]) | skip)
   have H' := Aside0.mk H
   clear H
   go_wp2
   go_meet
   case rel => exact ⟨_, (true), (by first | rfl | (simp; done) | (simp [*]; done) | (simp; exact (show ∀ a_ b_ : Bool, (a_ == b_) = (!(a_ != b_)) from by decide) _ _) | (rw [Bool.eq_iff_iff]; simp; done) | (simp; rw [Bool.eq_iff_iff]; simp; done)), H', ⟨by first | omega | exact Nat.le_refl _⟩, by repeat (first | exact Drawn0.refl _ | apply Drawn0.step)⟩
  ·rw [if_neg c4] at H
   have c4b0 : decide (a0 < 0) = false := decide_eq_false c4
   clear c4
   (first | rw [c4b0] | (simp only [i64_w, i32_w]; rw [c4b0]) | skip)
   by_cases c5 : a1 < 0
   ·rw [if_pos c5] at H
    have c5b0 : decide (a1 < 0) = true := decide_eq_true c5
    clear c5
    have H' := Aside0.mk H
    clear H
    go_wp2
    go_meet
    case rel => exact ⟨_, (true), (by first | rfl | (simp; done) | (simp [*]; done) | (simp; exact (show ∀ a_ b_ : Bool, (a_ == b_) = (!(a_ != b_)) from by decide) _ _) | (rw [Bool.eq_iff_iff]; simp; done) | (simp; rw [Bool.eq_iff_iff]; simp; done)), H', ⟨by first | omega | exact Nat.le_refl _⟩, by repeat (first | exact Drawn0.refl _ | apply Drawn0.step)⟩
   ·rw [if_neg c5] at H
    have c5b0 : decide (a1 < 0) = false := decide_eq_false c5
    clear c5
    have H' := Aside0.mk H
    clear H
    go_wp2
    go_meet
    case rel => exact ⟨_, (decide (a1 > 1439)), (by first | rfl | (simp; done) | (simp [*]; done) | (simp; exact (show ∀ a_ b_ : Bool, (a_ == b_) = (!(a_ != b_)) from by decide) _ _) | (rw [Bool.eq_iff_iff]; simp; done) | (simp; rw [Bool.eq_iff_iff]; simp; done)), H', ⟨by first | omega | exact Nat.le_refl _⟩, by repeat (first | exact Drawn0.refl _ | apply Drawn0.step)⟩
 case rest =>
  clear HC3
  try clear p2
  try clear c4
  try clear c4b0
  try clear c5
  try clear c5b0
  obtain ⟨kq, x15_2, rfl, HA, HJ2, ⟨mc2, rfl⟩⟩ := hcut
  cases kq with
  | zero => exact absurd HA.out (by simp [letterbagref01_Time.j0])
  | succ kj2 =>
   have H := HA.out
   clear HA
   simp only [letterbagref01_Time.j0] at H
   by_cases c6 : x15_2 = true
   ·subst c6
    have H1 : (some (0, 2)) = some (r1, r2) := by rw [if_pos rfl] at H; exact H
    clear H
    have H := H1
    clear H1
    simp only [Option.some.injEq, Prod.mk.injEq] at H
    obtain ⟨rfl, rfl⟩ := H
    go_wp2
    go_ret2
    exact ⟨by first | rfl | (simp; done) | (simp [*]; done) | (simp; exact (show ∀ a_ b_ : Bool, (a_ == b_) = (!(a_ != b_)) from by decide) _ _), by repeat (first | exact Drawn0.refl _ | apply Drawn0.step)⟩
   ·replace c6 := Bool.eq_false_iff.mpr c6
    subst c6
    have H1 : (if a0 > 730484 then (some (0, 3)) else (some (wrap64 ((wrap64 (1440 * a0)) + a1), 0))) = some (r1, r2) := by rw [if_neg (show ¬ (false = true) by decide)] at H; exact H
    clear H
    have H := H1
    clear H1
    by_cases c7 : a0 > 730484
    ·rw [if_pos c7] at H
     have c7b0 : decide (730484 < a0) = true := decide_eq_true c7
     clear c7
     simp only [Option.some.injEq, Prod.mk.injEq] at H
     obtain ⟨rfl, rfl⟩ := H
     go_wp2
     go_ret2
     exact ⟨by first | rfl | (simp; done) | (simp [*]; done) | (simp; exact (show ∀ a_ b_ : Bool, (a_ == b_) = (!(a_ != b_)) from by decide) _ _), by repeat (first | exact Drawn0.refl _ | apply Drawn0.step)⟩
    ·rw [if_neg c7] at H
     have c7b0 : decide (730484 < a0) = false := decide_eq_false c7
     clear c7
     simp only [Option.some.injEq, Prod.mk.injEq] at H
     obtain ⟨rfl, rfl⟩ := H
     go_wp2
     go_ret2
     exact ⟨by first | rfl | (simp; done) | (simp [*]; done) | (simp; exact (show ∀ a_ b_ : Bool, (a_ == b_) = (!(a_ != b_)) from by decide) _ _), by repeat (first | exact Drawn0.refl _ | apply Drawn0.step)⟩
def letterbagref01_Split.f (a0 : Int) : Option (Int × Int × Int) := (letterbagref01_within.f a0 1051898399).bind fun t396 => (if t396 = 0 then (some (wrap64 (Int.tdiv a0 1440), Int.tmod a0 1440, 0)) else (some (0, 0, t396)))
set_option maxHeartbeats 8000000 in
set_option maxRecDepth 100000 in
theorem letterbagref01_Split.calls (a0 : Int) (r1 : Int) (r2 : Int) (r3 : Int) (w : World) (h : letterbagref01_Split.f a0 = some (r1, r2, r3)) :
  Calls Tryd.prog 66 #[.int .i64 a0] w fun e w' => e = .returned (.tuple #[.int .i64 r1, .int .i64 r2, .int .i64 r3]) ∧ Drawn0 w w' := by
 have H : ((letterbagref01_within.f a0 1051898399).bind fun t396 => (if t396 = 0 then (some (wrap64 (Int.tdiv a0 1440), Int.tmod a0 1440, 0)) else (some (0, 0, t396)))) = some (r1, r2, r3) := h
 clear h
 replace H := Option.bind_eq_some_iff.mp H
 obtain ⟨t396, A20, H⟩ := H
 replace H : (if t396 = 0 then (some (wrap64 (Int.tdiv a0 1440), Int.tmod a0 1440, 0)) else (some (0, 0, t396))) = some (r1, r2, r3) := H
 have A2 := Aside0.mk A20
 clear A20
 by_cases c3 : t396 = 0
 ·rw [if_pos c3] at H
  have c3b0 : (t396 == 0) = true := beq_iff_eq.mpr c3
  have c3b1 : (t396 != 0) = false := bne_eq_false_iff_eq.mpr c3
  clear c3
  simp only [Option.some.injEq, Prod.mk.injEq] at H
  obtain ⟨rfl, rfl, rfl⟩ := H
  go_enter Tryd.func66, Tryd.ntmps66
  go_wp2_with (first | ((with_reducible refine gate_callee (f := 64) rfl ?_); refine goesL_ (some 7) rfl rfl Tryd.func64 (by kernel_rfl) rfl #[.int .i64 a0, .int .i64 1051898399] rfl (by (try simp only [List.map_toArray, List.map_cons, List.map_nil]); first | done | rfl | (simp only [List.length_drop, List.length_take]; rfl)) ?_; (with_reducible refine (letterbagref01_within.calls a0 1051898399 t396 _ A2.out).mono ?_); rintro e w' ⟨rfl, ⟨nd, rfl⟩⟩; refine ⟨_, rfl, ?_⟩))
  go_ret3
  exact ⟨by first | rfl | (simp; done) | (simp [*]; done) | (simp; exact (show ∀ a_ b_ : Bool, (a_ == b_) = (!(a_ != b_)) from by decide) _ _), by repeat (first | exact Drawn0.refl _ | apply Drawn0.step)⟩
 ·rw [if_neg c3] at H
  have c3b0 : (t396 == 0) = false := beq_eq_false_iff_ne.mpr c3
  have c3b1 : (t396 != 0) = true := bne_iff_ne.mpr c3
  simp only [Option.some.injEq, Prod.mk.injEq] at H
  obtain ⟨rfl, rfl, rfl⟩ := H
  go_enter Tryd.func66, Tryd.ntmps66
  go_wp2_with (first | ((with_reducible refine gate_callee (f := 64) rfl ?_); refine goesL_ (some 7) rfl rfl Tryd.func64 (by kernel_rfl) rfl #[.int .i64 a0, .int .i64 1051898399] rfl (by (try simp only [List.map_toArray, List.map_cons, List.map_nil]); first | done | rfl | (simp only [List.length_drop, List.length_take]; rfl)) ?_; (with_reducible refine (letterbagref01_within.calls a0 1051898399 t396 _ A2.out).mono ?_); rintro e w' ⟨rfl, ⟨nd, rfl⟩⟩; refine ⟨_, rfl, ?_⟩))
  go_ret3
  exact ⟨by first | rfl | (simp; done) | (simp [*]; done) | (simp; exact (show ∀ a_ b_ : Bool, (a_ == b_) = (!(a_ != b_)) from by decide) _ _), by repeat (first | exact Drawn0.refl _ | apply Drawn0.step)⟩
def letterbagref01_TimeText.f (k : Nat) (a0 : Int) : Option (ByteArray × Int) := (letterbagref01_Split.f a0).bind fun bt397 => (if bt397.2.2 = 0 then ((letterbagref01_Text.f k bt397.1).bind fun bt400 => (if bt400.1.size + 1 ≤ 9223372036854775807 then ((letterbagref01_digits.f k (wrap64 (Int.tdiv bt397.2.1 60)) 2).bind fun t402 => (if (bt400.1 ++ (⟨#[32]⟩ : ByteArray)).size + t402.size ≤ 9223372036854775807 then (if ((bt400.1 ++ (⟨#[32]⟩ : ByteArray)) ++ t402).size + 1 ≤ 9223372036854775807 then ((letterbagref01_digits.f k (Int.tmod bt397.2.1 60) 2).bind fun t403 => (if (((bt400.1 ++ (⟨#[32]⟩ : ByteArray)) ++ t402) ++ (⟨#[58]⟩ : ByteArray)).size + t403.size ≤ 9223372036854775807 then (some ((((bt400.1 ++ (⟨#[32]⟩ : ByteArray)) ++ t402) ++ (⟨#[58]⟩ : ByteArray)) ++ t403, 0)) else (none))) else (none)) else (none))) else (none))) else (some ((⟨#[]⟩ : ByteArray), bt397.2.2)))
set_option maxHeartbeats 8000000 in
set_option maxRecDepth 100000 in
theorem letterbagref01_TimeText.calls (k : Nat) (a0 : Int) (r1 : ByteArray) (r2 : Int) (w : World) (h : letterbagref01_TimeText.f k a0 = some (r1, r2)) :
  Calls Tryd.prog 67 #[.int .i64 a0] w fun e w' => e = .returned (.tuple #[.string r1, .int .i64 r2]) ∧ Below w.heap.size w w' := by
 have HB := Aside0.mk (Below.refl w.heap.size w)
 have H : ((letterbagref01_Split.f a0).bind fun bt397 => (if bt397.2.2 = 0 then ((letterbagref01_Text.f k bt397.1).bind fun bt400 => (if bt400.1.size + 1 ≤ 9223372036854775807 then ((letterbagref01_digits.f k (wrap64 (Int.tdiv bt397.2.1 60)) 2).bind fun t402 => (if (bt400.1 ++ (⟨#[32]⟩ : ByteArray)).size + t402.size ≤ 9223372036854775807 then (if ((bt400.1 ++ (⟨#[32]⟩ : ByteArray)) ++ t402).size + 1 ≤ 9223372036854775807 then ((letterbagref01_digits.f k (Int.tmod bt397.2.1 60) 2).bind fun t403 => (if (((bt400.1 ++ (⟨#[32]⟩ : ByteArray)) ++ t402) ++ (⟨#[58]⟩ : ByteArray)).size + t403.size ≤ 9223372036854775807 then (some ((((bt400.1 ++ (⟨#[32]⟩ : ByteArray)) ++ t402) ++ (⟨#[58]⟩ : ByteArray)) ++ t403, 0)) else (none))) else (none)) else (none))) else (none))) else (some ((⟨#[]⟩ : ByteArray), bt397.2.2)))) = some (r1, r2) := h
 clear h
 replace H := Option.bind_eq_some_iff.mp H
 obtain ⟨⟨t397, t398, t399⟩, A20, H⟩ := H
 replace H : (if t399 = 0 then ((letterbagref01_Text.f k t397).bind fun bt400 => (if bt400.1.size + 1 ≤ 9223372036854775807 then ((letterbagref01_digits.f k (wrap64 (Int.tdiv t398 60)) 2).bind fun t402 => (if (bt400.1 ++ (⟨#[32]⟩ : ByteArray)).size + t402.size ≤ 9223372036854775807 then (if ((bt400.1 ++ (⟨#[32]⟩ : ByteArray)) ++ t402).size + 1 ≤ 9223372036854775807 then ((letterbagref01_digits.f k (Int.tmod t398 60) 2).bind fun t403 => (if (((bt400.1 ++ (⟨#[32]⟩ : ByteArray)) ++ t402) ++ (⟨#[58]⟩ : ByteArray)).size + t403.size ≤ 9223372036854775807 then (some ((((bt400.1 ++ (⟨#[32]⟩ : ByteArray)) ++ t402) ++ (⟨#[58]⟩ : ByteArray)) ++ t403, 0)) else (none))) else (none)) else (none))) else (none))) else (some ((⟨#[]⟩ : ByteArray), t399))) = some (r1, r2) := H
 have A2 := Aside0.mk A20
 clear A20
 by_cases c3 : t399 = 0
 ·rw [if_pos c3] at H
  have c3b0 : (t399 == 0) = true := beq_iff_eq.mpr c3
  have c3b1 : (t399 != 0) = false := bne_eq_false_iff_eq.mpr c3
  clear c3
  replace H := Option.bind_eq_some_iff.mp H
  obtain ⟨⟨t400, t401⟩, A40, H⟩ := H
  replace H : (if t400.size + 1 ≤ 9223372036854775807 then ((letterbagref01_digits.f k (wrap64 (Int.tdiv t398 60)) 2).bind fun t402 => (if (t400 ++ (⟨#[32]⟩ : ByteArray)).size + t402.size ≤ 9223372036854775807 then (if ((t400 ++ (⟨#[32]⟩ : ByteArray)) ++ t402).size + 1 ≤ 9223372036854775807 then ((letterbagref01_digits.f k (Int.tmod t398 60) 2).bind fun t403 => (if (((t400 ++ (⟨#[32]⟩ : ByteArray)) ++ t402) ++ (⟨#[58]⟩ : ByteArray)).size + t403.size ≤ 9223372036854775807 then (some ((((t400 ++ (⟨#[32]⟩ : ByteArray)) ++ t402) ++ (⟨#[58]⟩ : ByteArray)) ++ t403, 0)) else (none))) else (none)) else (none))) else (none)) = some (r1, r2) := H
  have A4 := Aside0.mk A40
  clear A40
  by_cases c5 : t400.size + 1 ≤ 9223372036854775807
  ·rw [if_pos c5] at H
   have c5b0 := eq_true c5
   have c5b1 : decide (t400.size + 1 ≤ 9223372036854775807) = true := decide_eq_true c5
   try have c5b2 : (9223372036854775807 < t400.size + 1) = False := eq_false (Nat.not_lt.2 c5)
   replace H := Option.bind_eq_some_iff.mp H
   obtain ⟨t402, A60, H⟩ := H
   replace H : (if (t400 ++ (⟨#[32]⟩ : ByteArray)).size + t402.size ≤ 9223372036854775807 then (if ((t400 ++ (⟨#[32]⟩ : ByteArray)) ++ t402).size + 1 ≤ 9223372036854775807 then ((letterbagref01_digits.f k (Int.tmod t398 60) 2).bind fun t403 => (if (((t400 ++ (⟨#[32]⟩ : ByteArray)) ++ t402) ++ (⟨#[58]⟩ : ByteArray)).size + t403.size ≤ 9223372036854775807 then (some ((((t400 ++ (⟨#[32]⟩ : ByteArray)) ++ t402) ++ (⟨#[58]⟩ : ByteArray)) ++ t403, 0)) else (none))) else (none)) else (none)) = some (r1, r2) := H
   have A6 := Aside0.mk A60
   clear A60
   by_cases c7 : (t400 ++ (⟨#[32]⟩ : ByteArray)).size + t402.size ≤ 9223372036854775807
   ·rw [if_pos c7] at H
    have c7b0 := eq_true c7
    have c7b1 : decide ((t400 ++ (⟨#[32]⟩ : ByteArray)).size + t402.size ≤ 9223372036854775807) = true := decide_eq_true c7
    try have c7b2 : (9223372036854775807 < (t400 ++ (⟨#[32]⟩ : ByteArray)).size + t402.size) = False := eq_false (Nat.not_lt.2 c7)
    try have c7b3 : (9223372036854775807 < t400.size + 1 + t402.size) = False := eq_false (by have h_ := c7; simp only [ByteArray.size_append, (show (⟨#[32]⟩ : ByteArray).size = 1 from rfl)] at h_; omega)
    by_cases c8 : ((t400 ++ (⟨#[32]⟩ : ByteArray)) ++ t402).size + 1 ≤ 9223372036854775807
    ·rw [if_pos c8] at H
     have c8b0 := eq_true c8
     have c8b1 : decide (((t400 ++ (⟨#[32]⟩ : ByteArray)) ++ t402).size + 1 ≤ 9223372036854775807) = true := decide_eq_true c8
     try have c8b2 : (9223372036854775807 < ((t400 ++ (⟨#[32]⟩ : ByteArray)) ++ t402).size + 1) = False := eq_false (Nat.not_lt.2 c8)
     try have c8b3 : (9223372036854775807 < t400.size + 1 + t402.size + 1) = False := eq_false (by have h_ := c8; simp only [ByteArray.size_append, (show (⟨#[32]⟩ : ByteArray).size = 1 from rfl)] at h_; omega)
     replace H := Option.bind_eq_some_iff.mp H
     obtain ⟨t403, A90, H⟩ := H
     replace H : (if (((t400 ++ (⟨#[32]⟩ : ByteArray)) ++ t402) ++ (⟨#[58]⟩ : ByteArray)).size + t403.size ≤ 9223372036854775807 then (some ((((t400 ++ (⟨#[32]⟩ : ByteArray)) ++ t402) ++ (⟨#[58]⟩ : ByteArray)) ++ t403, 0)) else (none)) = some (r1, r2) := H
     have A9 := Aside0.mk A90
     clear A90
     by_cases c10 : (((t400 ++ (⟨#[32]⟩ : ByteArray)) ++ t402) ++ (⟨#[58]⟩ : ByteArray)).size + t403.size ≤ 9223372036854775807
     ·rw [if_pos c10] at H
      have c10b0 := eq_true c10
      have c10b1 : decide ((((t400 ++ (⟨#[32]⟩ : ByteArray)) ++ t402) ++ (⟨#[58]⟩ : ByteArray)).size + t403.size ≤ 9223372036854775807) = true := decide_eq_true c10
      try have c10b2 : (9223372036854775807 < (((t400 ++ (⟨#[32]⟩ : ByteArray)) ++ t402) ++ (⟨#[58]⟩ : ByteArray)).size + t403.size) = False := eq_false (Nat.not_lt.2 c10)
      try have c10b3 : (9223372036854775807 < t400.size + 1 + t402.size + 1 + t403.size) = False := eq_false (by have h_ := c10; simp only [ByteArray.size_append, (show (⟨#[32]⟩ : ByteArray).size = 1 from rfl), (show (⟨#[58]⟩ : ByteArray).size = 1 from rfl)] at h_; omega)
      simp only [Option.some.injEq, Prod.mk.injEq] at H
      obtain ⟨rfl, rfl⟩ := H
      go_enter Tryd.func67, Tryd.ntmps67
      go_wp2_with (first | ((with_reducible refine gate_callee (f := 66) rfl ?_); refine goesL_ (some 11) rfl rfl Tryd.func66 (by kernel_rfl) rfl #[.int .i64 a0] rfl (by (try simp only [List.map_toArray, List.map_cons, List.map_nil]); first | done | rfl | (simp only [List.length_drop, List.length_take]; rfl)) ?_; (with_reducible refine (letterbagref01_Split.calls a0 t397 t398 t399 _ A2.out).mono ?_); rintro e w' ⟨rfl, ⟨nd, rfl⟩⟩; refine ⟨_, rfl, ?_⟩) | ((with_reducible refine gate_callee (f := 43) rfl ?_); refine goesL_ (some 20) rfl rfl Tryd.func43 (by kernel_rfl) rfl #[.int .i64 t397] rfl (by (try simp only [List.map_toArray, List.map_cons, List.map_nil]); first | done | rfl | (simp only [List.length_drop, List.length_take]; rfl)) ?_; (with_reducible refine (letterbagref01_Text.calls k t397 t400 t401 _ A4.out).mono ?_); rintro e w11 ⟨rfl, hb⟩; refine ⟨_, rfl, ?_⟩; have n0_ := Aside0.mk (below_step (by repeat (first | (with_reducible first | exact HB.out | apply below_alloc | apply pw_below_drewN | apply below_drew1) | exact HB.out)) hb); clear HB; have HB := n0_; clear n0_; (try clear hb); (try clear hb2); (try clear hk); (try clear hi)) | ((with_reducible refine gate_callee (f := 65) rfl ?_); refine goesL_ (some 27) rfl rfl Tryd.func65 (by kernel_rfl) rfl #[.int .i64 (wrap64 (Int.tdiv t398 60)), .int .i64 2] rfl (by (try simp only [List.map_toArray, List.map_cons, List.map_nil]); first | done | rfl | (simp only [List.length_drop, List.length_take]; rfl)) ?_; (with_reducible refine (letterbagref01_digits.calls k (wrap64 (Int.tdiv t398 60)) 2 t402 _ A6.out).mono ?_); rintro e w12 ⟨rfl, hb⟩; refine ⟨_, rfl, ?_⟩; have n0_ := Aside0.mk (below_step (by repeat (first | (with_reducible first | exact HB.out | apply below_alloc | apply pw_below_drewN | apply below_drew1) | exact HB.out)) hb); clear HB; have HB := n0_; clear n0_; (try clear hb); (try clear hb2); (try clear hk); (try clear hi)) | ((with_reducible refine gate_callee (f := 65) rfl ?_); refine goesL_ (some 32) rfl rfl Tryd.func65 (by kernel_rfl) rfl #[.int .i64 (Int.tmod t398 60), .int .i64 2] rfl (by (try simp only [List.map_toArray, List.map_cons, List.map_nil]); first | done | rfl | (simp only [List.length_drop, List.length_take]; rfl)) ?_; (with_reducible refine (letterbagref01_digits.calls k (Int.tmod t398 60) 2 t403 _ A9.out).mono ?_); rintro e w13 ⟨rfl, hb⟩; refine ⟨_, rfl, ?_⟩; have n0_ := Aside0.mk (below_step (by repeat (first | (with_reducible first | exact HB.out | apply below_alloc | apply pw_below_drewN | apply below_drew1) | exact HB.out)) hb); clear HB; have HB := n0_; clear n0_; (try clear hb); (try clear hb2); (try clear hk); (try clear hi)))
      go_ret2
      exact ⟨by first | rfl | (simp [errW_none, errW_some] <;> rfl) | (simp [*, errW_none, errW_some] <;> rfl), by repeat (first | (with_reducible first | exact HB.out | apply below_alloc | apply pw_below_drewN | apply below_drew1) | exact HB.out)⟩
     ·rw [if_neg c10] at H
      exact absurd H (by simp)
    ·rw [if_neg c8] at H
     exact absurd H (by simp)
   ·rw [if_neg c7] at H
    exact absurd H (by simp)
  ·rw [if_neg c5] at H
   exact absurd H (by simp)
 ·rw [if_neg c3] at H
  have c3b0 : (t399 == 0) = false := beq_eq_false_iff_ne.mpr c3
  have c3b1 : (t399 != 0) = true := bne_iff_ne.mpr c3
  simp only [Option.some.injEq, Prod.mk.injEq] at H
  obtain ⟨rfl, rfl⟩ := H
  go_enter Tryd.func67, Tryd.ntmps67
  go_wp2_with (first | ((with_reducible refine gate_callee (f := 66) rfl ?_); refine goesL_ (some 11) rfl rfl Tryd.func66 (by kernel_rfl) rfl #[.int .i64 a0] rfl (by (try simp only [List.map_toArray, List.map_cons, List.map_nil]); first | done | rfl | (simp only [List.length_drop, List.length_take]; rfl)) ?_; (with_reducible refine (letterbagref01_Split.calls a0 t397 t398 t399 _ A2.out).mono ?_); rintro e w' ⟨rfl, ⟨nd, rfl⟩⟩; refine ⟨_, rfl, ?_⟩))
  go_ret2
  exact ⟨by first | rfl | (simp [errW_none, errW_some] <;> rfl) | (simp [*, errW_none, errW_some] <;> rfl), by repeat (first | (with_reducible first | exact HB.out | apply below_alloc | apply pw_below_drewN | apply below_drew1) | exact HB.out)⟩
end Go.Proofs.YtehnhedifhpalaaDoor.Cp
namespace Go.Proofs.YtehnhedifhpalaaDoor.Cp
open Go.RowKit Go.Proofs.YtehnhedifhpalaaDoorW.PrintWords Go.Proofs.YtehnhedifhpalaaDoorW.PrintLast Go.Proofs.YtehnhedifhpalaaDoorW.PrintMore
attribute [local go_sem] max2_int min2_int max_two min_two max_three min_three max_four min_four   -- for this text's walks alone
set_option linter.unusedVariables false
set_option linter.unusedSimpArgs false
def letterbaglaw01_split.f (k : Nat) (a0 : Int) : Option (Bool) := (civil_Split.f a0).bind fun bt404 => ((letterbagref01_Split.f a0).bind fun bt407 => ((civil_TimeText.f k a0).bind fun bt410 => ((letterbagref01_TimeText.f k a0).bind fun bt412 => (if bt404.1 = bt407.1 then (if bt404.2.1 = bt407.2.1 then (if bt404.2.2 = bt407.2.2 then (if bt410.1.toList = bt412.1.toList then (some (bt410.2 == bt412.2)) else (some false)) else (some false)) else (some false)) else (some false)))))
set_option maxHeartbeats 8000000 in
set_option maxRecDepth 100000 in
theorem letterbaglaw01_split.calls (k : Nat) (a0 : Int) (r : Bool) (w : World) (hg : Aside0 (Tab w)) (h : letterbaglaw01_split.f k a0 = some r) :
  Calls Tryd.prog 45 #[.int .i64 a0] w fun e w' => e = .returned (.bool r) ∧ Below w.heap.size w w' := by
 have HB := Aside0.mk (Below.refl w.heap.size w)
 have H : ((civil_Split.f a0).bind fun bt404 => ((letterbagref01_Split.f a0).bind fun bt407 => ((civil_TimeText.f k a0).bind fun bt410 => ((letterbagref01_TimeText.f k a0).bind fun bt412 => (if bt404.1 = bt407.1 then (if bt404.2.1 = bt407.2.1 then (if bt404.2.2 = bt407.2.2 then (if bt410.1.toList = bt412.1.toList then (some (bt410.2 == bt412.2)) else (some false)) else (some false)) else (some false)) else (some false)))))) = some r := h
 clear h
 replace H := Option.bind_eq_some_iff.mp H
 obtain ⟨⟨t404, t405, t406⟩, A20, H⟩ := H
 replace H : ((letterbagref01_Split.f a0).bind fun bt407 => ((civil_TimeText.f k a0).bind fun bt410 => ((letterbagref01_TimeText.f k a0).bind fun bt412 => (if t404 = bt407.1 then (if t405 = bt407.2.1 then (if t406 = bt407.2.2 then (if bt410.1.toList = bt412.1.toList then (some (bt410.2 == bt412.2)) else (some false)) else (some false)) else (some false)) else (some false))))) = some r := H
 have A2 := Aside0.mk A20
 clear A20
 replace H := Option.bind_eq_some_iff.mp H
 obtain ⟨⟨t407, t408, t409⟩, A30, H⟩ := H
 replace H : ((civil_TimeText.f k a0).bind fun bt410 => ((letterbagref01_TimeText.f k a0).bind fun bt412 => (if t404 = t407 then (if t405 = t408 then (if t406 = t409 then (if bt410.1.toList = bt412.1.toList then (some (bt410.2 == bt412.2)) else (some false)) else (some false)) else (some false)) else (some false)))) = some r := H
 have A3 := Aside0.mk A30
 clear A30
 replace H := Option.bind_eq_some_iff.mp H
 obtain ⟨⟨t410, t411⟩, A40, H⟩ := H
 replace H : ((letterbagref01_TimeText.f k a0).bind fun bt412 => (if t404 = t407 then (if t405 = t408 then (if t406 = t409 then (if t410.toList = bt412.1.toList then (some (t411 == bt412.2)) else (some false)) else (some false)) else (some false)) else (some false))) = some r := H
 have A4 := Aside0.mk A40
 clear A40
 replace H := Option.bind_eq_some_iff.mp H
 obtain ⟨⟨t412, t413⟩, A50, H⟩ := H
 replace H : (if t404 = t407 then (if t405 = t408 then (if t406 = t409 then (if t410.toList = t412.toList then (some (t411 == t413)) else (some false)) else (some false)) else (some false)) else (some false)) = some r := H
 have A5 := Aside0.mk A50
 clear A50
 by_cases c6 : t404 = t407
 ·rw [if_pos c6] at H
  have c6b0 : (t404 == t407) = true := beq_iff_eq.mpr c6
  have c6b1 : (t404 != t407) = false := bne_eq_false_iff_eq.mpr c6
  clear c6
  by_cases c7 : t405 = t408
  ·rw [if_pos c7] at H
   have c7b0 : (t405 == t408) = true := beq_iff_eq.mpr c7
   have c7b1 : (t405 != t408) = false := bne_eq_false_iff_eq.mpr c7
   clear c7
   by_cases c8 : t406 = t409
   ·rw [if_pos c8] at H
    have c8b0 : (t406 == t409) = true := beq_iff_eq.mpr c8
    have c8b1 : (t406 != t409) = false := bne_eq_false_iff_eq.mpr c8
    clear c8
    by_cases c9 : t410.toList = t412.toList
    ·rw [if_pos c9] at H
     have c9b0 : (t410.toList == t412.toList) = true := beq_iff_eq.mpr c9
     have c9b1 : (t410.toList != t412.toList) = false := bne_eq_false_iff_eq.mpr c9
     clear c9
     obtain rfl := Option.some.inj H
     go_enter Tryd.func45, Tryd.ntmps45
     go_wp2_with (first | ((with_reducible refine gate_callee (f := 23) rfl ?_); refine goesL_ (some 15) rfl rfl Tryd.func23 (by kernel_rfl) rfl #[.int .i64 a0] rfl (by (try simp only [List.map_toArray, List.map_cons, List.map_nil]); first | done | rfl | (simp only [List.length_drop, List.length_take]; rfl)) ?_; (with_reducible refine (civil_Split.calls a0 t404 t405 t406 _ A2.out).mono ?_); rintro e w' ⟨rfl, ⟨nd, rfl⟩⟩; refine ⟨_, rfl, ?_⟩) | ((with_reducible refine gate_callee (f := 66) rfl ?_); refine goesL_ (some 21) rfl rfl Tryd.func66 (by kernel_rfl) rfl #[.int .i64 a0] rfl (by (try simp only [List.map_toArray, List.map_cons, List.map_nil]); first | done | rfl | (simp only [List.length_drop, List.length_take]; rfl)) ?_; (with_reducible refine (letterbagref01_Split.calls a0 t407 t408 t409 _ A3.out).mono ?_); rintro e w' ⟨rfl, ⟨nd, rfl⟩⟩; refine ⟨_, rfl, ?_⟩) | ((with_reducible refine gate_callee (f := 24) rfl ?_); refine goesL_ (some 27) rfl rfl Tryd.func24 (by kernel_rfl) rfl #[.int .i64 a0] rfl (by (try simp only [List.map_toArray, List.map_cons, List.map_nil]); first | done | rfl | (simp only [List.length_drop, List.length_take]; rfl)) ?_; (with_reducible refine (civil_TimeText.calls k a0 t410 t411 _ ?tabG A4.out).mono ?_); (case tabG => (first | exact hg | exact ⟨hg.out.below (by repeat (first | (with_reducible first | exact HB.out | apply below_alloc | apply pw_below_drewN | apply below_drew1) | exact HB.out))⟩)); rintro e w10 ⟨rfl, hb⟩; refine ⟨_, rfl, ?_⟩; have n0_ := Aside0.mk (below_step (by repeat (first | (with_reducible first | exact HB.out | apply below_alloc | apply pw_below_drewN | apply below_drew1) | exact HB.out)) hb); clear HB; have HB := n0_; clear n0_; (try clear hb); (try clear hb2); (try clear hk); (try clear hi)) | ((with_reducible refine gate_callee (f := 67) rfl ?_); refine goesL_ (some 32) rfl rfl Tryd.func67 (by kernel_rfl) rfl #[.int .i64 a0] rfl (by (try simp only [List.map_toArray, List.map_cons, List.map_nil]); first | done | rfl | (simp only [List.length_drop, List.length_take]; rfl)) ?_; (with_reducible refine (letterbagref01_TimeText.calls k a0 t412 t413 _ A5.out).mono ?_); rintro e w11 ⟨rfl, hb⟩; refine ⟨_, rfl, ?_⟩; have n0_ := Aside0.mk (below_step (by repeat (first | (with_reducible first | exact HB.out | apply below_alloc | apply pw_below_drewN | apply below_drew1) | exact HB.out)) hb); clear HB; have HB := n0_; clear n0_; (try clear hb); (try clear hb2); (try clear hk); (try clear hi)))
     go_ret
     exact ⟨by first | rfl | (simp [errW_none, errW_some] <;> rfl) | (simp [*, errW_none, errW_some] <;> rfl), by repeat (first | (with_reducible first | exact HB.out | apply below_alloc | apply pw_below_drewN | apply below_drew1) | exact HB.out)⟩
    ·rw [if_neg c9] at H
     have c9b0 : (t410.toList == t412.toList) = false := beq_eq_false_iff_ne.mpr c9
     have c9b1 : (t410.toList != t412.toList) = true := bne_iff_ne.mpr c9
     obtain rfl := Option.some.inj H
     go_enter Tryd.func45, Tryd.ntmps45
     go_wp2_with (first | ((with_reducible refine gate_callee (f := 23) rfl ?_); refine goesL_ (some 15) rfl rfl Tryd.func23 (by kernel_rfl) rfl #[.int .i64 a0] rfl (by (try simp only [List.map_toArray, List.map_cons, List.map_nil]); first | done | rfl | (simp only [List.length_drop, List.length_take]; rfl)) ?_; (with_reducible refine (civil_Split.calls a0 t404 t405 t406 _ A2.out).mono ?_); rintro e w' ⟨rfl, ⟨nd, rfl⟩⟩; refine ⟨_, rfl, ?_⟩) | ((with_reducible refine gate_callee (f := 66) rfl ?_); refine goesL_ (some 21) rfl rfl Tryd.func66 (by kernel_rfl) rfl #[.int .i64 a0] rfl (by (try simp only [List.map_toArray, List.map_cons, List.map_nil]); first | done | rfl | (simp only [List.length_drop, List.length_take]; rfl)) ?_; (with_reducible refine (letterbagref01_Split.calls a0 t407 t408 t409 _ A3.out).mono ?_); rintro e w' ⟨rfl, ⟨nd, rfl⟩⟩; refine ⟨_, rfl, ?_⟩) | ((with_reducible refine gate_callee (f := 24) rfl ?_); refine goesL_ (some 27) rfl rfl Tryd.func24 (by kernel_rfl) rfl #[.int .i64 a0] rfl (by (try simp only [List.map_toArray, List.map_cons, List.map_nil]); first | done | rfl | (simp only [List.length_drop, List.length_take]; rfl)) ?_; (with_reducible refine (civil_TimeText.calls k a0 t410 t411 _ ?tabG A4.out).mono ?_); (case tabG => (first | exact hg | exact ⟨hg.out.below (by repeat (first | (with_reducible first | exact HB.out | apply below_alloc | apply pw_below_drewN | apply below_drew1) | exact HB.out))⟩)); rintro e w12 ⟨rfl, hb⟩; refine ⟨_, rfl, ?_⟩; have n0_ := Aside0.mk (below_step (by repeat (first | (with_reducible first | exact HB.out | apply below_alloc | apply pw_below_drewN | apply below_drew1) | exact HB.out)) hb); clear HB; have HB := n0_; clear n0_; (try clear hb); (try clear hb2); (try clear hk); (try clear hi)) | ((with_reducible refine gate_callee (f := 67) rfl ?_); refine goesL_ (some 32) rfl rfl Tryd.func67 (by kernel_rfl) rfl #[.int .i64 a0] rfl (by (try simp only [List.map_toArray, List.map_cons, List.map_nil]); first | done | rfl | (simp only [List.length_drop, List.length_take]; rfl)) ?_; (with_reducible refine (letterbagref01_TimeText.calls k a0 t412 t413 _ A5.out).mono ?_); rintro e w13 ⟨rfl, hb⟩; refine ⟨_, rfl, ?_⟩; have n0_ := Aside0.mk (below_step (by repeat (first | (with_reducible first | exact HB.out | apply below_alloc | apply pw_below_drewN | apply below_drew1) | exact HB.out)) hb); clear HB; have HB := n0_; clear n0_; (try clear hb); (try clear hb2); (try clear hk); (try clear hi)))
     go_ret
     exact ⟨by first | rfl | (simp [errW_none, errW_some] <;> rfl) | (simp [*, errW_none, errW_some] <;> rfl), by repeat (first | (with_reducible first | exact HB.out | apply below_alloc | apply pw_below_drewN | apply below_drew1) | exact HB.out)⟩
   ·rw [if_neg c8] at H
    have c8b0 : (t406 == t409) = false := beq_eq_false_iff_ne.mpr c8
    have c8b1 : (t406 != t409) = true := bne_iff_ne.mpr c8
    obtain rfl := Option.some.inj H
    go_enter Tryd.func45, Tryd.ntmps45
    go_wp2_with (first | ((with_reducible refine gate_callee (f := 23) rfl ?_); refine goesL_ (some 15) rfl rfl Tryd.func23 (by kernel_rfl) rfl #[.int .i64 a0] rfl (by (try simp only [List.map_toArray, List.map_cons, List.map_nil]); first | done | rfl | (simp only [List.length_drop, List.length_take]; rfl)) ?_; (with_reducible refine (civil_Split.calls a0 t404 t405 t406 _ A2.out).mono ?_); rintro e w' ⟨rfl, ⟨nd, rfl⟩⟩; refine ⟨_, rfl, ?_⟩) | ((with_reducible refine gate_callee (f := 66) rfl ?_); refine goesL_ (some 21) rfl rfl Tryd.func66 (by kernel_rfl) rfl #[.int .i64 a0] rfl (by (try simp only [List.map_toArray, List.map_cons, List.map_nil]); first | done | rfl | (simp only [List.length_drop, List.length_take]; rfl)) ?_; (with_reducible refine (letterbagref01_Split.calls a0 t407 t408 t409 _ A3.out).mono ?_); rintro e w' ⟨rfl, ⟨nd, rfl⟩⟩; refine ⟨_, rfl, ?_⟩) | ((with_reducible refine gate_callee (f := 24) rfl ?_); refine goesL_ (some 27) rfl rfl Tryd.func24 (by kernel_rfl) rfl #[.int .i64 a0] rfl (by (try simp only [List.map_toArray, List.map_cons, List.map_nil]); first | done | rfl | (simp only [List.length_drop, List.length_take]; rfl)) ?_; (with_reducible refine (civil_TimeText.calls k a0 t410 t411 _ ?tabG A4.out).mono ?_); (case tabG => (first | exact hg | exact ⟨hg.out.below (by repeat (first | (with_reducible first | exact HB.out | apply below_alloc | apply pw_below_drewN | apply below_drew1) | exact HB.out))⟩)); rintro e w14 ⟨rfl, hb⟩; refine ⟨_, rfl, ?_⟩; have n0_ := Aside0.mk (below_step (by repeat (first | (with_reducible first | exact HB.out | apply below_alloc | apply pw_below_drewN | apply below_drew1) | exact HB.out)) hb); clear HB; have HB := n0_; clear n0_; (try clear hb); (try clear hb2); (try clear hk); (try clear hi)) | ((with_reducible refine gate_callee (f := 67) rfl ?_); refine goesL_ (some 32) rfl rfl Tryd.func67 (by kernel_rfl) rfl #[.int .i64 a0] rfl (by (try simp only [List.map_toArray, List.map_cons, List.map_nil]); first | done | rfl | (simp only [List.length_drop, List.length_take]; rfl)) ?_; (with_reducible refine (letterbagref01_TimeText.calls k a0 t412 t413 _ A5.out).mono ?_); rintro e w15 ⟨rfl, hb⟩; refine ⟨_, rfl, ?_⟩; have n0_ := Aside0.mk (below_step (by repeat (first | (with_reducible first | exact HB.out | apply below_alloc | apply pw_below_drewN | apply below_drew1) | exact HB.out)) hb); clear HB; have HB := n0_; clear n0_; (try clear hb); (try clear hb2); (try clear hk); (try clear hi)))
    go_ret
    exact ⟨by first | rfl | (simp [errW_none, errW_some] <;> rfl) | (simp [*, errW_none, errW_some] <;> rfl), by repeat (first | (with_reducible first | exact HB.out | apply below_alloc | apply pw_below_drewN | apply below_drew1) | exact HB.out)⟩
  ·rw [if_neg c7] at H
   have c7b0 : (t405 == t408) = false := beq_eq_false_iff_ne.mpr c7
   have c7b1 : (t405 != t408) = true := bne_iff_ne.mpr c7
   obtain rfl := Option.some.inj H
   go_enter Tryd.func45, Tryd.ntmps45
   go_wp2_with (first | ((with_reducible refine gate_callee (f := 23) rfl ?_); refine goesL_ (some 15) rfl rfl Tryd.func23 (by kernel_rfl) rfl #[.int .i64 a0] rfl (by (try simp only [List.map_toArray, List.map_cons, List.map_nil]); first | done | rfl | (simp only [List.length_drop, List.length_take]; rfl)) ?_; (with_reducible refine (civil_Split.calls a0 t404 t405 t406 _ A2.out).mono ?_); rintro e w' ⟨rfl, ⟨nd, rfl⟩⟩; refine ⟨_, rfl, ?_⟩) | ((with_reducible refine gate_callee (f := 66) rfl ?_); refine goesL_ (some 21) rfl rfl Tryd.func66 (by kernel_rfl) rfl #[.int .i64 a0] rfl (by (try simp only [List.map_toArray, List.map_cons, List.map_nil]); first | done | rfl | (simp only [List.length_drop, List.length_take]; rfl)) ?_; (with_reducible refine (letterbagref01_Split.calls a0 t407 t408 t409 _ A3.out).mono ?_); rintro e w' ⟨rfl, ⟨nd, rfl⟩⟩; refine ⟨_, rfl, ?_⟩) | ((with_reducible refine gate_callee (f := 24) rfl ?_); refine goesL_ (some 27) rfl rfl Tryd.func24 (by kernel_rfl) rfl #[.int .i64 a0] rfl (by (try simp only [List.map_toArray, List.map_cons, List.map_nil]); first | done | rfl | (simp only [List.length_drop, List.length_take]; rfl)) ?_; (with_reducible refine (civil_TimeText.calls k a0 t410 t411 _ ?tabG A4.out).mono ?_); (case tabG => (first | exact hg | exact ⟨hg.out.below (by repeat (first | (with_reducible first | exact HB.out | apply below_alloc | apply pw_below_drewN | apply below_drew1) | exact HB.out))⟩)); rintro e w16 ⟨rfl, hb⟩; refine ⟨_, rfl, ?_⟩; have n0_ := Aside0.mk (below_step (by repeat (first | (with_reducible first | exact HB.out | apply below_alloc | apply pw_below_drewN | apply below_drew1) | exact HB.out)) hb); clear HB; have HB := n0_; clear n0_; (try clear hb); (try clear hb2); (try clear hk); (try clear hi)) | ((with_reducible refine gate_callee (f := 67) rfl ?_); refine goesL_ (some 32) rfl rfl Tryd.func67 (by kernel_rfl) rfl #[.int .i64 a0] rfl (by (try simp only [List.map_toArray, List.map_cons, List.map_nil]); first | done | rfl | (simp only [List.length_drop, List.length_take]; rfl)) ?_; (with_reducible refine (letterbagref01_TimeText.calls k a0 t412 t413 _ A5.out).mono ?_); rintro e w17 ⟨rfl, hb⟩; refine ⟨_, rfl, ?_⟩; have n0_ := Aside0.mk (below_step (by repeat (first | (with_reducible first | exact HB.out | apply below_alloc | apply pw_below_drewN | apply below_drew1) | exact HB.out)) hb); clear HB; have HB := n0_; clear n0_; (try clear hb); (try clear hb2); (try clear hk); (try clear hi)))
   go_ret
   exact ⟨by first | rfl | (simp [errW_none, errW_some] <;> rfl) | (simp [*, errW_none, errW_some] <;> rfl), by repeat (first | (with_reducible first | exact HB.out | apply below_alloc | apply pw_below_drewN | apply below_drew1) | exact HB.out)⟩
 ·rw [if_neg c6] at H
  have c6b0 : (t404 == t407) = false := beq_eq_false_iff_ne.mpr c6
  have c6b1 : (t404 != t407) = true := bne_iff_ne.mpr c6
  obtain rfl := Option.some.inj H
  go_enter Tryd.func45, Tryd.ntmps45
  go_wp2_with (first | ((with_reducible refine gate_callee (f := 23) rfl ?_); refine goesL_ (some 15) rfl rfl Tryd.func23 (by kernel_rfl) rfl #[.int .i64 a0] rfl (by (try simp only [List.map_toArray, List.map_cons, List.map_nil]); first | done | rfl | (simp only [List.length_drop, List.length_take]; rfl)) ?_; (with_reducible refine (civil_Split.calls a0 t404 t405 t406 _ A2.out).mono ?_); rintro e w' ⟨rfl, ⟨nd, rfl⟩⟩; refine ⟨_, rfl, ?_⟩) | ((with_reducible refine gate_callee (f := 66) rfl ?_); refine goesL_ (some 21) rfl rfl Tryd.func66 (by kernel_rfl) rfl #[.int .i64 a0] rfl (by (try simp only [List.map_toArray, List.map_cons, List.map_nil]); first | done | rfl | (simp only [List.length_drop, List.length_take]; rfl)) ?_; (with_reducible refine (letterbagref01_Split.calls a0 t407 t408 t409 _ A3.out).mono ?_); rintro e w' ⟨rfl, ⟨nd, rfl⟩⟩; refine ⟨_, rfl, ?_⟩) | ((with_reducible refine gate_callee (f := 24) rfl ?_); refine goesL_ (some 27) rfl rfl Tryd.func24 (by kernel_rfl) rfl #[.int .i64 a0] rfl (by (try simp only [List.map_toArray, List.map_cons, List.map_nil]); first | done | rfl | (simp only [List.length_drop, List.length_take]; rfl)) ?_; (with_reducible refine (civil_TimeText.calls k a0 t410 t411 _ ?tabG A4.out).mono ?_); (case tabG => (first | exact hg | exact ⟨hg.out.below (by repeat (first | (with_reducible first | exact HB.out | apply below_alloc | apply pw_below_drewN | apply below_drew1) | exact HB.out))⟩)); rintro e w18 ⟨rfl, hb⟩; refine ⟨_, rfl, ?_⟩; have n0_ := Aside0.mk (below_step (by repeat (first | (with_reducible first | exact HB.out | apply below_alloc | apply pw_below_drewN | apply below_drew1) | exact HB.out)) hb); clear HB; have HB := n0_; clear n0_; (try clear hb); (try clear hb2); (try clear hk); (try clear hi)) | ((with_reducible refine gate_callee (f := 67) rfl ?_); refine goesL_ (some 32) rfl rfl Tryd.func67 (by kernel_rfl) rfl #[.int .i64 a0] rfl (by (try simp only [List.map_toArray, List.map_cons, List.map_nil]); first | done | rfl | (simp only [List.length_drop, List.length_take]; rfl)) ?_; (with_reducible refine (letterbagref01_TimeText.calls k a0 t412 t413 _ A5.out).mono ?_); rintro e w19 ⟨rfl, hb⟩; refine ⟨_, rfl, ?_⟩; have n0_ := Aside0.mk (below_step (by repeat (first | (with_reducible first | exact HB.out | apply below_alloc | apply pw_below_drewN | apply below_drew1) | exact HB.out)) hb); clear HB; have HB := n0_; clear n0_; (try clear hb); (try clear hb2); (try clear hk); (try clear hi)))
  go_ret
  exact ⟨by first | rfl | (simp [errW_none, errW_some] <;> rfl) | (simp [*, errW_none, errW_some] <;> rfl), by repeat (first | (with_reducible first | exact HB.out | apply below_alloc | apply pw_below_drewN | apply below_drew1) | exact HB.out)⟩
mutual
def letterbaglaw01_date.j0 : Nat → Int → Int → Bool → Option (Bool)
 | 0, _, _, _ => none
 | k + 1, x0, x1, x52 => if x52 = true then (some false) else ((civil_Weekday.f x0).bind fun bt422 => ((letterbagref01_Weekday.f x0).bind fun bt424 => ((civil_Text.f k x0).bind fun bt426 => ((letterbagref01_Text.f k x0).bind fun bt428 => (if bt422.1 = bt424.1 then (if bt422.2 = bt424.2 then (if bt426.1.toList = bt428.1.toList then (letterbaglaw01_date.j1 k x0 x1 (bt426.2 != bt428.2)) else (letterbaglaw01_date.j1 k x0 x1 true)) else (letterbaglaw01_date.j1 k x0 x1 true)) else (letterbaglaw01_date.j1 k x0 x1 true))))))
def letterbaglaw01_date.j1 : Nat → Int → Int → Bool → Option (Bool)
 | 0, _, _, _ => none
 | k + 1, x0, x1, x90 => if x90 = true then (some false) else ((civil_Time.f k x0 x1).bind fun bt430 => ((letterbagref01_Time.f k x0 x1).bind fun bt432 => (if bt430.1 = bt432.1 then (if bt430.2 = bt432.2 then ((letterbaglaw01_split.f k bt430.1).bind fun t434 => (if t434 = true then ((letterbaglaw01_split.f k x0).bind fun t435 => (if t435 = true then ((letterbaglaw01_split.f k x1).bind fun t436 => (some t436)) else (some false))) else (some false))) else (some false)) else (some false))))
end
def letterbaglaw01_date.f (k : Nat) (a0 : Int) (a1 : Int) : Option (Bool) := (civil_Date.f k a0).bind fun bt414 => ((letterbagref01_Date.f k a0).bind fun bt418 => (if bt414.1 = bt418.1 then (if bt414.2.1 = bt418.2.1 then (if bt414.2.2.1 = bt418.2.2.1 then (letterbaglaw01_date.j0 k a0 a1 (bt414.2.2.2 != bt418.2.2.2)) else (letterbaglaw01_date.j0 k a0 a1 true)) else (letterbaglaw01_date.j0 k a0 a1 true)) else (letterbaglaw01_date.j0 k a0 a1 true)))
set_option maxHeartbeats 8000000 in
set_option maxRecDepth 100000 in
theorem letterbaglaw01_date.calls (k : Nat) (a0 : Int) (a1 : Int) (r : Bool) (w : World) (hg : Aside0 (Tab w)) (h : letterbaglaw01_date.f k a0 a1 = some r) :
  Calls Tryd.prog 14 #[.int .i64 a0, .int .i64 a1] w fun e w' => e = .returned (.bool r) ∧ Below w.heap.size w w' := by
 have HB := Aside0.mk (Below.refl w.heap.size w)
 have H : ((civil_Date.f k a0).bind fun bt414 => ((letterbagref01_Date.f k a0).bind fun bt418 => (if bt414.1 = bt418.1 then (if bt414.2.1 = bt418.2.1 then (if bt414.2.2.1 = bt418.2.2.1 then (letterbaglaw01_date.j0 k a0 a1 (bt414.2.2.2 != bt418.2.2.2)) else (letterbaglaw01_date.j0 k a0 a1 true)) else (letterbaglaw01_date.j0 k a0 a1 true)) else (letterbaglaw01_date.j0 k a0 a1 true)))) = some r := h
 clear h
 replace H := Option.bind_eq_some_iff.mp H
 obtain ⟨⟨t414, t415, t416, t417⟩, A30, H⟩ := H
 replace H : ((letterbagref01_Date.f k a0).bind fun bt418 => (if t414 = bt418.1 then (if t415 = bt418.2.1 then (if t416 = bt418.2.2.1 then (letterbaglaw01_date.j0 k a0 a1 (t417 != bt418.2.2.2)) else (letterbaglaw01_date.j0 k a0 a1 true)) else (letterbaglaw01_date.j0 k a0 a1 true)) else (letterbaglaw01_date.j0 k a0 a1 true))) = some r := H
 have A3 := Aside0.mk A30
 clear A30
 replace H := Option.bind_eq_some_iff.mp H
 obtain ⟨⟨t418, t419, t420, t421⟩, A40, H⟩ := H
 replace H : (if t414 = t418 then (if t415 = t419 then (if t416 = t420 then (letterbaglaw01_date.j0 k a0 a1 (t417 != t421)) else (letterbaglaw01_date.j0 k a0 a1 true)) else (letterbaglaw01_date.j0 k a0 a1 true)) else (letterbaglaw01_date.j0 k a0 a1 true)) = some r := H
 have A4 := Aside0.mk A40
 clear A40
 have HC5 := Aside0.mk H
 clear H
 go_enter Tryd.func14, Tryd.ntmps14
 go_upto_region 3 with (first | ((with_reducible refine gate_callee (f := 19) rfl ?_); refine goesL_ (some 23) rfl rfl Tryd.func19 (by kernel_rfl) rfl #[.int .i64 a0] rfl (by (try simp only [List.map_toArray, List.map_cons, List.map_nil]); first | done | rfl | (simp only [List.length_drop, List.length_take]; rfl)) ?_; (with_reducible refine (civil_Date.calls k a0 t414 t415 t416 t417 _ ?tabG A3.out).mono ?_); (case tabG => (first | exact hg | exact ⟨hg.out.below (by repeat (first | (with_reducible first | exact HB.out | apply below_alloc | apply pw_below_drewN | apply below_drew1) | exact HB.out))⟩)); rintro e w6 ⟨rfl, hb⟩; refine ⟨_, rfl, ?_⟩; have n0_ := Aside0.mk (below_step (by repeat (first | (with_reducible first | exact HB.out | apply below_alloc | apply pw_below_drewN | apply below_drew1) | exact HB.out)) hb); clear HB; have HB := n0_; clear n0_; (try clear hb); (try clear hb2); (try clear hk); (try clear hi)) | ((with_reducible refine gate_callee (f := 41) rfl ?_); refine goesL_ (some 30) rfl rfl Tryd.func41 (by kernel_rfl) rfl #[.int .i64 a0] rfl (by (try simp only [List.map_toArray, List.map_cons, List.map_nil]); first | done | rfl | (simp only [List.length_drop, List.length_take]; rfl)) ?_; (with_reducible refine (letterbagref01_Date.calls k a0 t418 t419 t420 t421 _ A4.out).mono ?_); rintro e w' ⟨rfl, ⟨nd, rfl⟩⟩; refine ⟨_, rfl, ?_⟩))
 (try simp only [Act.put, List.setIfInBounds_toArray, List.set_cons_zero, List.set_cons_succ])
 go_cut [52] (fun v52 wc => ∃ (kq : Nat) (x52_4 : Bool), v52 = .bool x52_4 ∧ Aside0 (letterbaglaw01_date.j0 kq a0 a1 x52_4 = some r) ∧ Aside0 (kq ≤ k) ∧ Aside0 (Below w.heap.size w wc))
 case first =>
  have H := HC5.out
  clear HC5
  by_cases c7 : t414 = t418
  ·rw [if_pos c7] at H
   have c7b0 : (t414 == t418) = true := beq_iff_eq.mpr c7
   have c7b1 : (t414 != t418) = false := bne_eq_false_iff_eq.mpr c7
   clear c7
   (first | rw [c7b0] | (simp only [i64_w, i32_w]; rw [c7b0]) | skip)
   by_cases c8 : t415 = t419
   ·rw [if_pos c8] at H
    have c8b0 : (t415 == t419) = true := beq_iff_eq.mpr c8
    have c8b1 : (t415 != t419) = false := bne_eq_false_iff_eq.mpr c8
    clear c8
    by_cases c9 : t416 = t420
    ·rw [if_pos c9] at H
     have c9b0 : (t416 == t420) = true := beq_iff_eq.mpr c9
     have c9b1 : (t416 != t420) = false := bne_eq_false_iff_eq.mpr c9
     clear c9
     have H' := Aside0.mk H
     clear H
     go_wp2
     go_meet
     case rel => exact ⟨_, ((t417 != t421)), (by first | rfl | (simp; done) | (simp [*]; done) | (simp; exact (show ∀ a_ b_ : Bool, (a_ == b_) = (!(a_ != b_)) from by decide) _ _) | (rw [Bool.eq_iff_iff]; simp; done) | (simp; rw [Bool.eq_iff_iff]; simp; done)), H', ⟨by first | omega | exact Nat.le_refl _⟩, ⟨by repeat (first | (with_reducible first | exact HB.out | apply below_alloc | apply pw_below_drewN | apply below_drew1) | exact HB.out)⟩⟩
    ·rw [if_neg c9] at H
     have c9b0 : (t416 == t420) = false := beq_eq_false_iff_ne.mpr c9
     have c9b1 : (t416 != t420) = true := bne_iff_ne.mpr c9
     have H' := Aside0.mk H
     clear H
     go_wp2
     go_meet
     case rel => exact ⟨_, (true), (by first | rfl | (simp; done) | (simp [*]; done) | (simp; exact (show ∀ a_ b_ : Bool, (a_ == b_) = (!(a_ != b_)) from by decide) _ _) | (rw [Bool.eq_iff_iff]; simp; done) | (simp; rw [Bool.eq_iff_iff]; simp; done)), H', ⟨by first | omega | exact Nat.le_refl _⟩, ⟨by repeat (first | (with_reducible first | exact HB.out | apply below_alloc | apply pw_below_drewN | apply below_drew1) | exact HB.out)⟩⟩
   ·rw [if_neg c8] at H
    have c8b0 : (t415 == t419) = false := beq_eq_false_iff_ne.mpr c8
    have c8b1 : (t415 != t419) = true := bne_iff_ne.mpr c8
    have H' := Aside0.mk H
    clear H
    go_wp2
    go_meet
    case rel => exact ⟨_, (true), (by first | rfl | (simp; done) | (simp [*]; done) | (simp; exact (show ∀ a_ b_ : Bool, (a_ == b_) = (!(a_ != b_)) from by decide) _ _) | (rw [Bool.eq_iff_iff]; simp; done) | (simp; rw [Bool.eq_iff_iff]; simp; done)), H', ⟨by first | omega | exact Nat.le_refl _⟩, ⟨by repeat (first | (with_reducible first | exact HB.out | apply below_alloc | apply pw_below_drewN | apply below_drew1) | exact HB.out)⟩⟩
  ·rw [if_neg c7] at H
   have c7b0 : (t414 == t418) = false := beq_eq_false_iff_ne.mpr c7
   have c7b1 : (t414 != t418) = true := bne_iff_ne.mpr c7
   (first | rw [c7b0] | (simp only [i64_w, i32_w]; rw [c7b0]) | skip)
   have H' := Aside0.mk H
   clear H
   go_wp2
   go_meet
   case rel => exact ⟨_, (true), (by first | rfl | (simp; done) | (simp [*]; done) | (simp; exact (show ∀ a_ b_ : Bool, (a_ == b_) = (!(a_ != b_)) from by decide) _ _) | (rw [Bool.eq_iff_iff]; simp; done) | (simp; rw [Bool.eq_iff_iff]; simp; done)), H', ⟨by first | omega | exact Nat.le_refl _⟩, ⟨by repeat (first | (with_reducible first | exact HB.out | apply below_alloc | apply pw_below_drewN | apply below_drew1) | exact HB.out)⟩⟩
 case rest =>
  clear HC5
  try clear c1
  try clear p2
  try clear c4
  try clear c7
  try clear c7b0
  try clear c7b1
  try clear c8
  try clear c8b0
  try clear c8b1
  try clear c9
  try clear c9b0
  try clear c9b1
  obtain ⟨kq, x52_4, rfl, HA, HJ4, HB⟩ := hcut
  cases kq with
  | zero => exact absurd HA.out (by simp [letterbaglaw01_date.j0])
  | succ kj4 =>
   have H := HA.out
   clear HA
   simp only [letterbaglaw01_date.j0] at H
   by_cases c10 : x52_4 = true
   ·subst c10
    have H1 : (some false) = some r := by rw [if_pos rfl] at H; exact H
    clear H
    have H := H1
    clear H1
    obtain rfl := Option.some.inj H
    go_wp2
    go_ret
    exact ⟨by first | rfl | (simp [errW_none, errW_some] <;> rfl) | (simp [*, errW_none, errW_some] <;> rfl), by repeat (first | (with_reducible first | exact HB.out | apply below_alloc | apply pw_below_drewN | apply below_drew1) | exact HB.out)⟩
   ·replace c10 := Bool.eq_false_iff.mpr c10
    subst c10
    have H1 : ((civil_Weekday.f a0).bind fun bt422 => ((letterbagref01_Weekday.f a0).bind fun bt424 => ((civil_Text.f kj4 a0).bind fun bt426 => ((letterbagref01_Text.f kj4 a0).bind fun bt428 => (if bt422.1 = bt424.1 then (if bt422.2 = bt424.2 then (if bt426.1.toList = bt428.1.toList then (letterbaglaw01_date.j1 kj4 a0 a1 (bt426.2 != bt428.2)) else (letterbaglaw01_date.j1 kj4 a0 a1 true)) else (letterbaglaw01_date.j1 kj4 a0 a1 true)) else (letterbaglaw01_date.j1 kj4 a0 a1 true)))))) = some r := by rw [if_neg (show ¬ (false = true) by decide)] at H; exact H
    clear H
    have H := H1
    clear H1
    replace H := Option.bind_eq_some_iff.mp H
    obtain ⟨⟨t422, t423⟩, A110, H⟩ := H
    replace H : ((letterbagref01_Weekday.f a0).bind fun bt424 => ((civil_Text.f kj4 a0).bind fun bt426 => ((letterbagref01_Text.f kj4 a0).bind fun bt428 => (if t422 = bt424.1 then (if t423 = bt424.2 then (if bt426.1.toList = bt428.1.toList then (letterbaglaw01_date.j1 kj4 a0 a1 (bt426.2 != bt428.2)) else (letterbaglaw01_date.j1 kj4 a0 a1 true)) else (letterbaglaw01_date.j1 kj4 a0 a1 true)) else (letterbaglaw01_date.j1 kj4 a0 a1 true))))) = some r := H
    have A11 := Aside0.mk A110
    clear A110
    replace H := Option.bind_eq_some_iff.mp H
    obtain ⟨⟨t424, t425⟩, A120, H⟩ := H
    replace H : ((civil_Text.f kj4 a0).bind fun bt426 => ((letterbagref01_Text.f kj4 a0).bind fun bt428 => (if t422 = t424 then (if t423 = t425 then (if bt426.1.toList = bt428.1.toList then (letterbaglaw01_date.j1 kj4 a0 a1 (bt426.2 != bt428.2)) else (letterbaglaw01_date.j1 kj4 a0 a1 true)) else (letterbaglaw01_date.j1 kj4 a0 a1 true)) else (letterbaglaw01_date.j1 kj4 a0 a1 true)))) = some r := H
    have A12 := Aside0.mk A120
    clear A120
    replace H := Option.bind_eq_some_iff.mp H
    obtain ⟨⟨t426, t427⟩, A130, H⟩ := H
    replace H : ((letterbagref01_Text.f kj4 a0).bind fun bt428 => (if t422 = t424 then (if t423 = t425 then (if t426.toList = bt428.1.toList then (letterbaglaw01_date.j1 kj4 a0 a1 (t427 != bt428.2)) else (letterbaglaw01_date.j1 kj4 a0 a1 true)) else (letterbaglaw01_date.j1 kj4 a0 a1 true)) else (letterbaglaw01_date.j1 kj4 a0 a1 true))) = some r := H
    have A13 := Aside0.mk A130
    clear A130
    replace H := Option.bind_eq_some_iff.mp H
    obtain ⟨⟨t428, t429⟩, A140, H⟩ := H
    replace H : (if t422 = t424 then (if t423 = t425 then (if t426.toList = t428.toList then (letterbaglaw01_date.j1 kj4 a0 a1 (t427 != t429)) else (letterbaglaw01_date.j1 kj4 a0 a1 true)) else (letterbaglaw01_date.j1 kj4 a0 a1 true)) else (letterbaglaw01_date.j1 kj4 a0 a1 true)) = some r := H
    have A14 := Aside0.mk A140
    clear A140
    have HC15 := Aside0.mk H
    clear H
    go_upto_region 9 with (first | ((with_reducible refine gate_callee (f := 20) rfl ?_); refine goesL_ (some 55) rfl rfl Tryd.func20 (by kernel_rfl) rfl #[.int .i64 a0] rfl (by (try simp only [List.map_toArray, List.map_cons, List.map_nil]); first | done | rfl | (simp only [List.length_drop, List.length_take]; rfl)) ?_; (with_reducible refine (civil_Weekday.calls a0 t422 t423 _ A11.out).mono ?_); rintro e w' ⟨rfl, ⟨nd, rfl⟩⟩; refine ⟨_, rfl, ?_⟩) | ((with_reducible refine gate_callee (f := 42) rfl ?_); refine goesL_ (some 60) rfl rfl Tryd.func42 (by kernel_rfl) rfl #[.int .i64 a0] rfl (by (try simp only [List.map_toArray, List.map_cons, List.map_nil]); first | done | rfl | (simp only [List.length_drop, List.length_take]; rfl)) ?_; (with_reducible refine (letterbagref01_Weekday.calls a0 t424 t425 _ A12.out).mono ?_); rintro e w' ⟨rfl, ⟨nd, rfl⟩⟩; refine ⟨_, rfl, ?_⟩) | ((with_reducible refine gate_callee (f := 21) rfl ?_); refine goesL_ (some 65) rfl rfl Tryd.func21 (by kernel_rfl) rfl #[.int .i64 a0] rfl (by (try simp only [List.map_toArray, List.map_cons, List.map_nil]); first | done | rfl | (simp only [List.length_drop, List.length_take]; rfl)) ?_; (with_reducible refine (civil_Text.calls kj4 a0 t426 t427 _ ?tabG A13.out).mono ?_); (case tabG => (first | exact hg | exact ⟨hg.out.below (by repeat (first | (with_reducible first | exact HB.out | apply below_alloc | apply pw_below_drewN | apply below_drew1) | exact HB.out))⟩)); rintro e w16 ⟨rfl, hb⟩; refine ⟨_, rfl, ?_⟩; have n0_ := Aside0.mk (below_step (by repeat (first | (with_reducible first | exact HB.out | apply below_alloc | apply pw_below_drewN | apply below_drew1) | exact HB.out)) hb); clear HB; have HB := n0_; clear n0_; (try clear hb); (try clear hb2); (try clear hk); (try clear hi)) | ((with_reducible refine gate_callee (f := 43) rfl ?_); refine goesL_ (some 70) rfl rfl Tryd.func43 (by kernel_rfl) rfl #[.int .i64 a0] rfl (by (try simp only [List.map_toArray, List.map_cons, List.map_nil]); first | done | rfl | (simp only [List.length_drop, List.length_take]; rfl)) ?_; (with_reducible refine (letterbagref01_Text.calls kj4 a0 t428 t429 _ A14.out).mono ?_); rintro e w17 ⟨rfl, hb⟩; refine ⟨_, rfl, ?_⟩; have n0_ := Aside0.mk (below_step (by repeat (first | (with_reducible first | exact HB.out | apply below_alloc | apply pw_below_drewN | apply below_drew1) | exact HB.out)) hb); clear HB; have HB := n0_; clear n0_; (try clear hb); (try clear hb2); (try clear hk); (try clear hi)))
    (try simp only [Act.put, List.setIfInBounds_toArray, List.set_cons_zero, List.set_cons_succ])
    go_cut [90] (fun v90 wc => ∃ (kq : Nat) (x90_14 : Bool), v90 = .bool x90_14 ∧ Aside0 (letterbaglaw01_date.j1 kq a0 a1 x90_14 = some r) ∧ Aside0 (kq ≤ kj4) ∧ Aside0 (Below w.heap.size w wc))
    case first =>
     have H := HC15.out
     clear HC15
     by_cases c18 : t422 = t424
     ·rw [if_pos c18] at H
      have c18b0 : (t422 == t424) = true := beq_iff_eq.mpr c18
      have c18b1 : (t422 != t424) = false := bne_eq_false_iff_eq.mpr c18
      clear c18
      (first | rw [c18b0] | (simp only [i64_w, i32_w]; rw [c18b0]) | skip)
      by_cases c19 : t423 = t425
      ·rw [if_pos c19] at H
       have c19b0 : (t423 == t425) = true := beq_iff_eq.mpr c19
       have c19b1 : (t423 != t425) = false := bne_eq_false_iff_eq.mpr c19
       clear c19
       by_cases c20 : t426.toList = t428.toList
       ·rw [if_pos c20] at H
        have c20b0 : (t426.toList == t428.toList) = true := beq_iff_eq.mpr c20
        have c20b1 : (t426.toList != t428.toList) = false := bne_eq_false_iff_eq.mpr c20
        clear c20
        have H' := Aside0.mk H
        clear H
        go_wp2
        go_meet
        case rel => exact ⟨_, ((t427 != t429)), (by first | rfl | (simp; done) | (simp [*]; done) | (simp; exact (show ∀ a_ b_ : Bool, (a_ == b_) = (!(a_ != b_)) from by decide) _ _) | (rw [Bool.eq_iff_iff]; simp; done) | (simp; rw [Bool.eq_iff_iff]; simp; done)), H', ⟨by have := HJ4.out; first | omega | exact Nat.le_refl _⟩, ⟨by repeat (first | (with_reducible first | exact HB.out | apply below_alloc | apply pw_below_drewN | apply below_drew1) | exact HB.out)⟩⟩
       ·rw [if_neg c20] at H
        have c20b0 : (t426.toList == t428.toList) = false := beq_eq_false_iff_ne.mpr c20
        have c20b1 : (t426.toList != t428.toList) = true := bne_iff_ne.mpr c20
        have H' := Aside0.mk H
        clear H
        go_wp2
        go_meet
        case rel => exact ⟨_, (true), (by first | rfl | (simp; done) | (simp [*]; done) | (simp; exact (show ∀ a_ b_ : Bool, (a_ == b_) = (!(a_ != b_)) from by decide) _ _) | (rw [Bool.eq_iff_iff]; simp; done) | (simp; rw [Bool.eq_iff_iff]; simp; done)), H', ⟨by have := HJ4.out; first | omega | exact Nat.le_refl _⟩, ⟨by repeat (first | (with_reducible first | exact HB.out | apply below_alloc | apply pw_below_drewN | apply below_drew1) | exact HB.out)⟩⟩
      ·rw [if_neg c19] at H
       have c19b0 : (t423 == t425) = false := beq_eq_false_iff_ne.mpr c19
       have c19b1 : (t423 != t425) = true := bne_iff_ne.mpr c19
       have H' := Aside0.mk H
       clear H
       go_wp2
       go_meet
       case rel => exact ⟨_, (true), (by first | rfl | (simp; done) | (simp [*]; done) | (simp; exact (show ∀ a_ b_ : Bool, (a_ == b_) = (!(a_ != b_)) from by decide) _ _) | (rw [Bool.eq_iff_iff]; simp; done) | (simp; rw [Bool.eq_iff_iff]; simp; done)), H', ⟨by have := HJ4.out; first | omega | exact Nat.le_refl _⟩, ⟨by repeat (first | (with_reducible first | exact HB.out | apply below_alloc | apply pw_below_drewN | apply below_drew1) | exact HB.out)⟩⟩
     ·rw [if_neg c18] at H
      have c18b0 : (t422 == t424) = false := beq_eq_false_iff_ne.mpr c18
      have c18b1 : (t422 != t424) = true := bne_iff_ne.mpr c18
      (first | rw [c18b0] | (simp only [i64_w, i32_w]; rw [c18b0]) | skip)
      have H' := Aside0.mk H
      clear H
      go_wp2
      go_meet
      case rel => exact ⟨_, (true), (by first | rfl | (simp; done) | (simp [*]; done) | (simp; exact (show ∀ a_ b_ : Bool, (a_ == b_) = (!(a_ != b_)) from by decide) _ _) | (rw [Bool.eq_iff_iff]; simp; done) | (simp; rw [Bool.eq_iff_iff]; simp; done)), H', ⟨by have := HJ4.out; first | omega | exact Nat.le_refl _⟩, ⟨by repeat (first | (with_reducible first | exact HB.out | apply below_alloc | apply pw_below_drewN | apply below_drew1) | exact HB.out)⟩⟩
    case rest =>
     clear HC15
     try clear c1
     try clear c2
     try clear p2
     try clear c4
     try clear c7
     try clear c7b0
     try clear c7b1
     try clear c8
     try clear c8b0
     try clear c8b1
     try clear c9
     try clear c9b0
     try clear c9b1
     try clear c10
     try clear c14
     try clear c18
     try clear c18b0
     try clear c18b1
     try clear c19
     try clear c19b0
     try clear c19b1
     try clear c20
     try clear c20b0
     try clear c20b1
     try clear p2
     obtain ⟨kq, x90_14, rfl, HA, HJ14, HB⟩ := hcut
     cases kq with
     | zero => exact absurd HA.out (by simp [letterbaglaw01_date.j1])
     | succ kj14 =>
      have H := HA.out
      clear HA
      simp only [letterbaglaw01_date.j1] at H
      by_cases c21 : x90_14 = true
      ·subst c21
       have H1 : (some false) = some r := by rw [if_pos rfl] at H; exact H
       clear H
       have H := H1
       clear H1
       obtain rfl := Option.some.inj H
       go_wp2
       go_ret
       exact ⟨by first | rfl | (simp [errW_none, errW_some] <;> rfl) | (simp [*, errW_none, errW_some] <;> rfl), by repeat (first | (with_reducible first | exact HB.out | apply below_alloc | apply pw_below_drewN | apply below_drew1) | exact HB.out)⟩
      ·replace c21 := Bool.eq_false_iff.mpr c21
       subst c21
       have H1 : ((civil_Time.f kj14 a0 a1).bind fun bt430 => ((letterbagref01_Time.f kj14 a0 a1).bind fun bt432 => (if bt430.1 = bt432.1 then (if bt430.2 = bt432.2 then ((letterbaglaw01_split.f kj14 bt430.1).bind fun t434 => (if t434 = true then ((letterbaglaw01_split.f kj14 a0).bind fun t435 => (if t435 = true then ((letterbaglaw01_split.f kj14 a1).bind fun t436 => (some t436)) else (some false))) else (some false))) else (some false)) else (some false)))) = some r := by rw [if_neg (show ¬ (false = true) by decide)] at H; exact H
       clear H
       have H := H1
       clear H1
       replace H := Option.bind_eq_some_iff.mp H
       obtain ⟨⟨t430, t431⟩, A220, H⟩ := H
       replace H : ((letterbagref01_Time.f kj14 a0 a1).bind fun bt432 => (if t430 = bt432.1 then (if t431 = bt432.2 then ((letterbaglaw01_split.f kj14 t430).bind fun t434 => (if t434 = true then ((letterbaglaw01_split.f kj14 a0).bind fun t435 => (if t435 = true then ((letterbaglaw01_split.f kj14 a1).bind fun t436 => (some t436)) else (some false))) else (some false))) else (some false)) else (some false))) = some r := H
       have A22 := Aside0.mk A220
       clear A220
       replace H := Option.bind_eq_some_iff.mp H
       obtain ⟨⟨t432, t433⟩, A230, H⟩ := H
       replace H : (if t430 = t432 then (if t431 = t433 then ((letterbaglaw01_split.f kj14 t430).bind fun t434 => (if t434 = true then ((letterbaglaw01_split.f kj14 a0).bind fun t435 => (if t435 = true then ((letterbaglaw01_split.f kj14 a1).bind fun t436 => (some t436)) else (some false))) else (some false))) else (some false)) else (some false)) = some r := H
       have A23 := Aside0.mk A230
       clear A230
       by_cases c24 : t430 = t432
       ·rw [if_pos c24] at H
        have c24b0 : (t430 == t432) = true := beq_iff_eq.mpr c24
        have c24b1 : (t430 != t432) = false := bne_eq_false_iff_eq.mpr c24
        clear c24
        by_cases c25 : t431 = t433
        ·rw [if_pos c25] at H
         have c25b0 : (t431 == t433) = true := beq_iff_eq.mpr c25
         have c25b1 : (t431 != t433) = false := bne_eq_false_iff_eq.mpr c25
         clear c25
         replace H := Option.bind_eq_some_iff.mp H
         obtain ⟨t434, A260, H⟩ := H
         replace H : (if t434 = true then ((letterbaglaw01_split.f kj14 a0).bind fun t435 => (if t435 = true then ((letterbaglaw01_split.f kj14 a1).bind fun t436 => (some t436)) else (some false))) else (some false)) = some r := H
         have A26 := Aside0.mk A260
         clear A260
         by_cases c27 : t434 = true
         ·subst c27
          have H1 : ((letterbaglaw01_split.f kj14 a0).bind fun t435 => (if t435 = true then ((letterbaglaw01_split.f kj14 a1).bind fun t436 => (some t436)) else (some false))) = some r := by rw [if_pos rfl] at H; exact H
          clear H
          have H := H1
          clear H1
          replace H := Option.bind_eq_some_iff.mp H
          obtain ⟨t435, A280, H⟩ := H
          replace H : (if t435 = true then ((letterbaglaw01_split.f kj14 a1).bind fun t436 => (some t436)) else (some false)) = some r := H
          have A28 := Aside0.mk A280
          clear A280
          by_cases c29 : t435 = true
          ·subst c29
           have H1 : ((letterbaglaw01_split.f kj14 a1).bind fun t436 => (some t436)) = some r := by rw [if_pos rfl] at H; exact H
           clear H
           have H := H1
           clear H1
           replace H := Option.bind_eq_some_iff.mp H
           obtain ⟨t436, A300, H⟩ := H
           replace H : (some t436) = some r := H
           have A30 := Aside0.mk A300
           clear A300
           obtain rfl := Option.some.inj H
           go_wp2_with (first | ((with_reducible refine gate_callee (f := 22) rfl ?_); refine goesL_ (some 94) rfl rfl Tryd.func22 (by kernel_rfl) rfl #[.int .i64 a0, .int .i64 a1] rfl (by (try simp only [List.map_toArray, List.map_cons, List.map_nil]); first | done | rfl | (simp only [List.length_drop, List.length_take]; rfl)) ?_; (with_reducible refine (civil_Time.calls kj14 a0 a1 t430 t431 _ A22.out).mono ?_); rintro e w' ⟨rfl, ⟨nd, rfl⟩⟩; refine ⟨_, rfl, ?_⟩) | ((with_reducible refine gate_callee (f := 44) rfl ?_); refine goesL_ (some 100) rfl rfl Tryd.func44 (by kernel_rfl) rfl #[.int .i64 a0, .int .i64 a1] rfl (by (try simp only [List.map_toArray, List.map_cons, List.map_nil]); first | done | rfl | (simp only [List.length_drop, List.length_take]; rfl)) ?_; (with_reducible refine (letterbagref01_Time.calls kj14 a0 a1 t432 t433 _ A23.out).mono ?_); rintro e w' ⟨rfl, ⟨nd, rfl⟩⟩; refine ⟨_, rfl, ?_⟩) | (go_at_call 45; (with_reducible refine (letterbaglaw01_split.calls kj14 t430 true _ ?tabG A26.out).mono ?_); (case tabG => (first | exact hg | exact ⟨hg.out.below (by repeat (first | (with_reducible first | exact HB.out | apply below_alloc | apply pw_below_drewN | apply below_drew1) | exact HB.out))⟩)); rintro e w31 ⟨rfl, hb⟩; have n0_ := Aside0.mk (below_step (by repeat (first | (with_reducible first | exact HB.out | apply below_alloc | apply pw_below_drewN | apply below_drew1) | exact HB.out)) hb); clear HB; have HB := n0_; clear n0_; (try clear hb); (try clear hb2); (try clear hk); (try clear hi)) | (go_at_call 45; (with_reducible refine (letterbaglaw01_split.calls kj14 a0 true _ ?tabG A28.out).mono ?_); (case tabG => (first | exact hg | exact ⟨hg.out.below (by repeat (first | (with_reducible first | exact HB.out | apply below_alloc | apply pw_below_drewN | apply below_drew1) | exact HB.out))⟩)); rintro e w32 ⟨rfl, hb⟩; have n0_ := Aside0.mk (below_step (by repeat (first | (with_reducible first | exact HB.out | apply below_alloc | apply pw_below_drewN | apply below_drew1) | exact HB.out)) hb); clear HB; have HB := n0_; clear n0_; (try clear hb); (try clear hb2); (try clear hk); (try clear hi)) | (go_at_call 45; (with_reducible refine (letterbaglaw01_split.calls kj14 a1 t436 _ ?tabG A30.out).mono ?_); (case tabG => (first | exact hg | exact ⟨hg.out.below (by repeat (first | (with_reducible first | exact HB.out | apply below_alloc | apply pw_below_drewN | apply below_drew1) | exact HB.out))⟩)); rintro e w33 ⟨rfl, hb⟩; have n0_ := Aside0.mk (below_step (by repeat (first | (with_reducible first | exact HB.out | apply below_alloc | apply pw_below_drewN | apply below_drew1) | exact HB.out)) hb); clear HB; have HB := n0_; clear n0_; (try clear hb); (try clear hb2); (try clear hk); (try clear hi)))
           go_ret
           exact ⟨by first | rfl | (simp [errW_none, errW_some] <;> rfl) | (simp [*, errW_none, errW_some] <;> rfl), by repeat (first | (with_reducible first | exact HB.out | apply below_alloc | apply pw_below_drewN | apply below_drew1) | exact HB.out)⟩
          ·replace c29 := Bool.eq_false_iff.mpr c29
           subst c29
           have H1 : (some false) = some r := by rw [if_neg (show ¬ (false = true) by decide)] at H; exact H
           clear H
           have H := H1
           clear H1
           obtain rfl := Option.some.inj H
           go_wp2_with (first | ((with_reducible refine gate_callee (f := 22) rfl ?_); refine goesL_ (some 94) rfl rfl Tryd.func22 (by kernel_rfl) rfl #[.int .i64 a0, .int .i64 a1] rfl (by (try simp only [List.map_toArray, List.map_cons, List.map_nil]); first | done | rfl | (simp only [List.length_drop, List.length_take]; rfl)) ?_; (with_reducible refine (civil_Time.calls kj14 a0 a1 t430 t431 _ A22.out).mono ?_); rintro e w' ⟨rfl, ⟨nd, rfl⟩⟩; refine ⟨_, rfl, ?_⟩) | ((with_reducible refine gate_callee (f := 44) rfl ?_); refine goesL_ (some 100) rfl rfl Tryd.func44 (by kernel_rfl) rfl #[.int .i64 a0, .int .i64 a1] rfl (by (try simp only [List.map_toArray, List.map_cons, List.map_nil]); first | done | rfl | (simp only [List.length_drop, List.length_take]; rfl)) ?_; (with_reducible refine (letterbagref01_Time.calls kj14 a0 a1 t432 t433 _ A23.out).mono ?_); rintro e w' ⟨rfl, ⟨nd, rfl⟩⟩; refine ⟨_, rfl, ?_⟩) | (go_at_call 45; (with_reducible refine (letterbaglaw01_split.calls kj14 t430 true _ ?tabG A26.out).mono ?_); (case tabG => (first | exact hg | exact ⟨hg.out.below (by repeat (first | (with_reducible first | exact HB.out | apply below_alloc | apply pw_below_drewN | apply below_drew1) | exact HB.out))⟩)); rintro e w34 ⟨rfl, hb⟩; have n0_ := Aside0.mk (below_step (by repeat (first | (with_reducible first | exact HB.out | apply below_alloc | apply pw_below_drewN | apply below_drew1) | exact HB.out)) hb); clear HB; have HB := n0_; clear n0_; (try clear hb); (try clear hb2); (try clear hk); (try clear hi)) | (go_at_call 45; (with_reducible refine (letterbaglaw01_split.calls kj14 a0 false _ ?tabG A28.out).mono ?_); (case tabG => (first | exact hg | exact ⟨hg.out.below (by repeat (first | (with_reducible first | exact HB.out | apply below_alloc | apply pw_below_drewN | apply below_drew1) | exact HB.out))⟩)); rintro e w35 ⟨rfl, hb⟩; have n0_ := Aside0.mk (below_step (by repeat (first | (with_reducible first | exact HB.out | apply below_alloc | apply pw_below_drewN | apply below_drew1) | exact HB.out)) hb); clear HB; have HB := n0_; clear n0_; (try clear hb); (try clear hb2); (try clear hk); (try clear hi)))
           go_ret
           exact ⟨by first | rfl | (simp [errW_none, errW_some] <;> rfl) | (simp [*, errW_none, errW_some] <;> rfl), by repeat (first | (with_reducible first | exact HB.out | apply below_alloc | apply pw_below_drewN | apply below_drew1) | exact HB.out)⟩
         ·replace c27 := Bool.eq_false_iff.mpr c27
          subst c27
          have H1 : (some false) = some r := by rw [if_neg (show ¬ (false = true) by decide)] at H; exact H
          clear H
          have H := H1
          clear H1
          obtain rfl := Option.some.inj H
          go_wp2_with (first | ((with_reducible refine gate_callee (f := 22) rfl ?_); refine goesL_ (some 94) rfl rfl Tryd.func22 (by kernel_rfl) rfl #[.int .i64 a0, .int .i64 a1] rfl (by (try simp only [List.map_toArray, List.map_cons, List.map_nil]); first | done | rfl | (simp only [List.length_drop, List.length_take]; rfl)) ?_; (with_reducible refine (civil_Time.calls kj14 a0 a1 t430 t431 _ A22.out).mono ?_); rintro e w' ⟨rfl, ⟨nd, rfl⟩⟩; refine ⟨_, rfl, ?_⟩) | ((with_reducible refine gate_callee (f := 44) rfl ?_); refine goesL_ (some 100) rfl rfl Tryd.func44 (by kernel_rfl) rfl #[.int .i64 a0, .int .i64 a1] rfl (by (try simp only [List.map_toArray, List.map_cons, List.map_nil]); first | done | rfl | (simp only [List.length_drop, List.length_take]; rfl)) ?_; (with_reducible refine (letterbagref01_Time.calls kj14 a0 a1 t432 t433 _ A23.out).mono ?_); rintro e w' ⟨rfl, ⟨nd, rfl⟩⟩; refine ⟨_, rfl, ?_⟩) | (go_at_call 45; (with_reducible refine (letterbaglaw01_split.calls kj14 t430 false _ ?tabG A26.out).mono ?_); (case tabG => (first | exact hg | exact ⟨hg.out.below (by repeat (first | (with_reducible first | exact HB.out | apply below_alloc | apply pw_below_drewN | apply below_drew1) | exact HB.out))⟩)); rintro e w36 ⟨rfl, hb⟩; have n0_ := Aside0.mk (below_step (by repeat (first | (with_reducible first | exact HB.out | apply below_alloc | apply pw_below_drewN | apply below_drew1) | exact HB.out)) hb); clear HB; have HB := n0_; clear n0_; (try clear hb); (try clear hb2); (try clear hk); (try clear hi)))
          go_ret
          exact ⟨by first | rfl | (simp [errW_none, errW_some] <;> rfl) | (simp [*, errW_none, errW_some] <;> rfl), by repeat (first | (with_reducible first | exact HB.out | apply below_alloc | apply pw_below_drewN | apply below_drew1) | exact HB.out)⟩
        ·rw [if_neg c25] at H
         have c25b0 : (t431 == t433) = false := beq_eq_false_iff_ne.mpr c25
         have c25b1 : (t431 != t433) = true := bne_iff_ne.mpr c25
         obtain rfl := Option.some.inj H
         go_wp2_with (first | ((with_reducible refine gate_callee (f := 22) rfl ?_); refine goesL_ (some 94) rfl rfl Tryd.func22 (by kernel_rfl) rfl #[.int .i64 a0, .int .i64 a1] rfl (by (try simp only [List.map_toArray, List.map_cons, List.map_nil]); first | done | rfl | (simp only [List.length_drop, List.length_take]; rfl)) ?_; (with_reducible refine (civil_Time.calls kj14 a0 a1 t430 t431 _ A22.out).mono ?_); rintro e w' ⟨rfl, ⟨nd, rfl⟩⟩; refine ⟨_, rfl, ?_⟩) | ((with_reducible refine gate_callee (f := 44) rfl ?_); refine goesL_ (some 100) rfl rfl Tryd.func44 (by kernel_rfl) rfl #[.int .i64 a0, .int .i64 a1] rfl (by (try simp only [List.map_toArray, List.map_cons, List.map_nil]); first | done | rfl | (simp only [List.length_drop, List.length_take]; rfl)) ?_; (with_reducible refine (letterbagref01_Time.calls kj14 a0 a1 t432 t433 _ A23.out).mono ?_); rintro e w' ⟨rfl, ⟨nd, rfl⟩⟩; refine ⟨_, rfl, ?_⟩))
         go_ret
         exact ⟨by first | rfl | (simp [errW_none, errW_some] <;> rfl) | (simp [*, errW_none, errW_some] <;> rfl), by repeat (first | (with_reducible first | exact HB.out | apply below_alloc | apply pw_below_drewN | apply below_drew1) | exact HB.out)⟩
       ·rw [if_neg c24] at H
        have c24b0 : (t430 == t432) = false := beq_eq_false_iff_ne.mpr c24
        have c24b1 : (t430 != t432) = true := bne_iff_ne.mpr c24
        obtain rfl := Option.some.inj H
        go_wp2_with (first | ((with_reducible refine gate_callee (f := 22) rfl ?_); refine goesL_ (some 94) rfl rfl Tryd.func22 (by kernel_rfl) rfl #[.int .i64 a0, .int .i64 a1] rfl (by (try simp only [List.map_toArray, List.map_cons, List.map_nil]); first | done | rfl | (simp only [List.length_drop, List.length_take]; rfl)) ?_; (with_reducible refine (civil_Time.calls kj14 a0 a1 t430 t431 _ A22.out).mono ?_); rintro e w' ⟨rfl, ⟨nd, rfl⟩⟩; refine ⟨_, rfl, ?_⟩) | ((with_reducible refine gate_callee (f := 44) rfl ?_); refine goesL_ (some 100) rfl rfl Tryd.func44 (by kernel_rfl) rfl #[.int .i64 a0, .int .i64 a1] rfl (by (try simp only [List.map_toArray, List.map_cons, List.map_nil]); first | done | rfl | (simp only [List.length_drop, List.length_take]; rfl)) ?_; (with_reducible refine (letterbagref01_Time.calls kj14 a0 a1 t432 t433 _ A23.out).mono ?_); rintro e w' ⟨rfl, ⟨nd, rfl⟩⟩; refine ⟨_, rfl, ?_⟩))
        go_ret
        exact ⟨by first | rfl | (simp [errW_none, errW_some] <;> rfl) | (simp [*, errW_none, errW_some] <;> rfl), by repeat (first | (with_reducible first | exact HB.out | apply below_alloc | apply pw_below_drewN | apply below_drew1) | exact HB.out)⟩
def letterbaglaw01_CivilTells.f (k : Nat) (a0 : Int) (a1 : Int) (a2 : Int) (a3 : Int) (a4 : Int) : Option (Bool) := (civil_Day.f a0 a1 a2).bind fun bt437 => ((letterbagref01_Day.f k a0 a1 a2).bind fun bt439 => ((civil_Leap.f a0).bind fun t441 => ((letterbagref01_Leap.f a0).bind fun t442 => (if (t441 == t442) = true then (if bt437.1 = bt439.1 then (if bt437.2 = bt439.2 then ((letterbaglaw01_date.f k a3 a4).bind fun t443 => (if t443 = true then ((letterbaglaw01_awake.f k).bind fun t444 => (some t444)) else (some false))) else (some false)) else (some false)) else (some false)))))
set_option maxHeartbeats 8000000 in
set_option maxRecDepth 100000 in
theorem letterbaglaw01_CivilTells.calls (k : Nat) (a0 : Int) (a1 : Int) (a2 : Int) (a3 : Int) (a4 : Int) (w : World) (hg : Aside0 (Tab w)) (h : letterbaglaw01_CivilTells.f k a0 a1 a2 a3 a4 = some true) :
  Calls Tryd.prog 13 #[.int .i64 a0, .int .i64 a1, .int .i64 a2, .int .i64 a3, .int .i64 a4] w fun e w' => e = .returned (.bool true) ∧ Below w.heap.size w w' := by
 have HB := Aside0.mk (Below.refl w.heap.size w)
 have H : ((civil_Day.f a0 a1 a2).bind fun bt437 => ((letterbagref01_Day.f k a0 a1 a2).bind fun bt439 => ((civil_Leap.f a0).bind fun t441 => ((letterbagref01_Leap.f a0).bind fun t442 => (if (t441 == t442) = true then (if bt437.1 = bt439.1 then (if bt437.2 = bt439.2 then ((letterbaglaw01_date.f k a3 a4).bind fun t443 => (if t443 = true then ((letterbaglaw01_awake.f k).bind fun t444 => (some t444)) else (some false))) else (some false)) else (some false)) else (some false)))))) = some true := h
 clear h
 replace H := Option.bind_eq_some_iff.mp H
 obtain ⟨⟨t437, t438⟩, A60, H⟩ := H
 replace H : ((letterbagref01_Day.f k a0 a1 a2).bind fun bt439 => ((civil_Leap.f a0).bind fun t441 => ((letterbagref01_Leap.f a0).bind fun t442 => (if (t441 == t442) = true then (if t437 = bt439.1 then (if t438 = bt439.2 then ((letterbaglaw01_date.f k a3 a4).bind fun t443 => (if t443 = true then ((letterbaglaw01_awake.f k).bind fun t444 => (some t444)) else (some false))) else (some false)) else (some false)) else (some false))))) = some true := H
 have A6 := Aside0.mk A60
 clear A60
 replace H := Option.bind_eq_some_iff.mp H
 obtain ⟨⟨t439, t440⟩, A70, H⟩ := H
 replace H : ((civil_Leap.f a0).bind fun t441 => ((letterbagref01_Leap.f a0).bind fun t442 => (if (t441 == t442) = true then (if t437 = t439 then (if t438 = t440 then ((letterbaglaw01_date.f k a3 a4).bind fun t443 => (if t443 = true then ((letterbaglaw01_awake.f k).bind fun t444 => (some t444)) else (some false))) else (some false)) else (some false)) else (some false)))) = some true := H
 have A7 := Aside0.mk A70
 clear A70
 replace H := Option.bind_eq_some_iff.mp H
 obtain ⟨t441, A80, H⟩ := H
 replace H : ((letterbagref01_Leap.f a0).bind fun t442 => (if (t441 == t442) = true then (if t437 = t439 then (if t438 = t440 then ((letterbaglaw01_date.f k a3 a4).bind fun t443 => (if t443 = true then ((letterbaglaw01_awake.f k).bind fun t444 => (some t444)) else (some false))) else (some false)) else (some false)) else (some false))) = some true := H
 have A8 := Aside0.mk A80
 clear A80
 replace H := Option.bind_eq_some_iff.mp H
 obtain ⟨t442, A90, H⟩ := H
 replace H : (if (t441 == t442) = true then (if t437 = t439 then (if t438 = t440 then ((letterbaglaw01_date.f k a3 a4).bind fun t443 => (if t443 = true then ((letterbaglaw01_awake.f k).bind fun t444 => (some t444)) else (some false))) else (some false)) else (some false)) else (some false)) = some true := H
 have A9 := Aside0.mk A90
 clear A90
 by_cases c10 : (t441 == t442) = true
 ·rw [if_pos c10] at H
  have c10b0 : (t441 == t442) = true := c10
  (try (have c10b1 : decide (t441 = t442) = true := by simpa using c10))
  (try (have c10b2 : (t441 == t442) = true := by simpa using c10))
  clear c10
  by_cases c11 : t437 = t439
  ·rw [if_pos c11] at H
   have c11b0 : (t437 == t439) = true := beq_iff_eq.mpr c11
   have c11b1 : (t437 != t439) = false := bne_eq_false_iff_eq.mpr c11
   clear c11
   by_cases c12 : t438 = t440
   ·rw [if_pos c12] at H
    have c12b0 : (t438 == t440) = true := beq_iff_eq.mpr c12
    have c12b1 : (t438 != t440) = false := bne_eq_false_iff_eq.mpr c12
    clear c12
    replace H := Option.bind_eq_some_iff.mp H
    obtain ⟨t443, A130, H⟩ := H
    replace H : (if t443 = true then ((letterbaglaw01_awake.f k).bind fun t444 => (some t444)) else (some false)) = some true := H
    have A13 := Aside0.mk A130
    clear A130
    by_cases c14 : t443 = true
    ·subst c14
     have H1 : ((letterbaglaw01_awake.f k).bind fun t444 => (some t444)) = some true := by rw [if_pos rfl] at H; exact H
     clear H
     have H := H1
     clear H1
     replace H := Option.bind_eq_some_iff.mp H
     obtain ⟨t444, A150, H⟩ := H
     replace H : (some t444) = some true := H
     have A15 := Aside0.mk A150
     clear A150
     have HT_ := Aside0.mk (Option.some.inj H)
     go_enter Tryd.func13, Tryd.ntmps13
     go_wp2_with (first | ((with_reducible refine gate_callee (f := 34) rfl ?_); refine goesL_ (some 19) rfl rfl Tryd.func34 (by kernel_rfl) rfl #[.int .i64 a0, .int .i64 a1, .int .i64 a2] rfl (by (try simp only [List.map_toArray, List.map_cons, List.map_nil]); first | done | rfl | (simp only [List.length_drop, List.length_take]; rfl)) ?_; (with_reducible refine (civil_Day.calls a0 a1 a2 t437 t438 _ ?tabG A6.out).mono ?_); (case tabG => (first | exact hg | exact ⟨hg.out.below (by repeat (first | (with_reducible first | exact HB.out | apply below_alloc | apply pw_below_drewN | apply below_drew1) | exact HB.out))⟩)); rintro e w' ⟨rfl, ⟨nd, rfl⟩⟩; refine ⟨_, rfl, ?_⟩) | ((with_reducible refine gate_callee (f := 39) rfl ?_); refine goesL_ (some 26) rfl rfl Tryd.func39 (by kernel_rfl) rfl #[.int .i64 a0, .int .i64 a1, .int .i64 a2] rfl (by (try simp only [List.map_toArray, List.map_cons, List.map_nil]); first | done | rfl | (simp only [List.length_drop, List.length_take]; rfl)) ?_; (with_reducible refine (letterbagref01_Day.calls k a0 a1 a2 t439 t440 _ A7.out).mono ?_); rintro e w' ⟨rfl, ⟨nd, rfl⟩⟩; refine ⟨_, rfl, ?_⟩) | ((with_reducible refine gate_callee (f := 35) rfl ?_); refine goesL_ (some 30) rfl rfl Tryd.func35 (by kernel_rfl) rfl #[.int .i64 a0] rfl (by (try simp only [List.map_toArray, List.map_cons, List.map_nil]); first | done | rfl | (simp only [List.length_drop, List.length_take]; rfl)) ?_; (with_reducible refine (civil_Leap.calls a0 t441 _ A8.out).mono ?_); rintro e w' ⟨rfl, ⟨nd, rfl⟩⟩; refine ⟨_, rfl, ?_⟩) | ((with_reducible refine gate_callee (f := 40) rfl ?_); refine goesL_ (some 32) rfl rfl Tryd.func40 (by kernel_rfl) rfl #[.int .i64 a0] rfl (by (try simp only [List.map_toArray, List.map_cons, List.map_nil]); first | done | rfl | (simp only [List.length_drop, List.length_take]; rfl)) ?_; (with_reducible refine (letterbagref01_Leap.calls a0 t442 _ A9.out).mono ?_); rintro e w' ⟨rfl, ⟨nd, rfl⟩⟩; refine ⟨_, rfl, ?_⟩) | (go_at_call 14; (with_reducible refine (letterbaglaw01_date.calls k a3 a4 true _ ?tabG A13.out).mono ?_); (case tabG => (first | exact hg | exact ⟨hg.out.below (by repeat (first | (with_reducible first | exact HB.out | apply below_alloc | apply pw_below_drewN | apply below_drew1) | exact HB.out))⟩)); rintro e w16 ⟨rfl, hb⟩; have n0_ := Aside0.mk (below_step (by repeat (first | (with_reducible first | exact HB.out | apply below_alloc | apply pw_below_drewN | apply below_drew1) | exact HB.out)) hb); clear HB; have HB := n0_; clear n0_; (try clear hb); (try clear hb2); (try clear hk); (try clear hi)) | (go_at_call 17; (with_reducible refine (letterbaglaw01_awake.calls k  t444 _ ?tabG A15.out).mono ?_); (case tabG => (first | exact hg | exact ⟨hg.out.below (by repeat (first | (with_reducible first | exact HB.out | apply below_alloc | apply pw_below_drewN | apply below_drew1) | exact HB.out))⟩)); rintro e w17 ⟨rfl, hb⟩; have n0_ := Aside0.mk (below_step (by repeat (first | (with_reducible first | exact HB.out | apply below_alloc | apply pw_below_drewN | apply below_drew1) | exact HB.out)) hb); clear HB; have HB := n0_; clear n0_; (try clear hb); (try clear hb2); (try clear hk); (try clear hi)))
     go_ret
     exact ⟨by first | rfl | (rw [HT_.out]; done) | (rw [HT_.out]; rfl) | (have e_ := HT_.out; simp only [e_]; done) | (have e_ := HT_.out; simp only [e_]; rfl) | (have e_ := HT_.out; simp at e_ ⊢; exact e_) | (have e_ := HT_.out; simp_all; done) | (simp [errW_none, errW_some] <;> rfl) | (simp [*, errW_none, errW_some] <;> rfl), by repeat (first | (with_reducible first | exact HB.out | apply below_alloc | apply pw_below_drewN | apply below_drew1) | exact HB.out)⟩
    ·replace c14 := Bool.eq_false_iff.mpr c14
     subst c14
     have H1 : (some false) = some true := by rw [if_neg (show ¬ (false = true) by decide)] at H; exact H
     clear H
     have H := H1
     clear H1
     exact absurd H (by simp)
   ·rw [if_neg c12] at H
    have c12b0 : (t438 == t440) = false := beq_eq_false_iff_ne.mpr c12
    have c12b1 : (t438 != t440) = true := bne_iff_ne.mpr c12
    exact absurd H (by simp)
  ·rw [if_neg c11] at H
   have c11b0 : (t437 == t439) = false := beq_eq_false_iff_ne.mpr c11
   have c11b1 : (t437 != t439) = true := bne_iff_ne.mpr c11
   exact absurd H (by simp)
 ·rw [if_neg c10] at H
  have c10b0 : (t441 == t442) = false := by simpa using c10
  (try (have c10b1 : decide (t441 = t442) = false := by simpa using c10))
  (try (have c10b2 : (t441 == t442) = false := by simpa using c10))
  (try (have c10b3 : ¬ (t441 = t442) := by simpa using c10))
  clear c10
  exact absurd H (by simp)
end Go.Proofs.YtehnhedifhpalaaDoor.Cp
set_option linter.unusedVariables false
set_option linter.unusedSimpArgs false
namespace Go.Proofs.YtehnhedifhpalaaDoor.Cp
open Go.RowKit Go.Proofs.YtehnhedifhpalaaDoorW.PrintWords Go.Proofs.YtehnhedifhpalaaDoorW.PrintLast Go.Proofs.YtehnhedifhpalaaDoorW.PrintMore
theorem rweek_f (a : Int) : letterbagref01_Weekday.f a = some (weekB a) := by
  unfold letterbagref01_Weekday.f weekB
  rw [rwithin_f, Option.bind_some]
  split <;> rfl
theorem rsplit_f (a : Int) : letterbagref01_Split.f a = some (splitB a) := by
  unfold letterbagref01_Split.f splitB
  rw [rwithin_f, Option.bind_some]
  split <;> rfl
theorem rtime_f (d m : Int) : Ev (fun k => letterbagref01_Time.f k d m) (timeB d m) := by
  have no : ∀ x : Bool, x = true → timeB d m = (0, 2) → Ev (fun k => letterbagref01_Time.j0 k d m x) (timeB d m) := by
    intro x hx hm
    rw [hm]
    exact Ev.step (fun k => letterbagref01_Time.j0.eq_2 _ _ _ k) (ev_pos hx (Ev.now _))
  unfold letterbagref01_Time.f
  by_cases c0 : d < 0
  · refine ev_pos c0 (no _ rfl ?_)
    by_cases hm : m < 0 ∨ 1440 ≤ m
    · exact timeB_no hm
    · rw [timeB_err hm (by omega)]
      unfold errOf
      rw [if_pos c0]
  · refine ev_neg c0 ?_
    by_cases c1 : m < 0
    · exact ev_pos c1 (no _ rfl (timeB_no (.inl c1)))
    · refine ev_neg c1 ?_
      by_cases c2 : 1440 ≤ m
      · exact no _ (decide_eq_true (show m > 1439 by omega)) (timeB_no (.inr c2))
      · have hm : ¬ (m < 0 ∨ 1440 ≤ m) := by omega
        refine Ev.step (fun k => letterbagref01_Time.j0.eq_2 _ _ _ k) (ev_neg (by rw [decide_eq_false (show ¬ m > 1439 by omega)]; exact Bool.false_ne_true) ?_)
        by_cases c3 : d > 730484
        · refine ev_pos c3 (ev_eq ?_ (Ev.now _))
          rw [timeB_err hm (by omega)]
          unfold errOf
          rw [if_neg c0, if_pos c3]
        · refine ev_neg c3 (ev_eq ?_ (Ev.now _))
          rw [timeB_ok hm (by omega), w64 (n := 1440 * d) (by omega) (by omega), w64 (by omega) (by omega), Int.mul_comm]
theorem space_eq : (⟨#[32]⟩ : ByteArray) = strOfNums [32] := rfl
theorem colon_eq : (⟨#[58]⟩ : ByteArray) = strOfNums [58] := rfl
theorem rtt_f {y m d t : Int} (h : Cv.IsDate y m d) (ht : 0 ≤ t ∧ t ≤ 1051898399) (hd : t / 1440 = Cv.dayOf y m d) :
    Ev (fun k => letterbagref01_TimeText.f k t) (strOfNums (Cv.ttext y m d (t % 1440 / 60) (t % 1440 % 60)), 0) := by
  unfold letterbagref01_TimeText.f
  refine Ev.bind (ev_val (rsplit_f t)) ?_
  rw [splitB_ok ht]
  refine ev_pos rfl ?_
  have n0 : 0 ≤ t % 1440 ∧ t % 1440 < 1440 := by omega
  have b1 : -10000000 ≤ t % 1440 / 60 ∧ t % 1440 / 60 ≤ 10000000 := by omega
  rw [hd]
  refine Ev.bind (rtext_f h) ?_
  simp only [Int.tdiv_eq_ediv_of_nonneg n0.1, Int.tmod_eq_emod_of_nonneg n0.1, wb b1]
  refine ev_pos (by rw [strOfNums_size, Cv.dtext_len]; decide) (Ev.bind (rdigits_f (n := t % 1440 / 60) (by omega) 2 (by decide)) ?_)
  simp only [space_eq, str_append, strOfNums_size, List.length_append, Cv.dtext_len, Cv.dig_len, List.length_cons, List.length_nil]
  refine ev_pos (by decide) (ev_pos (by decide) (Ev.bind (rdigits_f (n := t % 1440 % 60) (by omega) 2 (by decide)) ?_))
  simp only [colon_eq, str_append, strOfNums_size, List.length_append, Cv.dtext_len, Cv.dig_len, List.length_cons, List.length_nil]
  refine ev_pos (by decide) (ev_eq ?_ (Ev.now _))
  unfold Cv.ttext
  simp
theorem rtt_no {t : Int} (ht : ¬ (0 ≤ t ∧ t ≤ 1051898399)) : Ev (fun k => letterbagref01_TimeText.f k t) (strOfNums [], errOf t 1051898399) := by
  unfold letterbagref01_TimeText.f
  refine Ev.bind (ev_val (rsplit_f t)) ?_
  rw [splitB_no ht]
  exact ev_neg (errOf_ne ht) (ev_eq rfl (Ev.now _))
theorem split_all (a : Int) : Ev (fun k => letterbaglaw01_split.f k a) true := by
  unfold letterbaglaw01_split.f
  by_cases h : 0 ≤ a ∧ a ≤ 1051898399
  · obtain ⟨y, m, d, h1, h2⟩ := has_date (a := a / 1440) (by omega)
    exact Ev.bind (ev_val (csplit_f a)) (Ev.bind (ev_val (rsplit_f a)) (Ev.bind (ctt_f h1 h h2.symm) (Ev.bind (rtt_f h1 h h2.symm) (ev_pos rfl (ev_pos rfl (ev_pos rfl (ev_pos rfl (ev_eq (by simp) (Ev.now _)))))))))
  · exact Ev.bind (ev_val (csplit_f a)) (Ev.bind (ev_val (rsplit_f a)) (Ev.bind (ctt_no h) (Ev.bind (rtt_no h) (ev_pos rfl (ev_pos rfl (ev_pos rfl (ev_pos rfl (ev_eq (by simp) (Ev.now _)))))))))
theorem date_j1 (a b : Int) : Ev (fun k => letterbaglaw01_date.j1 k a b false) true := by
  refine Ev.step (fun k => letterbaglaw01_date.j1.eq_2 _ _ _ k) (ev_neg Bool.false_ne_true ?_)
  exact Ev.bind (ctime_f a b) (Ev.bind (rtime_f a b) (ev_pos rfl (ev_pos rfl (Ev.bind (split_all _) (ev_pos rfl (Ev.bind (split_all _) (ev_pos rfl (Ev.bind (split_all _) (Ev.now _)))))))))
theorem date_j0 (a b : Int) : Ev (fun k => letterbaglaw01_date.j0 k a b false) true := by
  refine Ev.step (fun k => letterbaglaw01_date.j0.eq_2 _ _ _ k) (ev_neg Bool.false_ne_true ?_)
  refine Ev.bind (ev_val (cweek_f a)) (Ev.bind (ev_val (rweek_f a)) ?_)
  by_cases h : 0 ≤ a ∧ a ≤ 730484
  · obtain ⟨y, m, d, h1, h2⟩ := has_date h
    subst h2
    refine Ev.bind (ctext_f h1) (Ev.bind (rtext_f h1) (ev_pos rfl (ev_pos rfl (ev_pos rfl ?_))))
    simp only [bne_self_eq_false]
    exact date_j1 _ b
  · refine Ev.bind (ctext_no h) (Ev.bind (rtext_no h) (ev_pos rfl (ev_pos rfl (ev_pos rfl ?_))))
    simp only [bne_self_eq_false]
    exact date_j1 _ b
theorem date_all (a b : Int) : Ev (fun k => letterbaglaw01_date.f k a b) true := by
  unfold letterbaglaw01_date.f
  by_cases h : 0 ≤ a ∧ a ≤ 730484
  · obtain ⟨y, m, d, h1, h2⟩ := has_date h
    subst h2
    refine Ev.bind (cdate_f h1) (Ev.bind (rdate_f h1) (ev_pos rfl (ev_pos rfl (ev_pos rfl ?_))))
    simp only [bne_self_eq_false]
    exact date_j0 _ b
  · refine Ev.bind (cdate_no h) (Ev.bind (rdate_no h) (ev_pos rfl (ev_pos rfl (ev_pos rfl ?_))))
    simp only [bne_self_eq_false]
    exact date_j0 _ b
theorem rleap_b (y : Int) : letterbagref01_Leap.f y = some (leapB y) := by
  unfold letterbagref01_Leap.f leapB
  by_cases c4 : Int.tmod y 400 = 0
  · have d1 : (4 : Int) ∣ y := Int.dvd_trans (by decide) (Int.dvd_of_tmod_eq_zero c4)
    have c1 : Int.tmod y 4 = 0 := Int.dvd_iff_tmod_eq_zero.1 d1
    rw [if_pos c4, decide_eq_true c1, decide_eq_true c4]
    simp
  · rw [if_neg c4]
    by_cases c1 : Int.tmod y 4 = 0
    · rw [if_pos c1, decide_eq_true c1, decide_eq_false c4]
      by_cases c2 : Int.tmod y 100 = 0
      · rw [decide_eq_false (fun hh => hh c2), bne_eq_false_iff_eq.mpr c2]; rfl
      · rw [decide_eq_true c2, bne_iff_ne.mpr c2]; rfl
    · rw [if_neg c1, decide_eq_false c1]; rfl
theorem tells_all (y m d a b : Int) : Ev (fun k => letterbaglaw01_CivilTells.f k y m d a b) true := by
  unfold letterbaglaw01_CivilTells.f
  have tail : Ev (fun k => (letterbaglaw01_date.f k a b).bind fun t443 => (if t443 = true then ((letterbaglaw01_awake.f k).bind fun t444 => (some t444)) else (some false))) true :=
    Ev.bind (date_all a b) (ev_pos rfl (Ev.bind awake_f (Ev.now _)))
  by_cases h : Cv.IsDate y m d
  · exact Ev.bind (ev_val (day_f h)) (Ev.bind (rday_f h) (Ev.bind (ev_val (cleap_b y)) (Ev.bind (ev_val (rleap_b y)) (ev_pos (by simp) (ev_pos rfl (ev_pos rfl tail))))))
  · exact Ev.bind (ev_val (day_no h)) (Ev.bind (rday_no h) (Ev.bind (ev_val (cleap_b y)) (Ev.bind (ev_val (rleap_b y)) (ev_pos (by simp) (ev_pos rfl (ev_pos rfl tail))))))
end Go.Proofs.YtehnhedifhpalaaDoor.Cp
set_option linter.unusedVariables false
set_option linter.unusedSimpArgs false
namespace Go.Proofs.YtehnhedifhpalaaDoor.Cp
open Go.RowKit Go.Proofs.YtehnhedifhpalaaDoorW.PrintWords Go.Proofs.YtehnhedifhpalaaDoorW.PrintLast Go.Proofs.YtehnhedifhpalaaDoorW.PrintMore
def allDig (l : List Int) : Bool := l.all fun b => decide (Cv.isDig b)
theorem allDig_iff {l : List Int} : allDig l = true ↔ ∀ b ∈ l, Cv.isDig b := by simp [allDig]
theorem ten_le : ∀ i : Nat, i ≤ 4 → Cv.ten i ≤ 10000 := by decide
theorem num_bd {l : List Int} (hl : l.length ≤ 4) (h : allDig l = true) : 0 ≤ Cv.num l ∧ Cv.num l < 10000 := by
  obtain ⟨_, h1, h2⟩ := Cv.dig_num l.length l rfl (allDig_iff.1 h)
  have := ten_le _ hl
  omega
theorem allDig_take {l : List Int} {i : Nat} (hi : i < l.length) : allDig (l.take (i + 1)) = (allDig (l.take i) && decide (Cv.isDig l[i])) := by
  unfold allDig; rw [List.take_succ_eq_append_getElem hi, List.all_append, List.all_cons, List.all_nil, Bool.and_true]
theorem num_take {l : List Int} {i : Nat} (hi : i < l.length) : Cv.num (l.take (i + 1)) = Cv.num (l.take i) * 10 + (l[i] - 48) := by
  rw [List.take_succ_eq_append_getElem hi, Cv.num_snoc]
theorem allDig_no {l : List Int} {i : Nat} (hi : i < l.length) (h : ¬ Cv.isDig l[i]) : allDig l = false := by
  rw [Bool.eq_false_iff]
  intro hc
  exact h (allDig_iff.1 hc _ (List.getElem_mem hi))
def cnum (l : List Int) : Int × Bool := if allDig l = true then (Cv.num l, true) else (0, false)
theorem cnumber_l0 (s : ByteArray) (hs : (nb s).length ≤ 4) (d : Nat) : ∀ i : Nat, i ≤ (nb s).length → (nb s).length - i = d → allDig ((nb s).take i) = true →
    Ev (fun k => civil_number.l0 k s (Cv.num ((nb s).take i)) (s.size : Int) (i : Int)) (cnum (nb s)) := by
  have es := nb_len s
  induction d with
  | zero =>
    intro i hi hd ha
    rw [List.take_of_length_le (by omega)] at ha ⊢
    refine Ev.step (fun k => civil_number.l0.eq_2 _ _ _ _ k) (ev_neg (by omega) (ev_eq ?_ (Ev.now _)))
    unfold cnum; rw [if_pos ha]
  | succ d ih =>
    intro i hi hd ha
    have c : i < (nb s).length := by omega
    have hb := num_bd (l := (nb s).take i) (by rw [List.length_take]; omega) ha
    have q0 : -10000000 ≤ (i : Int) + 1 ∧ (i : Int) + 1 ≤ 10000000 := by omega
    have e0 : (i : Int) + 1 = ((i + 1 : Nat) : Int) := by omega
    refine Ev.step (fun k => civil_number.l0.eq_2 _ _ _ _ k) (ev_pos (by omega) (ev_pos (by omega) (ev_pos (by omega) ?_)))
    rw [bt_nb s i c]
    by_cases c1 : (nb s)[i] < 48
    · refine ev_pos c1 (ev_eq ?_ (Ev.now _))
      unfold cnum; rw [allDig_no c (by unfold Cv.isDig; omega)]; rfl
    · refine ev_neg c1 ?_
      by_cases c2 : (nb s)[i] > 57
      · refine ev_pos c2 (ev_eq ?_ (Ev.now _))
        unfold cnum; rw [allDig_no c (by unfold Cv.isDig; omega)]; rfl
      · refine ev_neg c2 ?_
        have hdg : Cv.isDig (nb s)[i] := by unfold Cv.isDig; omega
        have ha1 : allDig ((nb s).take (i + 1)) = true := by rw [allDig_take c, ha, decide_eq_true hdg]; rfl
        have ih1 := ih (i + 1) (by omega) (by omega) ha1
        have e1 : ((nb s)[i] - 48) % 256 = (nb s)[i] - 48 := by omega
        have q1 : -10000000 ≤ Cv.num ((nb s).take i) * 10 ∧ Cv.num ((nb s).take i) * 10 ≤ 10000000 := by omega
        have q2 : -10000000 ≤ Cv.num ((nb s).take i) * 10 + ((nb s)[i] - 48) ∧ Cv.num ((nb s).take i) * 10 + ((nb s)[i] - 48) ≤ 10000000 := by omega
        rw [wb q0, e1, wb q1, wb q2, e0, ← num_take c]
        exact ih1
theorem cnumber_f (s : ByteArray) (hs : (nb s).length ≤ 4) : Ev (fun k => civil_number.f k s) (cnum (nb s)) := by
  have := cnumber_l0 s hs _ 0 (by omega) rfl (by simp [allDig])
  exact this
end Go.Proofs.YtehnhedifhpalaaDoor.Cp
set_option linter.unusedVariables false
set_option linter.unusedSimpArgs false
namespace Go.Proofs.YtehnhedifhpalaaDoor.Cp
open Go.RowKit Go.Proofs.YtehnhedifhpalaaDoorW.PrintWords Go.Proofs.YtehnhedifhpalaaDoorW.PrintLast Go.Proofs.YtehnhedifhpalaaDoorW.PrintMore
/-- A text of a date. -/
structure IsText (l : List Int) : Prop where
  len : l.length = 10
  a : l.getD 4 0 = 45
  b : l.getD 7 0 = 45
  y : allDig (l.take 4) = true
  m : allDig ((l.take 7).drop 5) = true
  d : allDig (l.drop 8) = true
  is : Cv.IsDate (Cv.num (l.take 4)) (Cv.num ((l.take 7).drop 5)) (Cv.num (l.drop 8))
open Classical in
noncomputable def readB (l : List Int) : Int × Int := if IsText l then (Cv.dayOf (Cv.num (l.take 4)) (Cv.num ((l.take 7).drop 5)) (Cv.num (l.drop 8)), 0) else (0, 11)
theorem readB_pos {l : List Int} (h : IsText l) : readB l = (Cv.dayOf (Cv.num (l.take 4)) (Cv.num ((l.take 7).drop 5)) (Cv.num (l.drop 8)), 0) := by unfold readB; rw [if_pos h]
theorem readB_neg {l : List Int} (h : ¬ IsText l) : readB l = (0, 11) := by unfold readB; rw [if_neg h]
theorem bt_getD (s : ByteArray) (i : Nat) (h : i < s.size) : bt s (i : Int) = (nb s).getD i 0 := by
  have h' : i < (nb s).length := by rw [nb_len]; exact h
  rw [bt_nb s i h', List.getD_eq_getElem?_getD, List.getElem?_eq_getElem h']; rfl
theorem cread_f (s : ByteArray) : Ev (fun k => civil_Read.f k s) (readB (nb s)) := by
  have es := nb_len s
  have end1 : ∀ x : Bool, x = true → ¬ IsText (nb s) → Ev (fun k => civil_Read.j0 k s x) (readB (nb s)) := by
    intro x hx hn
    rw [readB_neg hn]
    exact Ev.step (fun k => civil_Read.j0.eq_2 _ _ k) (ev_pos hx (Ev.now _))
  unfold civil_Read.f
  by_cases c : (s.size : Int) = 10
  · have c' : s.size = 10 := by omega
    refine ev_pos c (ev_pos (by omega) ?_)
    have e4 := bt_getD s 4 (by omega)
    have e7 := bt_getD s 7 (by omega)
    have e4' : bt s 4 = (nb s).getD 4 0 := e4
    have e7' : bt s 7 = (nb s).getD 7 0 := e7
    rw [e4', e7']
    by_cases c4 : (nb s).getD 4 0 = 45
    · refine ev_pos c4 (ev_pos (by omega) ?_)
      by_cases c7 : (nb s).getD 7 0 = 45
      · have hne : ((nb s).getD 7 0 != 45) = false := by rw [c7]; rfl
        rw [hne]
        refine Ev.step (fun k => civil_Read.j0.eq_2 _ _ k) (ev_neg Bool.false_ne_true (ev_pos (by decide) (ev_pos (by omega) ?_)))
        have n1 := cnumber_f (s.extract 0 4) (by rw [nb_extract, List.length_drop, List.length_take]; omega)
        have n2 := cnumber_f (s.extract 5 7) (by rw [nb_extract, List.length_drop, List.length_take]; omega)
        have n3 := cnumber_f (s.extract 8 s.size) (by rw [nb_extract, List.length_drop, List.length_take]; omega)
        rw [nb_extract, List.drop_zero] at n1
        rw [nb_extract] at n2
        rw [nb_extract, List.take_of_length_le (by omega)] at n3
        refine Ev.bind n1 (ev_pos (by decide) (ev_pos (by omega) (Ev.bind n2 (ev_pos (by omega) (Ev.bind n3 ?_)))))
        by_cases a1 : allDig ((nb s).take 4) = true
        · have b1 : cnum ((nb s).take 4) = (Cv.num ((nb s).take 4), true) := by unfold cnum; rw [if_pos a1]
          rw [b1]
          refine ev_pos rfl ?_
          by_cases a2 : allDig (((nb s).take 7).drop 5) = true
          · have b2 : cnum (((nb s).take 7).drop 5) = (Cv.num (((nb s).take 7).drop 5), true) := by unfold cnum; rw [if_pos a2]
            rw [b2]
            refine ev_pos rfl ?_
            by_cases a3 : allDig ((nb s).drop 8) = true
            · have b3 : cnum ((nb s).drop 8) = (Cv.num ((nb s).drop 8), true) := by unfold cnum; rw [if_pos a3]
              rw [b3]
              refine ev_pos rfl (Ev.bind (ev_val (dated_f _ _ _)) ?_)
              by_cases hd : Cv.IsDate (Cv.num ((nb s).take 4)) (Cv.num (((nb s).take 7).drop 5)) (Cv.num ((nb s).drop 8))
              · refine ev_pos (decide_eq_true hd) (Ev.bind (ev_val (day_f hd)) (ev_eq ?_ (Ev.now _)))
                rw [readB_pos ⟨by omega, c4, c7, a1, a2, a3, hd⟩]
              · refine ev_neg (by rw [decide_eq_false hd]; exact Bool.false_ne_true) (ev_eq ?_ (Ev.now _))
                rw [readB_neg (fun h => hd h.is)]
            · have b3 : cnum ((nb s).drop 8) = (0, false) := by unfold cnum; rw [if_neg a3]
              rw [b3]
              refine ev_neg Bool.false_ne_true (ev_eq ?_ (Ev.now _))
              rw [readB_neg (fun h => a3 h.d)]
          · have b2 : cnum (((nb s).take 7).drop 5) = (0, false) := by unfold cnum; rw [if_neg a2]
            rw [b2]
            refine ev_neg Bool.false_ne_true (ev_eq ?_ (Ev.now _))
            rw [readB_neg (fun h => a2 h.m)]
        · have b1 : cnum ((nb s).take 4) = (0, false) := by unfold cnum; rw [if_neg a1]
          rw [b1]
          refine ev_neg Bool.false_ne_true (ev_eq ?_ (Ev.now _))
          rw [readB_neg (fun h => a1 h.y)]
      · exact end1 _ (bne_iff_ne.mpr c7) (fun h => c7 h.b)
    · exact ev_neg c4 (end1 _ rfl (fun h => c4 h.a))
  · exact ev_neg c (end1 _ rfl (fun h => c (by have := h.len; omega)))
/-- A text of a time. -/
structure IsTimeText (l : List Int) : Prop where
  len : l.length = 16
  a : l.getD 10 0 = 32
  b : l.getD 13 0 = 58
  day : IsText (l.take 10)
  h : allDig ((l.take 13).drop 11) = true
  m : allDig (l.drop 14) = true
  h2 : Cv.num ((l.take 13).drop 11) ≤ 23
  m2 : Cv.num (l.drop 14) ≤ 59
open Classical in
noncomputable def readTB (l : List Int) : Int × Int := if IsTimeText l then ((readB (l.take 10)).1 * 1440 + Cv.num ((l.take 13).drop 11) * 60 + Cv.num (l.drop 14), 0) else (0, 11)
theorem readTB_pos {l : List Int} (h : IsTimeText l) : readTB l = ((readB (l.take 10)).1 * 1440 + Cv.num ((l.take 13).drop 11) * 60 + Cv.num (l.drop 14), 0) := by unfold readTB; rw [if_pos h]
theorem readTB_neg {l : List Int} (h : ¬ IsTimeText l) : readTB l = (0, 11) := by unfold readTB; rw [if_neg h]
theorem readB_bd (l : List Int) : 0 ≤ (readB l).1 ∧ (readB l).1 ≤ 730484 := by
  by_cases h : IsText l
  · rw [readB_pos h]; exact (Cv.dayOf_bd h.is).2.2
  · rw [readB_neg h]; exact ⟨by decide, by decide⟩
theorem readB_ok {l : List Int} : (readB l).2 = 0 ↔ IsText l := by
  by_cases h : IsText l
  · rw [readB_pos h]; exact ⟨fun _ => h, fun _ => rfl⟩
  · rw [readB_neg h]; exact ⟨fun hc => absurd hc (by decide), fun h' => absurd h' h⟩
theorem creadtime_f (s : ByteArray) : Ev (fun k => civil_ReadTime.f k s) (readTB (nb s)) := by
  have es := nb_len s
  have end1 : ∀ x : Bool, x = true → ¬ IsTimeText (nb s) → Ev (fun k => civil_ReadTime.j0 k s x) (readTB (nb s)) := by
    intro x hx hn
    rw [readTB_neg hn]
    exact Ev.step (fun k => civil_ReadTime.j0.eq_2 _ _ k) (ev_pos hx (Ev.now _))
  unfold civil_ReadTime.f
  by_cases c : (s.size : Int) = 16
  · have c' : s.size = 16 := by omega
    refine ev_pos c (ev_pos (by omega) ?_)
    have e4' : bt s 10 = (nb s).getD 10 0 := bt_getD s 10 (by omega)
    have e7' : bt s 13 = (nb s).getD 13 0 := bt_getD s 13 (by omega)
    rw [e4', e7']
    by_cases c4 : (nb s).getD 10 0 = 32
    · refine ev_pos c4 (ev_pos (by omega) ?_)
      by_cases c7 : (nb s).getD 13 0 = 58
      · have hne : ((nb s).getD 13 0 != 58) = false := by rw [c7]; rfl
        rw [hne]
        refine Ev.step (fun k => civil_ReadTime.j0.eq_2 _ _ k) (ev_neg Bool.false_ne_true (ev_pos (by decide) (ev_pos (by omega) ?_)))
        have n1 := cread_f (s.extract 0 10)
        have n2 := cnumber_f (s.extract 11 13) (by rw [nb_extract, List.length_drop, List.length_take]; omega)
        have n3 := cnumber_f (s.extract 14 s.size) (by rw [nb_extract, List.length_drop, List.length_take]; omega)
        rw [nb_extract, List.drop_zero] at n1
        rw [nb_extract] at n2
        rw [nb_extract, List.take_of_length_le (by omega)] at n3
        refine Ev.bind n1 (ev_pos (by decide) (ev_pos (by omega) (Ev.bind n2 (ev_pos (by omega) (Ev.bind n3 ?_)))))
        by_cases a1 : (readB ((nb s).take 10)).2 = 0
        · refine ev_pos a1 ?_
          by_cases a2 : allDig (((nb s).take 13).drop 11) = true
          · have b2 : cnum (((nb s).take 13).drop 11) = (Cv.num (((nb s).take 13).drop 11), true) := by unfold cnum; rw [if_pos a2]
            rw [b2]
            refine ev_pos rfl ?_
            by_cases a3 : allDig ((nb s).drop 14) = true
            · have b3 : cnum ((nb s).drop 14) = (Cv.num ((nb s).drop 14), true) := by unfold cnum; rw [if_pos a3]
              rw [b3]
              refine ev_pos rfl ?_
              have hn1 := num_bd (l := ((nb s).take 13).drop 11) (by rw [List.length_drop, List.length_take]; omega) a2
              have hn2 := num_bd (l := (nb s).drop 14) (by rw [List.length_drop]; omega) a3
              have hr := readB_bd ((nb s).take 10)
              by_cases h2 : Cv.num (((nb s).take 13).drop 11) > 23
              · refine ev_pos h2 (ev_eq ?_ (Ev.now _))
                rw [readTB_neg (fun h => by have := h.h2; omega)]
              · refine ev_neg h2 ?_
                by_cases m2 : Cv.num ((nb s).drop 14) > 59
                · refine ev_pos m2 (ev_eq ?_ (Ev.now _))
                  rw [readTB_neg (fun h => by have := h.m2; omega)]
                · refine ev_neg m2 (ev_eq ?_ (Ev.now _))
                  rw [readTB_pos ⟨by omega, c4, c7, readB_ok.1 a1, a2, a3, by omega, by omega⟩]
                  generalize (readB ((nb s).take 10)).1 = x at *
                  generalize Cv.num (((nb s).take 13).drop 11) = u at *
                  generalize Cv.num ((nb s).drop 14) = v at *
                  have q1 : -9223372036854775808 ≤ x * 1440 ∧ x * 1440 ≤ 9223372036854775807 := by omega
                  have q2 : -9223372036854775808 ≤ u * 60 ∧ u * 60 ≤ 9223372036854775807 := by omega
                  have q3 : -9223372036854775808 ≤ x * 1440 + u * 60 ∧ x * 1440 + u * 60 ≤ 9223372036854775807 := by omega
                  have q4 : -9223372036854775808 ≤ x * 1440 + u * 60 + v ∧ x * 1440 + u * 60 + v ≤ 9223372036854775807 := by omega
                  rw [w64 q1.1 q1.2, w64 q2.1 q2.2, w64 q3.1 q3.2, w64 q4.1 q4.2]
            · have b3 : cnum ((nb s).drop 14) = (0, false) := by unfold cnum; rw [if_neg a3]
              rw [b3]
              refine ev_neg Bool.false_ne_true (ev_eq ?_ (Ev.now _))
              rw [readTB_neg (fun h => a3 h.m)]
          · have b2 : cnum (((nb s).take 13).drop 11) = (0, false) := by unfold cnum; rw [if_neg a2]
            rw [b2]
            refine ev_neg Bool.false_ne_true (ev_eq ?_ (Ev.now _))
            rw [readTB_neg (fun h => a2 h.h)]
        · refine ev_neg a1 (ev_eq ?_ (Ev.now _))
          rw [readTB_neg (fun h => a1 (readB_ok.2 h.day))]
      · exact end1 _ (bne_iff_ne.mpr c7) (fun h => c7 h.b)
    · exact ev_neg c4 (end1 _ rfl (fun h => c4 h.a))
  · exact ev_neg c (end1 _ rfl (fun h => c (by have := h.len; omega)))
end Go.Proofs.YtehnhedifhpalaaDoor.Cp
namespace Go.Proofs.YtehnhedifhpalaaDoor.Cp
open Go.RowKit Go.Proofs.YtehnhedifhpalaaDoorW.PrintWords Go.Proofs.YtehnhedifhpalaaDoorW.PrintLast Go.Proofs.YtehnhedifhpalaaDoorW.PrintMore
attribute [local go_sem] max2_int min2_int max_two min_two max_three min_three max_four min_four   -- for this text's walks alone
set_option linter.unusedVariables false
set_option linter.unusedSimpArgs false
def letterbagref01_number.l0 : Nat → ByteArray → Int → Int → Option (Int)
 | 0, _, _, _ => none
 | k + 1, x0, x3, x4 => if x4 < (x0.size : Int) then (if 0 ≤ x4 then (if (bt x0 x4) < 48 then (some (-1)) else (if (bt x0 x4) > 57 then (some (-1)) else (letterbagref01_number.l0 k x0 (wrap64 ((wrap64 (10 * x3)) + (((bt x0 x4) - 48) % 256))) (wrap64 (x4 + 1))))) else (none)) else (some x3)
def letterbagref01_number.f (k : Nat) (a0 : ByteArray) : Option (Int) := letterbagref01_number.l0 k a0 0 0
set_option maxHeartbeats 8000000 in
set_option maxRecDepth 100000 in
theorem letterbagref01_number.calls (k : Nat) (a0 : ByteArray) (r : Int) (w : World) (h : letterbagref01_number.f k a0 = some r) :
  Calls Tryd.prog 61 #[.string a0] w fun e w' => e = .returned (.int .i64 r) ∧ Drawn0 w w' := by
 have H : (letterbagref01_number.l0 k a0 0 0) = some r := h
 clear h
 have H' := Aside0.mk H
 clear H
 go_enter Tryd.func61, Tryd.ntmps61
 go_wp2
 go_loopg [3, 4] k (fun kq v3 v4 w' => ∃ (x3_1 : Int) (x4_1 : Int), v3 = .int .i64 x3_1 ∧ v4 = .int .i64 x4_1 ∧ Aside0 (letterbagref01_number.l0 kq a0 x3_1 x4_1 = some r) ∧ Aside0 (kq ≤ k) ∧ Drawn0 w w')
 case atStart => exact ⟨(0), (0), (by first | rfl | (simp; done) | (simp [*]; done) | (simp; exact (show ∀ a_ b_ : Bool, (a_ == b_) = (!(a_ != b_)) from by decide) _ _) | (rw [Bool.eq_iff_iff]; simp; done) | (simp; rw [Bool.eq_iff_iff]; simp; done)), (by first | rfl | (simp; done) | (simp [*]; done) | (simp; exact (show ∀ a_ b_ : Bool, (a_ == b_) = (!(a_ != b_)) from by decide) _ _) | (rw [Bool.eq_iff_iff]; simp; done) | (simp; rw [Bool.eq_iff_iff]; simp; done)), H', ⟨Nat.le_refl _⟩, by repeat (first | exact Drawn0.refl _ | apply Drawn0.step)⟩
 case round =>
  clear H'
  obtain ⟨x3_1, x4_1, rfl, rfl, HA, HK1, ⟨m1, rfl⟩⟩ := hrel
  cases gk with
  | zero => exact absurd HA.out (by simp [letterbagref01_number.l0])
  | succ k1 =>
   have H := HA.out
   clear HA
   simp only [letterbagref01_number.l0] at H
   by_cases c2 : x4_1 < (a0.size : Int)
   ·rw [if_pos c2] at H
    have c2b0 : decide (x4_1 < (a0.size : Int)) = true := decide_eq_true c2
    clear c2
    by_cases c3 : 0 ≤ x4_1
    ·rw [if_pos c3] at H
     have c3b0 : decide (0 ≤ x4_1) = true := decide_eq_true c3
     clear c3
     by_cases c5 : (bt a0 x4_1) < 48
     ·rw [if_pos c5] at H
      have c5b0 : decide ((bt a0 x4_1) < 48) = true := decide_eq_true c5
      clear c5
      obtain rfl := Option.some.inj H
      have p4 : 0 ≤ (x4_1 : Int) := of_decide_eq_true (by first | (with_reducible assumption) | assumption)
      have q4 : x4_1 < (a0.size : Int) := of_decide_eq_true (by first | (with_reducible assumption) | assumption)
      have hx4 := bt_at a0 x4_1
      replace p4 := eq_true p4
      replace q4 := eq_true q4
      go_wp2
      go_ret
      exact ⟨by first | rfl | (simp; done) | (simp [*]; done) | (simp; exact (show ∀ a_ b_ : Bool, (a_ == b_) = (!(a_ != b_)) from by decide) _ _), by repeat (first | exact Drawn0.refl _ | apply Drawn0.step)⟩
     ·rw [if_neg c5] at H
      have c5b0 : decide ((bt a0 x4_1) < 48) = false := decide_eq_false c5
      clear c5
      by_cases c7 : (bt a0 x4_1) > 57
      ·rw [if_pos c7] at H
       have c7b0 : decide (57 < (bt a0 x4_1)) = true := decide_eq_true c7
       clear c7
       obtain rfl := Option.some.inj H
       have p4 : 0 ≤ (x4_1 : Int) := of_decide_eq_true (by first | (with_reducible assumption) | assumption)
       have q4 : x4_1 < (a0.size : Int) := of_decide_eq_true (by first | (with_reducible assumption) | assumption)
       have hx4 := bt_at a0 x4_1
       replace p4 := eq_true p4
       replace q4 := eq_true q4
       have p6 : 0 ≤ (x4_1 : Int) := of_decide_eq_true (by first | (with_reducible assumption) | assumption)
       have q6 : x4_1 < (a0.size : Int) := of_decide_eq_true (by first | (with_reducible assumption) | assumption)
       have hx6 := bt_at a0 x4_1
       replace p6 := eq_true p6
       replace q6 := eq_true q6
       go_wp2
       go_ret
       exact ⟨by first | rfl | (simp; done) | (simp [*]; done) | (simp; exact (show ∀ a_ b_ : Bool, (a_ == b_) = (!(a_ != b_)) from by decide) _ _), by repeat (first | exact Drawn0.refl _ | apply Drawn0.step)⟩
      ·rw [if_neg c7] at H
       have c7b0 : decide (57 < (bt a0 x4_1)) = false := decide_eq_false c7
       clear c7
       have H' := Aside0.mk H
       clear H
       have p4 : 0 ≤ (x4_1 : Int) := of_decide_eq_true (by first | (with_reducible assumption) | assumption)
       have q4 : x4_1 < (a0.size : Int) := of_decide_eq_true (by first | (with_reducible assumption) | assumption)
       have hx4 := bt_at a0 x4_1
       replace p4 := eq_true p4
       replace q4 := eq_true q4
       have p6 : 0 ≤ (x4_1 : Int) := of_decide_eq_true (by first | (with_reducible assumption) | assumption)
       have q6 : x4_1 < (a0.size : Int) := of_decide_eq_true (by first | (with_reducible assumption) | assumption)
       have hx6 := bt_at a0 x4_1
       replace p6 := eq_true p6
       replace q6 := eq_true q6
       have p8 : 0 ≤ (x4_1 : Int) := of_decide_eq_true (by first | (with_reducible assumption) | assumption)
       have q8 : x4_1 < (a0.size : Int) := of_decide_eq_true (by first | (with_reducible assumption) | assumption)
       have hx8 := bt_at a0 x4_1
       replace p8 := eq_true p8
       replace q8 := eq_true q8
       go_wp2
       go_roundg k1
       case measure => have := HK1.out; omega
       case rel => exact ⟨(wrap64 ((wrap64 (10 * x3_1)) + (((bt a0 x4_1) - 48) % 256))), (wrap64 (x4_1 + 1)), (by first | rfl | (simp; done) | (simp [*]; done) | (simp; exact (show ∀ a_ b_ : Bool, (a_ == b_) = (!(a_ != b_)) from by decide) _ _) | (rw [Bool.eq_iff_iff]; simp; done) | (simp; rw [Bool.eq_iff_iff]; simp; done)), (by first | rfl | (simp; done) | (simp [*]; done) | (simp; exact (show ∀ a_ b_ : Bool, (a_ == b_) = (!(a_ != b_)) from by decide) _ _) | (rw [Bool.eq_iff_iff]; simp; done) | (simp; rw [Bool.eq_iff_iff]; simp; done)), H', ⟨by have := HK1.out; omega⟩, by repeat (first | exact Drawn0.refl _ | apply Drawn0.step)⟩
    ·rw [if_neg c3] at H
     exact absurd H (by simp)
   ·rw [if_neg c2] at H
    have c2b0 : decide (x4_1 < (a0.size : Int)) = false := decide_eq_false c2
    clear c2
    obtain rfl := Option.some.inj H
    go_wp2
    go_ret
    exact ⟨by first | rfl | (simp; done) | (simp [*]; done) | (simp; exact (show ∀ a_ b_ : Bool, (a_ == b_) = (!(a_ != b_)) from by decide) _ _), by repeat (first | exact Drawn0.refl _ | apply Drawn0.step)⟩
def letterbagref01_Read.f (k : Nat) (a0 : ByteArray) : Option (Int × Int) := if (a0.size : Int) = 10 then (if 0 ≤ 4 then (if 4 ≤ (a0.size : Int) then ((letterbagref01_number.f k (a0.extract 0 4)).bind fun t245 => (if 5 ≤ 7 then (if 7 ≤ (a0.size : Int) then ((letterbagref01_number.f k (a0.extract 5 7)).bind fun t246 => (if 8 ≤ (a0.size : Int) then ((letterbagref01_number.f k (a0.extract 8 a0.size)).bind fun t247 => ((letterbagref01_Day.f k t245 t246 t247).bind fun bt248 => (if bt248.2 = 0 then ((letterbagref01_Text.f k bt248.1).bind fun bt250 => (if bt250.1.toList = a0.toList then (some (bt248.1, 0)) else (some (0, 11)))) else (some (0, 11))))) else (none))) else (none)) else (none))) else (none)) else (none)) else (some (0, 11))
set_option maxHeartbeats 8000000 in
set_option maxRecDepth 100000 in
theorem letterbagref01_Read.calls (k : Nat) (a0 : ByteArray) (r1 : Int) (r2 : Int) (w : World) (h : letterbagref01_Read.f k a0 = some (r1, r2)) :
  Calls Tryd.prog 31 #[.string a0] w fun e w' => e = .returned (.tuple #[.int .i64 r1, .int .i64 r2]) ∧ Below w.heap.size w w' := by
 have HB := Aside0.mk (Below.refl w.heap.size w)
 have H : (if (a0.size : Int) = 10 then (if 0 ≤ 4 then (if 4 ≤ (a0.size : Int) then ((letterbagref01_number.f k (a0.extract 0 4)).bind fun t245 => (if 5 ≤ 7 then (if 7 ≤ (a0.size : Int) then ((letterbagref01_number.f k (a0.extract 5 7)).bind fun t246 => (if 8 ≤ (a0.size : Int) then ((letterbagref01_number.f k (a0.extract 8 a0.size)).bind fun t247 => ((letterbagref01_Day.f k t245 t246 t247).bind fun bt248 => (if bt248.2 = 0 then ((letterbagref01_Text.f k bt248.1).bind fun bt250 => (if bt250.1.toList = a0.toList then (some (bt248.1, 0)) else (some (0, 11)))) else (some (0, 11))))) else (none))) else (none)) else (none))) else (none)) else (none)) else (some (0, 11))) = some (r1, r2) := h
 clear h
 by_cases c2 : (a0.size : Int) = 10
 ·rw [if_pos c2] at H
  have c2b0 : ((a0.size : Int) == 10) = true := beq_iff_eq.mpr c2
  have c2b1 : ((a0.size : Int) != 10) = false := bne_eq_false_iff_eq.mpr c2
  clear c2
  by_cases c3 : 0 ≤ 4
  ·rw [if_pos c3] at H
   have c3b0 := eq_true c3
   have c3b1 : decide (0 ≤ 4) = true := decide_eq_true c3
   clear c3
   by_cases c4 : 4 ≤ (a0.size : Int)
   ·rw [if_pos c4] at H
    have c4b0 := eq_true c4
    have c4b1 : decide (4 ≤ (a0.size : Int)) = true := decide_eq_true c4
    clear c4
    replace H := Option.bind_eq_some_iff.mp H
    obtain ⟨t245, A50, H⟩ := H
    replace H : (if 5 ≤ 7 then (if 7 ≤ (a0.size : Int) then ((letterbagref01_number.f k (a0.extract 5 7)).bind fun t246 => (if 8 ≤ (a0.size : Int) then ((letterbagref01_number.f k (a0.extract 8 a0.size)).bind fun t247 => ((letterbagref01_Day.f k t245 t246 t247).bind fun bt248 => (if bt248.2 = 0 then ((letterbagref01_Text.f k bt248.1).bind fun bt250 => (if bt250.1.toList = a0.toList then (some (bt248.1, 0)) else (some (0, 11)))) else (some (0, 11))))) else (none))) else (none)) else (none)) = some (r1, r2) := H
    have A5 := Aside0.mk A50
    clear A50
    by_cases c6 : 5 ≤ 7
    ·rw [if_pos c6] at H
     have c6b0 := eq_true c6
     have c6b1 : decide (5 ≤ 7) = true := decide_eq_true c6
     clear c6
     by_cases c7 : 7 ≤ (a0.size : Int)
     ·rw [if_pos c7] at H
      have c7b0 := eq_true c7
      have c7b1 : decide (7 ≤ (a0.size : Int)) = true := decide_eq_true c7
      clear c7
      replace H := Option.bind_eq_some_iff.mp H
      obtain ⟨t246, A80, H⟩ := H
      replace H : (if 8 ≤ (a0.size : Int) then ((letterbagref01_number.f k (a0.extract 8 a0.size)).bind fun t247 => ((letterbagref01_Day.f k t245 t246 t247).bind fun bt248 => (if bt248.2 = 0 then ((letterbagref01_Text.f k bt248.1).bind fun bt250 => (if bt250.1.toList = a0.toList then (some (bt248.1, 0)) else (some (0, 11)))) else (some (0, 11))))) else (none)) = some (r1, r2) := H
      have A8 := Aside0.mk A80
      clear A80
      by_cases c9 : 8 ≤ (a0.size : Int)
      ·rw [if_pos c9] at H
       have c9b0 := eq_true c9
       have c9b1 : decide (8 ≤ (a0.size : Int)) = true := decide_eq_true c9
       clear c9
       replace H := Option.bind_eq_some_iff.mp H
       obtain ⟨t247, A100, H⟩ := H
       replace H : ((letterbagref01_Day.f k t245 t246 t247).bind fun bt248 => (if bt248.2 = 0 then ((letterbagref01_Text.f k bt248.1).bind fun bt250 => (if bt250.1.toList = a0.toList then (some (bt248.1, 0)) else (some (0, 11)))) else (some (0, 11)))) = some (r1, r2) := H
       have A10 := Aside0.mk A100
       clear A100
       replace H := Option.bind_eq_some_iff.mp H
       obtain ⟨⟨t248, t249⟩, A110, H⟩ := H
       replace H : (if t249 = 0 then ((letterbagref01_Text.f k t248).bind fun bt250 => (if bt250.1.toList = a0.toList then (some (t248, 0)) else (some (0, 11)))) else (some (0, 11))) = some (r1, r2) := H
       have A11 := Aside0.mk A110
       clear A110
       by_cases c12 : t249 = 0
       ·rw [if_pos c12] at H
        have c12b0 : (t249 == 0) = true := beq_iff_eq.mpr c12
        have c12b1 : (t249 != 0) = false := bne_eq_false_iff_eq.mpr c12
        clear c12
        replace H := Option.bind_eq_some_iff.mp H
        obtain ⟨⟨t250, t251⟩, A130, H⟩ := H
        replace H : (if t250.toList = a0.toList then (some (t248, 0)) else (some (0, 11))) = some (r1, r2) := H
        have A13 := Aside0.mk A130
        clear A130
        by_cases c14 : t250.toList = a0.toList
        ·rw [if_pos c14] at H
         have c14b0 : (t250.toList == a0.toList) = true := beq_iff_eq.mpr c14
         have c14b1 : (t250.toList != a0.toList) = false := bne_eq_false_iff_eq.mpr c14
         clear c14
         simp only [Option.some.injEq, Prod.mk.injEq] at H
         obtain ⟨rfl, rfl⟩ := H
         go_enter Tryd.func31, Tryd.ntmps31
         go_wp2_with (first | (go_at_call 61; (with_reducible refine (letterbagref01_number.calls k (a0.extract 0 4) t245 _ A5.out).mono ?_); rintro e w' ⟨rfl, ⟨nd, rfl⟩⟩; (try first | exact ⟨rfl, _, World.drewN_drewN _ _ _⟩ | exact ⟨rfl, _, Eq.trans (World.drewN_drewN _ _ _) (congrArg (World.drewN _) (Nat.add_assoc _ _ _))⟩)) | (go_at_call 61; (with_reducible refine (letterbagref01_number.calls k (a0.extract 5 7) t246 _ A8.out).mono ?_); rintro e w' ⟨rfl, ⟨nd, rfl⟩⟩; (try first | exact ⟨rfl, _, World.drewN_drewN _ _ _⟩ | exact ⟨rfl, _, Eq.trans (World.drewN_drewN _ _ _) (congrArg (World.drewN _) (Nat.add_assoc _ _ _))⟩)) | (go_at_call 61; (with_reducible refine (letterbagref01_number.calls k (a0.extract 8 a0.size) t247 _ A10.out).mono ?_); rintro e w' ⟨rfl, ⟨nd, rfl⟩⟩; (try first | exact ⟨rfl, _, World.drewN_drewN _ _ _⟩ | exact ⟨rfl, _, Eq.trans (World.drewN_drewN _ _ _) (congrArg (World.drewN _) (Nat.add_assoc _ _ _))⟩)) | (go_at_call 39; (with_reducible refine (letterbagref01_Day.calls k t245 t246 t247 t248 t249 _ A11.out).mono ?_); rintro e w' ⟨rfl, ⟨nd, rfl⟩⟩; (try first | exact ⟨rfl, _, World.drewN_drewN _ _ _⟩ | exact ⟨rfl, _, Eq.trans (World.drewN_drewN _ _ _) (congrArg (World.drewN _) (Nat.add_assoc _ _ _))⟩)) | (go_at_call 43; (with_reducible refine (letterbagref01_Text.calls k t248 t250 t251 _ A13.out).mono ?_); rintro e w15 ⟨rfl, hb⟩; have n0_ := Aside0.mk (below_step (by repeat (first | (with_reducible first | exact HB.out | apply below_alloc | apply pw_below_drewN | apply below_drew1) | exact HB.out)) hb); clear HB; have HB := n0_; clear n0_; (try clear hb); (try clear hb2); (try clear hk); (try clear hi)))
         repeat (go_quiet (first | (go_at_call 61; (with_reducible refine (letterbagref01_number.calls k (a0.extract 0 4) t245 _ A5.out).mono ?_); rintro e w' ⟨rfl, ⟨nd, rfl⟩⟩; (try first | exact ⟨rfl, _, World.drewN_drewN _ _ _⟩ | exact ⟨rfl, _, Eq.trans (World.drewN_drewN _ _ _) (congrArg (World.drewN _) (Nat.add_assoc _ _ _))⟩)) | (go_at_call 61; (with_reducible refine (letterbagref01_number.calls k (a0.extract 5 7) t246 _ A8.out).mono ?_); rintro e w' ⟨rfl, ⟨nd, rfl⟩⟩; (try first | exact ⟨rfl, _, World.drewN_drewN _ _ _⟩ | exact ⟨rfl, _, Eq.trans (World.drewN_drewN _ _ _) (congrArg (World.drewN _) (Nat.add_assoc _ _ _))⟩)) | (go_at_call 61; (with_reducible refine (letterbagref01_number.calls k (a0.extract 8 a0.size) t247 _ A10.out).mono ?_); rintro e w' ⟨rfl, ⟨nd, rfl⟩⟩; (try first | exact ⟨rfl, _, World.drewN_drewN _ _ _⟩ | exact ⟨rfl, _, Eq.trans (World.drewN_drewN _ _ _) (congrArg (World.drewN _) (Nat.add_assoc _ _ _))⟩)) | (go_at_call 39; (with_reducible refine (letterbagref01_Day.calls k t245 t246 t247 t248 t249 _ A11.out).mono ?_); rintro e w' ⟨rfl, ⟨nd, rfl⟩⟩; (try first | exact ⟨rfl, _, World.drewN_drewN _ _ _⟩ | exact ⟨rfl, _, Eq.trans (World.drewN_drewN _ _ _) (congrArg (World.drewN _) (Nat.add_assoc _ _ _))⟩)) | (go_at_call 43; (with_reducible refine (letterbagref01_Text.calls k t248 t250 t251 _ A13.out).mono ?_); rintro e w15 ⟨rfl, hb⟩; have n0_ := Aside0.mk (below_step (by repeat (first | (with_reducible first | exact HB.out | apply below_alloc | apply pw_below_drewN | apply below_drew1) | exact HB.out)) hb); clear HB; have HB := n0_; clear n0_; (try clear hb); (try clear hb2); (try clear hk); (try clear hi))); try go_wp2_with (first | (go_at_call 61; (with_reducible refine (letterbagref01_number.calls k (a0.extract 0 4) t245 _ A5.out).mono ?_); rintro e w' ⟨rfl, ⟨nd, rfl⟩⟩; (try first | exact ⟨rfl, _, World.drewN_drewN _ _ _⟩ | exact ⟨rfl, _, Eq.trans (World.drewN_drewN _ _ _) (congrArg (World.drewN _) (Nat.add_assoc _ _ _))⟩)) | (go_at_call 61; (with_reducible refine (letterbagref01_number.calls k (a0.extract 5 7) t246 _ A8.out).mono ?_); rintro e w' ⟨rfl, ⟨nd, rfl⟩⟩; (try first | exact ⟨rfl, _, World.drewN_drewN _ _ _⟩ | exact ⟨rfl, _, Eq.trans (World.drewN_drewN _ _ _) (congrArg (World.drewN _) (Nat.add_assoc _ _ _))⟩)) | (go_at_call 61; (with_reducible refine (letterbagref01_number.calls k (a0.extract 8 a0.size) t247 _ A10.out).mono ?_); rintro e w' ⟨rfl, ⟨nd, rfl⟩⟩; (try first | exact ⟨rfl, _, World.drewN_drewN _ _ _⟩ | exact ⟨rfl, _, Eq.trans (World.drewN_drewN _ _ _) (congrArg (World.drewN _) (Nat.add_assoc _ _ _))⟩)) | (go_at_call 39; (with_reducible refine (letterbagref01_Day.calls k t245 t246 t247 t248 t249 _ A11.out).mono ?_); rintro e w' ⟨rfl, ⟨nd, rfl⟩⟩; (try first | exact ⟨rfl, _, World.drewN_drewN _ _ _⟩ | exact ⟨rfl, _, Eq.trans (World.drewN_drewN _ _ _) (congrArg (World.drewN _) (Nat.add_assoc _ _ _))⟩)) | (go_at_call 43; (with_reducible refine (letterbagref01_Text.calls k t248 t250 t251 _ A13.out).mono ?_); rintro e w15 ⟨rfl, hb⟩; have n0_ := Aside0.mk (below_step (by repeat (first | (with_reducible first | exact HB.out | apply below_alloc | apply pw_below_drewN | apply below_drew1) | exact HB.out)) hb); clear HB; have HB := n0_; clear n0_; (try clear hb); (try clear hb2); (try clear hk); (try clear hi))))
         go_ret2
         exact ⟨by first | rfl | (simp [errW_none, errW_some] <;> rfl) | (simp [*, errW_none, errW_some] <;> rfl), by repeat (first | (with_reducible first | exact HB.out | apply below_alloc | apply pw_below_drewN | apply below_drew1) | exact HB.out)⟩
        ·rw [if_neg c14] at H
         have c14b0 : (t250.toList == a0.toList) = false := beq_eq_false_iff_ne.mpr c14
         have c14b1 : (t250.toList != a0.toList) = true := bne_iff_ne.mpr c14
         simp only [Option.some.injEq, Prod.mk.injEq] at H
         obtain ⟨rfl, rfl⟩ := H
         go_enter Tryd.func31, Tryd.ntmps31
         go_wp2_with (first | (go_at_call 61; (with_reducible refine (letterbagref01_number.calls k (a0.extract 0 4) t245 _ A5.out).mono ?_); rintro e w' ⟨rfl, ⟨nd, rfl⟩⟩; (try first | exact ⟨rfl, _, World.drewN_drewN _ _ _⟩ | exact ⟨rfl, _, Eq.trans (World.drewN_drewN _ _ _) (congrArg (World.drewN _) (Nat.add_assoc _ _ _))⟩)) | (go_at_call 61; (with_reducible refine (letterbagref01_number.calls k (a0.extract 5 7) t246 _ A8.out).mono ?_); rintro e w' ⟨rfl, ⟨nd, rfl⟩⟩; (try first | exact ⟨rfl, _, World.drewN_drewN _ _ _⟩ | exact ⟨rfl, _, Eq.trans (World.drewN_drewN _ _ _) (congrArg (World.drewN _) (Nat.add_assoc _ _ _))⟩)) | (go_at_call 61; (with_reducible refine (letterbagref01_number.calls k (a0.extract 8 a0.size) t247 _ A10.out).mono ?_); rintro e w' ⟨rfl, ⟨nd, rfl⟩⟩; (try first | exact ⟨rfl, _, World.drewN_drewN _ _ _⟩ | exact ⟨rfl, _, Eq.trans (World.drewN_drewN _ _ _) (congrArg (World.drewN _) (Nat.add_assoc _ _ _))⟩)) | (go_at_call 39; (with_reducible refine (letterbagref01_Day.calls k t245 t246 t247 t248 t249 _ A11.out).mono ?_); rintro e w' ⟨rfl, ⟨nd, rfl⟩⟩; (try first | exact ⟨rfl, _, World.drewN_drewN _ _ _⟩ | exact ⟨rfl, _, Eq.trans (World.drewN_drewN _ _ _) (congrArg (World.drewN _) (Nat.add_assoc _ _ _))⟩)) | (go_at_call 43; (with_reducible refine (letterbagref01_Text.calls k t248 t250 t251 _ A13.out).mono ?_); rintro e w16 ⟨rfl, hb⟩; have n0_ := Aside0.mk (below_step (by repeat (first | (with_reducible first | exact HB.out | apply below_alloc | apply pw_below_drewN | apply below_drew1) | exact HB.out)) hb); clear HB; have HB := n0_; clear n0_; (try clear hb); (try clear hb2); (try clear hk); (try clear hi)))
         repeat (go_quiet (first | (go_at_call 61; (with_reducible refine (letterbagref01_number.calls k (a0.extract 0 4) t245 _ A5.out).mono ?_); rintro e w' ⟨rfl, ⟨nd, rfl⟩⟩; (try first | exact ⟨rfl, _, World.drewN_drewN _ _ _⟩ | exact ⟨rfl, _, Eq.trans (World.drewN_drewN _ _ _) (congrArg (World.drewN _) (Nat.add_assoc _ _ _))⟩)) | (go_at_call 61; (with_reducible refine (letterbagref01_number.calls k (a0.extract 5 7) t246 _ A8.out).mono ?_); rintro e w' ⟨rfl, ⟨nd, rfl⟩⟩; (try first | exact ⟨rfl, _, World.drewN_drewN _ _ _⟩ | exact ⟨rfl, _, Eq.trans (World.drewN_drewN _ _ _) (congrArg (World.drewN _) (Nat.add_assoc _ _ _))⟩)) | (go_at_call 61; (with_reducible refine (letterbagref01_number.calls k (a0.extract 8 a0.size) t247 _ A10.out).mono ?_); rintro e w' ⟨rfl, ⟨nd, rfl⟩⟩; (try first | exact ⟨rfl, _, World.drewN_drewN _ _ _⟩ | exact ⟨rfl, _, Eq.trans (World.drewN_drewN _ _ _) (congrArg (World.drewN _) (Nat.add_assoc _ _ _))⟩)) | (go_at_call 39; (with_reducible refine (letterbagref01_Day.calls k t245 t246 t247 t248 t249 _ A11.out).mono ?_); rintro e w' ⟨rfl, ⟨nd, rfl⟩⟩; (try first | exact ⟨rfl, _, World.drewN_drewN _ _ _⟩ | exact ⟨rfl, _, Eq.trans (World.drewN_drewN _ _ _) (congrArg (World.drewN _) (Nat.add_assoc _ _ _))⟩)) | (go_at_call 43; (with_reducible refine (letterbagref01_Text.calls k t248 t250 t251 _ A13.out).mono ?_); rintro e w16 ⟨rfl, hb⟩; have n0_ := Aside0.mk (below_step (by repeat (first | (with_reducible first | exact HB.out | apply below_alloc | apply pw_below_drewN | apply below_drew1) | exact HB.out)) hb); clear HB; have HB := n0_; clear n0_; (try clear hb); (try clear hb2); (try clear hk); (try clear hi))); try go_wp2_with (first | (go_at_call 61; (with_reducible refine (letterbagref01_number.calls k (a0.extract 0 4) t245 _ A5.out).mono ?_); rintro e w' ⟨rfl, ⟨nd, rfl⟩⟩; (try first | exact ⟨rfl, _, World.drewN_drewN _ _ _⟩ | exact ⟨rfl, _, Eq.trans (World.drewN_drewN _ _ _) (congrArg (World.drewN _) (Nat.add_assoc _ _ _))⟩)) | (go_at_call 61; (with_reducible refine (letterbagref01_number.calls k (a0.extract 5 7) t246 _ A8.out).mono ?_); rintro e w' ⟨rfl, ⟨nd, rfl⟩⟩; (try first | exact ⟨rfl, _, World.drewN_drewN _ _ _⟩ | exact ⟨rfl, _, Eq.trans (World.drewN_drewN _ _ _) (congrArg (World.drewN _) (Nat.add_assoc _ _ _))⟩)) | (go_at_call 61; (with_reducible refine (letterbagref01_number.calls k (a0.extract 8 a0.size) t247 _ A10.out).mono ?_); rintro e w' ⟨rfl, ⟨nd, rfl⟩⟩; (try first | exact ⟨rfl, _, World.drewN_drewN _ _ _⟩ | exact ⟨rfl, _, Eq.trans (World.drewN_drewN _ _ _) (congrArg (World.drewN _) (Nat.add_assoc _ _ _))⟩)) | (go_at_call 39; (with_reducible refine (letterbagref01_Day.calls k t245 t246 t247 t248 t249 _ A11.out).mono ?_); rintro e w' ⟨rfl, ⟨nd, rfl⟩⟩; (try first | exact ⟨rfl, _, World.drewN_drewN _ _ _⟩ | exact ⟨rfl, _, Eq.trans (World.drewN_drewN _ _ _) (congrArg (World.drewN _) (Nat.add_assoc _ _ _))⟩)) | (go_at_call 43; (with_reducible refine (letterbagref01_Text.calls k t248 t250 t251 _ A13.out).mono ?_); rintro e w16 ⟨rfl, hb⟩; have n0_ := Aside0.mk (below_step (by repeat (first | (with_reducible first | exact HB.out | apply below_alloc | apply pw_below_drewN | apply below_drew1) | exact HB.out)) hb); clear HB; have HB := n0_; clear n0_; (try clear hb); (try clear hb2); (try clear hk); (try clear hi))))
         go_ret2
         exact ⟨by first | rfl | (simp [errW_none, errW_some] <;> rfl) | (simp [*, errW_none, errW_some] <;> rfl), by repeat (first | (with_reducible first | exact HB.out | apply below_alloc | apply pw_below_drewN | apply below_drew1) | exact HB.out)⟩
       ·rw [if_neg c12] at H
        have c12b0 : (t249 == 0) = false := beq_eq_false_iff_ne.mpr c12
        have c12b1 : (t249 != 0) = true := bne_iff_ne.mpr c12
        simp only [Option.some.injEq, Prod.mk.injEq] at H
        obtain ⟨rfl, rfl⟩ := H
        go_enter Tryd.func31, Tryd.ntmps31
        go_wp2_with (first | (go_at_call 61; (with_reducible refine (letterbagref01_number.calls k (a0.extract 0 4) t245 _ A5.out).mono ?_); rintro e w' ⟨rfl, ⟨nd, rfl⟩⟩; (try first | exact ⟨rfl, _, World.drewN_drewN _ _ _⟩ | exact ⟨rfl, _, Eq.trans (World.drewN_drewN _ _ _) (congrArg (World.drewN _) (Nat.add_assoc _ _ _))⟩)) | (go_at_call 61; (with_reducible refine (letterbagref01_number.calls k (a0.extract 5 7) t246 _ A8.out).mono ?_); rintro e w' ⟨rfl, ⟨nd, rfl⟩⟩; (try first | exact ⟨rfl, _, World.drewN_drewN _ _ _⟩ | exact ⟨rfl, _, Eq.trans (World.drewN_drewN _ _ _) (congrArg (World.drewN _) (Nat.add_assoc _ _ _))⟩)) | (go_at_call 61; (with_reducible refine (letterbagref01_number.calls k (a0.extract 8 a0.size) t247 _ A10.out).mono ?_); rintro e w' ⟨rfl, ⟨nd, rfl⟩⟩; (try first | exact ⟨rfl, _, World.drewN_drewN _ _ _⟩ | exact ⟨rfl, _, Eq.trans (World.drewN_drewN _ _ _) (congrArg (World.drewN _) (Nat.add_assoc _ _ _))⟩)) | (go_at_call 39; (with_reducible refine (letterbagref01_Day.calls k t245 t246 t247 t248 t249 _ A11.out).mono ?_); rintro e w' ⟨rfl, ⟨nd, rfl⟩⟩; (try first | exact ⟨rfl, _, World.drewN_drewN _ _ _⟩ | exact ⟨rfl, _, Eq.trans (World.drewN_drewN _ _ _) (congrArg (World.drewN _) (Nat.add_assoc _ _ _))⟩)))
        repeat (go_quiet (first | (go_at_call 61; (with_reducible refine (letterbagref01_number.calls k (a0.extract 0 4) t245 _ A5.out).mono ?_); rintro e w' ⟨rfl, ⟨nd, rfl⟩⟩; (try first | exact ⟨rfl, _, World.drewN_drewN _ _ _⟩ | exact ⟨rfl, _, Eq.trans (World.drewN_drewN _ _ _) (congrArg (World.drewN _) (Nat.add_assoc _ _ _))⟩)) | (go_at_call 61; (with_reducible refine (letterbagref01_number.calls k (a0.extract 5 7) t246 _ A8.out).mono ?_); rintro e w' ⟨rfl, ⟨nd, rfl⟩⟩; (try first | exact ⟨rfl, _, World.drewN_drewN _ _ _⟩ | exact ⟨rfl, _, Eq.trans (World.drewN_drewN _ _ _) (congrArg (World.drewN _) (Nat.add_assoc _ _ _))⟩)) | (go_at_call 61; (with_reducible refine (letterbagref01_number.calls k (a0.extract 8 a0.size) t247 _ A10.out).mono ?_); rintro e w' ⟨rfl, ⟨nd, rfl⟩⟩; (try first | exact ⟨rfl, _, World.drewN_drewN _ _ _⟩ | exact ⟨rfl, _, Eq.trans (World.drewN_drewN _ _ _) (congrArg (World.drewN _) (Nat.add_assoc _ _ _))⟩)) | (go_at_call 39; (with_reducible refine (letterbagref01_Day.calls k t245 t246 t247 t248 t249 _ A11.out).mono ?_); rintro e w' ⟨rfl, ⟨nd, rfl⟩⟩; (try first | exact ⟨rfl, _, World.drewN_drewN _ _ _⟩ | exact ⟨rfl, _, Eq.trans (World.drewN_drewN _ _ _) (congrArg (World.drewN _) (Nat.add_assoc _ _ _))⟩))); try go_wp2_with (first | (go_at_call 61; (with_reducible refine (letterbagref01_number.calls k (a0.extract 0 4) t245 _ A5.out).mono ?_); rintro e w' ⟨rfl, ⟨nd, rfl⟩⟩; (try first | exact ⟨rfl, _, World.drewN_drewN _ _ _⟩ | exact ⟨rfl, _, Eq.trans (World.drewN_drewN _ _ _) (congrArg (World.drewN _) (Nat.add_assoc _ _ _))⟩)) | (go_at_call 61; (with_reducible refine (letterbagref01_number.calls k (a0.extract 5 7) t246 _ A8.out).mono ?_); rintro e w' ⟨rfl, ⟨nd, rfl⟩⟩; (try first | exact ⟨rfl, _, World.drewN_drewN _ _ _⟩ | exact ⟨rfl, _, Eq.trans (World.drewN_drewN _ _ _) (congrArg (World.drewN _) (Nat.add_assoc _ _ _))⟩)) | (go_at_call 61; (with_reducible refine (letterbagref01_number.calls k (a0.extract 8 a0.size) t247 _ A10.out).mono ?_); rintro e w' ⟨rfl, ⟨nd, rfl⟩⟩; (try first | exact ⟨rfl, _, World.drewN_drewN _ _ _⟩ | exact ⟨rfl, _, Eq.trans (World.drewN_drewN _ _ _) (congrArg (World.drewN _) (Nat.add_assoc _ _ _))⟩)) | (go_at_call 39; (with_reducible refine (letterbagref01_Day.calls k t245 t246 t247 t248 t249 _ A11.out).mono ?_); rintro e w' ⟨rfl, ⟨nd, rfl⟩⟩; (try first | exact ⟨rfl, _, World.drewN_drewN _ _ _⟩ | exact ⟨rfl, _, Eq.trans (World.drewN_drewN _ _ _) (congrArg (World.drewN _) (Nat.add_assoc _ _ _))⟩))))
        go_ret2
        exact ⟨by first | rfl | (simp [errW_none, errW_some] <;> rfl) | (simp [*, errW_none, errW_some] <;> rfl), by repeat (first | (with_reducible first | exact HB.out | apply below_alloc | apply pw_below_drewN | apply below_drew1) | exact HB.out)⟩
      ·rw [if_neg c9] at H
       exact absurd H (by simp)
     ·rw [if_neg c7] at H
      exact absurd H (by simp)
    ·rw [if_neg c6] at H
     exact absurd H (by simp)
   ·rw [if_neg c4] at H
    exact absurd H (by simp)
  ·rw [if_neg c3] at H
   exact absurd H (by simp)
 ·rw [if_neg c2] at H
  have c2b0 : ((a0.size : Int) == 10) = false := beq_eq_false_iff_ne.mpr c2
  have c2b1 : ((a0.size : Int) != 10) = true := bne_iff_ne.mpr c2
  simp only [Option.some.injEq, Prod.mk.injEq] at H
  obtain ⟨rfl, rfl⟩ := H
  go_enter Tryd.func31, Tryd.ntmps31
  go_wp2
  repeat (go_quiet (fail); try go_wp2)
  go_ret2
  exact ⟨by first | rfl | (simp [errW_none, errW_some] <;> rfl) | (simp [*, errW_none, errW_some] <;> rfl), by repeat (first | (with_reducible first | exact HB.out | apply below_alloc | apply pw_below_drewN | apply below_drew1) | exact HB.out)⟩
def letterbagref01_ReadTime.f (k : Nat) (a0 : ByteArray) : Option (Int × Int) := if (a0.size : Int) = 16 then (if 0 ≤ 10 then (if 10 ≤ (a0.size : Int) then ((letterbagref01_Read.f k (a0.extract 0 10)).bind fun bt252 => (if 11 ≤ 13 then (if 13 ≤ (a0.size : Int) then ((letterbagref01_number.f k (a0.extract 11 13)).bind fun t254 => (if 14 ≤ (a0.size : Int) then ((letterbagref01_number.f k (a0.extract 14 a0.size)).bind fun t255 => (if bt252.2 = 0 then (if t254 < 0 then (some (0, 11)) else (if t254 > 23 then (some (0, 11)) else (if t255 < 0 then (some (0, 11)) else (if t255 > 59 then (some (0, 11)) else (if 10 < (a0.size : Int) then (if (bt a0 10) = 32 then (if 13 < (a0.size : Int) then (if (bt a0 13) = 58 then (some (wrap64 ((wrap64 ((wrap64 (1440 * bt252.1)) + (wrap64 (60 * t254)))) + t255), 0)) else (some (0, 11))) else (none)) else (some (0, 11))) else (none)))))) else (some (0, 11)))) else (none))) else (none)) else (none))) else (none)) else (none)) else (some (0, 11))
set_option maxHeartbeats 8000000 in
set_option maxRecDepth 100000 in
theorem letterbagref01_ReadTime.calls (k : Nat) (a0 : ByteArray) (r1 : Int) (r2 : Int) (w : World) (h : letterbagref01_ReadTime.f k a0 = some (r1, r2)) :
  Calls Tryd.prog 33 #[.string a0] w fun e w' => e = .returned (.tuple #[.int .i64 r1, .int .i64 r2]) ∧ Below w.heap.size w w' := by
 have HB := Aside0.mk (Below.refl w.heap.size w)
 have H : (if (a0.size : Int) = 16 then (if 0 ≤ 10 then (if 10 ≤ (a0.size : Int) then ((letterbagref01_Read.f k (a0.extract 0 10)).bind fun bt252 => (if 11 ≤ 13 then (if 13 ≤ (a0.size : Int) then ((letterbagref01_number.f k (a0.extract 11 13)).bind fun t254 => (if 14 ≤ (a0.size : Int) then ((letterbagref01_number.f k (a0.extract 14 a0.size)).bind fun t255 => (if bt252.2 = 0 then (if t254 < 0 then (some (0, 11)) else (if t254 > 23 then (some (0, 11)) else (if t255 < 0 then (some (0, 11)) else (if t255 > 59 then (some (0, 11)) else (if 10 < (a0.size : Int) then (if (bt a0 10) = 32 then (if 13 < (a0.size : Int) then (if (bt a0 13) = 58 then (some (wrap64 ((wrap64 ((wrap64 (1440 * bt252.1)) + (wrap64 (60 * t254)))) + t255), 0)) else (some (0, 11))) else (none)) else (some (0, 11))) else (none)))))) else (some (0, 11)))) else (none))) else (none)) else (none))) else (none)) else (none)) else (some (0, 11))) = some (r1, r2) := h
 clear h
 by_cases c2 : (a0.size : Int) = 16
 ·rw [if_pos c2] at H
  have c2b0 : ((a0.size : Int) == 16) = true := beq_iff_eq.mpr c2
  have c2b1 : ((a0.size : Int) != 16) = false := bne_eq_false_iff_eq.mpr c2
  clear c2
  by_cases c3 : 0 ≤ 10
  ·rw [if_pos c3] at H
   have c3b0 := eq_true c3
   have c3b1 : decide (0 ≤ 10) = true := decide_eq_true c3
   clear c3
   by_cases c4 : 10 ≤ (a0.size : Int)
   ·rw [if_pos c4] at H
    have c4b0 := eq_true c4
    have c4b1 : decide (10 ≤ (a0.size : Int)) = true := decide_eq_true c4
    clear c4
    replace H := Option.bind_eq_some_iff.mp H
    obtain ⟨⟨t252, t253⟩, A50, H⟩ := H
    replace H : (if 11 ≤ 13 then (if 13 ≤ (a0.size : Int) then ((letterbagref01_number.f k (a0.extract 11 13)).bind fun t254 => (if 14 ≤ (a0.size : Int) then ((letterbagref01_number.f k (a0.extract 14 a0.size)).bind fun t255 => (if t253 = 0 then (if t254 < 0 then (some (0, 11)) else (if t254 > 23 then (some (0, 11)) else (if t255 < 0 then (some (0, 11)) else (if t255 > 59 then (some (0, 11)) else (if 10 < (a0.size : Int) then (if (bt a0 10) = 32 then (if 13 < (a0.size : Int) then (if (bt a0 13) = 58 then (some (wrap64 ((wrap64 ((wrap64 (1440 * t252)) + (wrap64 (60 * t254)))) + t255), 0)) else (some (0, 11))) else (none)) else (some (0, 11))) else (none)))))) else (some (0, 11)))) else (none))) else (none)) else (none)) = some (r1, r2) := H
    have A5 := Aside0.mk A50
    clear A50
    by_cases c6 : 11 ≤ 13
    ·rw [if_pos c6] at H
     have c6b0 := eq_true c6
     have c6b1 : decide (11 ≤ 13) = true := decide_eq_true c6
     clear c6
     by_cases c7 : 13 ≤ (a0.size : Int)
     ·rw [if_pos c7] at H
      have c7b0 := eq_true c7
      have c7b1 : decide (13 ≤ (a0.size : Int)) = true := decide_eq_true c7
      clear c7
      replace H := Option.bind_eq_some_iff.mp H
      obtain ⟨t254, A80, H⟩ := H
      replace H : (if 14 ≤ (a0.size : Int) then ((letterbagref01_number.f k (a0.extract 14 a0.size)).bind fun t255 => (if t253 = 0 then (if t254 < 0 then (some (0, 11)) else (if t254 > 23 then (some (0, 11)) else (if t255 < 0 then (some (0, 11)) else (if t255 > 59 then (some (0, 11)) else (if 10 < (a0.size : Int) then (if (bt a0 10) = 32 then (if 13 < (a0.size : Int) then (if (bt a0 13) = 58 then (some (wrap64 ((wrap64 ((wrap64 (1440 * t252)) + (wrap64 (60 * t254)))) + t255), 0)) else (some (0, 11))) else (none)) else (some (0, 11))) else (none)))))) else (some (0, 11)))) else (none)) = some (r1, r2) := H
      have A8 := Aside0.mk A80
      clear A80
      by_cases c9 : 14 ≤ (a0.size : Int)
      ·rw [if_pos c9] at H
       have c9b0 := eq_true c9
       have c9b1 : decide (14 ≤ (a0.size : Int)) = true := decide_eq_true c9
       clear c9
       replace H := Option.bind_eq_some_iff.mp H
       obtain ⟨t255, A100, H⟩ := H
       replace H : (if t253 = 0 then (if t254 < 0 then (some (0, 11)) else (if t254 > 23 then (some (0, 11)) else (if t255 < 0 then (some (0, 11)) else (if t255 > 59 then (some (0, 11)) else (if 10 < (a0.size : Int) then (if (bt a0 10) = 32 then (if 13 < (a0.size : Int) then (if (bt a0 13) = 58 then (some (wrap64 ((wrap64 ((wrap64 (1440 * t252)) + (wrap64 (60 * t254)))) + t255), 0)) else (some (0, 11))) else (none)) else (some (0, 11))) else (none)))))) else (some (0, 11))) = some (r1, r2) := H
       have A10 := Aside0.mk A100
       clear A100
       by_cases c11 : t253 = 0
       ·rw [if_pos c11] at H
        have c11b0 : (t253 == 0) = true := beq_iff_eq.mpr c11
        have c11b1 : (t253 != 0) = false := bne_eq_false_iff_eq.mpr c11
        clear c11
        by_cases c12 : t254 < 0
        ·rw [if_pos c12] at H
         have c12b0 : decide (t254 < 0) = true := decide_eq_true c12
         clear c12
         simp only [Option.some.injEq, Prod.mk.injEq] at H
         obtain ⟨rfl, rfl⟩ := H
         go_enter Tryd.func33, Tryd.ntmps33
         go_wp2_with (first | (go_at_call 31; (with_reducible refine (letterbagref01_Read.calls k (a0.extract 0 10) t252 t253 _ A5.out).mono ?_); rintro e w13 ⟨rfl, hb⟩; have n0_ := Aside0.mk (below_step (by repeat (first | (with_reducible first | exact HB.out | apply below_alloc | apply pw_below_drewN | apply below_drew1) | exact HB.out)) hb); clear HB; have HB := n0_; clear n0_; (try clear hb); (try clear hb2); (try clear hk); (try clear hi)) | (go_at_call 61; (with_reducible refine (letterbagref01_number.calls k (a0.extract 11 13) t254 _ A8.out).mono ?_); rintro e w' ⟨rfl, ⟨nd, rfl⟩⟩; (try first | exact ⟨rfl, _, World.drewN_drewN _ _ _⟩ | exact ⟨rfl, _, Eq.trans (World.drewN_drewN _ _ _) (congrArg (World.drewN _) (Nat.add_assoc _ _ _))⟩)) | (go_at_call 61; (with_reducible refine (letterbagref01_number.calls k (a0.extract 14 a0.size) t255 _ A10.out).mono ?_); rintro e w' ⟨rfl, ⟨nd, rfl⟩⟩; (try first | exact ⟨rfl, _, World.drewN_drewN _ _ _⟩ | exact ⟨rfl, _, Eq.trans (World.drewN_drewN _ _ _) (congrArg (World.drewN _) (Nat.add_assoc _ _ _))⟩)))
         repeat (go_quiet (first | (go_at_call 31; (with_reducible refine (letterbagref01_Read.calls k (a0.extract 0 10) t252 t253 _ A5.out).mono ?_); rintro e w13 ⟨rfl, hb⟩; have n0_ := Aside0.mk (below_step (by repeat (first | (with_reducible first | exact HB.out | apply below_alloc | apply pw_below_drewN | apply below_drew1) | exact HB.out)) hb); clear HB; have HB := n0_; clear n0_; (try clear hb); (try clear hb2); (try clear hk); (try clear hi)) | (go_at_call 61; (with_reducible refine (letterbagref01_number.calls k (a0.extract 11 13) t254 _ A8.out).mono ?_); rintro e w' ⟨rfl, ⟨nd, rfl⟩⟩; (try first | exact ⟨rfl, _, World.drewN_drewN _ _ _⟩ | exact ⟨rfl, _, Eq.trans (World.drewN_drewN _ _ _) (congrArg (World.drewN _) (Nat.add_assoc _ _ _))⟩)) | (go_at_call 61; (with_reducible refine (letterbagref01_number.calls k (a0.extract 14 a0.size) t255 _ A10.out).mono ?_); rintro e w' ⟨rfl, ⟨nd, rfl⟩⟩; (try first | exact ⟨rfl, _, World.drewN_drewN _ _ _⟩ | exact ⟨rfl, _, Eq.trans (World.drewN_drewN _ _ _) (congrArg (World.drewN _) (Nat.add_assoc _ _ _))⟩))); try go_wp2_with (first | (go_at_call 31; (with_reducible refine (letterbagref01_Read.calls k (a0.extract 0 10) t252 t253 _ A5.out).mono ?_); rintro e w13 ⟨rfl, hb⟩; have n0_ := Aside0.mk (below_step (by repeat (first | (with_reducible first | exact HB.out | apply below_alloc | apply pw_below_drewN | apply below_drew1) | exact HB.out)) hb); clear HB; have HB := n0_; clear n0_; (try clear hb); (try clear hb2); (try clear hk); (try clear hi)) | (go_at_call 61; (with_reducible refine (letterbagref01_number.calls k (a0.extract 11 13) t254 _ A8.out).mono ?_); rintro e w' ⟨rfl, ⟨nd, rfl⟩⟩; (try first | exact ⟨rfl, _, World.drewN_drewN _ _ _⟩ | exact ⟨rfl, _, Eq.trans (World.drewN_drewN _ _ _) (congrArg (World.drewN _) (Nat.add_assoc _ _ _))⟩)) | (go_at_call 61; (with_reducible refine (letterbagref01_number.calls k (a0.extract 14 a0.size) t255 _ A10.out).mono ?_); rintro e w' ⟨rfl, ⟨nd, rfl⟩⟩; (try first | exact ⟨rfl, _, World.drewN_drewN _ _ _⟩ | exact ⟨rfl, _, Eq.trans (World.drewN_drewN _ _ _) (congrArg (World.drewN _) (Nat.add_assoc _ _ _))⟩))))
         go_ret2
         exact ⟨by first | rfl | (simp [errW_none, errW_some] <;> rfl) | (simp [*, errW_none, errW_some] <;> rfl), by repeat (first | (with_reducible first | exact HB.out | apply below_alloc | apply pw_below_drewN | apply below_drew1) | exact HB.out)⟩
        ·rw [if_neg c12] at H
         have c12b0 : decide (t254 < 0) = false := decide_eq_false c12
         clear c12
         by_cases c14 : t254 > 23
         ·rw [if_pos c14] at H
          have c14b0 : decide (23 < t254) = true := decide_eq_true c14
          clear c14
          simp only [Option.some.injEq, Prod.mk.injEq] at H
          obtain ⟨rfl, rfl⟩ := H
          go_enter Tryd.func33, Tryd.ntmps33
          go_wp2_with (first | (go_at_call 31; (with_reducible refine (letterbagref01_Read.calls k (a0.extract 0 10) t252 t253 _ A5.out).mono ?_); rintro e w15 ⟨rfl, hb⟩; have n0_ := Aside0.mk (below_step (by repeat (first | (with_reducible first | exact HB.out | apply below_alloc | apply pw_below_drewN | apply below_drew1) | exact HB.out)) hb); clear HB; have HB := n0_; clear n0_; (try clear hb); (try clear hb2); (try clear hk); (try clear hi)) | (go_at_call 61; (with_reducible refine (letterbagref01_number.calls k (a0.extract 11 13) t254 _ A8.out).mono ?_); rintro e w' ⟨rfl, ⟨nd, rfl⟩⟩; (try first | exact ⟨rfl, _, World.drewN_drewN _ _ _⟩ | exact ⟨rfl, _, Eq.trans (World.drewN_drewN _ _ _) (congrArg (World.drewN _) (Nat.add_assoc _ _ _))⟩)) | (go_at_call 61; (with_reducible refine (letterbagref01_number.calls k (a0.extract 14 a0.size) t255 _ A10.out).mono ?_); rintro e w' ⟨rfl, ⟨nd, rfl⟩⟩; (try first | exact ⟨rfl, _, World.drewN_drewN _ _ _⟩ | exact ⟨rfl, _, Eq.trans (World.drewN_drewN _ _ _) (congrArg (World.drewN _) (Nat.add_assoc _ _ _))⟩)))
          repeat (go_quiet (first | (go_at_call 31; (with_reducible refine (letterbagref01_Read.calls k (a0.extract 0 10) t252 t253 _ A5.out).mono ?_); rintro e w15 ⟨rfl, hb⟩; have n0_ := Aside0.mk (below_step (by repeat (first | (with_reducible first | exact HB.out | apply below_alloc | apply pw_below_drewN | apply below_drew1) | exact HB.out)) hb); clear HB; have HB := n0_; clear n0_; (try clear hb); (try clear hb2); (try clear hk); (try clear hi)) | (go_at_call 61; (with_reducible refine (letterbagref01_number.calls k (a0.extract 11 13) t254 _ A8.out).mono ?_); rintro e w' ⟨rfl, ⟨nd, rfl⟩⟩; (try first | exact ⟨rfl, _, World.drewN_drewN _ _ _⟩ | exact ⟨rfl, _, Eq.trans (World.drewN_drewN _ _ _) (congrArg (World.drewN _) (Nat.add_assoc _ _ _))⟩)) | (go_at_call 61; (with_reducible refine (letterbagref01_number.calls k (a0.extract 14 a0.size) t255 _ A10.out).mono ?_); rintro e w' ⟨rfl, ⟨nd, rfl⟩⟩; (try first | exact ⟨rfl, _, World.drewN_drewN _ _ _⟩ | exact ⟨rfl, _, Eq.trans (World.drewN_drewN _ _ _) (congrArg (World.drewN _) (Nat.add_assoc _ _ _))⟩))); try go_wp2_with (first | (go_at_call 31; (with_reducible refine (letterbagref01_Read.calls k (a0.extract 0 10) t252 t253 _ A5.out).mono ?_); rintro e w15 ⟨rfl, hb⟩; have n0_ := Aside0.mk (below_step (by repeat (first | (with_reducible first | exact HB.out | apply below_alloc | apply pw_below_drewN | apply below_drew1) | exact HB.out)) hb); clear HB; have HB := n0_; clear n0_; (try clear hb); (try clear hb2); (try clear hk); (try clear hi)) | (go_at_call 61; (with_reducible refine (letterbagref01_number.calls k (a0.extract 11 13) t254 _ A8.out).mono ?_); rintro e w' ⟨rfl, ⟨nd, rfl⟩⟩; (try first | exact ⟨rfl, _, World.drewN_drewN _ _ _⟩ | exact ⟨rfl, _, Eq.trans (World.drewN_drewN _ _ _) (congrArg (World.drewN _) (Nat.add_assoc _ _ _))⟩)) | (go_at_call 61; (with_reducible refine (letterbagref01_number.calls k (a0.extract 14 a0.size) t255 _ A10.out).mono ?_); rintro e w' ⟨rfl, ⟨nd, rfl⟩⟩; (try first | exact ⟨rfl, _, World.drewN_drewN _ _ _⟩ | exact ⟨rfl, _, Eq.trans (World.drewN_drewN _ _ _) (congrArg (World.drewN _) (Nat.add_assoc _ _ _))⟩))))
          go_ret2
          exact ⟨by first | rfl | (simp [errW_none, errW_some] <;> rfl) | (simp [*, errW_none, errW_some] <;> rfl), by repeat (first | (with_reducible first | exact HB.out | apply below_alloc | apply pw_below_drewN | apply below_drew1) | exact HB.out)⟩
         ·rw [if_neg c14] at H
          have c14b0 : decide (23 < t254) = false := decide_eq_false c14
          clear c14
          by_cases c16 : t255 < 0
          ·rw [if_pos c16] at H
           have c16b0 : decide (t255 < 0) = true := decide_eq_true c16
           clear c16
           simp only [Option.some.injEq, Prod.mk.injEq] at H
           obtain ⟨rfl, rfl⟩ := H
           go_enter Tryd.func33, Tryd.ntmps33
           go_wp2_with (first | (go_at_call 31; (with_reducible refine (letterbagref01_Read.calls k (a0.extract 0 10) t252 t253 _ A5.out).mono ?_); rintro e w17 ⟨rfl, hb⟩; have n0_ := Aside0.mk (below_step (by repeat (first | (with_reducible first | exact HB.out | apply below_alloc | apply pw_below_drewN | apply below_drew1) | exact HB.out)) hb); clear HB; have HB := n0_; clear n0_; (try clear hb); (try clear hb2); (try clear hk); (try clear hi)) | (go_at_call 61; (with_reducible refine (letterbagref01_number.calls k (a0.extract 11 13) t254 _ A8.out).mono ?_); rintro e w' ⟨rfl, ⟨nd, rfl⟩⟩; (try first | exact ⟨rfl, _, World.drewN_drewN _ _ _⟩ | exact ⟨rfl, _, Eq.trans (World.drewN_drewN _ _ _) (congrArg (World.drewN _) (Nat.add_assoc _ _ _))⟩)) | (go_at_call 61; (with_reducible refine (letterbagref01_number.calls k (a0.extract 14 a0.size) t255 _ A10.out).mono ?_); rintro e w' ⟨rfl, ⟨nd, rfl⟩⟩; (try first | exact ⟨rfl, _, World.drewN_drewN _ _ _⟩ | exact ⟨rfl, _, Eq.trans (World.drewN_drewN _ _ _) (congrArg (World.drewN _) (Nat.add_assoc _ _ _))⟩)))
           repeat (go_quiet (first | (go_at_call 31; (with_reducible refine (letterbagref01_Read.calls k (a0.extract 0 10) t252 t253 _ A5.out).mono ?_); rintro e w17 ⟨rfl, hb⟩; have n0_ := Aside0.mk (below_step (by repeat (first | (with_reducible first | exact HB.out | apply below_alloc | apply pw_below_drewN | apply below_drew1) | exact HB.out)) hb); clear HB; have HB := n0_; clear n0_; (try clear hb); (try clear hb2); (try clear hk); (try clear hi)) | (go_at_call 61; (with_reducible refine (letterbagref01_number.calls k (a0.extract 11 13) t254 _ A8.out).mono ?_); rintro e w' ⟨rfl, ⟨nd, rfl⟩⟩; (try first | exact ⟨rfl, _, World.drewN_drewN _ _ _⟩ | exact ⟨rfl, _, Eq.trans (World.drewN_drewN _ _ _) (congrArg (World.drewN _) (Nat.add_assoc _ _ _))⟩)) | (go_at_call 61; (with_reducible refine (letterbagref01_number.calls k (a0.extract 14 a0.size) t255 _ A10.out).mono ?_); rintro e w' ⟨rfl, ⟨nd, rfl⟩⟩; (try first | exact ⟨rfl, _, World.drewN_drewN _ _ _⟩ | exact ⟨rfl, _, Eq.trans (World.drewN_drewN _ _ _) (congrArg (World.drewN _) (Nat.add_assoc _ _ _))⟩))); try go_wp2_with (first | (go_at_call 31; (with_reducible refine (letterbagref01_Read.calls k (a0.extract 0 10) t252 t253 _ A5.out).mono ?_); rintro e w17 ⟨rfl, hb⟩; have n0_ := Aside0.mk (below_step (by repeat (first | (with_reducible first | exact HB.out | apply below_alloc | apply pw_below_drewN | apply below_drew1) | exact HB.out)) hb); clear HB; have HB := n0_; clear n0_; (try clear hb); (try clear hb2); (try clear hk); (try clear hi)) | (go_at_call 61; (with_reducible refine (letterbagref01_number.calls k (a0.extract 11 13) t254 _ A8.out).mono ?_); rintro e w' ⟨rfl, ⟨nd, rfl⟩⟩; (try first | exact ⟨rfl, _, World.drewN_drewN _ _ _⟩ | exact ⟨rfl, _, Eq.trans (World.drewN_drewN _ _ _) (congrArg (World.drewN _) (Nat.add_assoc _ _ _))⟩)) | (go_at_call 61; (with_reducible refine (letterbagref01_number.calls k (a0.extract 14 a0.size) t255 _ A10.out).mono ?_); rintro e w' ⟨rfl, ⟨nd, rfl⟩⟩; (try first | exact ⟨rfl, _, World.drewN_drewN _ _ _⟩ | exact ⟨rfl, _, Eq.trans (World.drewN_drewN _ _ _) (congrArg (World.drewN _) (Nat.add_assoc _ _ _))⟩))))
           go_ret2
           exact ⟨by first | rfl | (simp [errW_none, errW_some] <;> rfl) | (simp [*, errW_none, errW_some] <;> rfl), by repeat (first | (with_reducible first | exact HB.out | apply below_alloc | apply pw_below_drewN | apply below_drew1) | exact HB.out)⟩
          ·rw [if_neg c16] at H
           have c16b0 : decide (t255 < 0) = false := decide_eq_false c16
           clear c16
           by_cases c18 : t255 > 59
           ·rw [if_pos c18] at H
            have c18b0 : decide (59 < t255) = true := decide_eq_true c18
            clear c18
            simp only [Option.some.injEq, Prod.mk.injEq] at H
            obtain ⟨rfl, rfl⟩ := H
            go_enter Tryd.func33, Tryd.ntmps33
            go_wp2_with (first | (go_at_call 31; (with_reducible refine (letterbagref01_Read.calls k (a0.extract 0 10) t252 t253 _ A5.out).mono ?_); rintro e w19 ⟨rfl, hb⟩; have n0_ := Aside0.mk (below_step (by repeat (first | (with_reducible first | exact HB.out | apply below_alloc | apply pw_below_drewN | apply below_drew1) | exact HB.out)) hb); clear HB; have HB := n0_; clear n0_; (try clear hb); (try clear hb2); (try clear hk); (try clear hi)) | (go_at_call 61; (with_reducible refine (letterbagref01_number.calls k (a0.extract 11 13) t254 _ A8.out).mono ?_); rintro e w' ⟨rfl, ⟨nd, rfl⟩⟩; (try first | exact ⟨rfl, _, World.drewN_drewN _ _ _⟩ | exact ⟨rfl, _, Eq.trans (World.drewN_drewN _ _ _) (congrArg (World.drewN _) (Nat.add_assoc _ _ _))⟩)) | (go_at_call 61; (with_reducible refine (letterbagref01_number.calls k (a0.extract 14 a0.size) t255 _ A10.out).mono ?_); rintro e w' ⟨rfl, ⟨nd, rfl⟩⟩; (try first | exact ⟨rfl, _, World.drewN_drewN _ _ _⟩ | exact ⟨rfl, _, Eq.trans (World.drewN_drewN _ _ _) (congrArg (World.drewN _) (Nat.add_assoc _ _ _))⟩)))
            repeat (go_quiet (first | (go_at_call 31; (with_reducible refine (letterbagref01_Read.calls k (a0.extract 0 10) t252 t253 _ A5.out).mono ?_); rintro e w19 ⟨rfl, hb⟩; have n0_ := Aside0.mk (below_step (by repeat (first | (with_reducible first | exact HB.out | apply below_alloc | apply pw_below_drewN | apply below_drew1) | exact HB.out)) hb); clear HB; have HB := n0_; clear n0_; (try clear hb); (try clear hb2); (try clear hk); (try clear hi)) | (go_at_call 61; (with_reducible refine (letterbagref01_number.calls k (a0.extract 11 13) t254 _ A8.out).mono ?_); rintro e w' ⟨rfl, ⟨nd, rfl⟩⟩; (try first | exact ⟨rfl, _, World.drewN_drewN _ _ _⟩ | exact ⟨rfl, _, Eq.trans (World.drewN_drewN _ _ _) (congrArg (World.drewN _) (Nat.add_assoc _ _ _))⟩)) | (go_at_call 61; (with_reducible refine (letterbagref01_number.calls k (a0.extract 14 a0.size) t255 _ A10.out).mono ?_); rintro e w' ⟨rfl, ⟨nd, rfl⟩⟩; (try first | exact ⟨rfl, _, World.drewN_drewN _ _ _⟩ | exact ⟨rfl, _, Eq.trans (World.drewN_drewN _ _ _) (congrArg (World.drewN _) (Nat.add_assoc _ _ _))⟩))); try go_wp2_with (first | (go_at_call 31; (with_reducible refine (letterbagref01_Read.calls k (a0.extract 0 10) t252 t253 _ A5.out).mono ?_); rintro e w19 ⟨rfl, hb⟩; have n0_ := Aside0.mk (below_step (by repeat (first | (with_reducible first | exact HB.out | apply below_alloc | apply pw_below_drewN | apply below_drew1) | exact HB.out)) hb); clear HB; have HB := n0_; clear n0_; (try clear hb); (try clear hb2); (try clear hk); (try clear hi)) | (go_at_call 61; (with_reducible refine (letterbagref01_number.calls k (a0.extract 11 13) t254 _ A8.out).mono ?_); rintro e w' ⟨rfl, ⟨nd, rfl⟩⟩; (try first | exact ⟨rfl, _, World.drewN_drewN _ _ _⟩ | exact ⟨rfl, _, Eq.trans (World.drewN_drewN _ _ _) (congrArg (World.drewN _) (Nat.add_assoc _ _ _))⟩)) | (go_at_call 61; (with_reducible refine (letterbagref01_number.calls k (a0.extract 14 a0.size) t255 _ A10.out).mono ?_); rintro e w' ⟨rfl, ⟨nd, rfl⟩⟩; (try first | exact ⟨rfl, _, World.drewN_drewN _ _ _⟩ | exact ⟨rfl, _, Eq.trans (World.drewN_drewN _ _ _) (congrArg (World.drewN _) (Nat.add_assoc _ _ _))⟩))))
            go_ret2
            exact ⟨by first | rfl | (simp [errW_none, errW_some] <;> rfl) | (simp [*, errW_none, errW_some] <;> rfl), by repeat (first | (with_reducible first | exact HB.out | apply below_alloc | apply pw_below_drewN | apply below_drew1) | exact HB.out)⟩
           ·rw [if_neg c18] at H
            have c18b0 : decide (59 < t255) = false := decide_eq_false c18
            clear c18
            by_cases c20 : 10 < (a0.size : Int)
            ·rw [if_pos c20] at H
             have c20b0 : decide (10 < (a0.size : Int)) = true := decide_eq_true c20
             have c20b1 : decide (10 < a0.size) = true := decide_eq_true (by omega)
             clear c20
             by_cases c22 : (bt a0 10) = 32
             ·rw [if_pos c22] at H
              have c22b0 : ((bt a0 10) == 32) = true := beq_iff_eq.mpr c22
              have c22b1 : ((bt a0 10) != 32) = false := bne_eq_false_iff_eq.mpr c22
              clear c22
              by_cases c23 : 13 < (a0.size : Int)
              ·rw [if_pos c23] at H
               have c23b0 : decide (13 < (a0.size : Int)) = true := decide_eq_true c23
               have c23b1 : decide (13 < a0.size) = true := decide_eq_true (by omega)
               clear c23
               by_cases c25 : (bt a0 13) = 58
               ·rw [if_pos c25] at H
                have c25b0 : ((bt a0 13) == 58) = true := beq_iff_eq.mpr c25
                have c25b1 : ((bt a0 13) != 58) = false := bne_eq_false_iff_eq.mpr c25
                clear c25
                simp only [Option.some.injEq, Prod.mk.injEq] at H
                obtain ⟨rfl, rfl⟩ := H
                go_enter Tryd.func33, Tryd.ntmps33
                go_wp2_with (first | (go_at_call 31; (with_reducible refine (letterbagref01_Read.calls k (a0.extract 0 10) t252 t253 _ A5.out).mono ?_); rintro e w26 ⟨rfl, hb⟩; have n0_ := Aside0.mk (below_step (by repeat (first | (with_reducible first | exact HB.out | apply below_alloc | apply pw_below_drewN | apply below_drew1) | exact HB.out)) hb); clear HB; have HB := n0_; clear n0_; (try clear hb); (try clear hb2); (try clear hk); (try clear hi)) | (go_at_call 61; (with_reducible refine (letterbagref01_number.calls k (a0.extract 11 13) t254 _ A8.out).mono ?_); rintro e w' ⟨rfl, ⟨nd, rfl⟩⟩; (try first | exact ⟨rfl, _, World.drewN_drewN _ _ _⟩ | exact ⟨rfl, _, Eq.trans (World.drewN_drewN _ _ _) (congrArg (World.drewN _) (Nat.add_assoc _ _ _))⟩)) | (go_at_call 61; (with_reducible refine (letterbagref01_number.calls k (a0.extract 14 a0.size) t255 _ A10.out).mono ?_); rintro e w' ⟨rfl, ⟨nd, rfl⟩⟩; (try first | exact ⟨rfl, _, World.drewN_drewN _ _ _⟩ | exact ⟨rfl, _, Eq.trans (World.drewN_drewN _ _ _) (congrArg (World.drewN _) (Nat.add_assoc _ _ _))⟩); have p21 : 0 ≤ (10 : Int) := (by omega); have q21 : 10 < a0.size := (by have : (10 : Int) < (a0.size : Int) := of_decide_eq_true (by first | (with_reducible assumption) | assumption); omega); have hx21 : ∀ h : 10 < a0.size, ((a0[10]'h).toNat : Int) = bt a0 10 := bt_at a0 10; clear p21; have qi21 : (10 < (a0.size : Int)) = True := eq_true (of_decide_eq_true (by first | (with_reducible assumption) | assumption)); replace q21 := eq_true q21; have p24 : 0 ≤ (13 : Int) := (by omega); have q24 : 13 < a0.size := (by have : (13 : Int) < (a0.size : Int) := of_decide_eq_true (by first | (with_reducible assumption) | assumption); omega); have hx24 : ∀ h : 13 < a0.size, ((a0[13]'h).toNat : Int) = bt a0 13 := bt_at a0 13; clear p24; have qi24 : (13 < (a0.size : Int)) = True := eq_true (of_decide_eq_true (by first | (with_reducible assumption) | assumption)); replace q24 := eq_true q24))
                repeat (go_quiet (first | (go_at_call 31; (with_reducible refine (letterbagref01_Read.calls k (a0.extract 0 10) t252 t253 _ A5.out).mono ?_); rintro e w26 ⟨rfl, hb⟩; have n0_ := Aside0.mk (below_step (by repeat (first | (with_reducible first | exact HB.out | apply below_alloc | apply pw_below_drewN | apply below_drew1) | exact HB.out)) hb); clear HB; have HB := n0_; clear n0_; (try clear hb); (try clear hb2); (try clear hk); (try clear hi)) | (go_at_call 61; (with_reducible refine (letterbagref01_number.calls k (a0.extract 11 13) t254 _ A8.out).mono ?_); rintro e w' ⟨rfl, ⟨nd, rfl⟩⟩; (try first | exact ⟨rfl, _, World.drewN_drewN _ _ _⟩ | exact ⟨rfl, _, Eq.trans (World.drewN_drewN _ _ _) (congrArg (World.drewN _) (Nat.add_assoc _ _ _))⟩)) | (go_at_call 61; (with_reducible refine (letterbagref01_number.calls k (a0.extract 14 a0.size) t255 _ A10.out).mono ?_); rintro e w' ⟨rfl, ⟨nd, rfl⟩⟩; (try first | exact ⟨rfl, _, World.drewN_drewN _ _ _⟩ | exact ⟨rfl, _, Eq.trans (World.drewN_drewN _ _ _) (congrArg (World.drewN _) (Nat.add_assoc _ _ _))⟩); have p21 : 0 ≤ (10 : Int) := (by omega); have q21 : 10 < a0.size := (by have : (10 : Int) < (a0.size : Int) := of_decide_eq_true (by first | (with_reducible assumption) | assumption); omega); have hx21 : ∀ h : 10 < a0.size, ((a0[10]'h).toNat : Int) = bt a0 10 := bt_at a0 10; clear p21; have qi21 : (10 < (a0.size : Int)) = True := eq_true (of_decide_eq_true (by first | (with_reducible assumption) | assumption)); replace q21 := eq_true q21; have p24 : 0 ≤ (13 : Int) := (by omega); have q24 : 13 < a0.size := (by have : (13 : Int) < (a0.size : Int) := of_decide_eq_true (by first | (with_reducible assumption) | assumption); omega); have hx24 : ∀ h : 13 < a0.size, ((a0[13]'h).toNat : Int) = bt a0 13 := bt_at a0 13; clear p24; have qi24 : (13 < (a0.size : Int)) = True := eq_true (of_decide_eq_true (by first | (with_reducible assumption) | assumption)); replace q24 := eq_true q24)); try go_wp2_with (first | (go_at_call 31; (with_reducible refine (letterbagref01_Read.calls k (a0.extract 0 10) t252 t253 _ A5.out).mono ?_); rintro e w26 ⟨rfl, hb⟩; have n0_ := Aside0.mk (below_step (by repeat (first | (with_reducible first | exact HB.out | apply below_alloc | apply pw_below_drewN | apply below_drew1) | exact HB.out)) hb); clear HB; have HB := n0_; clear n0_; (try clear hb); (try clear hb2); (try clear hk); (try clear hi)) | (go_at_call 61; (with_reducible refine (letterbagref01_number.calls k (a0.extract 11 13) t254 _ A8.out).mono ?_); rintro e w' ⟨rfl, ⟨nd, rfl⟩⟩; (try first | exact ⟨rfl, _, World.drewN_drewN _ _ _⟩ | exact ⟨rfl, _, Eq.trans (World.drewN_drewN _ _ _) (congrArg (World.drewN _) (Nat.add_assoc _ _ _))⟩)) | (go_at_call 61; (with_reducible refine (letterbagref01_number.calls k (a0.extract 14 a0.size) t255 _ A10.out).mono ?_); rintro e w' ⟨rfl, ⟨nd, rfl⟩⟩; (try first | exact ⟨rfl, _, World.drewN_drewN _ _ _⟩ | exact ⟨rfl, _, Eq.trans (World.drewN_drewN _ _ _) (congrArg (World.drewN _) (Nat.add_assoc _ _ _))⟩); have p21 : 0 ≤ (10 : Int) := (by omega); have q21 : 10 < a0.size := (by have : (10 : Int) < (a0.size : Int) := of_decide_eq_true (by first | (with_reducible assumption) | assumption); omega); have hx21 : ∀ h : 10 < a0.size, ((a0[10]'h).toNat : Int) = bt a0 10 := bt_at a0 10; clear p21; have qi21 : (10 < (a0.size : Int)) = True := eq_true (of_decide_eq_true (by first | (with_reducible assumption) | assumption)); replace q21 := eq_true q21; have p24 : 0 ≤ (13 : Int) := (by omega); have q24 : 13 < a0.size := (by have : (13 : Int) < (a0.size : Int) := of_decide_eq_true (by first | (with_reducible assumption) | assumption); omega); have hx24 : ∀ h : 13 < a0.size, ((a0[13]'h).toNat : Int) = bt a0 13 := bt_at a0 13; clear p24; have qi24 : (13 < (a0.size : Int)) = True := eq_true (of_decide_eq_true (by first | (with_reducible assumption) | assumption)); replace q24 := eq_true q24)))
                go_ret2
                exact ⟨by first | rfl | (simp [errW_none, errW_some] <;> rfl) | (simp [*, errW_none, errW_some] <;> rfl), by repeat (first | (with_reducible first | exact HB.out | apply below_alloc | apply pw_below_drewN | apply below_drew1) | exact HB.out)⟩
               ·rw [if_neg c25] at H
                have c25b0 : ((bt a0 13) == 58) = false := beq_eq_false_iff_ne.mpr c25
                have c25b1 : ((bt a0 13) != 58) = true := bne_iff_ne.mpr c25
                simp only [Option.some.injEq, Prod.mk.injEq] at H
                obtain ⟨rfl, rfl⟩ := H
                go_enter Tryd.func33, Tryd.ntmps33
                go_wp2_with (first | (go_at_call 31; (with_reducible refine (letterbagref01_Read.calls k (a0.extract 0 10) t252 t253 _ A5.out).mono ?_); rintro e w27 ⟨rfl, hb⟩; have n0_ := Aside0.mk (below_step (by repeat (first | (with_reducible first | exact HB.out | apply below_alloc | apply pw_below_drewN | apply below_drew1) | exact HB.out)) hb); clear HB; have HB := n0_; clear n0_; (try clear hb); (try clear hb2); (try clear hk); (try clear hi)) | (go_at_call 61; (with_reducible refine (letterbagref01_number.calls k (a0.extract 11 13) t254 _ A8.out).mono ?_); rintro e w' ⟨rfl, ⟨nd, rfl⟩⟩; (try first | exact ⟨rfl, _, World.drewN_drewN _ _ _⟩ | exact ⟨rfl, _, Eq.trans (World.drewN_drewN _ _ _) (congrArg (World.drewN _) (Nat.add_assoc _ _ _))⟩)) | (go_at_call 61; (with_reducible refine (letterbagref01_number.calls k (a0.extract 14 a0.size) t255 _ A10.out).mono ?_); rintro e w' ⟨rfl, ⟨nd, rfl⟩⟩; (try first | exact ⟨rfl, _, World.drewN_drewN _ _ _⟩ | exact ⟨rfl, _, Eq.trans (World.drewN_drewN _ _ _) (congrArg (World.drewN _) (Nat.add_assoc _ _ _))⟩); have p21 : 0 ≤ (10 : Int) := (by omega); have q21 : 10 < a0.size := (by have : (10 : Int) < (a0.size : Int) := of_decide_eq_true (by first | (with_reducible assumption) | assumption); omega); have hx21 : ∀ h : 10 < a0.size, ((a0[10]'h).toNat : Int) = bt a0 10 := bt_at a0 10; clear p21; have qi21 : (10 < (a0.size : Int)) = True := eq_true (of_decide_eq_true (by first | (with_reducible assumption) | assumption)); replace q21 := eq_true q21; have p24 : 0 ≤ (13 : Int) := (by omega); have q24 : 13 < a0.size := (by have : (13 : Int) < (a0.size : Int) := of_decide_eq_true (by first | (with_reducible assumption) | assumption); omega); have hx24 : ∀ h : 13 < a0.size, ((a0[13]'h).toNat : Int) = bt a0 13 := bt_at a0 13; clear p24; have qi24 : (13 < (a0.size : Int)) = True := eq_true (of_decide_eq_true (by first | (with_reducible assumption) | assumption)); replace q24 := eq_true q24))
                repeat (go_quiet (first | (go_at_call 31; (with_reducible refine (letterbagref01_Read.calls k (a0.extract 0 10) t252 t253 _ A5.out).mono ?_); rintro e w27 ⟨rfl, hb⟩; have n0_ := Aside0.mk (below_step (by repeat (first | (with_reducible first | exact HB.out | apply below_alloc | apply pw_below_drewN | apply below_drew1) | exact HB.out)) hb); clear HB; have HB := n0_; clear n0_; (try clear hb); (try clear hb2); (try clear hk); (try clear hi)) | (go_at_call 61; (with_reducible refine (letterbagref01_number.calls k (a0.extract 11 13) t254 _ A8.out).mono ?_); rintro e w' ⟨rfl, ⟨nd, rfl⟩⟩; (try first | exact ⟨rfl, _, World.drewN_drewN _ _ _⟩ | exact ⟨rfl, _, Eq.trans (World.drewN_drewN _ _ _) (congrArg (World.drewN _) (Nat.add_assoc _ _ _))⟩)) | (go_at_call 61; (with_reducible refine (letterbagref01_number.calls k (a0.extract 14 a0.size) t255 _ A10.out).mono ?_); rintro e w' ⟨rfl, ⟨nd, rfl⟩⟩; (try first | exact ⟨rfl, _, World.drewN_drewN _ _ _⟩ | exact ⟨rfl, _, Eq.trans (World.drewN_drewN _ _ _) (congrArg (World.drewN _) (Nat.add_assoc _ _ _))⟩); have p21 : 0 ≤ (10 : Int) := (by omega); have q21 : 10 < a0.size := (by have : (10 : Int) < (a0.size : Int) := of_decide_eq_true (by first | (with_reducible assumption) | assumption); omega); have hx21 : ∀ h : 10 < a0.size, ((a0[10]'h).toNat : Int) = bt a0 10 := bt_at a0 10; clear p21; have qi21 : (10 < (a0.size : Int)) = True := eq_true (of_decide_eq_true (by first | (with_reducible assumption) | assumption)); replace q21 := eq_true q21; have p24 : 0 ≤ (13 : Int) := (by omega); have q24 : 13 < a0.size := (by have : (13 : Int) < (a0.size : Int) := of_decide_eq_true (by first | (with_reducible assumption) | assumption); omega); have hx24 : ∀ h : 13 < a0.size, ((a0[13]'h).toNat : Int) = bt a0 13 := bt_at a0 13; clear p24; have qi24 : (13 < (a0.size : Int)) = True := eq_true (of_decide_eq_true (by first | (with_reducible assumption) | assumption)); replace q24 := eq_true q24)); try go_wp2_with (first | (go_at_call 31; (with_reducible refine (letterbagref01_Read.calls k (a0.extract 0 10) t252 t253 _ A5.out).mono ?_); rintro e w27 ⟨rfl, hb⟩; have n0_ := Aside0.mk (below_step (by repeat (first | (with_reducible first | exact HB.out | apply below_alloc | apply pw_below_drewN | apply below_drew1) | exact HB.out)) hb); clear HB; have HB := n0_; clear n0_; (try clear hb); (try clear hb2); (try clear hk); (try clear hi)) | (go_at_call 61; (with_reducible refine (letterbagref01_number.calls k (a0.extract 11 13) t254 _ A8.out).mono ?_); rintro e w' ⟨rfl, ⟨nd, rfl⟩⟩; (try first | exact ⟨rfl, _, World.drewN_drewN _ _ _⟩ | exact ⟨rfl, _, Eq.trans (World.drewN_drewN _ _ _) (congrArg (World.drewN _) (Nat.add_assoc _ _ _))⟩)) | (go_at_call 61; (with_reducible refine (letterbagref01_number.calls k (a0.extract 14 a0.size) t255 _ A10.out).mono ?_); rintro e w' ⟨rfl, ⟨nd, rfl⟩⟩; (try first | exact ⟨rfl, _, World.drewN_drewN _ _ _⟩ | exact ⟨rfl, _, Eq.trans (World.drewN_drewN _ _ _) (congrArg (World.drewN _) (Nat.add_assoc _ _ _))⟩); have p21 : 0 ≤ (10 : Int) := (by omega); have q21 : 10 < a0.size := (by have : (10 : Int) < (a0.size : Int) := of_decide_eq_true (by first | (with_reducible assumption) | assumption); omega); have hx21 : ∀ h : 10 < a0.size, ((a0[10]'h).toNat : Int) = bt a0 10 := bt_at a0 10; clear p21; have qi21 : (10 < (a0.size : Int)) = True := eq_true (of_decide_eq_true (by first | (with_reducible assumption) | assumption)); replace q21 := eq_true q21; have p24 : 0 ≤ (13 : Int) := (by omega); have q24 : 13 < a0.size := (by have : (13 : Int) < (a0.size : Int) := of_decide_eq_true (by first | (with_reducible assumption) | assumption); omega); have hx24 : ∀ h : 13 < a0.size, ((a0[13]'h).toNat : Int) = bt a0 13 := bt_at a0 13; clear p24; have qi24 : (13 < (a0.size : Int)) = True := eq_true (of_decide_eq_true (by first | (with_reducible assumption) | assumption)); replace q24 := eq_true q24)))
                go_ret2
                exact ⟨by first | rfl | (simp [errW_none, errW_some] <;> rfl) | (simp [*, errW_none, errW_some] <;> rfl), by repeat (first | (with_reducible first | exact HB.out | apply below_alloc | apply pw_below_drewN | apply below_drew1) | exact HB.out)⟩
              ·rw [if_neg c23] at H
               exact absurd H (by simp)
             ·rw [if_neg c22] at H
              have c22b0 : ((bt a0 10) == 32) = false := beq_eq_false_iff_ne.mpr c22
              have c22b1 : ((bt a0 10) != 32) = true := bne_iff_ne.mpr c22
              simp only [Option.some.injEq, Prod.mk.injEq] at H
              obtain ⟨rfl, rfl⟩ := H
              go_enter Tryd.func33, Tryd.ntmps33
              go_wp2_with (first | (go_at_call 31; (with_reducible refine (letterbagref01_Read.calls k (a0.extract 0 10) t252 t253 _ A5.out).mono ?_); rintro e w28 ⟨rfl, hb⟩; have n0_ := Aside0.mk (below_step (by repeat (first | (with_reducible first | exact HB.out | apply below_alloc | apply pw_below_drewN | apply below_drew1) | exact HB.out)) hb); clear HB; have HB := n0_; clear n0_; (try clear hb); (try clear hb2); (try clear hk); (try clear hi)) | (go_at_call 61; (with_reducible refine (letterbagref01_number.calls k (a0.extract 11 13) t254 _ A8.out).mono ?_); rintro e w' ⟨rfl, ⟨nd, rfl⟩⟩; (try first | exact ⟨rfl, _, World.drewN_drewN _ _ _⟩ | exact ⟨rfl, _, Eq.trans (World.drewN_drewN _ _ _) (congrArg (World.drewN _) (Nat.add_assoc _ _ _))⟩)) | (go_at_call 61; (with_reducible refine (letterbagref01_number.calls k (a0.extract 14 a0.size) t255 _ A10.out).mono ?_); rintro e w' ⟨rfl, ⟨nd, rfl⟩⟩; (try first | exact ⟨rfl, _, World.drewN_drewN _ _ _⟩ | exact ⟨rfl, _, Eq.trans (World.drewN_drewN _ _ _) (congrArg (World.drewN _) (Nat.add_assoc _ _ _))⟩); have p21 : 0 ≤ (10 : Int) := (by omega); have q21 : 10 < a0.size := (by have : (10 : Int) < (a0.size : Int) := of_decide_eq_true (by first | (with_reducible assumption) | assumption); omega); have hx21 : ∀ h : 10 < a0.size, ((a0[10]'h).toNat : Int) = bt a0 10 := bt_at a0 10; clear p21; have qi21 : (10 < (a0.size : Int)) = True := eq_true (of_decide_eq_true (by first | (with_reducible assumption) | assumption)); replace q21 := eq_true q21))
              repeat (go_quiet (first | (go_at_call 31; (with_reducible refine (letterbagref01_Read.calls k (a0.extract 0 10) t252 t253 _ A5.out).mono ?_); rintro e w28 ⟨rfl, hb⟩; have n0_ := Aside0.mk (below_step (by repeat (first | (with_reducible first | exact HB.out | apply below_alloc | apply pw_below_drewN | apply below_drew1) | exact HB.out)) hb); clear HB; have HB := n0_; clear n0_; (try clear hb); (try clear hb2); (try clear hk); (try clear hi)) | (go_at_call 61; (with_reducible refine (letterbagref01_number.calls k (a0.extract 11 13) t254 _ A8.out).mono ?_); rintro e w' ⟨rfl, ⟨nd, rfl⟩⟩; (try first | exact ⟨rfl, _, World.drewN_drewN _ _ _⟩ | exact ⟨rfl, _, Eq.trans (World.drewN_drewN _ _ _) (congrArg (World.drewN _) (Nat.add_assoc _ _ _))⟩)) | (go_at_call 61; (with_reducible refine (letterbagref01_number.calls k (a0.extract 14 a0.size) t255 _ A10.out).mono ?_); rintro e w' ⟨rfl, ⟨nd, rfl⟩⟩; (try first | exact ⟨rfl, _, World.drewN_drewN _ _ _⟩ | exact ⟨rfl, _, Eq.trans (World.drewN_drewN _ _ _) (congrArg (World.drewN _) (Nat.add_assoc _ _ _))⟩); have p21 : 0 ≤ (10 : Int) := (by omega); have q21 : 10 < a0.size := (by have : (10 : Int) < (a0.size : Int) := of_decide_eq_true (by first | (with_reducible assumption) | assumption); omega); have hx21 : ∀ h : 10 < a0.size, ((a0[10]'h).toNat : Int) = bt a0 10 := bt_at a0 10; clear p21; have qi21 : (10 < (a0.size : Int)) = True := eq_true (of_decide_eq_true (by first | (with_reducible assumption) | assumption)); replace q21 := eq_true q21)); try go_wp2_with (first | (go_at_call 31; (with_reducible refine (letterbagref01_Read.calls k (a0.extract 0 10) t252 t253 _ A5.out).mono ?_); rintro e w28 ⟨rfl, hb⟩; have n0_ := Aside0.mk (below_step (by repeat (first | (with_reducible first | exact HB.out | apply below_alloc | apply pw_below_drewN | apply below_drew1) | exact HB.out)) hb); clear HB; have HB := n0_; clear n0_; (try clear hb); (try clear hb2); (try clear hk); (try clear hi)) | (go_at_call 61; (with_reducible refine (letterbagref01_number.calls k (a0.extract 11 13) t254 _ A8.out).mono ?_); rintro e w' ⟨rfl, ⟨nd, rfl⟩⟩; (try first | exact ⟨rfl, _, World.drewN_drewN _ _ _⟩ | exact ⟨rfl, _, Eq.trans (World.drewN_drewN _ _ _) (congrArg (World.drewN _) (Nat.add_assoc _ _ _))⟩)) | (go_at_call 61; (with_reducible refine (letterbagref01_number.calls k (a0.extract 14 a0.size) t255 _ A10.out).mono ?_); rintro e w' ⟨rfl, ⟨nd, rfl⟩⟩; (try first | exact ⟨rfl, _, World.drewN_drewN _ _ _⟩ | exact ⟨rfl, _, Eq.trans (World.drewN_drewN _ _ _) (congrArg (World.drewN _) (Nat.add_assoc _ _ _))⟩); have p21 : 0 ≤ (10 : Int) := (by omega); have q21 : 10 < a0.size := (by have : (10 : Int) < (a0.size : Int) := of_decide_eq_true (by first | (with_reducible assumption) | assumption); omega); have hx21 : ∀ h : 10 < a0.size, ((a0[10]'h).toNat : Int) = bt a0 10 := bt_at a0 10; clear p21; have qi21 : (10 < (a0.size : Int)) = True := eq_true (of_decide_eq_true (by first | (with_reducible assumption) | assumption)); replace q21 := eq_true q21)))
              go_ret2
              exact ⟨by first | rfl | (simp [errW_none, errW_some] <;> rfl) | (simp [*, errW_none, errW_some] <;> rfl), by repeat (first | (with_reducible first | exact HB.out | apply below_alloc | apply pw_below_drewN | apply below_drew1) | exact HB.out)⟩
            ·rw [if_neg c20] at H
             exact absurd H (by simp)
       ·rw [if_neg c11] at H
        have c11b0 : (t253 == 0) = false := beq_eq_false_iff_ne.mpr c11
        have c11b1 : (t253 != 0) = true := bne_iff_ne.mpr c11
        simp only [Option.some.injEq, Prod.mk.injEq] at H
        obtain ⟨rfl, rfl⟩ := H
        go_enter Tryd.func33, Tryd.ntmps33
        go_wp2_with (first | (go_at_call 31; (with_reducible refine (letterbagref01_Read.calls k (a0.extract 0 10) t252 t253 _ A5.out).mono ?_); rintro e w29 ⟨rfl, hb⟩; have n0_ := Aside0.mk (below_step (by repeat (first | (with_reducible first | exact HB.out | apply below_alloc | apply pw_below_drewN | apply below_drew1) | exact HB.out)) hb); clear HB; have HB := n0_; clear n0_; (try clear hb); (try clear hb2); (try clear hk); (try clear hi)) | (go_at_call 61; (with_reducible refine (letterbagref01_number.calls k (a0.extract 11 13) t254 _ A8.out).mono ?_); rintro e w' ⟨rfl, ⟨nd, rfl⟩⟩; (try first | exact ⟨rfl, _, World.drewN_drewN _ _ _⟩ | exact ⟨rfl, _, Eq.trans (World.drewN_drewN _ _ _) (congrArg (World.drewN _) (Nat.add_assoc _ _ _))⟩)) | (go_at_call 61; (with_reducible refine (letterbagref01_number.calls k (a0.extract 14 a0.size) t255 _ A10.out).mono ?_); rintro e w' ⟨rfl, ⟨nd, rfl⟩⟩; (try first | exact ⟨rfl, _, World.drewN_drewN _ _ _⟩ | exact ⟨rfl, _, Eq.trans (World.drewN_drewN _ _ _) (congrArg (World.drewN _) (Nat.add_assoc _ _ _))⟩)))
        repeat (go_quiet (first | (go_at_call 31; (with_reducible refine (letterbagref01_Read.calls k (a0.extract 0 10) t252 t253 _ A5.out).mono ?_); rintro e w29 ⟨rfl, hb⟩; have n0_ := Aside0.mk (below_step (by repeat (first | (with_reducible first | exact HB.out | apply below_alloc | apply pw_below_drewN | apply below_drew1) | exact HB.out)) hb); clear HB; have HB := n0_; clear n0_; (try clear hb); (try clear hb2); (try clear hk); (try clear hi)) | (go_at_call 61; (with_reducible refine (letterbagref01_number.calls k (a0.extract 11 13) t254 _ A8.out).mono ?_); rintro e w' ⟨rfl, ⟨nd, rfl⟩⟩; (try first | exact ⟨rfl, _, World.drewN_drewN _ _ _⟩ | exact ⟨rfl, _, Eq.trans (World.drewN_drewN _ _ _) (congrArg (World.drewN _) (Nat.add_assoc _ _ _))⟩)) | (go_at_call 61; (with_reducible refine (letterbagref01_number.calls k (a0.extract 14 a0.size) t255 _ A10.out).mono ?_); rintro e w' ⟨rfl, ⟨nd, rfl⟩⟩; (try first | exact ⟨rfl, _, World.drewN_drewN _ _ _⟩ | exact ⟨rfl, _, Eq.trans (World.drewN_drewN _ _ _) (congrArg (World.drewN _) (Nat.add_assoc _ _ _))⟩))); try go_wp2_with (first | (go_at_call 31; (with_reducible refine (letterbagref01_Read.calls k (a0.extract 0 10) t252 t253 _ A5.out).mono ?_); rintro e w29 ⟨rfl, hb⟩; have n0_ := Aside0.mk (below_step (by repeat (first | (with_reducible first | exact HB.out | apply below_alloc | apply pw_below_drewN | apply below_drew1) | exact HB.out)) hb); clear HB; have HB := n0_; clear n0_; (try clear hb); (try clear hb2); (try clear hk); (try clear hi)) | (go_at_call 61; (with_reducible refine (letterbagref01_number.calls k (a0.extract 11 13) t254 _ A8.out).mono ?_); rintro e w' ⟨rfl, ⟨nd, rfl⟩⟩; (try first | exact ⟨rfl, _, World.drewN_drewN _ _ _⟩ | exact ⟨rfl, _, Eq.trans (World.drewN_drewN _ _ _) (congrArg (World.drewN _) (Nat.add_assoc _ _ _))⟩)) | (go_at_call 61; (with_reducible refine (letterbagref01_number.calls k (a0.extract 14 a0.size) t255 _ A10.out).mono ?_); rintro e w' ⟨rfl, ⟨nd, rfl⟩⟩; (try first | exact ⟨rfl, _, World.drewN_drewN _ _ _⟩ | exact ⟨rfl, _, Eq.trans (World.drewN_drewN _ _ _) (congrArg (World.drewN _) (Nat.add_assoc _ _ _))⟩))))
        go_ret2
        exact ⟨by first | rfl | (simp [errW_none, errW_some] <;> rfl) | (simp [*, errW_none, errW_some] <;> rfl), by repeat (first | (with_reducible first | exact HB.out | apply below_alloc | apply pw_below_drewN | apply below_drew1) | exact HB.out)⟩
      ·rw [if_neg c9] at H
       exact absurd H (by simp)
     ·rw [if_neg c7] at H
      exact absurd H (by simp)
    ·rw [if_neg c6] at H
     exact absurd H (by simp)
   ·rw [if_neg c4] at H
    exact absurd H (by simp)
  ·rw [if_neg c3] at H
   exact absurd H (by simp)
 ·rw [if_neg c2] at H
  have c2b0 : ((a0.size : Int) == 16) = false := beq_eq_false_iff_ne.mpr c2
  have c2b1 : ((a0.size : Int) != 16) = true := bne_iff_ne.mpr c2
  simp only [Option.some.injEq, Prod.mk.injEq] at H
  obtain ⟨rfl, rfl⟩ := H
  go_enter Tryd.func33, Tryd.ntmps33
  go_wp2
  repeat (go_quiet (fail); try go_wp2)
  go_ret2
  exact ⟨by first | rfl | (simp [errW_none, errW_some] <;> rfl) | (simp [*, errW_none, errW_some] <;> rfl), by repeat (first | (with_reducible first | exact HB.out | apply below_alloc | apply pw_below_drewN | apply below_drew1) | exact HB.out)⟩
def letterbaglaw01_CivilReads.f (k : Nat) (a0 : ByteArray) : Option (Bool) := (civil_Read.f k a0).bind fun bt256 => ((letterbagref01_Read.f k a0).bind fun bt258 => ((civil_ReadTime.f k a0).bind fun bt260 => ((letterbagref01_ReadTime.f k a0).bind fun bt262 => (if bt256.1 = bt258.1 then (if bt256.2 = bt258.2 then (if bt260.1 = bt262.1 then (if bt260.2 = bt262.2 then ((letterbaglaw01_awake.f k).bind fun t264 => (some t264)) else (some false)) else (some false)) else (some false)) else (some false)))))
set_option maxHeartbeats 8000000 in
set_option maxRecDepth 100000 in
theorem letterbaglaw01_CivilReads.calls (k : Nat) (a0 : ByteArray) (w : World) (hg : Aside0 (Tab w)) (h : letterbaglaw01_CivilReads.f k a0 = some true) :
  Calls Tryd.prog 5 #[.string a0] w fun e w' => e = .returned (.bool true) ∧ Below w.heap.size w w' := by
 have HB := Aside0.mk (Below.refl w.heap.size w)
 have H : ((civil_Read.f k a0).bind fun bt256 => ((letterbagref01_Read.f k a0).bind fun bt258 => ((civil_ReadTime.f k a0).bind fun bt260 => ((letterbagref01_ReadTime.f k a0).bind fun bt262 => (if bt256.1 = bt258.1 then (if bt256.2 = bt258.2 then (if bt260.1 = bt262.1 then (if bt260.2 = bt262.2 then ((letterbaglaw01_awake.f k).bind fun t264 => (some t264)) else (some false)) else (some false)) else (some false)) else (some false)))))) = some true := h
 clear h
 replace H := Option.bind_eq_some_iff.mp H
 obtain ⟨⟨t256, t257⟩, A20, H⟩ := H
 replace H : ((letterbagref01_Read.f k a0).bind fun bt258 => ((civil_ReadTime.f k a0).bind fun bt260 => ((letterbagref01_ReadTime.f k a0).bind fun bt262 => (if t256 = bt258.1 then (if t257 = bt258.2 then (if bt260.1 = bt262.1 then (if bt260.2 = bt262.2 then ((letterbaglaw01_awake.f k).bind fun t264 => (some t264)) else (some false)) else (some false)) else (some false)) else (some false))))) = some true := H
 have A2 := Aside0.mk A20
 clear A20
 replace H := Option.bind_eq_some_iff.mp H
 obtain ⟨⟨t258, t259⟩, A30, H⟩ := H
 replace H : ((civil_ReadTime.f k a0).bind fun bt260 => ((letterbagref01_ReadTime.f k a0).bind fun bt262 => (if t256 = t258 then (if t257 = t259 then (if bt260.1 = bt262.1 then (if bt260.2 = bt262.2 then ((letterbaglaw01_awake.f k).bind fun t264 => (some t264)) else (some false)) else (some false)) else (some false)) else (some false)))) = some true := H
 have A3 := Aside0.mk A30
 clear A30
 replace H := Option.bind_eq_some_iff.mp H
 obtain ⟨⟨t260, t261⟩, A40, H⟩ := H
 replace H : ((letterbagref01_ReadTime.f k a0).bind fun bt262 => (if t256 = t258 then (if t257 = t259 then (if t260 = bt262.1 then (if t261 = bt262.2 then ((letterbaglaw01_awake.f k).bind fun t264 => (some t264)) else (some false)) else (some false)) else (some false)) else (some false))) = some true := H
 have A4 := Aside0.mk A40
 clear A40
 replace H := Option.bind_eq_some_iff.mp H
 obtain ⟨⟨t262, t263⟩, A50, H⟩ := H
 replace H : (if t256 = t258 then (if t257 = t259 then (if t260 = t262 then (if t261 = t263 then ((letterbaglaw01_awake.f k).bind fun t264 => (some t264)) else (some false)) else (some false)) else (some false)) else (some false)) = some true := H
 have A5 := Aside0.mk A50
 clear A50
 by_cases c6 : t256 = t258
 ·rw [if_pos c6] at H
  have c6b0 : (t256 == t258) = true := beq_iff_eq.mpr c6
  have c6b1 : (t256 != t258) = false := bne_eq_false_iff_eq.mpr c6
  clear c6
  by_cases c7 : t257 = t259
  ·rw [if_pos c7] at H
   have c7b0 : (t257 == t259) = true := beq_iff_eq.mpr c7
   have c7b1 : (t257 != t259) = false := bne_eq_false_iff_eq.mpr c7
   clear c7
   by_cases c8 : t260 = t262
   ·rw [if_pos c8] at H
    have c8b0 : (t260 == t262) = true := beq_iff_eq.mpr c8
    have c8b1 : (t260 != t262) = false := bne_eq_false_iff_eq.mpr c8
    clear c8
    by_cases c9 : t261 = t263
    ·rw [if_pos c9] at H
     have c9b0 : (t261 == t263) = true := beq_iff_eq.mpr c9
     have c9b1 : (t261 != t263) = false := bne_eq_false_iff_eq.mpr c9
     clear c9
     replace H := Option.bind_eq_some_iff.mp H
     obtain ⟨t264, A100, H⟩ := H
     replace H : (some t264) = some true := H
     have A10 := Aside0.mk A100
     clear A100
     have HT_ := Aside0.mk (Option.some.inj H)
     go_enter Tryd.func5, Tryd.ntmps5
     go_wp2_with (first | ((with_reducible refine gate_callee (f := 30) rfl ?_); refine goesL_ (some 13) rfl rfl Tryd.func30 (by kernel_rfl) rfl #[.string a0] rfl (by (try simp only [List.map_toArray, List.map_cons, List.map_nil]); first | done | rfl | (simp only [List.length_drop, List.length_take]; rfl)) ?_; (with_reducible refine (civil_Read.calls k a0 t256 t257 _ ?tabG A2.out).mono ?_); (case tabG => (first | exact hg | exact ⟨hg.out.below (by repeat (first | (with_reducible first | exact HB.out | apply below_alloc | apply pw_below_drewN | apply below_drew1) | exact HB.out))⟩)); rintro e w' ⟨rfl, ⟨nd, rfl⟩⟩; refine ⟨_, rfl, ?_⟩) | ((with_reducible refine gate_callee (f := 31) rfl ?_); refine goesL_ (some 18) rfl rfl Tryd.func31 (by kernel_rfl) rfl #[.string a0] rfl (by (try simp only [List.map_toArray, List.map_cons, List.map_nil]); first | done | rfl | (simp only [List.length_drop, List.length_take]; rfl)) ?_; (with_reducible refine (letterbagref01_Read.calls k a0 t258 t259 _ A3.out).mono ?_); rintro e w11 ⟨rfl, hb⟩; refine ⟨_, rfl, ?_⟩; have n0_ := Aside0.mk (below_step (by repeat (first | (with_reducible first | exact HB.out | apply below_alloc | apply pw_below_drewN | apply below_drew1) | exact HB.out)) hb); clear HB; have HB := n0_; clear n0_; (try clear hb); (try clear hb2); (try clear hk); (try clear hi)) | ((with_reducible refine gate_callee (f := 32) rfl ?_); refine goesL_ (some 23) rfl rfl Tryd.func32 (by kernel_rfl) rfl #[.string a0] rfl (by (try simp only [List.map_toArray, List.map_cons, List.map_nil]); first | done | rfl | (simp only [List.length_drop, List.length_take]; rfl)) ?_; (with_reducible refine (civil_ReadTime.calls k a0 t260 t261 _ ?tabG A4.out).mono ?_); (case tabG => (first | exact hg | exact ⟨hg.out.below (by repeat (first | (with_reducible first | exact HB.out | apply below_alloc | apply pw_below_drewN | apply below_drew1) | exact HB.out))⟩)); rintro e w' ⟨rfl, ⟨nd, rfl⟩⟩; refine ⟨_, rfl, ?_⟩) | ((with_reducible refine gate_callee (f := 33) rfl ?_); refine goesL_ (some 28) rfl rfl Tryd.func33 (by kernel_rfl) rfl #[.string a0] rfl (by (try simp only [List.map_toArray, List.map_cons, List.map_nil]); first | done | rfl | (simp only [List.length_drop, List.length_take]; rfl)) ?_; (with_reducible refine (letterbagref01_ReadTime.calls k a0 t262 t263 _ A5.out).mono ?_); rintro e w12 ⟨rfl, hb⟩; refine ⟨_, rfl, ?_⟩; have n0_ := Aside0.mk (below_step (by repeat (first | (with_reducible first | exact HB.out | apply below_alloc | apply pw_below_drewN | apply below_drew1) | exact HB.out)) hb); clear HB; have HB := n0_; clear n0_; (try clear hb); (try clear hb2); (try clear hk); (try clear hi)) | (go_at_call 17; (with_reducible refine (letterbaglaw01_awake.calls k  t264 _ ?tabG A10.out).mono ?_); (case tabG => (first | exact hg | exact ⟨hg.out.below (by repeat (first | (with_reducible first | exact HB.out | apply below_alloc | apply pw_below_drewN | apply below_drew1) | exact HB.out))⟩)); rintro e w13 ⟨rfl, hb⟩; have n0_ := Aside0.mk (below_step (by repeat (first | (with_reducible first | exact HB.out | apply below_alloc | apply pw_below_drewN | apply below_drew1) | exact HB.out)) hb); clear HB; have HB := n0_; clear n0_; (try clear hb); (try clear hb2); (try clear hk); (try clear hi)))
     go_ret
     exact ⟨by first | rfl | (rw [HT_.out]; done) | (rw [HT_.out]; rfl) | (have e_ := HT_.out; simp only [e_]; done) | (have e_ := HT_.out; simp only [e_]; rfl) | (have e_ := HT_.out; simp at e_ ⊢; exact e_) | (have e_ := HT_.out; simp_all; done) | (simp [errW_none, errW_some] <;> rfl) | (simp [*, errW_none, errW_some] <;> rfl), by repeat (first | (with_reducible first | exact HB.out | apply below_alloc | apply pw_below_drewN | apply below_drew1) | exact HB.out)⟩
    ·rw [if_neg c9] at H
     have c9b0 : (t261 == t263) = false := beq_eq_false_iff_ne.mpr c9
     have c9b1 : (t261 != t263) = true := bne_iff_ne.mpr c9
     exact absurd H (by simp)
   ·rw [if_neg c8] at H
    have c8b0 : (t260 == t262) = false := beq_eq_false_iff_ne.mpr c8
    have c8b1 : (t260 != t262) = true := bne_iff_ne.mpr c8
    exact absurd H (by simp)
  ·rw [if_neg c7] at H
   have c7b0 : (t257 == t259) = false := beq_eq_false_iff_ne.mpr c7
   have c7b1 : (t257 != t259) = true := bne_iff_ne.mpr c7
   exact absurd H (by simp)
 ·rw [if_neg c6] at H
  have c6b0 : (t256 == t258) = false := beq_eq_false_iff_ne.mpr c6
  have c6b1 : (t256 != t258) = true := bne_iff_ne.mpr c6
  exact absurd H (by simp)
end Go.Proofs.YtehnhedifhpalaaDoor.Cp
set_option linter.unusedVariables false
set_option linter.unusedSimpArgs false
namespace Go.Proofs.YtehnhedifhpalaaDoor.Cp
open Go.RowKit Go.Proofs.YtehnhedifhpalaaDoorW.PrintWords Go.Proofs.YtehnhedifhpalaaDoorW.PrintLast Go.Proofs.YtehnhedifhpalaaDoorW.PrintMore
def rnum (l : List Int) : Int := if allDig l = true then Cv.num l else -1
theorem rnumber_l0 (s : ByteArray) (hs : (nb s).length ≤ 4) (d : Nat) : ∀ i : Nat, i ≤ (nb s).length → (nb s).length - i = d → allDig ((nb s).take i) = true →
    Ev (fun k => letterbagref01_number.l0 k s (Cv.num ((nb s).take i)) (i : Int)) (rnum (nb s)) := by
  have es := nb_len s
  induction d with
  | zero =>
    intro i hi hd ha
    rw [List.take_of_length_le (by omega)] at ha ⊢
    refine Ev.step (fun k => letterbagref01_number.l0.eq_2 _ _ _ k) (ev_neg (by omega) (ev_eq ?_ (Ev.now _)))
    unfold rnum; rw [if_pos ha]
  | succ d ih =>
    intro i hi hd ha
    have c : i < (nb s).length := by omega
    have hb := num_bd (l := (nb s).take i) (by rw [List.length_take]; omega) ha
    have q0 : -10000000 ≤ (i : Int) + 1 ∧ (i : Int) + 1 ≤ 10000000 := by omega
    have e0 : (i : Int) + 1 = ((i + 1 : Nat) : Int) := by omega
    refine Ev.step (fun k => letterbagref01_number.l0.eq_2 _ _ _ k) (ev_pos (by omega) (ev_pos (by omega) ?_))
    rw [bt_nb s i c]
    by_cases c1 : (nb s)[i] < 48
    · refine ev_pos c1 (ev_eq ?_ (Ev.now _))
      unfold rnum; rw [allDig_no c (by unfold Cv.isDig; omega)]; rfl
    · refine ev_neg c1 ?_
      by_cases c2 : (nb s)[i] > 57
      · refine ev_pos c2 (ev_eq ?_ (Ev.now _))
        unfold rnum; rw [allDig_no c (by unfold Cv.isDig; omega)]; rfl
      · refine ev_neg c2 ?_
        have hdg : Cv.isDig (nb s)[i] := by unfold Cv.isDig; omega
        have ha1 : allDig ((nb s).take (i + 1)) = true := by rw [allDig_take c, ha, decide_eq_true hdg]; rfl
        have ih1 := ih (i + 1) (by omega) (by omega) ha1
        have e1 : ((nb s)[i] - 48) % 256 = (nb s)[i] - 48 := by omega
        have q1 : -10000000 ≤ 10 * Cv.num ((nb s).take i) ∧ 10 * Cv.num ((nb s).take i) ≤ 10000000 := by omega
        have q2 : -10000000 ≤ 10 * Cv.num ((nb s).take i) + ((nb s)[i] - 48) ∧ 10 * Cv.num ((nb s).take i) + ((nb s)[i] - 48) ≤ 10000000 := by omega
        rw [wb q0, e1, wb q1, wb q2, e0, Int.mul_comm, ← num_take c]
        exact ih1
theorem rnumber_f (s : ByteArray) (hs : (nb s).length ≤ 4) : Ev (fun k => letterbagref01_number.f k s) (rnum (nb s)) := by
  have := rnumber_l0 s hs _ 0 (by omega) rfl (by simp [allDig])
  exact this
theorem rnum_neg {l : List Int} (h : ¬ allDig l = true) : rnum l = -1 := by unfold rnum; rw [if_neg h]
theorem rnum_pos {l : List Int} (h : allDig l = true) : rnum l = Cv.num l := by unfold rnum; rw [if_pos h]
theorem text_same {l : List Int} (hl : l.length = 10) (a1 : allDig (l.take 4) = true) (a2 : allDig ((l.take 7).drop 5) = true) (a3 : allDig (l.drop 8) = true) :
    Cv.dtext (Cv.num (l.take 4)) (Cv.num ((l.take 7).drop 5)) (Cv.num (l.drop 8)) = l ↔ l.getD 4 0 = 45 ∧ l.getD 7 0 = 45 := by
  match l, hl with
  | [a, b, c, d, e, f, g, h, i, j], _ =>
    have k1 := (Cv.dig_num 4 [a, b, c, d] rfl (allDig_iff.1 a1)).1
    have k2 := (Cv.dig_num 2 [f, g] rfl (allDig_iff.1 a2)).1
    have k3 := (Cv.dig_num 2 [i, j] rfl (allDig_iff.1 a3)).1
    unfold Cv.dtext
    show Cv.dig 4 (Cv.num [a, b, c, d]) ++ 45 :: (Cv.dig 2 (Cv.num [f, g]) ++ 45 :: Cv.dig 2 (Cv.num [i, j])) = _ ↔ _
    rw [k1, k2, k3]
    simp
    constructor
    · rintro ⟨rfl, rfl⟩; exact ⟨rfl, rfl⟩
    · rintro ⟨rfl, rfl⟩; exact ⟨rfl, rfl⟩
theorem rread_f (s : ByteArray) : Ev (fun k => letterbagref01_Read.f k s) (readB (nb s)) := by
  have es := nb_len s
  unfold letterbagref01_Read.f
  by_cases c : (s.size : Int) = 10
  · refine ev_pos c (ev_pos (by decide) (ev_pos (by omega) ?_))
    have n1 := rnumber_f (s.extract 0 4) (by rw [nb_extract, List.length_drop, List.length_take]; omega)
    have n2 := rnumber_f (s.extract 5 7) (by rw [nb_extract, List.length_drop, List.length_take]; omega)
    have n3 := rnumber_f (s.extract 8 s.size) (by rw [nb_extract, List.length_drop, List.length_take]; omega)
    rw [nb_extract, List.drop_zero] at n1
    rw [nb_extract] at n2
    rw [nb_extract, List.take_of_length_le (by omega)] at n3
    refine Ev.bind n1 (ev_pos (by decide) (ev_pos (by omega) (Ev.bind n2 (ev_pos (by omega) (Ev.bind n3 ?_)))))
    by_cases hd : Cv.IsDate (rnum ((nb s).take 4)) (rnum (((nb s).take 7).drop 5)) (rnum ((nb s).drop 8))
    · have a1 : allDig ((nb s).take 4) = true := Classical.byContradiction fun h => by have := hd.y1; rw [rnum_neg h] at this; omega
      have a2 : allDig (((nb s).take 7).drop 5) = true := Classical.byContradiction fun h => by have := hd.m1; rw [rnum_neg h] at this; omega
      have a3 : allDig ((nb s).drop 8) = true := Classical.byContradiction fun h => by have := hd.d1; rw [rnum_neg h] at this; omega
      rw [rnum_pos a1, rnum_pos a2, rnum_pos a3] at hd ⊢
      refine Ev.bind (rday_f hd) (ev_pos rfl (Ev.bind (rtext_f hd) ?_))
      have hts := text_same (by omega) a1 a2 a3
      have hdg : ∀ b ∈ Cv.dtext (Cv.num ((nb s).take 4)) (Cv.num (((nb s).take 7).drop 5)) (Cv.num ((nb s).drop 8)), 0 ≤ b ∧ b ≤ 255 := by
        intro b hb
        unfold Cv.dtext at hb
        simp only [List.mem_append, List.mem_cons] at hb
        rcases hb with hb | rfl | hb | rfl | hb
        · have := Cv.dig_is _ _ _ hb; unfold Cv.isDig at this; omega
        · omega
        · have := Cv.dig_is _ _ _ hb; unfold Cv.isDig at this; omega
        · omega
        · have := Cv.dig_is _ _ _ hb; unfold Cv.isDig at this; omega
      have hiff := (toList_nb (s := strOfNums (Cv.dtext (Cv.num ((nb s).take 4)) (Cv.num (((nb s).take 7).drop 5)) (Cv.num ((nb s).drop 8)))) (t := s))
      rw [nb_str hdg, hts] at hiff
      by_cases cc : (nb s).getD 4 0 = 45 ∧ (nb s).getD 7 0 = 45
      · refine ev_pos (hiff.2 cc) (ev_eq ?_ (Ev.now _))
        rw [readB_pos ⟨by omega, cc.1, cc.2, a1, a2, a3, hd⟩]
      · refine ev_neg (fun h => cc (hiff.1 h)) (ev_eq ?_ (Ev.now _))
        rw [readB_neg (fun h => cc ⟨h.a, h.b⟩)]
    · refine Ev.bind (rday_no hd) (ev_neg (by decide) (ev_eq ?_ (Ev.now _)))
      rw [readB_neg]
      intro h
      apply hd
      rw [rnum_pos h.y, rnum_pos h.m, rnum_pos h.d]
      exact h.is
  · refine ev_neg c (ev_eq ?_ (Ev.now _))
    rw [readB_neg (fun h => c (by have := h.len; omega))]
theorem rreadtime_f (s : ByteArray) : Ev (fun k => letterbagref01_ReadTime.f k s) (readTB (nb s)) := by
  have es := nb_len s
  unfold letterbagref01_ReadTime.f
  by_cases c : (s.size : Int) = 16
  · refine ev_pos c (ev_pos (by decide) (ev_pos (by omega) ?_))
    have e4' : bt s 10 = (nb s).getD 10 0 := bt_getD s 10 (by omega)
    have e7' : bt s 13 = (nb s).getD 13 0 := bt_getD s 13 (by omega)
    rw [e4', e7']
    have n1 := rread_f (s.extract 0 10)
    have n2 := rnumber_f (s.extract 11 13) (by rw [nb_extract, List.length_drop, List.length_take]; omega)
    have n3 := rnumber_f (s.extract 14 s.size) (by rw [nb_extract, List.length_drop, List.length_take]; omega)
    rw [nb_extract, List.drop_zero] at n1
    rw [nb_extract] at n2
    rw [nb_extract, List.take_of_length_le (by omega)] at n3
    refine Ev.bind n1 (ev_pos (by decide) (ev_pos (by omega) (Ev.bind n2 (ev_pos (by omega) (Ev.bind n3 ?_)))))
    by_cases a1 : (readB ((nb s).take 10)).2 = 0
    · refine ev_pos a1 ?_
      by_cases a2 : allDig (((nb s).take 13).drop 11) = true
      · have hn1 := num_bd (l := ((nb s).take 13).drop 11) (by rw [List.length_drop, List.length_take]; omega) a2
        rw [rnum_pos a2]
        refine ev_neg (by omega) ?_
        by_cases h2 : Cv.num (((nb s).take 13).drop 11) > 23
        · refine ev_pos h2 (ev_eq ?_ (Ev.now _))
          rw [readTB_neg (fun h => by have := h.h2; omega)]
        · refine ev_neg h2 ?_
          by_cases a3 : allDig ((nb s).drop 14) = true
          · have hn2 := num_bd (l := (nb s).drop 14) (by rw [List.length_drop]; omega) a3
            have hr := readB_bd ((nb s).take 10)
            rw [rnum_pos a3]
            refine ev_neg (by omega) ?_
            by_cases m2 : Cv.num ((nb s).drop 14) > 59
            · refine ev_pos m2 (ev_eq ?_ (Ev.now _))
              rw [readTB_neg (fun h => by have := h.m2; omega)]
            · refine ev_neg m2 (ev_pos (by omega) ?_)
              by_cases c4 : (nb s).getD 10 0 = 32
              · refine ev_pos c4 (ev_pos (by omega) ?_)
                by_cases c7 : (nb s).getD 13 0 = 58
                · refine ev_pos c7 (ev_eq ?_ (Ev.now _))
                  rw [readTB_pos ⟨by omega, c4, c7, readB_ok.1 a1, a2, a3, by omega, by omega⟩]
                  generalize (readB ((nb s).take 10)).1 = x at *
                  generalize Cv.num (((nb s).take 13).drop 11) = u at *
                  generalize Cv.num ((nb s).drop 14) = v at *
                  have q1 : -9223372036854775808 ≤ 1440 * x ∧ 1440 * x ≤ 9223372036854775807 := by omega
                  have q2 : -9223372036854775808 ≤ 60 * u ∧ 60 * u ≤ 9223372036854775807 := by omega
                  have q3 : -9223372036854775808 ≤ 1440 * x + 60 * u ∧ 1440 * x + 60 * u ≤ 9223372036854775807 := by omega
                  have q4 : -9223372036854775808 ≤ 1440 * x + 60 * u + v ∧ 1440 * x + 60 * u + v ≤ 9223372036854775807 := by omega
                  rw [w64 q1.1 q1.2, w64 q2.1 q2.2, w64 q3.1 q3.2, w64 q4.1 q4.2]
                  congr 1
                  omega
                · refine ev_neg c7 (ev_eq ?_ (Ev.now _))
                  rw [readTB_neg (fun h => c7 h.b)]
              · refine ev_neg c4 (ev_eq ?_ (Ev.now _))
                rw [readTB_neg (fun h => c4 h.a)]
          · rw [rnum_neg a3]
            refine ev_pos (by decide) (ev_eq ?_ (Ev.now _))
            rw [readTB_neg (fun h => a3 h.m)]
      · rw [rnum_neg a2]
        refine ev_pos (by decide) (ev_eq ?_ (Ev.now _))
        rw [readTB_neg (fun h => a2 h.h)]
    · refine ev_neg a1 (ev_eq ?_ (Ev.now _))
      rw [readTB_neg (fun h => a1 (readB_ok.2 h.day))]
  · refine ev_neg c (ev_eq ?_ (Ev.now _))
    rw [readTB_neg (fun h => c (by have := h.len; omega))]
theorem reads_all (s : ByteArray) : Ev (fun k => letterbaglaw01_CivilReads.f k s) true := by
  unfold letterbaglaw01_CivilReads.f
  exact Ev.bind (cread_f s) (Ev.bind (rread_f s) (Ev.bind (creadtime_f s) (Ev.bind (rreadtime_f s) (ev_pos rfl (ev_pos rfl (ev_pos rfl (ev_pos rfl (Ev.bind awake_f (Ev.now _)))))))))
end Go.Proofs.YtehnhedifhpalaaDoor.Cp
