/- Functions of the given program as plain Lean functions, and proofs that the machine's calls do what these say; written by a program of this session (myprint.py, over the kit's print). -/
import Derived.Test.YtehnhedifhpalaaDoorCp0
import Derived.Test.YtehnhedifhpalaaDoorCp6
namespace Go.Proofs.YtehnhedifhpalaaDoor.Cp
open Go.RowKit Go.Proofs.YtehnhedifhpalaaDoorW.PrintWords Go.Proofs.YtehnhedifhpalaaDoorW.PrintLast Go.Proofs.YtehnhedifhpalaaDoorW.PrintMore
attribute [local go_sem] max2_int min2_int max_two min_two max_three min_three max_four min_four   -- for this text's walks alone
set_option linter.unusedVariables false
set_option linter.unusedSimpArgs false
/-! ### letterbagref01_Weekday: function 42 -/
def letterbagref01_Weekday.f (a0 : Int) : Option (Int × Int) := (letterbagref01_within.f a0 730484).bind fun t395 => (if t395 = 0 then (some (Int.tmod a0 7, 0)) else (some (0, t395)))
set_option maxHeartbeats 8000000 in
set_option maxRecDepth 100000 in
theorem letterbagref01_Weekday.calls (a0 : Int) (r1 : Int) (r2 : Int) (w : World) (h : letterbagref01_Weekday.f a0 = some (r1, r2)) :
    Calls Tryd.prog 42 #[.int .i64 a0] w fun e w' => e = .returned (.tuple #[.int .i64 r1, .int .i64 r2]) ∧ Drawn0 w w' := by
  have H : ((letterbagref01_within.f a0 730484).bind fun t395 => (if t395 = 0 then (some (Int.tmod a0 7, 0)) else (some (0, t395)))) = some (r1, r2) := h
  clear h
  replace H := Option.bind_eq_some_iff.mp H
  obtain ⟨t395, A20, H⟩ := H
  replace H : (if t395 = 0 then (some (Int.tmod a0 7, 0)) else (some (0, t395))) = some (r1, r2) := H
  have A2 := Aside0.mk A20
  clear A20
  by_cases c3 : t395 = 0
  · rw [if_pos c3] at H
    have c3b0 : (t395 == 0) = true := beq_iff_eq.mpr c3
    have c3b1 : (t395 != 0) = false := bne_eq_false_iff_eq.mpr c3
    clear c3
    simp only [Option.some.injEq, Prod.mk.injEq] at H
    obtain ⟨rfl, rfl⟩ := H
    go_enter Tryd.func42, Tryd.ntmps42
    go_wp2_with (first | ((with_reducible refine gate_callee (f := 64) rfl ?_); refine goesL_ (some 6) rfl rfl Tryd.func64 (by kernel_rfl) rfl #[.int .i64 a0, .int .i64 730484] rfl (by (try simp only [List.map_toArray, List.map_cons, List.map_nil]); first | done | rfl | (simp only [List.length_drop, List.length_take]; rfl)) ?_; (with_reducible refine (letterbagref01_within.calls a0 730484 t395 _ A2.out).mono ?_); rintro e w' ⟨rfl, ⟨nd, rfl⟩⟩; refine ⟨_, rfl, ?_⟩))
    go_ret2
    exact ⟨by first | rfl | (simp; done) | (simp [*]; done) | (simp; exact (show ∀ a_ b_ : Bool, (a_ == b_) = (!(a_ != b_)) from by decide) _ _), by repeat (first | exact Drawn0.refl _ | apply Drawn0.step)⟩
  · rw [if_neg c3] at H
    have c3b0 : (t395 == 0) = false := beq_eq_false_iff_ne.mpr c3
    have c3b1 : (t395 != 0) = true := bne_iff_ne.mpr c3
    simp only [Option.some.injEq, Prod.mk.injEq] at H
    obtain ⟨rfl, rfl⟩ := H
    go_enter Tryd.func42, Tryd.ntmps42
    go_wp2_with (first | ((with_reducible refine gate_callee (f := 64) rfl ?_); refine goesL_ (some 6) rfl rfl Tryd.func64 (by kernel_rfl) rfl #[.int .i64 a0, .int .i64 730484] rfl (by (try simp only [List.map_toArray, List.map_cons, List.map_nil]); first | done | rfl | (simp only [List.length_drop, List.length_take]; rfl)) ?_; (with_reducible refine (letterbagref01_within.calls a0 730484 t395 _ A2.out).mono ?_); rintro e w' ⟨rfl, ⟨nd, rfl⟩⟩; refine ⟨_, rfl, ?_⟩))
    go_ret2
    exact ⟨by first | rfl | (simp; done) | (simp [*]; done) | (simp; exact (show ∀ a_ b_ : Bool, (a_ == b_) = (!(a_ != b_)) from by decide) _ _), by repeat (first | exact Drawn0.refl _ | apply Drawn0.step)⟩

/-! ### letterbagref01_Time: function 44 -/
def letterbagref01_Time.j0 : Nat → Int → Int → Bool → Option (Int × Int)
  | 0, _, _, _ => none
  | k + 1, x0, x1, x15 => if x15 = true then (some (0, 2)) else (if x0 > 730484 then (some (0, 3)) else (some (wrap64 ((wrap64 (1440 * x0)) + x1), 0)))
def letterbagref01_Time.f (k : Nat) (a0 : Int) (a1 : Int) : Option (Int × Int) := if a0 < 0 then (letterbagref01_Time.j0 k a0 a1 true) else (if a1 < 0 then (letterbagref01_Time.j0 k a0 a1 true) else (letterbagref01_Time.j0 k a0 a1 (decide (a1 > 1439))))
theorem letterbagref01_Time.mono_l : ∀ k, (∀ y0 y1 y2, LeO (letterbagref01_Time.j0 k y0 y1 y2) (letterbagref01_Time.j0 (k + 1) y0 y1 y2))
  | 0 => fun _ _ _ r h => by simp [letterbagref01_Time.j0] at h
  | k + 1 => by
    have ih0 := letterbagref01_Time.mono_l k
    · intro y0 y1 y2
      unfold letterbagref01_Time.j0
      repeat' first
      | (with_reducible exact ih0 _ _ _)
      | (with_reducible exact LeO.refl _)
      | (with_reducible exact LeO.none _)
      | (with_reducible refine LeO.ite ?_ ?_)
      | (with_reducible refine LeO.bind ?_ (fun _ => ?_))
      | exact ih0 _ _ _
      | exact LeO.none _
      | refine LeO.ite ?_ ?_
      | refine LeO.bind ?_ (fun _ => ?_)
theorem letterbagref01_Time.mono : ∀ a0 a1 k, LeO (letterbagref01_Time.f k a0 a1) (letterbagref01_Time.f (k + 1) a0 a1) := by
  intro a0 a1 k
  have ih0 := letterbagref01_Time.mono_l k
  unfold letterbagref01_Time.f
  repeat' first
      | (with_reducible exact ih0 _ _ _)
      | (with_reducible exact LeO.refl _)
      | (with_reducible exact LeO.none _)
      | (with_reducible refine LeO.ite ?_ ?_)
      | (with_reducible refine LeO.bind ?_ (fun _ => ?_))
      | exact ih0 _ _ _
      | exact LeO.none _
      | refine LeO.ite ?_ ?_
      | refine LeO.bind ?_ (fun _ => ?_)
set_option maxHeartbeats 8000000 in
set_option maxRecDepth 100000 in
theorem letterbagref01_Time.calls (k : Nat) (a0 : Int) (a1 : Int) (r1 : Int) (r2 : Int) (w : World) (h : letterbagref01_Time.f k a0 a1 = some (r1, r2)) :
    Calls Tryd.prog 44 #[.int .i64 a0, .int .i64 a1] w fun e w' => e = .returned (.tuple #[.int .i64 r1, .int .i64 r2]) ∧ Drawn0 w w' := by
  have H : (if a0 < 0 then (letterbagref01_Time.j0 k a0 a1 true) else (if a1 < 0 then (letterbagref01_Time.j0 k a0 a1 true) else (letterbagref01_Time.j0 k a0 a1 (decide (a1 > 1439))))) = some (r1, r2) := h
  clear h
  have HC3 := Aside0.mk H
  clear H
  go_enter Tryd.func44, Tryd.ntmps44
  go_upto_region 1 with (fail)
  go_cut [15] (fun v15 wc => ∃ (kq : Nat) (x15_2 : Bool), v15 = .bool x15_2 ∧ Aside0 (letterbagref01_Time.j0 kq a0 a1 x15_2 = some (r1, r2)) ∧ Aside0 (kq ≤ k) ∧ Drawn0 w wc)
  case first =>
    have H := HC3.out
    clear HC3
    by_cases c4 : a0 < 0
    · rw [if_pos c4] at H
      have c4b0 : decide (a0 < 0) = true := decide_eq_true c4
      clear c4
      (first | rw [c4b0] | (simp only [i64_w, i32_w]; rw [c4b0]) | skip)
      have H' := Aside0.mk H
      clear H
      go_wp2
      go_meet
      case rel => exact ⟨_, (true), (by first | rfl | (simp; done) | (simp [*]; done) | (simp; exact (show ∀ a_ b_ : Bool, (a_ == b_) = (!(a_ != b_)) from by decide) _ _) | (rw [Bool.eq_iff_iff]; simp; done) | (simp; rw [Bool.eq_iff_iff]; simp; done)), H', ⟨by first | omega | exact Nat.le_refl _⟩, by repeat (first | exact Drawn0.refl _ | apply Drawn0.step)⟩
    · rw [if_neg c4] at H
      have c4b0 : decide (a0 < 0) = false := decide_eq_false c4
      clear c4
      (first | rw [c4b0] | (simp only [i64_w, i32_w]; rw [c4b0]) | skip)
      by_cases c5 : a1 < 0
      · rw [if_pos c5] at H
        have c5b0 : decide (a1 < 0) = true := decide_eq_true c5
        clear c5
        have H' := Aside0.mk H
        clear H
        go_wp2
        go_meet
        case rel => exact ⟨_, (true), (by first | rfl | (simp; done) | (simp [*]; done) | (simp; exact (show ∀ a_ b_ : Bool, (a_ == b_) = (!(a_ != b_)) from by decide) _ _) | (rw [Bool.eq_iff_iff]; simp; done) | (simp; rw [Bool.eq_iff_iff]; simp; done)), H', ⟨by first | omega | exact Nat.le_refl _⟩, by repeat (first | exact Drawn0.refl _ | apply Drawn0.step)⟩
      · rw [if_neg c5] at H
        have c5b0 : decide (a1 < 0) = false := decide_eq_false c5
        clear c5
        have H' := Aside0.mk H
        clear H
        go_wp2
        go_meet
        case rel => exact ⟨_, (decide (a1 > 1439)), (by first | rfl | (simp; done) | (simp [*]; done) | (simp; exact (show ∀ a_ b_ : Bool, (a_ == b_) = (!(a_ != b_)) from by decide) _ _) | (rw [Bool.eq_iff_iff]; simp; done) | (simp; rw [Bool.eq_iff_iff]; simp; done)), H', ⟨by first | omega | exact Nat.le_refl _⟩, by repeat (first | exact Drawn0.refl _ | apply Drawn0.step)⟩
  case rest =>
    clear HC3
    try clear p2
    try clear c4
    try clear c4b0
    try clear c5
    try clear c5b0
    obtain ⟨kq, x15_2, rfl, HA, HJ2, ⟨mc2, rfl⟩⟩ := hcut
    cases kq with
    | zero => exact absurd HA.out (by simp [letterbagref01_Time.j0])
    | succ kj2 =>
      have H := HA.out
      clear HA
      simp only [letterbagref01_Time.j0] at H
      by_cases c6 : x15_2 = true
      · subst c6
        have H1 : (some (0, 2)) = some (r1, r2) := by rw [if_pos rfl] at H; exact H
        clear H
        have H := H1
        clear H1
        simp only [Option.some.injEq, Prod.mk.injEq] at H
        obtain ⟨rfl, rfl⟩ := H
        go_wp2
        go_ret2
        exact ⟨by first | rfl | (simp; done) | (simp [*]; done) | (simp; exact (show ∀ a_ b_ : Bool, (a_ == b_) = (!(a_ != b_)) from by decide) _ _), by repeat (first | exact Drawn0.refl _ | apply Drawn0.step)⟩
      · replace c6 := Bool.eq_false_iff.mpr c6
        subst c6
        have H1 : (if a0 > 730484 then (some (0, 3)) else (some (wrap64 ((wrap64 (1440 * a0)) + a1), 0))) = some (r1, r2) := by rw [if_neg (show ¬ (false = true) by decide)] at H; exact H
        clear H
        have H := H1
        clear H1
        by_cases c7 : a0 > 730484
        · rw [if_pos c7] at H
          have c7b0 : decide (730484 < a0) = true := decide_eq_true c7
          clear c7
          simp only [Option.some.injEq, Prod.mk.injEq] at H
          obtain ⟨rfl, rfl⟩ := H
          go_wp2
          go_ret2
          exact ⟨by first | rfl | (simp; done) | (simp [*]; done) | (simp; exact (show ∀ a_ b_ : Bool, (a_ == b_) = (!(a_ != b_)) from by decide) _ _), by repeat (first | exact Drawn0.refl _ | apply Drawn0.step)⟩
        · rw [if_neg c7] at H
          have c7b0 : decide (730484 < a0) = false := decide_eq_false c7
          clear c7
          simp only [Option.some.injEq, Prod.mk.injEq] at H
          obtain ⟨rfl, rfl⟩ := H
          go_wp2
          go_ret2
          exact ⟨by first | rfl | (simp; done) | (simp [*]; done) | (simp; exact (show ∀ a_ b_ : Bool, (a_ == b_) = (!(a_ != b_)) from by decide) _ _), by repeat (first | exact Drawn0.refl _ | apply Drawn0.step)⟩

/-! ### letterbagref01_Split: function 66 -/
def letterbagref01_Split.f (a0 : Int) : Option (Int × Int × Int) := (letterbagref01_within.f a0 1051898399).bind fun t396 => (if t396 = 0 then (some (wrap64 (Int.tdiv a0 1440), Int.tmod a0 1440, 0)) else (some (0, 0, t396)))
set_option maxHeartbeats 8000000 in
set_option maxRecDepth 100000 in
theorem letterbagref01_Split.calls (a0 : Int) (r1 : Int) (r2 : Int) (r3 : Int) (w : World) (h : letterbagref01_Split.f a0 = some (r1, r2, r3)) :
    Calls Tryd.prog 66 #[.int .i64 a0] w fun e w' => e = .returned (.tuple #[.int .i64 r1, .int .i64 r2, .int .i64 r3]) ∧ Drawn0 w w' := by
  have H : ((letterbagref01_within.f a0 1051898399).bind fun t396 => (if t396 = 0 then (some (wrap64 (Int.tdiv a0 1440), Int.tmod a0 1440, 0)) else (some (0, 0, t396)))) = some (r1, r2, r3) := h
  clear h
  replace H := Option.bind_eq_some_iff.mp H
  obtain ⟨t396, A20, H⟩ := H
  replace H : (if t396 = 0 then (some (wrap64 (Int.tdiv a0 1440), Int.tmod a0 1440, 0)) else (some (0, 0, t396))) = some (r1, r2, r3) := H
  have A2 := Aside0.mk A20
  clear A20
  by_cases c3 : t396 = 0
  · rw [if_pos c3] at H
    have c3b0 : (t396 == 0) = true := beq_iff_eq.mpr c3
    have c3b1 : (t396 != 0) = false := bne_eq_false_iff_eq.mpr c3
    clear c3
    simp only [Option.some.injEq, Prod.mk.injEq] at H
    obtain ⟨rfl, rfl, rfl⟩ := H
    go_enter Tryd.func66, Tryd.ntmps66
    go_wp2_with (first | ((with_reducible refine gate_callee (f := 64) rfl ?_); refine goesL_ (some 7) rfl rfl Tryd.func64 (by kernel_rfl) rfl #[.int .i64 a0, .int .i64 1051898399] rfl (by (try simp only [List.map_toArray, List.map_cons, List.map_nil]); first | done | rfl | (simp only [List.length_drop, List.length_take]; rfl)) ?_; (with_reducible refine (letterbagref01_within.calls a0 1051898399 t396 _ A2.out).mono ?_); rintro e w' ⟨rfl, ⟨nd, rfl⟩⟩; refine ⟨_, rfl, ?_⟩))
    go_ret3
    exact ⟨by first | rfl | (simp; done) | (simp [*]; done) | (simp; exact (show ∀ a_ b_ : Bool, (a_ == b_) = (!(a_ != b_)) from by decide) _ _), by repeat (first | exact Drawn0.refl _ | apply Drawn0.step)⟩
  · rw [if_neg c3] at H
    have c3b0 : (t396 == 0) = false := beq_eq_false_iff_ne.mpr c3
    have c3b1 : (t396 != 0) = true := bne_iff_ne.mpr c3
    simp only [Option.some.injEq, Prod.mk.injEq] at H
    obtain ⟨rfl, rfl, rfl⟩ := H
    go_enter Tryd.func66, Tryd.ntmps66
    go_wp2_with (first | ((with_reducible refine gate_callee (f := 64) rfl ?_); refine goesL_ (some 7) rfl rfl Tryd.func64 (by kernel_rfl) rfl #[.int .i64 a0, .int .i64 1051898399] rfl (by (try simp only [List.map_toArray, List.map_cons, List.map_nil]); first | done | rfl | (simp only [List.length_drop, List.length_take]; rfl)) ?_; (with_reducible refine (letterbagref01_within.calls a0 1051898399 t396 _ A2.out).mono ?_); rintro e w' ⟨rfl, ⟨nd, rfl⟩⟩; refine ⟨_, rfl, ?_⟩))
    go_ret3
    exact ⟨by first | rfl | (simp; done) | (simp [*]; done) | (simp; exact (show ∀ a_ b_ : Bool, (a_ == b_) = (!(a_ != b_)) from by decide) _ _), by repeat (first | exact Drawn0.refl _ | apply Drawn0.step)⟩

/-! ### letterbagref01_TimeText: function 67 -/
def letterbagref01_TimeText.f (k : Nat) (a0 : Int) : Option (ByteArray × Int) := (letterbagref01_Split.f a0).bind fun bt397 => (if bt397.2.2 = 0 then ((letterbagref01_Text.f k bt397.1).bind fun bt400 => (if bt400.1.size + 1 ≤ 9223372036854775807 then ((letterbagref01_digits.f k (wrap64 (Int.tdiv bt397.2.1 60)) 2).bind fun t402 => (if (bt400.1 ++ (⟨#[32]⟩ : ByteArray)).size + t402.size ≤ 9223372036854775807 then (if ((bt400.1 ++ (⟨#[32]⟩ : ByteArray)) ++ t402).size + 1 ≤ 9223372036854775807 then ((letterbagref01_digits.f k (Int.tmod bt397.2.1 60) 2).bind fun t403 => (if (((bt400.1 ++ (⟨#[32]⟩ : ByteArray)) ++ t402) ++ (⟨#[58]⟩ : ByteArray)).size + t403.size ≤ 9223372036854775807 then (some ((((bt400.1 ++ (⟨#[32]⟩ : ByteArray)) ++ t402) ++ (⟨#[58]⟩ : ByteArray)) ++ t403, 0)) else (none))) else (none)) else (none))) else (none))) else (some ((⟨#[]⟩ : ByteArray), bt397.2.2)))
theorem letterbagref01_TimeText.mono : ∀ a0 k, LeO (letterbagref01_TimeText.f k a0) (letterbagref01_TimeText.f (k + 1) a0) := by
  intro a0 k
  unfold letterbagref01_TimeText.f
  repeat' first
      | (with_reducible exact letterbagref01_Text.mono _ _)
      | (with_reducible exact letterbagref01_digits.mono _ _ _)
      | (with_reducible exact LeO.refl _)
      | (with_reducible exact LeO.none _)
      | (with_reducible refine LeO.ite ?_ ?_)
      | (with_reducible refine LeO.bind ?_ (fun _ => ?_))
      | exact letterbagref01_Text.mono _ _
      | exact letterbagref01_digits.mono _ _ _
      | exact LeO.none _
      | refine LeO.ite ?_ ?_
      | refine LeO.bind ?_ (fun _ => ?_)
set_option maxHeartbeats 8000000 in
set_option maxRecDepth 100000 in
theorem letterbagref01_TimeText.calls (k : Nat) (a0 : Int) (r1 : ByteArray) (r2 : Int) (w : World) (h : letterbagref01_TimeText.f k a0 = some (r1, r2)) :
    Calls Tryd.prog 67 #[.int .i64 a0] w fun e w' => e = .returned (.tuple #[.string r1, .int .i64 r2]) ∧ Below w.heap.size w w' := by
  have HB := Aside0.mk (Below.refl w.heap.size w)
  have H : ((letterbagref01_Split.f a0).bind fun bt397 => (if bt397.2.2 = 0 then ((letterbagref01_Text.f k bt397.1).bind fun bt400 => (if bt400.1.size + 1 ≤ 9223372036854775807 then ((letterbagref01_digits.f k (wrap64 (Int.tdiv bt397.2.1 60)) 2).bind fun t402 => (if (bt400.1 ++ (⟨#[32]⟩ : ByteArray)).size + t402.size ≤ 9223372036854775807 then (if ((bt400.1 ++ (⟨#[32]⟩ : ByteArray)) ++ t402).size + 1 ≤ 9223372036854775807 then ((letterbagref01_digits.f k (Int.tmod bt397.2.1 60) 2).bind fun t403 => (if (((bt400.1 ++ (⟨#[32]⟩ : ByteArray)) ++ t402) ++ (⟨#[58]⟩ : ByteArray)).size + t403.size ≤ 9223372036854775807 then (some ((((bt400.1 ++ (⟨#[32]⟩ : ByteArray)) ++ t402) ++ (⟨#[58]⟩ : ByteArray)) ++ t403, 0)) else (none))) else (none)) else (none))) else (none))) else (some ((⟨#[]⟩ : ByteArray), bt397.2.2)))) = some (r1, r2) := h
  clear h
  replace H := Option.bind_eq_some_iff.mp H
  obtain ⟨⟨t397, t398, t399⟩, A20, H⟩ := H
  replace H : (if t399 = 0 then ((letterbagref01_Text.f k t397).bind fun bt400 => (if bt400.1.size + 1 ≤ 9223372036854775807 then ((letterbagref01_digits.f k (wrap64 (Int.tdiv t398 60)) 2).bind fun t402 => (if (bt400.1 ++ (⟨#[32]⟩ : ByteArray)).size + t402.size ≤ 9223372036854775807 then (if ((bt400.1 ++ (⟨#[32]⟩ : ByteArray)) ++ t402).size + 1 ≤ 9223372036854775807 then ((letterbagref01_digits.f k (Int.tmod t398 60) 2).bind fun t403 => (if (((bt400.1 ++ (⟨#[32]⟩ : ByteArray)) ++ t402) ++ (⟨#[58]⟩ : ByteArray)).size + t403.size ≤ 9223372036854775807 then (some ((((bt400.1 ++ (⟨#[32]⟩ : ByteArray)) ++ t402) ++ (⟨#[58]⟩ : ByteArray)) ++ t403, 0)) else (none))) else (none)) else (none))) else (none))) else (some ((⟨#[]⟩ : ByteArray), t399))) = some (r1, r2) := H
  have A2 := Aside0.mk A20
  clear A20
  by_cases c3 : t399 = 0
  · rw [if_pos c3] at H
    have c3b0 : (t399 == 0) = true := beq_iff_eq.mpr c3
    have c3b1 : (t399 != 0) = false := bne_eq_false_iff_eq.mpr c3
    clear c3
    replace H := Option.bind_eq_some_iff.mp H
    obtain ⟨⟨t400, t401⟩, A40, H⟩ := H
    replace H : (if t400.size + 1 ≤ 9223372036854775807 then ((letterbagref01_digits.f k (wrap64 (Int.tdiv t398 60)) 2).bind fun t402 => (if (t400 ++ (⟨#[32]⟩ : ByteArray)).size + t402.size ≤ 9223372036854775807 then (if ((t400 ++ (⟨#[32]⟩ : ByteArray)) ++ t402).size + 1 ≤ 9223372036854775807 then ((letterbagref01_digits.f k (Int.tmod t398 60) 2).bind fun t403 => (if (((t400 ++ (⟨#[32]⟩ : ByteArray)) ++ t402) ++ (⟨#[58]⟩ : ByteArray)).size + t403.size ≤ 9223372036854775807 then (some ((((t400 ++ (⟨#[32]⟩ : ByteArray)) ++ t402) ++ (⟨#[58]⟩ : ByteArray)) ++ t403, 0)) else (none))) else (none)) else (none))) else (none)) = some (r1, r2) := H
    have A4 := Aside0.mk A40
    clear A40
    by_cases c5 : t400.size + 1 ≤ 9223372036854775807
    · rw [if_pos c5] at H
      have c5b0 := eq_true c5
      have c5b1 : decide (t400.size + 1 ≤ 9223372036854775807) = true := decide_eq_true c5
      try have c5b2 : (9223372036854775807 < t400.size + 1) = False := eq_false (Nat.not_lt.2 c5)
      replace H := Option.bind_eq_some_iff.mp H
      obtain ⟨t402, A60, H⟩ := H
      replace H : (if (t400 ++ (⟨#[32]⟩ : ByteArray)).size + t402.size ≤ 9223372036854775807 then (if ((t400 ++ (⟨#[32]⟩ : ByteArray)) ++ t402).size + 1 ≤ 9223372036854775807 then ((letterbagref01_digits.f k (Int.tmod t398 60) 2).bind fun t403 => (if (((t400 ++ (⟨#[32]⟩ : ByteArray)) ++ t402) ++ (⟨#[58]⟩ : ByteArray)).size + t403.size ≤ 9223372036854775807 then (some ((((t400 ++ (⟨#[32]⟩ : ByteArray)) ++ t402) ++ (⟨#[58]⟩ : ByteArray)) ++ t403, 0)) else (none))) else (none)) else (none)) = some (r1, r2) := H
      have A6 := Aside0.mk A60
      clear A60
      by_cases c7 : (t400 ++ (⟨#[32]⟩ : ByteArray)).size + t402.size ≤ 9223372036854775807
      · rw [if_pos c7] at H
        have c7b0 := eq_true c7
        have c7b1 : decide ((t400 ++ (⟨#[32]⟩ : ByteArray)).size + t402.size ≤ 9223372036854775807) = true := decide_eq_true c7
        try have c7b2 : (9223372036854775807 < (t400 ++ (⟨#[32]⟩ : ByteArray)).size + t402.size) = False := eq_false (Nat.not_lt.2 c7)
        try have c7b3 : (9223372036854775807 < t400.size + 1 + t402.size) = False := eq_false (by have h_ := c7; simp only [ByteArray.size_append, (show (⟨#[32]⟩ : ByteArray).size = 1 from rfl)] at h_; omega)
        by_cases c8 : ((t400 ++ (⟨#[32]⟩ : ByteArray)) ++ t402).size + 1 ≤ 9223372036854775807
        · rw [if_pos c8] at H
          have c8b0 := eq_true c8
          have c8b1 : decide (((t400 ++ (⟨#[32]⟩ : ByteArray)) ++ t402).size + 1 ≤ 9223372036854775807) = true := decide_eq_true c8
          try have c8b2 : (9223372036854775807 < ((t400 ++ (⟨#[32]⟩ : ByteArray)) ++ t402).size + 1) = False := eq_false (Nat.not_lt.2 c8)
          try have c8b3 : (9223372036854775807 < t400.size + 1 + t402.size + 1) = False := eq_false (by have h_ := c8; simp only [ByteArray.size_append, (show (⟨#[32]⟩ : ByteArray).size = 1 from rfl)] at h_; omega)
          replace H := Option.bind_eq_some_iff.mp H
          obtain ⟨t403, A90, H⟩ := H
          replace H : (if (((t400 ++ (⟨#[32]⟩ : ByteArray)) ++ t402) ++ (⟨#[58]⟩ : ByteArray)).size + t403.size ≤ 9223372036854775807 then (some ((((t400 ++ (⟨#[32]⟩ : ByteArray)) ++ t402) ++ (⟨#[58]⟩ : ByteArray)) ++ t403, 0)) else (none)) = some (r1, r2) := H
          have A9 := Aside0.mk A90
          clear A90
          by_cases c10 : (((t400 ++ (⟨#[32]⟩ : ByteArray)) ++ t402) ++ (⟨#[58]⟩ : ByteArray)).size + t403.size ≤ 9223372036854775807
          · rw [if_pos c10] at H
            have c10b0 := eq_true c10
            have c10b1 : decide ((((t400 ++ (⟨#[32]⟩ : ByteArray)) ++ t402) ++ (⟨#[58]⟩ : ByteArray)).size + t403.size ≤ 9223372036854775807) = true := decide_eq_true c10
            try have c10b2 : (9223372036854775807 < (((t400 ++ (⟨#[32]⟩ : ByteArray)) ++ t402) ++ (⟨#[58]⟩ : ByteArray)).size + t403.size) = False := eq_false (Nat.not_lt.2 c10)
            try have c10b3 : (9223372036854775807 < t400.size + 1 + t402.size + 1 + t403.size) = False := eq_false (by have h_ := c10; simp only [ByteArray.size_append, (show (⟨#[32]⟩ : ByteArray).size = 1 from rfl), (show (⟨#[58]⟩ : ByteArray).size = 1 from rfl)] at h_; omega)
            simp only [Option.some.injEq, Prod.mk.injEq] at H
            obtain ⟨rfl, rfl⟩ := H
            go_enter Tryd.func67, Tryd.ntmps67
            go_wp2_with (first | ((with_reducible refine gate_callee (f := 66) rfl ?_); refine goesL_ (some 11) rfl rfl Tryd.func66 (by kernel_rfl) rfl #[.int .i64 a0] rfl (by (try simp only [List.map_toArray, List.map_cons, List.map_nil]); first | done | rfl | (simp only [List.length_drop, List.length_take]; rfl)) ?_; (with_reducible refine (letterbagref01_Split.calls a0 t397 t398 t399 _ A2.out).mono ?_); rintro e w' ⟨rfl, ⟨nd, rfl⟩⟩; refine ⟨_, rfl, ?_⟩) | ((with_reducible refine gate_callee (f := 43) rfl ?_); refine goesL_ (some 20) rfl rfl Tryd.func43 (by kernel_rfl) rfl #[.int .i64 t397] rfl (by (try simp only [List.map_toArray, List.map_cons, List.map_nil]); first | done | rfl | (simp only [List.length_drop, List.length_take]; rfl)) ?_; (with_reducible refine (letterbagref01_Text.calls k t397 t400 t401 _ A4.out).mono ?_); rintro e w11 ⟨rfl, hb⟩; refine ⟨_, rfl, ?_⟩; have n0_ := Aside0.mk (below_step (by repeat (first | (with_reducible first | exact HB.out | apply below_alloc | apply pw_below_drewN | apply below_drew1) | exact HB.out)) hb); clear HB; have HB := n0_; clear n0_; (try clear hb); (try clear hb2); (try clear hk); (try clear hi)) | ((with_reducible refine gate_callee (f := 65) rfl ?_); refine goesL_ (some 27) rfl rfl Tryd.func65 (by kernel_rfl) rfl #[.int .i64 (wrap64 (Int.tdiv t398 60)), .int .i64 2] rfl (by (try simp only [List.map_toArray, List.map_cons, List.map_nil]); first | done | rfl | (simp only [List.length_drop, List.length_take]; rfl)) ?_; (with_reducible refine (letterbagref01_digits.calls k (wrap64 (Int.tdiv t398 60)) 2 t402 _ A6.out).mono ?_); rintro e w12 ⟨rfl, hb⟩; refine ⟨_, rfl, ?_⟩; have n0_ := Aside0.mk (below_step (by repeat (first | (with_reducible first | exact HB.out | apply below_alloc | apply pw_below_drewN | apply below_drew1) | exact HB.out)) hb); clear HB; have HB := n0_; clear n0_; (try clear hb); (try clear hb2); (try clear hk); (try clear hi)) | ((with_reducible refine gate_callee (f := 65) rfl ?_); refine goesL_ (some 32) rfl rfl Tryd.func65 (by kernel_rfl) rfl #[.int .i64 (Int.tmod t398 60), .int .i64 2] rfl (by (try simp only [List.map_toArray, List.map_cons, List.map_nil]); first | done | rfl | (simp only [List.length_drop, List.length_take]; rfl)) ?_; (with_reducible refine (letterbagref01_digits.calls k (Int.tmod t398 60) 2 t403 _ A9.out).mono ?_); rintro e w13 ⟨rfl, hb⟩; refine ⟨_, rfl, ?_⟩; have n0_ := Aside0.mk (below_step (by repeat (first | (with_reducible first | exact HB.out | apply below_alloc | apply pw_below_drewN | apply below_drew1) | exact HB.out)) hb); clear HB; have HB := n0_; clear n0_; (try clear hb); (try clear hb2); (try clear hk); (try clear hi)))
            go_ret2
            exact ⟨by first | rfl | (simp [errW_none, errW_some] <;> rfl) | (simp [*, errW_none, errW_some] <;> rfl), by repeat (first | (with_reducible first | exact HB.out | apply below_alloc | apply pw_below_drewN | apply below_drew1) | exact HB.out)⟩
          · rw [if_neg c10] at H
            exact absurd H (by simp)
        · rw [if_neg c8] at H
          exact absurd H (by simp)
      · rw [if_neg c7] at H
        exact absurd H (by simp)
    · rw [if_neg c5] at H
      exact absurd H (by simp)
  · rw [if_neg c3] at H
    have c3b0 : (t399 == 0) = false := beq_eq_false_iff_ne.mpr c3
    have c3b1 : (t399 != 0) = true := bne_iff_ne.mpr c3
    simp only [Option.some.injEq, Prod.mk.injEq] at H
    obtain ⟨rfl, rfl⟩ := H
    go_enter Tryd.func67, Tryd.ntmps67
    go_wp2_with (first | ((with_reducible refine gate_callee (f := 66) rfl ?_); refine goesL_ (some 11) rfl rfl Tryd.func66 (by kernel_rfl) rfl #[.int .i64 a0] rfl (by (try simp only [List.map_toArray, List.map_cons, List.map_nil]); first | done | rfl | (simp only [List.length_drop, List.length_take]; rfl)) ?_; (with_reducible refine (letterbagref01_Split.calls a0 t397 t398 t399 _ A2.out).mono ?_); rintro e w' ⟨rfl, ⟨nd, rfl⟩⟩; refine ⟨_, rfl, ?_⟩))
    go_ret2
    exact ⟨by first | rfl | (simp [errW_none, errW_some] <;> rfl) | (simp [*, errW_none, errW_some] <;> rfl), by repeat (first | (with_reducible first | exact HB.out | apply below_alloc | apply pw_below_drewN | apply below_drew1) | exact HB.out)⟩

end Go.Proofs.YtehnhedifhpalaaDoor.Cp
