/- The package variable of civil as a condition on the memory; the walk of the function that reads it. -/
import Derived.Test.YtehnhedifhpalaaDoorCp0
namespace Go.Proofs.YtehnhedifhpalaaDoor.Cp
open Go.RowKit Go.Proofs.YtehnhedifhpalaaDoorW.PrintWords Go.Proofs.YtehnhedifhpalaaDoorW.PrintLast Go.Proofs.YtehnhedifhpalaaDoorW.PrintMore
attribute [local go_sem] max2_int min2_int max_two min_two max_three min_three max_four min_four
set_option linter.unusedVariables false
set_option linter.unusedSimpArgs false

def tabL : List Int := [0, 31, 59, 90, 120, 151, 181, 212, 243, 273, 304, 334, 365]

/-- The variable's cells. -/
def Tab (w : World) : Prop := ∀ i : Nat, i < 13 → w.cell? ⟨0, i, none⟩ = some (.int .i64 (tabL.getD i 0))

theorem Tab.below {w W : World} (h : Tab w) (hb : Below w.heap.size w W) : Tab W := fun i hi => (hb.cell (World.block_lt_of_cell? w _ (h i hi))).trans (h i hi)
theorem Tab.drawn {w W : World} (h : Tab w) (hd : Drawn0 w W) : Tab W := h.below hd.below
theorem Tab.drewN {w : World} (h : Tab w) (n : Nat) : Tab (w.drewN n) := h.drawn ((Drawn0.refl w).step n)

def leapB (y : Int) : Bool := decide (Int.tmod y 4 = 0) && (decide (¬ Int.tmod y 100 = 0) || decide (Int.tmod y 400 = 0))

def civil_first.f (a0 a1 : Int) : Option Int :=
  if 1 ≤ a1 then (if a1 ≤ 13 then some (if 2 < a1 then (if leapB a0 then tabL.getD (a1 - 1).toNat 0 + 1 else tabL.getD (a1 - 1).toNat 0) else tabL.getD (a1 - 1).toNat 0) else none) else none

set_option maxHeartbeats 1000000 in
theorem leap_any (y : Int) (w : World) : Calls Tryd.prog 35 #[.int .i64 y] w fun e w' => e = .returned (.bool (leapB y)) ∧ Drawn0 w w' := by
  by_cases c1 : Int.tmod y 4 = 0
  · have d1 : (Int.tmod y 4 == 0) = true := beq_iff_eq.mpr c1
    by_cases c2 : Int.tmod y 100 = 0
    · have d2 : (Int.tmod y 100 == 0) = true := beq_iff_eq.mpr c2
      have d2' : (Int.tmod y 100 != 0) = false := by simp [c2]
      have e : leapB y = (Int.tmod y 400 == 0) := by unfold leapB; rw [decide_eq_true c1, decide_eq_false (fun h => h c2)]; simp; rfl
      rw [e]
      clear c1 c2 e
      go_enter Tryd.func35, Tryd.ntmps35
      go_wp2
      go_ret
      exact ⟨rfl, Drawn0.refl _⟩
    · have d2 : (Int.tmod y 100 == 0) = false := beq_eq_false_iff_ne.mpr c2
      have d2' : (Int.tmod y 100 != 0) = true := by simp [c2]
      have e : leapB y = true := by unfold leapB; rw [decide_eq_true c1, decide_eq_true c2]; rfl
      rw [e]
      clear c1 c2 e
      go_enter Tryd.func35, Tryd.ntmps35
      go_wp2
      go_ret
      exact ⟨rfl, Drawn0.refl _⟩
  · have d1 : (Int.tmod y 4 == 0) = false := beq_eq_false_iff_ne.mpr c1
    have e : leapB y = false := by unfold leapB; rw [decide_eq_false c1]; rfl
    rw [e]
    clear c1 e
    go_enter Tryd.func35, Tryd.ntmps35
    go_wp2
    go_ret
    exact ⟨rfl, Drawn0.refl _⟩

theorem first_ix {a1 : Int} (h1 : 1 ≤ a1) (h2 : a1 ≤ 13) : wrap64 (a1 - 1) = a1 - 1 := by unfold wrap64; omega

theorem tab_bd (n : Nat) : 0 ≤ tabL.getD n 0 ∧ tabL.getD n 0 ≤ 365 := by
  by_cases h : n < 13
  · have : ∀ m : Nat, m < 13 → 0 ≤ tabL.getD m 0 ∧ tabL.getD m 0 ≤ 365 := by decide
    exact this n h
  · rw [List.getD_eq_getElem?_getD, List.getElem?_eq_none (show tabL.length ≤ n by show 13 ≤ n; omega)]; decide

set_option maxHeartbeats 2000000 in
theorem civil_first.calls (a0 a1 : Int) (r : Int) (w : World) (hg : Aside0 (Tab w)) (h : civil_first.f a0 a1 = some r) :
    Calls Tryd.prog 55 #[.int .i64 a0, .int .i64 a1] w fun e w' => e = .returned (.int .i64 r) ∧ Drawn0 w w' := by
  unfold civil_first.f at h
  by_cases h1 : 1 ≤ a1
  · by_cases h2 : a1 ≤ 13
    · rw [if_pos h1, if_pos h2] at h
      have hx := hg.out (a1 - 1).toNat (by omega)
      have EW := first_ix h1 h2
      have e : (a1 - 1).toNat = a1.toNat - 1 := by omega
      rw [e] at h hx
      clear e
      have b := tab_bd (a1.toNat - 1)
      generalize hv : tabL.getD (a1.toNat - 1) 0 = v at h hx b
      have EV : wrap64 (v + 1) = v + 1 := by unfold wrap64; omega
      have p1 : (0 ≤ a1 - 1) = True := eq_true (by omega)
      have q1 : (a1 - 1 < 13) = True := eq_true (by omega)
      have p2 : (1 ≤ a1) = True := eq_true h1
      have p3 : (a1 < 1) = False := eq_false (by omega)
      have hle := leap_any a0
      generalize leapB a0 = lb at h hle
      by_cases c : 2 < a1
      · have d : decide (2 < a1) = true := decide_eq_true c
        rw [if_pos c] at h
        clear h1 h2 c hv b hg
        cases lb
        · have hr : v = r := by simpa using h
          subst hr
          clear h
          go_enter Tryd.func55, Tryd.ntmps55
          go_wp2_with (first | (go_at_call 35; (with_reducible refine (hle _).mono ?_); rintro e w' ⟨rfl, ⟨nd, rfl⟩⟩))
          go_ret
          exact ⟨by first | rfl | simp [EV], ⟨⟨_, rfl⟩⟩⟩
        · have hr : v + 1 = r := by simpa using h
          subst hr
          clear h
          go_enter Tryd.func55, Tryd.ntmps55
          go_wp2_with (first | (go_at_call 35; (with_reducible refine (hle _).mono ?_); rintro e w' ⟨rfl, ⟨nd, rfl⟩⟩))
          go_ret
          exact ⟨by first | rfl | simp [EV], ⟨⟨_, rfl⟩⟩⟩
      · have d : decide (2 < a1) = false := decide_eq_false c
        rw [if_neg c] at h
        have hr : v = r := by simpa using h
        subst hr
        clear h1 h2 c hv b hg h
        go_enter Tryd.func55, Tryd.ntmps55
        go_wp2
        go_ret
        exact ⟨rfl, Drawn0.refl _⟩
    · rw [if_pos h1, if_neg h2] at h; exact absurd h (by simp)
  · rw [if_neg h1] at h; exact absurd h (by simp)

end Go.Proofs.YtehnhedifhpalaaDoor.Cp
