/- The package variable of civil as a condition on the memory; the walk of the function that reads it. Small words for proofs about printed functions: from some number of rounds on. What the functions of civil that are walked by hand return, as plain functions. -/
import Derived.Test.YtehnhedifhpalaaDoorCp0
import Derived.Test.YtehnhedifhpalaaDoorCv
set_option linter.unusedVariables false
set_option linter.unusedSimpArgs false
namespace Go.Proofs.YtehnhedifhpalaaDoor.Cp
open Go.RowKit Go.Proofs.YtehnhedifhpalaaDoorW.PrintWords Go.Proofs.YtehnhedifhpalaaDoorW.PrintLast Go.Proofs.YtehnhedifhpalaaDoorW.PrintMore
attribute [local go_sem] max2_int min2_int max_two min_two max_three min_three max_four min_four

def tabL : List Int := [0, 31, 59, 90, 120, 151, 181, 212, 243, 273, 304, 334, 365]

/-- The variable's cells. -/
def Tab (w : World) : Prop := ∀ i : Nat, i < 13 → w.cell? ⟨0, i, none⟩ = some (.int .i64 (tabL.getD i 0))

theorem Tab.below {w W : World} (h : Tab w) (hb : Below w.heap.size w W) : Tab W := fun i hi => (hb.cell (World.block_lt_of_cell? w _ (h i hi))).trans (h i hi)
theorem Tab.drawn {w W : World} (h : Tab w) (hd : Drawn0 w W) : Tab W := h.below hd.below
theorem Tab.drewN {w : World} (h : Tab w) (n : Nat) : Tab (w.drewN n) := h.drawn ((Drawn0.refl w).step n)

def leapB (y : Int) : Bool := decide (Int.tmod y 4 = 0) && (decide (¬ Int.tmod y 100 = 0) || decide (Int.tmod y 400 = 0))

def civil_first.f (a0 a1 : Int) : Option Int :=
  if 1 ≤ a1 then (if a1 ≤ 13 then some (if 2 < a1 then (if leapB a0 then tabL.getD (a1 - 1).toNat 0 + 1 else tabL.getD (a1 - 1).toNat 0) else tabL.getD (a1 - 1).toNat 0) else none) else none

set_option maxHeartbeats 1000000 in
theorem leap_any (y : Int) (w : World) : Calls Tryd.prog 35 #[.int .i64 y] w fun e w' => e = .returned (.bool (leapB y)) ∧ Drawn0 w w' := by
  by_cases c1 : Int.tmod y 4 = 0
  · have d1 : (Int.tmod y 4 == 0) = true := beq_iff_eq.mpr c1
    by_cases c2 : Int.tmod y 100 = 0
    · have d2 : (Int.tmod y 100 == 0) = true := beq_iff_eq.mpr c2
      have d2' : (Int.tmod y 100 != 0) = false := by simp [c2]
      have e : leapB y = (Int.tmod y 400 == 0) := by unfold leapB; rw [decide_eq_true c1, decide_eq_false (fun h => h c2)]; simp; rfl
      rw [e]
      clear c1 c2 e
      go_enter Tryd.func35, Tryd.ntmps35
      go_wp2
      go_ret
      exact ⟨rfl, Drawn0.refl _⟩
    · have d2 : (Int.tmod y 100 == 0) = false := beq_eq_false_iff_ne.mpr c2
      have d2' : (Int.tmod y 100 != 0) = true := by simp [c2]
      have e : leapB y = true := by unfold leapB; rw [decide_eq_true c1, decide_eq_true c2]; rfl
      rw [e]
      clear c1 c2 e
      go_enter Tryd.func35, Tryd.ntmps35
      go_wp2
      go_ret
      exact ⟨rfl, Drawn0.refl _⟩
  · have d1 : (Int.tmod y 4 == 0) = false := beq_eq_false_iff_ne.mpr c1
    have e : leapB y = false := by unfold leapB; rw [decide_eq_false c1]; rfl
    rw [e]
    clear c1 e
    go_enter Tryd.func35, Tryd.ntmps35
    go_wp2
    go_ret
    exact ⟨rfl, Drawn0.refl _⟩

theorem first_ix {a1 : Int} (h1 : 1 ≤ a1) (h2 : a1 ≤ 13) : wrap64 (a1 - 1) = a1 - 1 := by unfold wrap64; omega

theorem tab_bd (n : Nat) : 0 ≤ tabL.getD n 0 ∧ tabL.getD n 0 ≤ 365 := by
  by_cases h : n < 13
  · have : ∀ m : Nat, m < 13 → 0 ≤ tabL.getD m 0 ∧ tabL.getD m 0 ≤ 365 := by decide
    exact this n h
  · rw [List.getD_eq_getElem?_getD, List.getElem?_eq_none (show tabL.length ≤ n by show 13 ≤ n; omega)]; decide

set_option maxHeartbeats 2000000 in
theorem civil_first.calls (a0 a1 : Int) (r : Int) (w : World) (hg : Aside0 (Tab w)) (h : civil_first.f a0 a1 = some r) :
    Calls Tryd.prog 55 #[.int .i64 a0, .int .i64 a1] w fun e w' => e = .returned (.int .i64 r) ∧ Drawn0 w w' := by
  unfold civil_first.f at h
  by_cases h1 : 1 ≤ a1
  · by_cases h2 : a1 ≤ 13
    · rw [if_pos h1, if_pos h2] at h
      have hx := hg.out (a1 - 1).toNat (by omega)
      have EW := first_ix h1 h2
      have e : (a1 - 1).toNat = a1.toNat - 1 := by omega
      rw [e] at h hx
      clear e
      have b := tab_bd (a1.toNat - 1)
      generalize hv : tabL.getD (a1.toNat - 1) 0 = v at h hx b
      have EV : wrap64 (v + 1) = v + 1 := by unfold wrap64; omega
      have p1 : (0 ≤ a1 - 1) = True := eq_true (by omega)
      have q1 : (a1 - 1 < 13) = True := eq_true (by omega)
      have p2 : (1 ≤ a1) = True := eq_true h1
      have p3 : (a1 < 1) = False := eq_false (by omega)
      have hle := leap_any a0
      generalize leapB a0 = lb at h hle
      by_cases c : 2 < a1
      · have d : decide (2 < a1) = true := decide_eq_true c
        rw [if_pos c] at h
        clear h1 h2 c hv b hg
        cases lb
        · have hr : v = r := by simpa using h
          subst hr
          clear h
          go_enter Tryd.func55, Tryd.ntmps55
          go_wp2_with (first | (go_at_call 35; (with_reducible refine (hle _).mono ?_); rintro e w' ⟨rfl, ⟨nd, rfl⟩⟩))
          go_ret
          exact ⟨by first | rfl | simp [EV], ⟨⟨_, rfl⟩⟩⟩
        · have hr : v + 1 = r := by simpa using h
          subst hr
          clear h
          go_enter Tryd.func55, Tryd.ntmps55
          go_wp2_with (first | (go_at_call 35; (with_reducible refine (hle _).mono ?_); rintro e w' ⟨rfl, ⟨nd, rfl⟩⟩))
          go_ret
          exact ⟨by first | rfl | simp [EV], ⟨⟨_, rfl⟩⟩⟩
      · have d : decide (2 < a1) = false := decide_eq_false c
        rw [if_neg c] at h
        have hr : v = r := by simpa using h
        subst hr
        clear h1 h2 c hv b hg h
        go_enter Tryd.func55, Tryd.ntmps55
        go_wp2
        go_ret
        exact ⟨rfl, Drawn0.refl _⟩
    · rw [if_pos h1, if_neg h2] at h; exact absurd h (by simp)
  · rw [if_neg h1] at h; exact absurd h (by simp)

end Go.Proofs.YtehnhedifhpalaaDoor.Cp

namespace Go.Proofs.YtehnhedifhpalaaDoor.Cp
open Go.RowKit Go.Proofs.YtehnhedifhpalaaDoorW.PrintWords Go.Proofs.YtehnhedifhpalaaDoorW.PrintLast Go.Proofs.YtehnhedifhpalaaDoorW.PrintMore
theorem ev_pos {α : Type} {c : Prop} [Decidable c] {A B : Nat → Option α} {r : α} (h : c) (k : Ev A r) : Ev (fun n => if c then A n else B n) r := Ev.congr (fun _ => if_pos h) k
theorem ev_neg {α : Type} {c : Prop} [Decidable c] {A B : Nat → Option α} {r : α} (h : ¬ c) (k : Ev B r) : Ev (fun n => if c then A n else B n) r := Ev.congr (fun _ => if_neg h) k
theorem ev_val {α : Type} {x : Option α} {r : α} (h : x = some r) : Ev (fun _ => x) r := ⟨0, fun _ _ => h⟩
theorem ev_eq {α : Type} {g : Nat → Option α} {r q : α} (h : r = q) (k : Ev g r) : Ev g q := h ▸ k
theorem w64 {n : Int} (h : -9223372036854775808 ≤ n) (h' : n ≤ 9223372036854775807) : wrap64 n = n := by unfold wrap64; omega
theorem wu64 {n : Int} (h : 0 ≤ n) (h' : n ≤ 9223372036854775807) : IntKind.u64.wrap n = n := by
  simp [IntKind.wrap, IntKind.bits, IntKind.signed]; omega
theorem wtmod {n m : Int} (h : 0 ≤ n) (h0 : 0 < m) (h' : m ≤ 9223372036854775807) : wrap64 (Int.tmod n m) = n % m := by
  rw [Int.tmod_eq_emod_of_nonneg h]
  have := Int.emod_nonneg n (show m ≠ 0 by omega)
  have := Int.emod_lt_of_pos n h0
  exact w64 (by omega) (by omega)
theorem wsucc {i : Nat} {n : Nat} (h : i < n) (hn : n ≤ 1000000) : wrap64 ((i : Int) + 1) = ((i + 1 : Nat) : Int) := w64 (n := (i : Int) + 1) (by omega) (by omega)
theorem rd_get {l : List Int} {i : Nat} (h : i < l.length) : rd l (i : Int) = l[i] := by simp [rd, h]
end Go.Proofs.YtehnhedifhpalaaDoor.Cp

namespace Go.Proofs.YtehnhedifhpalaaDoor.Cp
open Go.RowKit Go.Proofs.YtehnhedifhpalaaDoorW.PrintWords Go.Proofs.YtehnhedifhpalaaDoorW.PrintLast Go.Proofs.YtehnhedifhpalaaDoorW.PrintMore

/-- A list of holidays. -/
def rightFrom (last : Int) : List Int → Bool
  | [] => true
  | d :: l => !decide (d ≤ last) && !decide (730484 < d) && rightFrom d l
def rightB (l : List Int) : Bool := rightFrom (-1) l && decide (l.length ≤ 1000)

def civil_Between.f (a0 a1 : Int) (l2 : List Int) : Option (Int × Int) :=
  if rightB l2 = true ∧ 0 ≤ a0 ∧ a0 ≤ a1 then (if a1 ≤ 730484 then some (Cv.below l2 a1 - Cv.below l2 a0, 0) else some (0, 3)) else some (0, 2)

/-- The search of Ahead. -/
def civil_Ahead.l0 (l : List Int) (b n : Int) : Nat → Int → Int → Option Int
  | 0, _, _ => none
  | k + 1, lo, hi => if lo < hi then (if n < Cv.below l ((lo + hi) / 2 + 1) - b then civil_Ahead.l0 l b n k lo ((lo + hi) / 2) else civil_Ahead.l0 l b n k ((lo + hi) / 2 + 1) hi) else some lo

def civil_Ahead.f (k : Nat) (a0 a1 : Int) (l2 : List Int) : Option (Int × Int) :=
  if rightB l2 = true ∧ 0 ≤ a0 ∧ 0 ≤ a1 then
    (if a0 ≤ 730484 ∧ a1 < Cv.below l2 730485 - Cv.below l2 a0 then (civil_Ahead.l0 l2 (Cv.below l2 a0) a1 k a0 730484).bind fun d => some (d, 0) else some (0, 3))
  else some (0, 2)

theorem civil_Ahead.mono_l (l : List Int) (b n : Int) : ∀ k lo hi, LeO (civil_Ahead.l0 l b n k lo hi) (civil_Ahead.l0 l b n (k + 1) lo hi)
  | 0, _, _ => fun r h => by simp [civil_Ahead.l0] at h
  | k + 1, lo, hi => by
    have ih := civil_Ahead.mono_l l b n k
    rw [civil_Ahead.l0, civil_Ahead.l0]
    exact LeO.ite (LeO.ite (ih _ _) (ih _ _)) (LeO.refl _)

theorem civil_Ahead.mono : ∀ a0 a1 a2 k, LeO (civil_Ahead.f k a0 a1 a2) (civil_Ahead.f (k + 1) a0 a1 a2) := by
  intro a0 a1 a2 k
  unfold civil_Ahead.f
  exact LeO.ite (LeO.ite (LeO.bind (civil_Ahead.mono_l _ _ _ _ _ _) (fun _ => LeO.refl _)) (LeO.refl _)) (LeO.refl _)

end Go.Proofs.YtehnhedifhpalaaDoor.Cp
