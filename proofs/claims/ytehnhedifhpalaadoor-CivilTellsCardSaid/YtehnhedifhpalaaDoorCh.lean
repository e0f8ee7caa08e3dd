/- What the functions of civil that are walked by hand return, as plain functions. -/
import Derived.Test.YtehnhedifhpalaaDoorCf
import Derived.Test.YtehnhedifhpalaaDoorCvB
set_option linter.unusedVariables false
set_option linter.unusedSimpArgs false
namespace Go.Proofs.YtehnhedifhpalaaDoor.Cp
open Go.RowKit Go.Proofs.YtehnhedifhpalaaDoorW.PrintWords Go.Proofs.YtehnhedifhpalaaDoorW.PrintLast Go.Proofs.YtehnhedifhpalaaDoorW.PrintMore

/-- A list of holidays. -/
def rightFrom (last : Int) : List Int → Bool
  | [] => true
  | d :: l => !decide (d ≤ last) && !decide (730484 < d) && rightFrom d l
def rightB (l : List Int) : Bool := rightFrom (-1) l && decide (l.length ≤ 1000)

def civil_Between.f (a0 a1 : Int) (l2 : List Int) : Option (Int × Int) :=
  if rightB l2 = true ∧ 0 ≤ a0 ∧ a0 ≤ a1 then (if a1 ≤ 730484 then some (Cv.below l2 a1 - Cv.below l2 a0, 0) else some (0, 3)) else some (0, 2)

/-- The search of Ahead. -/
def civil_Ahead.l0 (l : List Int) (b n : Int) : Nat → Int → Int → Option Int
  | 0, _, _ => none
  | k + 1, lo, hi => if lo < hi then (if n < Cv.below l ((lo + hi) / 2 + 1) - b then civil_Ahead.l0 l b n k lo ((lo + hi) / 2) else civil_Ahead.l0 l b n k ((lo + hi) / 2 + 1) hi) else some lo

def civil_Ahead.f (k : Nat) (a0 a1 : Int) (l2 : List Int) : Option (Int × Int) :=
  if rightB l2 = true ∧ 0 ≤ a0 ∧ 0 ≤ a1 then
    (if a0 ≤ 730484 ∧ a1 < Cv.below l2 730485 - Cv.below l2 a0 then (civil_Ahead.l0 l2 (Cv.below l2 a0) a1 k a0 730484).bind fun d => some (d, 0) else some (0, 3))
  else some (0, 2)

theorem civil_Ahead.mono_l (l : List Int) (b n : Int) : ∀ k lo hi, LeO (civil_Ahead.l0 l b n k lo hi) (civil_Ahead.l0 l b n (k + 1) lo hi)
  | 0, _, _ => fun r h => by simp [civil_Ahead.l0] at h
  | k + 1, lo, hi => by
    have ih := civil_Ahead.mono_l l b n k
    rw [civil_Ahead.l0, civil_Ahead.l0]
    exact LeO.ite (LeO.ite (ih _ _) (ih _ _)) (LeO.refl _)

theorem civil_Ahead.mono : ∀ a0 a1 a2 k, LeO (civil_Ahead.f k a0 a1 a2) (civil_Ahead.f (k + 1) a0 a1 a2) := by
  intro a0 a1 a2 k
  unfold civil_Ahead.f
  exact LeO.ite (LeO.ite (LeO.bind (civil_Ahead.mono_l _ _ _ _ _ _) (fun _ => LeO.refl _)) (LeO.refl _)) (LeO.refl _)

end Go.Proofs.YtehnhedifhpalaaDoor.Cp
