/- The numbers that letterbagkit.Pick returns. -/
import Derived.Test.YtehnhedifhpalaaDoorCp3
import Derived.Test.YtehnhedifhpalaaDoorCu
set_option linter.unusedVariables false
set_option linter.unusedSimpArgs false
namespace Go.Proofs.YtehnhedifhpalaaDoor.Cp
open Go.RowKit Go.Proofs.YtehnhedifhpalaaDoorW.PrintWords Go.Proofs.YtehnhedifhpalaaDoorW.PrintLast Go.Proofs.YtehnhedifhpalaaDoorW.PrintMore

theorem pick_f {n m : Int} (hm : 1 ≤ m ∧ m ≤ 1000000000000000) : ∃ d, letterbagkit_Pick.f n m = some d ∧ 0 ≤ d ∧ d < m := by
  unfold letterbagkit_Pick.f
  have h1 := Int.tmod_lt_of_pos n (show 0 < m by omega)
  have h2 : -m < Int.tmod n m := by
    have := Int.tmod_lt_of_pos (-n) (show 0 < m by omega)
    rw [Int.neg_tmod] at this
    omega
  rw [if_neg (by omega), if_neg (by omega)]
  generalize Int.tmod n m = r at *
  by_cases c : r < 0
  · rw [if_pos c]
    have b : -9223372036854775808 ≤ r + m ∧ r + m ≤ 9223372036854775807 := by omega
    refine ⟨r + m, by rw [w64 b.1 b.2], by omega, by omega⟩
  · rw [if_neg c]
    exact ⟨r, rfl, by omega, by omega⟩


end Go.Proofs.YtehnhedifhpalaaDoor.Cp
