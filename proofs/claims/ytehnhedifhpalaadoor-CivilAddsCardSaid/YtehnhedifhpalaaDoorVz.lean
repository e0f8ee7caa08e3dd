/- The rows' common part: the package variable as the row lists it; arguments opened to numbers, texts and lists. -/
import Derived.Test.YtehnhedifhpalaaDoorRows
import Derived.Test.YtehnhedifhpalaaDoorCf
import Derived.ChangeSame
import Derived.DataShut
import Derived.WalkKit
import Derived.ProofKit
import Derived.OpenShut
import Derived.ShutString
import Derived.ChangeOld
import Derived.ChangeMaps5
import Derived.Below
import Derived.SizedLaws
import Derived.LaidMore
import Derived.Lib.LaidTab
import Derived.Lib.SmallJoins
import Derived.Stop.Joined
set_option linter.unusedVariables false
set_option linter.unusedSimpArgs false
namespace Go.Proofs.YtehnhedifhpalaaDoor.Cp
open Go.ChangeShapes Go.WideShapes Go.ChangeAt
open Go.RowKit Go.Proofs.YtehnhedifhpalaaDoorW.PrintWords Go.Proofs.YtehnhedifhpalaaDoorW.PrintLast Go.Proofs.YtehnhedifhpalaaDoorW.PrintMore

def laidL : List (String × DataW Unit) := [("letterbag/civil.ahead", Rows.laid_letterbag_civil_ahead)]
theorem gAhead : Tryd.prog.globalNamed "letterbag/civil.ahead" = some 0 := by kernel_rfl

theorem tab_of_laid {W : World} (h : laidMetH Tryd.prog laidL W) : Tab W := by
  rw [MakeChecks.laidMetH_plain _ _ _ (by kernel_rfl)] at h
  have hT : Lib.TabIs Tryd.prog W "letterbag/civil.ahead" .i64 tabL :=
    Lib.tabIs_of_head (rest := []) gAhead (t := (Tryd.prog.globals[0]?.map (·.type)).getD 0) (e := 3) (n := 13) (by kernel_rfl) (by kernel_rfl) Tryd.underlying3 (by kernel_rfl) (by kernel_rfl) h
  exact fun i hi => hT.cell gAhead i hi

/-- The door's own heap meets the condition. -/
theorem door_met (os : Os) (args : Array Value) : laidMetH Tryd.prog laidL ((World.doorLaid Tryd.prog 400 os).forCall (fun _ _ => 0) ⟨#[], args, []⟩).memory :=
  laidMetH_of_parts3 (fuel := 8) (laidMet_of_run' 8 (by kernel_rfl) (by kernel_rfl)) (by kernel_rfl) (by kernel_rfl)

section
variable {H : Type} {enc : TypeId × Value → H} {w : World} {held : Bool} {a : Option Addr} {len cap : Nat} {d : DataW H} {p : List MemPlace}

theorem i64_bd {x : Int} (h : (Lit.int .i64 x).wf = true) : -9223372036854775808 ≤ x ∧ x ≤ 9223372036854775807 := by
  have e1 : IntKind.i64.min = -9223372036854775808 := by decide
  have e2 : IntKind.i64.max = 9223372036854775807 := by decide
  simp [Lit.wf] at h
  omega
theorem u16_bd {x : Int} (h : (Lit.int .u16 x).wf = true) : 0 ≤ x ∧ x ≤ 65535 := by
  have e1 : IntKind.u16.min = 0 := by decide
  have e2 : IntKind.u16.max = 65535 := by decide
  simp [Lit.wf] at h
  omega

theorem maxLen_small : maxLen ≤ 9223372036854775807 := by decide

theorem open_i64s (h : DataW.Trod enc Tryd.prog w 0 (fun _ => true) held 22 (.slice a len cap) d p) : ∃ l : List Int, l.length = len ∧ len ≤ cap ∧ Kd.C (Kd.int .i64) w a len l ∧ ∀ x ∈ l, -9223372036854775808 ≤ x ∧ x ≤ 9223372036854775807 := by
  obtain ⟨fuel, hf⟩ := h
  rcases open_ints Tryd.underlying22 Tryd.underlying3 (by kernel_rfl) hf with ⟨hcs, _⟩ | ⟨x, l, c, zs, hcs, _, hl, hm, hz, _, hcell, hwz⟩
  · simp [Value.cells] at hcs
    obtain ⟨rfl, rfl, rfl⟩ := hcs
    exact ⟨[], rfl, Nat.le_refl _, ⟨rfl, by decide, fun h => absurd h (by decide)⟩, by simp⟩
  · simp [Value.cells] at hcs
    obtain ⟨rfl, rfl, rfl⟩ := hcs
    have hz' : zs.length = cap := by simpa using hz
    have hlen : (zs.take len).length = len := by rw [List.length_take]; omega
    refine ⟨zs.take len, hlen, hl, ⟨hlen, by have := maxLen_small; omega, fun _ => ⟨x, rfl, fun j q hj => ?_⟩⟩, fun y hy => i64_bd (hwz y (List.mem_of_mem_take hy))⟩
    obtain ⟨hjl, rfl⟩ := List.getElem?_eq_some_iff.1 hj
    have hjz : j < zs.length := by omega
    refine ⟨[.int .i64 (zs.take len)[j]], rfl, rfl, fun i u hu => ?_⟩
    match i, hu with
    | 0, hu =>
      injection hu with hu
      subst hu
      have := hcell j hjz
      rw [List.getD_eq_getElem?_getD, List.getElem?_eq_getElem hjz] at this
      have e : j * (Kd.int .i64).sz + 0 = j := by
        show j * 1 + 0 = j
        omega
      rw [e]
      simpa using this

theorem open_u16s (h : DataW.Trod enc Tryd.prog w 0 (fun _ => true) held 55 (.slice a len cap) d p) : ∃ l : List Int, l.length = len ∧ len ≤ cap ∧ Kd.C (Kd.int .u16) w a len l ∧ ∀ x ∈ l, 0 ≤ x ∧ x ≤ 65535 := by
  obtain ⟨fuel, hf⟩ := h
  rcases open_ints Tryd.underlying55 Tryd.underlying81 (by kernel_rfl) hf with ⟨hcs, _⟩ | ⟨x, l, c, zs, hcs, _, hl, hm, hz, _, hcell, hwz⟩
  · simp [Value.cells] at hcs
    obtain ⟨rfl, rfl, rfl⟩ := hcs
    exact ⟨[], rfl, Nat.le_refl _, ⟨rfl, by decide, fun h => absurd h (by decide)⟩, by simp⟩
  · simp [Value.cells] at hcs
    obtain ⟨rfl, rfl, rfl⟩ := hcs
    have hz' : zs.length = cap := by simpa using hz
    have hlen : (zs.take len).length = len := by rw [List.length_take]; omega
    refine ⟨zs.take len, hlen, hl, ⟨hlen, by have := maxLen_small; omega, fun _ => ⟨x, rfl, fun j q hj => ?_⟩⟩, fun y hy => u16_bd (hwz y (List.mem_of_mem_take hy))⟩
    obtain ⟨hjl, rfl⟩ := List.getElem?_eq_some_iff.1 hj
    have hjz : j < zs.length := by omega
    refine ⟨[.int .u16 (zs.take len)[j]], rfl, rfl, fun i u hu => ?_⟩
    match i, hu with
    | 0, hu =>
      injection hu with hu
      subst hu
      have := hcell j hjz
      rw [List.getD_eq_getElem?_getD, List.getElem?_eq_getElem hjz] at this
      have e : j * (Kd.int .u16).sz + 0 = j := by
        show j * 1 + 0 = j
        omega
      rw [e]
      simpa using this
end
end Go.Proofs.YtehnhedifhpalaaDoor.Cp
