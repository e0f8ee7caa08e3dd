/- ShiftWrong: the law returns true at every input that its statement lets in; there is no condition of this session's. (Joined by a program of this session, pack2.py: printed walks, the plain law, the row.) -/
import Derived.Test.YtbnjdlafnejanaaBa
import Derived.Test.YtbnjdlafnejanaaBb
import Derived.Test.YtbnjdlafnejanaaBc
import Derived.Test.YtbnjdlafnejanaaBd
import Derived.Test.YtbnjdlafnejanaaBe
import Derived.Test.YtbnjdlafnejanaaBf
import Derived.Test.YtbnjdlafnejanaaBg
import Derived.Test.YtbnjdlafnejanaaBh
import Derived.Test.YtbnjdlafnejanaaRows
import Derived.WalkKit
import Derived.ProofKit
import Derived.OpenShut
import Derived.ShutString
import Derived.ChangeOld
import Derived.Below
import Derived.SizedLaws
import Derived.Lib.SmallJoins
set_option linter.unusedVariables false
set_option linter.unusedSimpArgs false
namespace Go.Proofs.Ytbnjdlafnejanaa.Pr
open Go.RowKit Go.Proofs.YtbnjdlafnejanaaW.PrintWords Go.Proofs.YtbnjdlafnejanaaW.PrintLast Go.Proofs.YtbnjdlafnejanaaW.PrintMore
attribute [local go_sem] max2_int min2_int max_two min_two max_three min_three max_four min_four   -- for this text's walks alone
set_option linter.unusedVariables false
set_option linter.unusedSimpArgs false
mutual
def letterbaglaw30_ShiftWrong.j0 : Nat → List (S45) → List (S47) → List (S45) → List (S47) → Bool → Option (Bool)
 | 0, _, _, _, _, _ => none
 | k + 1, x5, x6, x7, x8, x111 => if x111 = true then (some false) else (if 1001 ≤ 11728124029610 then ((shift_Check.f x7 x8 (List.replicate 1001 z51)).bind fun bt541 => ((shift_Check.f x7 x8 ([] : List (S51))).bind fun bt543 => ((shift_Check.f x5 x8 ([] : List (S51))).bind fun bt545 => (if bt541.1 = 0 then (if bt543.1 = (x5.length : Int) then (if bt545.1 = (x6.length : Int) then (if bt541.2 = 5 then (if bt543.2 = 300 then (letterbaglaw30_ShiftWrong.j1 k x5 x6 (bt545.2 != 301)) else (letterbaglaw30_ShiftWrong.j1 k x5 x6 true)) else (letterbaglaw30_ShiftWrong.j1 k x5 x6 true)) else (letterbaglaw30_ShiftWrong.j1 k x5 x6 true)) else (letterbaglaw30_ShiftWrong.j1 k x5 x6 true)) else (letterbaglaw30_ShiftWrong.j1 k x5 x6 true))))) else (none))
def letterbaglaw30_ShiftWrong.j1 : Nat → List (S45) → List (S47) → Bool → Option (Bool)
 | 0, _, _, _ => none
 | k + 1, x5, x6, x156 => if x156 = true then (some false) else ((shift_Make.f x5 x6).bind fun bt547 => (if bt547.2 = 0 then (letterbaglaw30_ShiftWrong.l0 k x5 x6 bt547.1 (bt547.1.length : Int) 0) else (some false)))
def letterbaglaw30_ShiftWrong.l0 : Nat → List (S45) → List (S47) → List (S51) → Int → Int → Option (Bool)
 | 0, _, _, _, _, _ => none
 | k + 1, x5, x6, x28, x166, x167 => if x167 < x166 then (letterbaglaw30_ShiftWrong.l1 k x5 x6 x28 x167 0 x166 x167) else ((letterbaglaw30_awake.f k).bind fun t565 => (some t565))
def letterbaglaw30_ShiftWrong.l1 : Nat → List (S45) → List (S47) → List (S51) → Int → Int → Int → Int → Option (Bool)
 | 0, _, _, _, _, _, _, _ => none
 | k + 1, x5, x6, x28, x29, x30, x166, x167 => if x30 < 4 then ((some (([] : List (S51)) : List (S51))).bind fun y551 => (if y551.length + x28.length < 5864062014805 then ((some (y551 ++ x28 : List (S51))).bind fun y554 => (if x30 = 0 then (if 0 ≤ x29 then (if x29 < (y554.length : Int) then (letterbaglaw30_ShiftWrong.j4 k x5 x6 x28 x29 x30 (y554.set (x29 : Int).toNat (⟨50, (rd_T51 y554 x29).f1, (rd_T51 y554 x29).f2⟩ : S51)) x166 x167) else (none)) else (none)) else (if x30 = 1 then (if 0 ≤ x29 then (if x29 < (y554.length : Int) then (letterbaglaw30_ShiftWrong.j4 k x5 x6 x28 x29 x30 (y554.set (x29 : Int).toNat (⟨(rd_T51 y554 x29).f0, (rd_T51 y554 x29).f1, (rd_T51 y554 x29).f1⟩ : S51)) x166 x167) else (none)) else (none)) else (if x30 = 2 then (if 0 ≤ x29 then (if x29 < (y554.length : Int) then (letterbaglaw30_ShiftWrong.j4 k x5 x6 x28 x29 x30 (y554.set (x29 : Int).toNat (⟨(rd_T51 y554 x29).f0, (-1), (rd_T51 y554 x29).f2⟩ : S51)) x166 x167) else (none)) else (none)) else (if x30 = 3 then (if 0 ≤ x29 then (if x29 < (y554.length : Int) then (letterbaglaw30_ShiftWrong.j4 k x5 x6 x28 x29 x30 (y554.set (x29 : Int).toNat (⟨(rd_T51 y554 x29).f0, (rd_T51 y554 x29).f1, wrap64 (((rd_T51 y554 x29).f2) + 1000)⟩ : S51)) x166 x167) else (none)) else (none)) else (letterbaglaw30_ShiftWrong.j4 k x5 x6 x28 x29 x30 y554 x166 x167)))))) else (none))) else (letterbaglaw30_ShiftWrong.l0 k x5 x6 x28 x166 (wrap64 (x167 + 1)))
def letterbaglaw30_ShiftWrong.j4 : Nat → List (S45) → List (S47) → List (S51) → Int → Int → List (S51) → Int → Int → Option (Bool)
 | 0, _, _, _, _, _, _, _, _ => none
 | k + 1, x5, x6, x28, x29, x30, x31, x166, x167 => (shift_Check.f x5 x6 x31).bind fun bt563 => (if bt563.1 = x29 then (if bt563.2 = 302 then (letterbaglaw30_ShiftWrong.l1 k x5 x6 x28 x29 (wrap64 (x30 + 1)) x166 x167) else (some false)) else (some false))
end
def letterbaglaw30_ShiftWrong.f (k : Nat) (l0 : List (S61)) (l1 : List (S55)) : Option (Bool) := (letterbaglaw30_work.f k l0).bind fun t484 => ((letterbaglaw30_hours.f k l1).bind fun t487 => ((some (([] : List (S45)) : List (S45))).bind fun y490 => (if y490.length + t484.length < 4398046511104 then ((some (y490 ++ t484 : List (S45))).bind fun y493 => (if y493.length < 4398046511104 then ((some (y493 ++ [(⟨0, 0, 0, 0⟩ : S45)] : List (S45))).bind fun y496 => ((some (([] : List (S47)) : List (S47))).bind fun y499 => (if y499.length + t487.length < 8796093022208 then ((some (y499 ++ t487 : List (S47))).bind fun y502 => (if y502.length < 8796093022208 then ((some (y502 ++ [(⟨300, 300⟩ : S47)] : List (S47))).bind fun y505 => (if 201 ≤ 8796093022208 then ((shift_Make.f (List.replicate 201 z45) y505).bind fun bt511 => (if 201 ≤ 17592186044416 then ((shift_Make.f y496 (List.replicate 201 z47)).bind fun bt518 => ((shift_Make.f y496 y505).bind fun bt522 => ((shift_Make.f t484 y505).bind fun bt526 => ((shift_Excess.f k y496 y505).bind fun bt530 => ((shift_Excess.f k t484 y505).bind fun bt534 => (if bt511.2 = 5 then (if bt518.2 = 5 then (if bt522.2 = 300 then (if bt526.2 = 301 then (if bt530.2.2.2 = 300 then (letterbaglaw30_ShiftWrong.j0 k t484 t487 y496 y505 (bt534.2.2.2 != 301)) else (letterbaglaw30_ShiftWrong.j0 k t484 t487 y496 y505 true)) else (letterbaglaw30_ShiftWrong.j0 k t484 t487 y496 y505 true)) else (letterbaglaw30_ShiftWrong.j0 k t484 t487 y496 y505 true)) else (letterbaglaw30_ShiftWrong.j0 k t484 t487 y496 y505 true)) else (letterbaglaw30_ShiftWrong.j0 k t484 t487 y496 y505 true))))))) else (none))) else (none))) else (none))) else (none)))) else (none))) else (none))))
set_option maxHeartbeats 8000000 in
set_option maxRecDepth 100000 in
theorem letterbaglaw30_ShiftWrong.calls (k : Nat) (A0 : Option Addr) (c0 : Nat) (l0 : List (S61)) (A1 : Option Addr) (c1 : Nat) (l1 : List (S55)) (w : World) (hr0 : Kd.C k61 w A0 l0.length l0) (hc0 : l0.length ≤ c0) (hr1 : Kd.C k55 w A1 l1.length l1) (hc1 : l1.length ≤ c1) (h : letterbaglaw30_ShiftWrong.f k l0 l1 = some true) :
  Calls Try.prog 9 #[.slice A0 l0.length c0, .slice A1 l1.length c1] w fun e w' => e = .returned (.bool true) ∧ Below w.heap.size w w' := by
 have hu45 := Try.underlying45
 have hu47 := Try.underlying47
 have HR0 := Aside0.mk hr0
 have HC0 := Aside0.mk hc0
 clear hr0 hc0
 have HR1 := Aside0.mk hr1
 have HC1 := Aside0.mk hc1
 clear hr1 hc1
 have HB := Aside0.mk (Below.refl w.heap.size w)
 have H : ((letterbaglaw30_work.f k l0).bind fun t484 => ((letterbaglaw30_hours.f k l1).bind fun t487 => ((some (([] : List (S45)) : List (S45))).bind fun y490 => (if y490.length + t484.length < 4398046511104 then ((some (y490 ++ t484 : List (S45))).bind fun y493 => (if y493.length < 4398046511104 then ((some (y493 ++ [(⟨0, 0, 0, 0⟩ : S45)] : List (S45))).bind fun y496 => ((some (([] : List (S47)) : List (S47))).bind fun y499 => (if y499.length + t487.length < 8796093022208 then ((some (y499 ++ t487 : List (S47))).bind fun y502 => (if y502.length < 8796093022208 then ((some (y502 ++ [(⟨300, 300⟩ : S47)] : List (S47))).bind fun y505 => (if 201 ≤ 8796093022208 then ((shift_Make.f (List.replicate 201 z45) y505).bind fun bt511 => (if 201 ≤ 17592186044416 then ((shift_Make.f y496 (List.replicate 201 z47)).bind fun bt518 => ((shift_Make.f y496 y505).bind fun bt522 => ((shift_Make.f t484 y505).bind fun bt526 => ((shift_Excess.f k y496 y505).bind fun bt530 => ((shift_Excess.f k t484 y505).bind fun bt534 => (if bt511.2 = 5 then (if bt518.2 = 5 then (if bt522.2 = 300 then (if bt526.2 = 301 then (if bt530.2.2.2 = 300 then (letterbaglaw30_ShiftWrong.j0 k t484 t487 y496 y505 (bt534.2.2.2 != 301)) else (letterbaglaw30_ShiftWrong.j0 k t484 t487 y496 y505 true)) else (letterbaglaw30_ShiftWrong.j0 k t484 t487 y496 y505 true)) else (letterbaglaw30_ShiftWrong.j0 k t484 t487 y496 y505 true)) else (letterbaglaw30_ShiftWrong.j0 k t484 t487 y496 y505 true)) else (letterbaglaw30_ShiftWrong.j0 k t484 t487 y496 y505 true))))))) else (none))) else (none))) else (none))) else (none)))) else (none))) else (none))))) = some true := h
 clear h
 replace H := Option.bind_eq_some_iff.mp H
 obtain ⟨t484, A30, H⟩ := H
 replace H : ((letterbaglaw30_hours.f k l1).bind fun t487 => ((some (([] : List (S45)) : List (S45))).bind fun y490 => (if y490.length + t484.length < 4398046511104 then ((some (y490 ++ t484 : List (S45))).bind fun y493 => (if y493.length < 4398046511104 then ((some (y493 ++ [(⟨0, 0, 0, 0⟩ : S45)] : List (S45))).bind fun y496 => ((some (([] : List (S47)) : List (S47))).bind fun y499 => (if y499.length + t487.length < 8796093022208 then ((some (y499 ++ t487 : List (S47))).bind fun y502 => (if y502.length < 8796093022208 then ((some (y502 ++ [(⟨300, 300⟩ : S47)] : List (S47))).bind fun y505 => (if 201 ≤ 8796093022208 then ((shift_Make.f (List.replicate 201 z45) y505).bind fun bt511 => (if 201 ≤ 17592186044416 then ((shift_Make.f y496 (List.replicate 201 z47)).bind fun bt518 => ((shift_Make.f y496 y505).bind fun bt522 => ((shift_Make.f t484 y505).bind fun bt526 => ((shift_Excess.f k y496 y505).bind fun bt530 => ((shift_Excess.f k t484 y505).bind fun bt534 => (if bt511.2 = 5 then (if bt518.2 = 5 then (if bt522.2 = 300 then (if bt526.2 = 301 then (if bt530.2.2.2 = 300 then (letterbaglaw30_ShiftWrong.j0 k t484 t487 y496 y505 (bt534.2.2.2 != 301)) else (letterbaglaw30_ShiftWrong.j0 k t484 t487 y496 y505 true)) else (letterbaglaw30_ShiftWrong.j0 k t484 t487 y496 y505 true)) else (letterbaglaw30_ShiftWrong.j0 k t484 t487 y496 y505 true)) else (letterbaglaw30_ShiftWrong.j0 k t484 t487 y496 y505 true)) else (letterbaglaw30_ShiftWrong.j0 k t484 t487 y496 y505 true))))))) else (none))) else (none))) else (none))) else (none)))) else (none))) else (none)))) = some true := H
 have A3 := Aside0.mk A30
 clear A30
 replace H := Option.bind_eq_some_iff.mp H
 obtain ⟨t487, A40, H⟩ := H
 replace H : ((some (([] : List (S45)) : List (S45))).bind fun y490 => (if y490.length + t484.length < 4398046511104 then ((some (y490 ++ t484 : List (S45))).bind fun y493 => (if y493.length < 4398046511104 then ((some (y493 ++ [(⟨0, 0, 0, 0⟩ : S45)] : List (S45))).bind fun y496 => ((some (([] : List (S47)) : List (S47))).bind fun y499 => (if y499.length + t487.length < 8796093022208 then ((some (y499 ++ t487 : List (S47))).bind fun y502 => (if y502.length < 8796093022208 then ((some (y502 ++ [(⟨300, 300⟩ : S47)] : List (S47))).bind fun y505 => (if 201 ≤ 8796093022208 then ((shift_Make.f (List.replicate 201 z45) y505).bind fun bt511 => (if 201 ≤ 17592186044416 then ((shift_Make.f y496 (List.replicate 201 z47)).bind fun bt518 => ((shift_Make.f y496 y505).bind fun bt522 => ((shift_Make.f t484 y505).bind fun bt526 => ((shift_Excess.f k y496 y505).bind fun bt530 => ((shift_Excess.f k t484 y505).bind fun bt534 => (if bt511.2 = 5 then (if bt518.2 = 5 then (if bt522.2 = 300 then (if bt526.2 = 301 then (if bt530.2.2.2 = 300 then (letterbaglaw30_ShiftWrong.j0 k t484 t487 y496 y505 (bt534.2.2.2 != 301)) else (letterbaglaw30_ShiftWrong.j0 k t484 t487 y496 y505 true)) else (letterbaglaw30_ShiftWrong.j0 k t484 t487 y496 y505 true)) else (letterbaglaw30_ShiftWrong.j0 k t484 t487 y496 y505 true)) else (letterbaglaw30_ShiftWrong.j0 k t484 t487 y496 y505 true)) else (letterbaglaw30_ShiftWrong.j0 k t484 t487 y496 y505 true))))))) else (none))) else (none))) else (none))) else (none)))) else (none))) else (none))) = some true := H
 have A4 := Aside0.mk A40
 clear A40
 obtain ⟨y490, hy490⟩ : ∃ y_ : List (S45), y_ = (([] : List (S45))) := ⟨_, rfl⟩
 replace H : (if y490.length + t484.length < 4398046511104 then ((some (y490 ++ t484 : List (S45))).bind fun y493 => (if y493.length < 4398046511104 then ((some (y493 ++ [(⟨0, 0, 0, 0⟩ : S45)] : List (S45))).bind fun y496 => ((some (([] : List (S47)) : List (S47))).bind fun y499 => (if y499.length + t487.length < 8796093022208 then ((some (y499 ++ t487 : List (S47))).bind fun y502 => (if y502.length < 8796093022208 then ((some (y502 ++ [(⟨300, 300⟩ : S47)] : List (S47))).bind fun y505 => (if 201 ≤ 8796093022208 then ((shift_Make.f (List.replicate 201 z45) y505).bind fun bt511 => (if 201 ≤ 17592186044416 then ((shift_Make.f y496 (List.replicate 201 z47)).bind fun bt518 => ((shift_Make.f y496 y505).bind fun bt522 => ((shift_Make.f t484 y505).bind fun bt526 => ((shift_Excess.f k y496 y505).bind fun bt530 => ((shift_Excess.f k t484 y505).bind fun bt534 => (if bt511.2 = 5 then (if bt518.2 = 5 then (if bt522.2 = 300 then (if bt526.2 = 301 then (if bt530.2.2.2 = 300 then (letterbaglaw30_ShiftWrong.j0 k t484 t487 y496 y505 (bt534.2.2.2 != 301)) else (letterbaglaw30_ShiftWrong.j0 k t484 t487 y496 y505 true)) else (letterbaglaw30_ShiftWrong.j0 k t484 t487 y496 y505 true)) else (letterbaglaw30_ShiftWrong.j0 k t484 t487 y496 y505 true)) else (letterbaglaw30_ShiftWrong.j0 k t484 t487 y496 y505 true)) else (letterbaglaw30_ShiftWrong.j0 k t484 t487 y496 y505 true))))))) else (none))) else (none))) else (none))) else (none)))) else (none))) else (none)) = some true := by (have H2_ := (Option.bind_some _ _).symm.trans H; rw [hy490]; with_reducible exact H2_)
 have Ny490 := Aside0.mk hy490
 clear hy490
 by_cases c5 : y490.length + t484.length < 4398046511104
 ·rw [if_pos c5] at H
  have LMc5 := Aside0.mk c5
  clear c5
  obtain ⟨y493, hy493⟩ : ∃ y_ : List (S45), y_ = (y490 ++ t484) := ⟨_, rfl⟩
  replace H : (if y493.length < 4398046511104 then ((some (y493 ++ [(⟨0, 0, 0, 0⟩ : S45)] : List (S45))).bind fun y496 => ((some (([] : List (S47)) : List (S47))).bind fun y499 => (if y499.length + t487.length < 8796093022208 then ((some (y499 ++ t487 : List (S47))).bind fun y502 => (if y502.length < 8796093022208 then ((some (y502 ++ [(⟨300, 300⟩ : S47)] : List (S47))).bind fun y505 => (if 201 ≤ 8796093022208 then ((shift_Make.f (List.replicate 201 z45) y505).bind fun bt511 => (if 201 ≤ 17592186044416 then ((shift_Make.f y496 (List.replicate 201 z47)).bind fun bt518 => ((shift_Make.f y496 y505).bind fun bt522 => ((shift_Make.f t484 y505).bind fun bt526 => ((shift_Excess.f k y496 y505).bind fun bt530 => ((shift_Excess.f k t484 y505).bind fun bt534 => (if bt511.2 = 5 then (if bt518.2 = 5 then (if bt522.2 = 300 then (if bt526.2 = 301 then (if bt530.2.2.2 = 300 then (letterbaglaw30_ShiftWrong.j0 k t484 t487 y496 y505 (bt534.2.2.2 != 301)) else (letterbaglaw30_ShiftWrong.j0 k t484 t487 y496 y505 true)) else (letterbaglaw30_ShiftWrong.j0 k t484 t487 y496 y505 true)) else (letterbaglaw30_ShiftWrong.j0 k t484 t487 y496 y505 true)) else (letterbaglaw30_ShiftWrong.j0 k t484 t487 y496 y505 true)) else (letterbaglaw30_ShiftWrong.j0 k t484 t487 y496 y505 true))))))) else (none))) else (none))) else (none))) else (none)))) else (none)) = some true := by (have H2_ := (Option.bind_some _ _).symm.trans H; rw [hy493]; with_reducible exact H2_)
  have Ny493 := Aside0.mk hy493
  clear hy493
  by_cases c6 : y493.length < 4398046511104
  ·rw [if_pos c6] at H
   have LMc6 := Aside0.mk c6
   clear c6
   obtain ⟨y496, hy496⟩ : ∃ y_ : List (S45), y_ = (y493 ++ [(⟨0, 0, 0, 0⟩ : S45)]) := ⟨_, rfl⟩
   replace H : ((some (([] : List (S47)) : List (S47))).bind fun y499 => (if y499.length + t487.length < 8796093022208 then ((some (y499 ++ t487 : List (S47))).bind fun y502 => (if y502.length < 8796093022208 then ((some (y502 ++ [(⟨300, 300⟩ : S47)] : List (S47))).bind fun y505 => (if 201 ≤ 8796093022208 then ((shift_Make.f (List.replicate 201 z45) y505).bind fun bt511 => (if 201 ≤ 17592186044416 then ((shift_Make.f y496 (List.replicate 201 z47)).bind fun bt518 => ((shift_Make.f y496 y505).bind fun bt522 => ((shift_Make.f t484 y505).bind fun bt526 => ((shift_Excess.f k y496 y505).bind fun bt530 => ((shift_Excess.f k t484 y505).bind fun bt534 => (if bt511.2 = 5 then (if bt518.2 = 5 then (if bt522.2 = 300 then (if bt526.2 = 301 then (if bt530.2.2.2 = 300 then (letterbaglaw30_ShiftWrong.j0 k t484 t487 y496 y505 (bt534.2.2.2 != 301)) else (letterbaglaw30_ShiftWrong.j0 k t484 t487 y496 y505 true)) else (letterbaglaw30_ShiftWrong.j0 k t484 t487 y496 y505 true)) else (letterbaglaw30_ShiftWrong.j0 k t484 t487 y496 y505 true)) else (letterbaglaw30_ShiftWrong.j0 k t484 t487 y496 y505 true)) else (letterbaglaw30_ShiftWrong.j0 k t484 t487 y496 y505 true))))))) else (none))) else (none))) else (none))) else (none))) = some true := by (have H2_ := (Option.bind_some _ _).symm.trans H; rw [hy496]; with_reducible exact H2_)
   have Ny496 := Aside0.mk hy496
   clear hy496
   obtain ⟨y499, hy499⟩ : ∃ y_ : List (S47), y_ = (([] : List (S47))) := ⟨_, rfl⟩
   replace H : (if y499.length + t487.length < 8796093022208 then ((some (y499 ++ t487 : List (S47))).bind fun y502 => (if y502.length < 8796093022208 then ((some (y502 ++ [(⟨300, 300⟩ : S47)] : List (S47))).bind fun y505 => (if 201 ≤ 8796093022208 then ((shift_Make.f (List.replicate 201 z45) y505).bind fun bt511 => (if 201 ≤ 17592186044416 then ((shift_Make.f y496 (List.replicate 201 z47)).bind fun bt518 => ((shift_Make.f y496 y505).bind fun bt522 => ((shift_Make.f t484 y505).bind fun bt526 => ((shift_Excess.f k y496 y505).bind fun bt530 => ((shift_Excess.f k t484 y505).bind fun bt534 => (if bt511.2 = 5 then (if bt518.2 = 5 then (if bt522.2 = 300 then (if bt526.2 = 301 then (if bt530.2.2.2 = 300 then (letterbaglaw30_ShiftWrong.j0 k t484 t487 y496 y505 (bt534.2.2.2 != 301)) else (letterbaglaw30_ShiftWrong.j0 k t484 t487 y496 y505 true)) else (letterbaglaw30_ShiftWrong.j0 k t484 t487 y496 y505 true)) else (letterbaglaw30_ShiftWrong.j0 k t484 t487 y496 y505 true)) else (letterbaglaw30_ShiftWrong.j0 k t484 t487 y496 y505 true)) else (letterbaglaw30_ShiftWrong.j0 k t484 t487 y496 y505 true))))))) else (none))) else (none))) else (none))) else (none)) = some true := by (have H2_ := (Option.bind_some _ _).symm.trans H; rw [hy499]; with_reducible exact H2_)
   have Ny499 := Aside0.mk hy499
   clear hy499
   by_cases c7 : y499.length + t487.length < 8796093022208
   ·rw [if_pos c7] at H
    have LMc7 := Aside0.mk c7
    clear c7
    obtain ⟨y502, hy502⟩ : ∃ y_ : List (S47), y_ = (y499 ++ t487) := ⟨_, rfl⟩
    replace H : (if y502.length < 8796093022208 then ((some (y502 ++ [(⟨300, 300⟩ : S47)] : List (S47))).bind fun y505 => (if 201 ≤ 8796093022208 then ((shift_Make.f (List.replicate 201 z45) y505).bind fun bt511 => (if 201 ≤ 17592186044416 then ((shift_Make.f y496 (List.replicate 201 z47)).bind fun bt518 => ((shift_Make.f y496 y505).bind fun bt522 => ((shift_Make.f t484 y505).bind fun bt526 => ((shift_Excess.f k y496 y505).bind fun bt530 => ((shift_Excess.f k t484 y505).bind fun bt534 => (if bt511.2 = 5 then (if bt518.2 = 5 then (if bt522.2 = 300 then (if bt526.2 = 301 then (if bt530.2.2.2 = 300 then (letterbaglaw30_ShiftWrong.j0 k t484 t487 y496 y505 (bt534.2.2.2 != 301)) else (letterbaglaw30_ShiftWrong.j0 k t484 t487 y496 y505 true)) else (letterbaglaw30_ShiftWrong.j0 k t484 t487 y496 y505 true)) else (letterbaglaw30_ShiftWrong.j0 k t484 t487 y496 y505 true)) else (letterbaglaw30_ShiftWrong.j0 k t484 t487 y496 y505 true)) else (letterbaglaw30_ShiftWrong.j0 k t484 t487 y496 y505 true))))))) else (none))) else (none))) else (none)) = some true := by (have H2_ := (Option.bind_some _ _).symm.trans H; rw [hy502]; with_reducible exact H2_)
    have Ny502 := Aside0.mk hy502
    clear hy502
    by_cases c8 : y502.length < 8796093022208
    ·rw [if_pos c8] at H
     have LMc8 := Aside0.mk c8
     clear c8
     obtain ⟨y505, hy505⟩ : ∃ y_ : List (S47), y_ = (y502 ++ [(⟨300, 300⟩ : S47)]) := ⟨_, rfl⟩
     replace H : (if 201 ≤ 8796093022208 then ((shift_Make.f (List.replicate 201 z45) y505).bind fun bt511 => (if 201 ≤ 17592186044416 then ((shift_Make.f y496 (List.replicate 201 z47)).bind fun bt518 => ((shift_Make.f y496 y505).bind fun bt522 => ((shift_Make.f t484 y505).bind fun bt526 => ((shift_Excess.f k y496 y505).bind fun bt530 => ((shift_Excess.f k t484 y505).bind fun bt534 => (if bt511.2 = 5 then (if bt518.2 = 5 then (if bt522.2 = 300 then (if bt526.2 = 301 then (if bt530.2.2.2 = 300 then (letterbaglaw30_ShiftWrong.j0 k t484 t487 y496 y505 (bt534.2.2.2 != 301)) else (letterbaglaw30_ShiftWrong.j0 k t484 t487 y496 y505 true)) else (letterbaglaw30_ShiftWrong.j0 k t484 t487 y496 y505 true)) else (letterbaglaw30_ShiftWrong.j0 k t484 t487 y496 y505 true)) else (letterbaglaw30_ShiftWrong.j0 k t484 t487 y496 y505 true)) else (letterbaglaw30_ShiftWrong.j0 k t484 t487 y496 y505 true))))))) else (none))) else (none)) = some true := by (have H2_ := (Option.bind_some _ _).symm.trans H; rw [hy505]; with_reducible exact H2_)
     have Ny505 := Aside0.mk hy505
     clear hy505
     by_cases c9 : 201 ≤ 8796093022208
     ·rw [if_pos c9] at H
      have c9b0 := eq_true c9
      have c9b1 : decide (201 ≤ 8796093022208) = true := decide_eq_true c9
      clear c9
      obtain ⟨y508, hy508⟩ : ∃ y_ : List (S45), y_ = (List.replicate 201 z45) := ⟨_, rfl⟩
      replace H : ((shift_Make.f y508 y505).bind fun bt511 => (if 201 ≤ 17592186044416 then ((shift_Make.f y496 (List.replicate 201 z47)).bind fun bt518 => ((shift_Make.f y496 y505).bind fun bt522 => ((shift_Make.f t484 y505).bind fun bt526 => ((shift_Excess.f k y496 y505).bind fun bt530 => ((shift_Excess.f k t484 y505).bind fun bt534 => (if bt511.2 = 5 then (if bt518.2 = 5 then (if bt522.2 = 300 then (if bt526.2 = 301 then (if bt530.2.2.2 = 300 then (letterbaglaw30_ShiftWrong.j0 k t484 t487 y496 y505 (bt534.2.2.2 != 301)) else (letterbaglaw30_ShiftWrong.j0 k t484 t487 y496 y505 true)) else (letterbaglaw30_ShiftWrong.j0 k t484 t487 y496 y505 true)) else (letterbaglaw30_ShiftWrong.j0 k t484 t487 y496 y505 true)) else (letterbaglaw30_ShiftWrong.j0 k t484 t487 y496 y505 true)) else (letterbaglaw30_ShiftWrong.j0 k t484 t487 y496 y505 true))))))) else (none))) = some true := by (rw [hy508]; with_reducible exact H)
      have Ny508 := Aside0.mk hy508
      clear hy508
      replace H := Option.bind_eq_some_iff.mp H
      obtain ⟨⟨t511, t512⟩, A100, H⟩ := H
      replace H : (if 201 ≤ 17592186044416 then ((shift_Make.f y496 (List.replicate 201 z47)).bind fun bt518 => ((shift_Make.f y496 y505).bind fun bt522 => ((shift_Make.f t484 y505).bind fun bt526 => ((shift_Excess.f k y496 y505).bind fun bt530 => ((shift_Excess.f k t484 y505).bind fun bt534 => (if t512 = 5 then (if bt518.2 = 5 then (if bt522.2 = 300 then (if bt526.2 = 301 then (if bt530.2.2.2 = 300 then (letterbaglaw30_ShiftWrong.j0 k t484 t487 y496 y505 (bt534.2.2.2 != 301)) else (letterbaglaw30_ShiftWrong.j0 k t484 t487 y496 y505 true)) else (letterbaglaw30_ShiftWrong.j0 k t484 t487 y496 y505 true)) else (letterbaglaw30_ShiftWrong.j0 k t484 t487 y496 y505 true)) else (letterbaglaw30_ShiftWrong.j0 k t484 t487 y496 y505 true)) else (letterbaglaw30_ShiftWrong.j0 k t484 t487 y496 y505 true))))))) else (none)) = some true := H
      have A10 := Aside0.mk A100
      clear A100
      by_cases c11 : 201 ≤ 17592186044416
      ·rw [if_pos c11] at H
       have c11b0 := eq_true c11
       have c11b1 : decide (201 ≤ 17592186044416) = true := decide_eq_true c11
       clear c11
       obtain ⟨y515, hy515⟩ : ∃ y_ : List (S47), y_ = (List.replicate 201 z47) := ⟨_, rfl⟩
       replace H : ((shift_Make.f y496 y515).bind fun bt518 => ((shift_Make.f y496 y505).bind fun bt522 => ((shift_Make.f t484 y505).bind fun bt526 => ((shift_Excess.f k y496 y505).bind fun bt530 => ((shift_Excess.f k t484 y505).bind fun bt534 => (if t512 = 5 then (if bt518.2 = 5 then (if bt522.2 = 300 then (if bt526.2 = 301 then (if bt530.2.2.2 = 300 then (letterbaglaw30_ShiftWrong.j0 k t484 t487 y496 y505 (bt534.2.2.2 != 301)) else (letterbaglaw30_ShiftWrong.j0 k t484 t487 y496 y505 true)) else (letterbaglaw30_ShiftWrong.j0 k t484 t487 y496 y505 true)) else (letterbaglaw30_ShiftWrong.j0 k t484 t487 y496 y505 true)) else (letterbaglaw30_ShiftWrong.j0 k t484 t487 y496 y505 true)) else (letterbaglaw30_ShiftWrong.j0 k t484 t487 y496 y505 true))))))) = some true := by (rw [hy515]; with_reducible exact H)
       have Ny515 := Aside0.mk hy515
       clear hy515
       replace H := Option.bind_eq_some_iff.mp H
       obtain ⟨⟨t518, t519⟩, A120, H⟩ := H
       replace H : ((shift_Make.f y496 y505).bind fun bt522 => ((shift_Make.f t484 y505).bind fun bt526 => ((shift_Excess.f k y496 y505).bind fun bt530 => ((shift_Excess.f k t484 y505).bind fun bt534 => (if t512 = 5 then (if t519 = 5 then (if bt522.2 = 300 then (if bt526.2 = 301 then (if bt530.2.2.2 = 300 then (letterbaglaw30_ShiftWrong.j0 k t484 t487 y496 y505 (bt534.2.2.2 != 301)) else (letterbaglaw30_ShiftWrong.j0 k t484 t487 y496 y505 true)) else (letterbaglaw30_ShiftWrong.j0 k t484 t487 y496 y505 true)) else (letterbaglaw30_ShiftWrong.j0 k t484 t487 y496 y505 true)) else (letterbaglaw30_ShiftWrong.j0 k t484 t487 y496 y505 true)) else (letterbaglaw30_ShiftWrong.j0 k t484 t487 y496 y505 true)))))) = some true := H
       have A12 := Aside0.mk A120
       clear A120
       replace H := Option.bind_eq_some_iff.mp H
       obtain ⟨⟨t522, t523⟩, A130, H⟩ := H
       replace H : ((shift_Make.f t484 y505).bind fun bt526 => ((shift_Excess.f k y496 y505).bind fun bt530 => ((shift_Excess.f k t484 y505).bind fun bt534 => (if t512 = 5 then (if t519 = 5 then (if t523 = 300 then (if bt526.2 = 301 then (if bt530.2.2.2 = 300 then (letterbaglaw30_ShiftWrong.j0 k t484 t487 y496 y505 (bt534.2.2.2 != 301)) else (letterbaglaw30_ShiftWrong.j0 k t484 t487 y496 y505 true)) else (letterbaglaw30_ShiftWrong.j0 k t484 t487 y496 y505 true)) else (letterbaglaw30_ShiftWrong.j0 k t484 t487 y496 y505 true)) else (letterbaglaw30_ShiftWrong.j0 k t484 t487 y496 y505 true)) else (letterbaglaw30_ShiftWrong.j0 k t484 t487 y496 y505 true))))) = some true := H
       have A13 := Aside0.mk A130
       clear A130
       replace H := Option.bind_eq_some_iff.mp H
       obtain ⟨⟨t526, t527⟩, A140, H⟩ := H
       replace H : ((shift_Excess.f k y496 y505).bind fun bt530 => ((shift_Excess.f k t484 y505).bind fun bt534 => (if t512 = 5 then (if t519 = 5 then (if t523 = 300 then (if t527 = 301 then (if bt530.2.2.2 = 300 then (letterbaglaw30_ShiftWrong.j0 k t484 t487 y496 y505 (bt534.2.2.2 != 301)) else (letterbaglaw30_ShiftWrong.j0 k t484 t487 y496 y505 true)) else (letterbaglaw30_ShiftWrong.j0 k t484 t487 y496 y505 true)) else (letterbaglaw30_ShiftWrong.j0 k t484 t487 y496 y505 true)) else (letterbaglaw30_ShiftWrong.j0 k t484 t487 y496 y505 true)) else (letterbaglaw30_ShiftWrong.j0 k t484 t487 y496 y505 true)))) = some true := H
       have A14 := Aside0.mk A140
       clear A140
       replace H := Option.bind_eq_some_iff.mp H
       obtain ⟨⟨t530, t531, t532, t533⟩, A150, H⟩ := H
       replace H : ((shift_Excess.f k t484 y505).bind fun bt534 => (if t512 = 5 then (if t519 = 5 then (if t523 = 300 then (if t527 = 301 then (if t533 = 300 then (letterbaglaw30_ShiftWrong.j0 k t484 t487 y496 y505 (bt534.2.2.2 != 301)) else (letterbaglaw30_ShiftWrong.j0 k t484 t487 y496 y505 true)) else (letterbaglaw30_ShiftWrong.j0 k t484 t487 y496 y505 true)) else (letterbaglaw30_ShiftWrong.j0 k t484 t487 y496 y505 true)) else (letterbaglaw30_ShiftWrong.j0 k t484 t487 y496 y505 true)) else (letterbaglaw30_ShiftWrong.j0 k t484 t487 y496 y505 true))) = some true := H
       have A15 := Aside0.mk A150
       clear A150
       replace H := Option.bind_eq_some_iff.mp H
       obtain ⟨⟨t534, t535, t536, t537⟩, A160, H⟩ := H
       replace H : (if t512 = 5 then (if t519 = 5 then (if t523 = 300 then (if t527 = 301 then (if t533 = 300 then (letterbaglaw30_ShiftWrong.j0 k t484 t487 y496 y505 (t537 != 301)) else (letterbaglaw30_ShiftWrong.j0 k t484 t487 y496 y505 true)) else (letterbaglaw30_ShiftWrong.j0 k t484 t487 y496 y505 true)) else (letterbaglaw30_ShiftWrong.j0 k t484 t487 y496 y505 true)) else (letterbaglaw30_ShiftWrong.j0 k t484 t487 y496 y505 true)) else (letterbaglaw30_ShiftWrong.j0 k t484 t487 y496 y505 true)) = some true := H
       have A16 := Aside0.mk A160
       clear A160
       have HC17 := Aside0.mk H
       clear H
       go_enter Try.func9, Try.ntmps9
       go_upto_region 10 with (first | ((with_reducible refine gate_callee (f := 10) rfl ?_); refine goesL_ (some 35) rfl rfl Try.func10 (by kernel_rfl) rfl #[.slice A0 l0.length c0] rfl (by (try simp only [List.map_toArray, List.map_cons, List.map_nil]); rfl) ?_; (with_reducible refine (letterbaglaw30_work.calls k _ _ l0 t484 _ ?side1 ?side2 A3.out).mono ?_); (case side1 => repeat (exact HR0.out)); (case side2 => exact HC0.out); rintro e w18 ⟨v485, rfl, ho0, hb⟩; refine ⟨_, rfl, ?_⟩; have n0_ := Aside0.mk (Kd.R_lower ho0 (below_size (by repeat ((with_reducible exact HB.out))))); have n1_ := Aside0.mk (below_step (by repeat ((with_reducible exact HB.out))) hb); clear HB; have HO486 := n0_; have HB := n1_; clear n0_ n1_; (try clear hb); (try clear hb2); (try clear hk); (try clear hi); (try clear ho0)) | ((with_reducible refine gate_callee (f := 11) rfl ?_); refine goesL_ (some 37) rfl rfl Try.func11 (by kernel_rfl) rfl #[.slice A1 l1.length c1] rfl (by (try simp only [List.map_toArray, List.map_cons, List.map_nil]); rfl) ?_; (with_reducible refine (letterbaglaw30_hours.calls k _ _ l1 t487 _ ?side1 ?side2 A4.out).mono ?_); (case side1 => repeat (exact (Kd.C_below HR1.out HB.out))); (case side2 => exact HC1.out); rintro e w19 ⟨v488, rfl, ho0, hb⟩; refine ⟨_, rfl, ?_⟩; have n0_ := Aside0.mk (Kd.R_below (by (with_reducible repeat (fail)); exact HO486.out) hb); have n1_ := Aside0.mk (Kd.R_lower ho0 (below_size (by repeat ((with_reducible exact HB.out))))); have n2_ := Aside0.mk (below_step (by repeat ((with_reducible exact HB.out))) hb); clear HO486; clear HB; have HO486 := n0_; have HO489 := n1_; have HB := n2_; clear n0_ n1_ n2_; (try clear hb); (try clear hb2); (try clear hk); (try clear hi); (try clear ho0)) | ((with_reducible refine gate_dst (N := 38) rfl ?_); (try (refine gate_guard (by rfl) ?_; dsimp only)); refine Kd.R_lit k45 _ 45 ?hg (N := 38) ?hd (xs := ([] : List (S45))) (inner := []) (ok := fun _ => True) (okp := fun _ => True) ?hr ?hp (fun _ hk => hk) trivial (Below.refl _ _) (Nat.le_refl _) (by simp) ?_; (case hd => rfl); (case hg => rfl); (case hr => (go_simp; done)); (case hp => exact (Reps.none _ _)); intro v491 w20 ho21 hb hg_ hnew_; clear hg_ hnew_; (rw [← Ny490.out] at ho21); have n0_ := Aside0.mk (Kd.R_elder' (by (with_reducible repeat (fail)); exact HO486.out) (Kd.R_base ho21) hb); have n1_ := Aside0.mk (Kd.R_below (by (with_reducible repeat (fail)); exact HO489.out) hb); have n2_ := Aside0.mk (Kd.R_lower (Kd.R_new' ho21 (Kd.R_lt (by (with_reducible repeat (fail)); exact HO486.out))) (below_size (by repeat ((with_reducible exact HB.out))))); have n3_ := Aside0.mk (below_step (by repeat ((with_reducible exact HB.out))) hb); clear HO486; clear HO489; clear HB; have HO486 := n0_; have HO489 := n1_; have HO492 := n2_; have HB := n3_; clear n0_ n1_ n2_ n3_; clear hb ho21; obtain ⟨Ao23, co23, eo23⟩ := Kd.R_slice HO486.out; subst eo23) | ((with_reducible refine gate_builtin (b := .append) (xs := #[.tmp 38, .tmp 39]) rfl ?_); (try (refine gate_guard (by rfl) ?_; dsimp only)); at_builtin; refine Kd.R_append_rows k45 (w0 := w) w.heap.size rfl (.tmp 38) (.tmp 39) 25 45 (.agg #[(.int .i64 0), (.int .i64 0), (.int .i64 0), (.int .i64 0)]) 32 rfl Try.underlying25 info45 rfl (by decide) (by omega) v491 y490 t484 _ _ _ (fun k_ => some k_ ≠ (.slice Ao23 t484.length co23 : Value).ownBlock) (fun _ => False) rfl rfl ?aO ?aR (fun _ _ h => h) (fun _ h => h.elim) ?aF ?aB ?aS ?aL ?_; (case aR => repeat (exact (Kd.R_reads' HO486.out).2.2)); (case aB => exact (by repeat ((with_reducible exact HB.out)))); (case aF => exact (fun k_ hk => Kd.fresh' (Kd.R_lt (by (with_reducible repeat (fail)); exact HO486.out)) k_ hk)); (case aO => exact (by (with_reducible repeat (fail)); exact Kd.R_mono HO492.out (fun _ hk => hk.2))); (case aS => exact (below_size (by repeat ((with_reducible exact HB.out))))); (case aL => have := LMc5.out; omega); intro v494 w22 ho hb hg hat; rw [← Ny493.out] at ho; have n0_ := Aside0.mk (Kd.R_after (ok := (fun _ => True)) (by (with_reducible repeat (fail)); exact HO486.out) hg hat); have n1_ := Aside0.mk (Kd.R_over' (by (with_reducible repeat (fail)); exact HO489.out) (Kd.R_typed (by (with_reducible repeat (fail)); exact HO492.out)) (by decide) hg); have n2_ := Aside0.mk (hb); have n3_ := Aside0.mk (ho); clear HO486; clear HO489; clear HB; clear HO492; have HO486 := n0_; have HO489 := n1_; have HB := n2_; have HO495 := n3_; clear n0_ n1_ n2_ n3_; clear ho hb hg hat) | ((with_reducible refine gate_builtin (b := .append) (xs := #[.tmp 40, .tmp 42]) rfl ?_); (try (refine gate_guard (by rfl) ?_; dsimp only)); at_builtin; refine Kd.R_append k45 (w0 := w) w.heap.size rfl (.tmp 40) (.tmp 42) 25 45 (.agg #[(.int .i64 0), (.int .i64 0), (.int .i64 0), (.int .i64 0)]) 32 rfl Try.underlying25 info45 rfl (by decide) (by omega) v494 y493 (⟨0, 0, 0, 0⟩ : S45) [.int .i64 0, .int .i64 0, .int .i64 0, .int .i64 0] (fun k_ => some k_ ≠ (.slice Ao23 t484.length co23 : Value).ownBlock) (fun _ => False) rfl rfl ?aP (fun _ hk => hk.elim) ?aF ?aO ?aB ?aS ?aL ?_; (case aP => exact k45_mkM _ _ _ (⟨0, 0, 0, 0⟩ : S45)); (case aB => exact (by repeat ((with_reducible exact HB.out)))); (case aF => exact (fun k_ hk => Kd.fresh' (Kd.R_lt (by (with_reducible repeat (fail)); exact HO486.out)) k_ hk)); (case aO => exact (by (with_reducible repeat (fail)); exact HO495.out)); (case aS => exact (below_size (by repeat ((with_reducible exact HB.out))))); (case aL => have := LMc6.out; omega); intro v497 w24 ho hb hg hat; rw [← Ny496.out] at ho; have n0_ := Aside0.mk (Kd.R_after (ok := (fun _ => True)) (by (with_reducible repeat (fail)); exact HO486.out) hg hat); have n1_ := Aside0.mk (Kd.R_over' (by (with_reducible repeat (fail)); exact HO489.out) (Kd.R_typed (by (with_reducible repeat (fail)); exact HO495.out)) (by decide) hg); have n2_ := Aside0.mk (hb); have n3_ := Aside0.mk (ho); clear HO486; clear HO489; clear HB; clear HO495; have HO486 := n0_; have HO489 := n1_; have HB := n2_; have HO498 := n3_; clear n0_ n1_ n2_ n3_; clear ho hb hg hat) | ((with_reducible refine gate_dst (N := 44) rfl ?_); (try (refine gate_guard (by rfl) ?_; dsimp only)); refine Kd.R_lit k47 _ 47 ?hg (N := 44) ?hd (xs := ([] : List (S47))) (inner := []) (ok := fun _ => True) (okp := fun _ => True) ?hr ?hp (fun _ hk => hk) trivial (Below.refl _ _) (Nat.le_refl _) (by simp) ?_; (case hd => rfl); (case hg => rfl); (case hr => (go_simp; done)); (case hp => exact (Reps.none _ _)); intro v500 w25 ho26 hb hg_ hnew_; clear hg_ hnew_; (rw [← Ny499.out] at ho26); have n0_ := Aside0.mk (Kd.R_below (by (with_reducible repeat (fail)); exact HO486.out) hb); have n1_ := Aside0.mk (Kd.R_elder' (by (with_reducible repeat (fail)); exact HO489.out) (Kd.R_base ho26) hb); have n2_ := Aside0.mk (Kd.R_below (by (with_reducible repeat (fail)); exact HO498.out) hb); have n3_ := Aside0.mk (Kd.R_lower (Kd.R_new' ho26 (Kd.R_lt (by (with_reducible repeat (fail)); exact HO489.out))) (below_size (by repeat ((with_reducible exact HB.out))))); have n4_ := Aside0.mk (below_step (by repeat ((with_reducible exact HB.out))) hb); clear HO486; clear HO489; clear HO498; clear HB; have HO486 := n0_; have HO489 := n1_; have HO498 := n2_; have HO501 := n3_; have HB := n4_; clear n0_ n1_ n2_ n3_ n4_; clear hb ho26; obtain ⟨Ao28, co28, eo28⟩ := Kd.R_slice HO489.out; subst eo28) | ((with_reducible refine gate_builtin (b := .append) (xs := #[.tmp 44, .tmp 45]) rfl ?_); (try (refine gate_guard (by rfl) ?_; dsimp only)); at_builtin; refine Kd.R_append_rows k47 (w0 := w) w.heap.size rfl (.tmp 44) (.tmp 45) 27 47 (.agg #[(.int .i64 0), (.int .i64 0)]) 16 rfl Try.underlying27 info47 rfl (by decide) (by omega) v500 y499 t487 _ _ _ (fun k_ => some k_ ≠ (.slice Ao28 t487.length co28 : Value).ownBlock) (fun _ => False) rfl rfl ?aO ?aR (fun _ _ h => h) (fun _ h => h.elim) ?aF ?aB ?aS ?aL ?_; (case aR => repeat (exact (Kd.R_reads' HO489.out).2.2)); (case aB => exact (by repeat ((with_reducible exact HB.out)))); (case aF => exact (fun k_ hk => Kd.fresh' (Kd.R_lt (by (with_reducible repeat (fail)); exact HO489.out)) k_ hk)); (case aO => exact (by (with_reducible repeat (fail)); exact Kd.R_mono HO501.out (fun _ hk => hk.2))); (case aS => exact (below_size (by repeat ((with_reducible exact HB.out))))); (case aL => have := LMc7.out; omega); intro v503 w27 ho hb hg hat; rw [← Ny502.out] at ho; have n0_ := Aside0.mk (Kd.R_over' (by (with_reducible repeat (fail)); exact HO486.out) (Kd.R_typed (by (with_reducible repeat (fail)); exact HO501.out)) (by decide) hg); have n1_ := Aside0.mk (Kd.R_after (ok := (fun _ => True)) (by (with_reducible repeat (fail)); exact HO489.out) hg hat); have n2_ := Aside0.mk (Kd.R_over' (by (with_reducible repeat (fail)); exact HO498.out) (Kd.R_typed (by (with_reducible repeat (fail)); exact HO501.out)) (by decide) hg); have n3_ := Aside0.mk (hb); have n4_ := Aside0.mk (ho); clear HO486; clear HO489; clear HO498; clear HB; clear HO501; have HO486 := n0_; have HO489 := n1_; have HO498 := n2_; have HB := n3_; have HO504 := n4_; clear n0_ n1_ n2_ n3_ n4_; clear ho hb hg hat) | ((with_reducible refine gate_builtin (b := .append) (xs := #[.tmp 46, .tmp 48]) rfl ?_); (try (refine gate_guard (by rfl) ?_; dsimp only)); at_builtin; refine Kd.R_append k47 (w0 := w) w.heap.size rfl (.tmp 46) (.tmp 48) 27 47 (.agg #[(.int .i64 0), (.int .i64 0)]) 16 rfl Try.underlying27 info47 rfl (by decide) (by omega) v503 y502 (⟨300, 300⟩ : S47) [.int .i64 300, .int .i64 300] (fun k_ => some k_ ≠ (.slice Ao28 t487.length co28 : Value).ownBlock) (fun _ => False) rfl rfl ?aP (fun _ hk => hk.elim) ?aF ?aO ?aB ?aS ?aL ?_; (case aP => exact k47_mkM _ _ _ (⟨300, 300⟩ : S47)); (case aB => exact (by repeat ((with_reducible exact HB.out)))); (case aF => exact (fun k_ hk => Kd.fresh' (Kd.R_lt (by (with_reducible repeat (fail)); exact HO489.out)) k_ hk)); (case aO => exact (by (with_reducible repeat (fail)); exact HO504.out)); (case aS => exact (below_size (by repeat ((with_reducible exact HB.out))))); (case aL => have := LMc8.out; omega); intro v506 w29 ho hb hg hat; rw [← Ny505.out] at ho; have n0_ := Aside0.mk (Kd.R_over' (by (with_reducible repeat (fail)); exact HO486.out) (Kd.R_typed (by (with_reducible repeat (fail)); exact HO504.out)) (by decide) hg); have n1_ := Aside0.mk (Kd.R_after (ok := (fun _ => True)) (by (with_reducible repeat (fail)); exact HO489.out) hg hat); have n2_ := Aside0.mk (Kd.R_over' (by (with_reducible repeat (fail)); exact HO498.out) (Kd.R_typed (by (with_reducible repeat (fail)); exact HO504.out)) (by decide) hg); have n3_ := Aside0.mk (hb); have n4_ := Aside0.mk (ho); clear HO486; clear HO489; clear HO498; clear HB; clear HO504; have HO486 := n0_; have HO489 := n1_; have HO498 := n2_; have HB := n3_; have HO507 := n4_; clear n0_ n1_ n2_ n3_ n4_; clear ho hb hg hat) | ((with_reducible refine gate_dst (N := 51) rfl ?_); (try (refine gate_guard (by rfl) ?_; dsimp only)); refine Kd.R_make k45 _ 45 rfl (N := 51) rfl 25 _ _ rfl 201 rfl rfl Try.underlying25 (.agg #[(.int .i64 0), (.int .i64 0), (.int .i64 0), (.int .i64 0)]) 32 info45 rfl (by decide) (by omega) z45 (ok := fun _ => True) (okp := fun _ => True) (k45_mkM _ _ _ z45 ) (fun _ hk => hk) trivial (by omega) (by omega) (Below.refl _ _) (Nat.le_refl _) ?_; intro v509 w30 ho31 hb hg_ hnew_; clear hg_ hnew_; ((simp only [Int.reduceToNat] at ho31; rw [← Ny508.out] at ho31)); have n0_ := Aside0.mk (Kd.R_elder' (by (with_reducible repeat (fail)); exact HO486.out) (Kd.R_base ho31) hb); have n1_ := Aside0.mk (Kd.R_below (by (with_reducible repeat (fail)); exact HO489.out) hb); have n2_ := Aside0.mk (Kd.R_elder' (by (with_reducible repeat (fail)); exact HO498.out) (Kd.R_base ho31) hb); have n3_ := Aside0.mk (Kd.R_below (by (with_reducible repeat (fail)); exact HO507.out) hb); have n4_ := Aside0.mk (Kd.R_lower (Kd.R_new' (Kd.R_new' ho31 (Kd.R_lt (by (with_reducible repeat (fail)); exact HO486.out))) (Kd.R_lt (by (with_reducible repeat (fail)); exact HO498.out))) (below_size (by repeat ((with_reducible exact HB.out))))); have n5_ := Aside0.mk (below_step (by repeat ((with_reducible exact HB.out))) hb); clear HO486; clear HO489; clear HO498; clear HO507; clear HB; have HO486 := n0_; have HO489 := n1_; have HO498 := n2_; have HO507 := n3_; have HO510 := n4_; have HB := n5_; clear n0_ n1_ n2_ n3_ n4_ n5_; clear hb ho31; obtain ⟨Ao32, co32, eo32⟩ := Kd.R_slice HO510.out; subst eo32; obtain ⟨Ao33, co33, eo33⟩ := Kd.R_slice HO507.out; subst eo33) | ((with_reducible refine gate_callee (f := 12) rfl ?_); refine goesL_ (some 53) rfl rfl Try.func12 (by kernel_rfl) rfl #[.slice Ao32 y508.length co32, .slice Ao33 y505.length co33] rfl (by (try simp only [List.map_toArray, List.map_cons, List.map_nil]); rfl) ?_; (with_reducible refine (shift_Make.calls _ _ y508 _ _ y505 t511 t512 _ ?side1 ?side2 ?side3 ?side4 A10.out).mono ?_); (case side1 => repeat (exact (Kd.R_reads' HO510.out).2.2)); (case side2 => exact (Kd.R_reads' HO510.out).2.1); (case side3 => repeat (exact (Kd.R_reads' HO507.out).2.2)); (case side4 => exact (Kd.R_reads' HO507.out).2.1); rintro e w34 ⟨v513, rfl, ho0, hb⟩; refine ⟨_, rfl, ?_⟩; have n0_ := Aside0.mk (Kd.R_below (by (with_reducible repeat (fail)); exact HO486.out) hb); have n1_ := Aside0.mk (Kd.R_below (by (with_reducible repeat (fail)); exact HO489.out) hb); have n2_ := Aside0.mk (Kd.R_below (by (with_reducible repeat (fail)); exact HO498.out) hb); have n3_ := Aside0.mk (Kd.R_below (by (with_reducible repeat (fail)); exact HO507.out) hb); have n4_ := Aside0.mk (Kd.R_below (by (with_reducible repeat (fail)); exact HO510.out) hb); have n5_ := Aside0.mk (Kd.R_lower ho0 (below_size (by repeat ((with_reducible exact HB.out))))); have n6_ := Aside0.mk (below_step (by repeat ((with_reducible exact HB.out))) hb); clear HO486; clear HO489; clear HO498; clear HO507; clear HO510; clear HB; have HO486 := n0_; have HO489 := n1_; have HO498 := n2_; have HO507 := n3_; have HO510 := n4_; have HO514 := n5_; have HB := n6_; clear n0_ n1_ n2_ n3_ n4_ n5_ n6_; (try clear hb); (try clear hb2); (try clear hk); (try clear hi); (try clear ho0)) | ((with_reducible refine gate_dst (N := 58) rfl ?_); (try (refine gate_guard (by rfl) ?_; dsimp only)); refine Kd.R_make k47 _ 47 rfl (N := 58) rfl 27 _ _ rfl 201 rfl rfl Try.underlying27 (.agg #[(.int .i64 0), (.int .i64 0)]) 16 info47 rfl (by decide) (by omega) z47 (ok := fun _ => True) (okp := fun _ => True) (k47_mkM _ _ _ z47 ) (fun _ hk => hk) trivial (by omega) (by omega) (Below.refl _ _) (Nat.le_refl _) ?_; intro v516 w35 ho36 hb hg_ hnew_; clear hg_ hnew_; ((simp only [Int.reduceToNat] at ho36; rw [← Ny515.out] at ho36)); have n0_ := Aside0.mk (Kd.R_below (by (with_reducible repeat (fail)); exact HO486.out) hb); have n1_ := Aside0.mk (Kd.R_elder' (by (with_reducible repeat (fail)); exact HO489.out) (Kd.R_base ho36) hb); have n2_ := Aside0.mk (Kd.R_below (by (with_reducible repeat (fail)); exact HO498.out) hb); have n3_ := Aside0.mk (Kd.R_elder' (by (with_reducible repeat (fail)); exact HO507.out) (Kd.R_base ho36) hb); have n4_ := Aside0.mk (Kd.R_below (by (with_reducible repeat (fail)); exact HO510.out) hb); have n5_ := Aside0.mk (Kd.R_below (by (with_reducible repeat (fail)); exact HO514.out) hb); have n6_ := Aside0.mk (Kd.R_lower (Kd.R_new' (Kd.R_new' ho36 (Kd.R_lt (by (with_reducible repeat (fail)); exact HO489.out))) (Kd.R_lt (by (with_reducible repeat (fail)); exact HO507.out))) (below_size (by repeat ((with_reducible exact HB.out))))); have n7_ := Aside0.mk (below_step (by repeat ((with_reducible exact HB.out))) hb); clear HO486; clear HO489; clear HO498; clear HO507; clear HO510; clear HO514; clear HB; have HO486 := n0_; have HO489 := n1_; have HO498 := n2_; have HO507 := n3_; have HO510 := n4_; have HO514 := n5_; have HO517 := n6_; have HB := n7_; clear n0_ n1_ n2_ n3_ n4_ n5_ n6_ n7_; clear hb ho36; obtain ⟨Ao37, co37, eo37⟩ := Kd.R_slice HO498.out; subst eo37; obtain ⟨Ao38, co38, eo38⟩ := Kd.R_slice HO517.out; subst eo38) | ((with_reducible refine gate_callee (f := 12) rfl ?_); refine goesL_ (some 59) rfl rfl Try.func12 (by kernel_rfl) rfl #[.slice Ao37 y496.length co37, .slice Ao38 y515.length co38] rfl (by (try simp only [List.map_toArray, List.map_cons, List.map_nil]); rfl) ?_; (with_reducible refine (shift_Make.calls _ _ y496 _ _ y515 t518 t519 _ ?side1 ?side2 ?side3 ?side4 A12.out).mono ?_); (case side1 => repeat (exact (Kd.R_reads' HO498.out).2.2)); (case side2 => exact (Kd.R_reads' HO498.out).2.1); (case side3 => repeat (exact (Kd.R_reads' HO517.out).2.2)); (case side4 => exact (Kd.R_reads' HO517.out).2.1); rintro e w39 ⟨v520, rfl, ho0, hb⟩; refine ⟨_, rfl, ?_⟩; have n0_ := Aside0.mk (Kd.R_below (by (with_reducible repeat (fail)); exact HO486.out) hb); have n1_ := Aside0.mk (Kd.R_below (by (with_reducible repeat (fail)); exact HO489.out) hb); have n2_ := Aside0.mk (Kd.R_below (by (with_reducible repeat (fail)); exact HO498.out) hb); have n3_ := Aside0.mk (Kd.R_below (by (with_reducible repeat (fail)); exact HO507.out) hb); have n4_ := Aside0.mk (Kd.R_below (by (with_reducible repeat (fail)); exact HO510.out) hb); have n5_ := Aside0.mk (Kd.R_elder' (by (with_reducible repeat (fail)); exact HO514.out) (Kd.R_base ho0) hb); have n6_ := Aside0.mk (Kd.R_below (by (with_reducible repeat (fail)); exact HO517.out) hb); have n7_ := Aside0.mk (Kd.R_lower (Kd.R_new' ho0 (Kd.R_lt (by (with_reducible repeat (fail)); exact HO514.out))) (below_size (by repeat ((with_reducible exact HB.out))))); have n8_ := Aside0.mk (below_step (by repeat ((with_reducible exact HB.out))) hb); clear HO486; clear HO489; clear HO498; clear HO507; clear HO510; clear HO514; clear HO517; clear HB; have HO486 := n0_; have HO489 := n1_; have HO498 := n2_; have HO507 := n3_; have HO510 := n4_; have HO514 := n5_; have HO517 := n6_; have HO521 := n7_; have HB := n8_; clear n0_ n1_ n2_ n3_ n4_ n5_ n6_ n7_ n8_; (try clear hb); (try clear hb2); (try clear hk); (try clear hi); (try clear ho0)) | ((with_reducible refine gate_callee (f := 12) rfl ?_); refine goesL_ (some 65) rfl rfl Try.func12 (by kernel_rfl) rfl #[.slice Ao37 y496.length co37, .slice Ao33 y505.length co33] rfl (by (try simp only [List.map_toArray, List.map_cons, List.map_nil]); rfl) ?_; (with_reducible refine (shift_Make.calls _ _ y496 _ _ y505 t522 t523 _ ?side1 ?side2 ?side3 ?side4 A13.out).mono ?_); (case side1 => repeat (exact (Kd.R_reads' HO498.out).2.2)); (case side2 => exact (Kd.R_reads' HO498.out).2.1); (case side3 => repeat (exact (Kd.R_reads' HO507.out).2.2)); (case side4 => exact (Kd.R_reads' HO507.out).2.1); rintro e w40 ⟨v524, rfl, ho0, hb⟩; refine ⟨_, rfl, ?_⟩; have n0_ := Aside0.mk (Kd.R_below (by (with_reducible repeat (fail)); exact HO486.out) hb); have n1_ := Aside0.mk (Kd.R_below (by (with_reducible repeat (fail)); exact HO489.out) hb); have n2_ := Aside0.mk (Kd.R_below (by (with_reducible repeat (fail)); exact HO498.out) hb); have n3_ := Aside0.mk (Kd.R_below (by (with_reducible repeat (fail)); exact HO507.out) hb); have n4_ := Aside0.mk (Kd.R_below (by (with_reducible repeat (fail)); exact HO510.out) hb); have n5_ := Aside0.mk (Kd.R_elder' (by (with_reducible repeat (fail)); exact HO514.out) (Kd.R_base ho0) hb); have n6_ := Aside0.mk (Kd.R_below (by (with_reducible repeat (fail)); exact HO517.out) hb); have n7_ := Aside0.mk (Kd.R_elder' (by (with_reducible repeat (fail)); exact HO521.out) (Kd.R_base ho0) hb); have n8_ := Aside0.mk (Kd.R_lower (Kd.R_new' (Kd.R_new' ho0 (Kd.R_lt (by (with_reducible repeat (fail)); exact HO514.out))) (Kd.R_lt (by (with_reducible repeat (fail)); exact HO521.out))) (below_size (by repeat ((with_reducible exact HB.out))))); have n9_ := Aside0.mk (below_step (by repeat ((with_reducible exact HB.out))) hb); clear HO486; clear HO489; clear HO498; clear HO507; clear HO510; clear HO514; clear HO517; clear HO521; clear HB; have HO486 := n0_; have HO489 := n1_; have HO498 := n2_; have HO507 := n3_; have HO510 := n4_; have HO514 := n5_; have HO517 := n6_; have HO521 := n7_; have HO525 := n8_; have HB := n9_; clear n0_ n1_ n2_ n3_ n4_ n5_ n6_ n7_ n8_ n9_; (try clear hb); (try clear hb2); (try clear hk); (try clear hi); (try clear ho0)) | ((with_reducible refine gate_callee (f := 12) rfl ?_); refine goesL_ (some 71) rfl rfl Try.func12 (by kernel_rfl) rfl #[.slice Ao23 t484.length co23, .slice Ao33 y505.length co33] rfl (by (try simp only [List.map_toArray, List.map_cons, List.map_nil]); rfl) ?_; (with_reducible refine (shift_Make.calls _ _ t484 _ _ y505 t526 t527 _ ?side1 ?side2 ?side3 ?side4 A14.out).mono ?_); (case side1 => repeat (exact (Kd.R_reads' HO486.out).2.2)); (case side2 => exact (Kd.R_reads' HO486.out).2.1); (case side3 => repeat (exact (Kd.R_reads' HO507.out).2.2)); (case side4 => exact (Kd.R_reads' HO507.out).2.1); rintro e w41 ⟨v528, rfl, ho0, hb⟩; refine ⟨_, rfl, ?_⟩; have n0_ := Aside0.mk (Kd.R_below (by (with_reducible repeat (fail)); exact HO486.out) hb); have n1_ := Aside0.mk (Kd.R_below (by (with_reducible repeat (fail)); exact HO489.out) hb); have n2_ := Aside0.mk (Kd.R_below (by (with_reducible repeat (fail)); exact HO498.out) hb); have n3_ := Aside0.mk (Kd.R_below (by (with_reducible repeat (fail)); exact HO507.out) hb); have n4_ := Aside0.mk (Kd.R_below (by (with_reducible repeat (fail)); exact HO510.out) hb); have n5_ := Aside0.mk (Kd.R_elder' (by (with_reducible repeat (fail)); exact HO514.out) (Kd.R_base ho0) hb); have n6_ := Aside0.mk (Kd.R_below (by (with_reducible repeat (fail)); exact HO517.out) hb); have n7_ := Aside0.mk (Kd.R_elder' (by (with_reducible repeat (fail)); exact HO521.out) (Kd.R_base ho0) hb); have n8_ := Aside0.mk (Kd.R_elder' (by (with_reducible repeat (fail)); exact HO525.out) (Kd.R_base ho0) hb); have n9_ := Aside0.mk (Kd.R_lower (Kd.R_new' (Kd.R_new' (Kd.R_new' ho0 (Kd.R_lt (by (with_reducible repeat (fail)); exact HO514.out))) (Kd.R_lt (by (with_reducible repeat (fail)); exact HO521.out))) (Kd.R_lt (by (with_reducible repeat (fail)); exact HO525.out))) (below_size (by repeat ((with_reducible exact HB.out))))); have n10_ := Aside0.mk (below_step (by repeat ((with_reducible exact HB.out))) hb); clear HO486; clear HO489; clear HO498; clear HO507; clear HO510; clear HO514; clear HO517; clear HO521; clear HO525; clear HB; have HO486 := n0_; have HO489 := n1_; have HO498 := n2_; have HO507 := n3_; have HO510 := n4_; have HO514 := n5_; have HO517 := n6_; have HO521 := n7_; have HO525 := n8_; have HO529 := n9_; have HB := n10_; clear n0_ n1_ n2_ n3_ n4_ n5_ n6_ n7_ n8_ n9_ n10_; (try clear hb); (try clear hb2); (try clear hk); (try clear hi); (try clear ho0)) | ((with_reducible refine gate_callee (f := 18) rfl ?_); refine goesL_ (some 77) rfl rfl Try.func18 (by kernel_rfl) rfl #[.slice Ao37 y496.length co37, .slice Ao33 y505.length co33] rfl (by (try simp only [List.map_toArray, List.map_cons, List.map_nil]); rfl) ?_; (with_reducible refine (shift_Excess.calls k _ _ y496 _ _ y505 t530 t531 t532 t533 _ ?side1 ?side2 ?side3 ?side4 A15.out).mono ?_); (case side1 => repeat (exact (Kd.R_reads' HO498.out).2.2)); (case side2 => exact (Kd.R_reads' HO498.out).2.1); (case side3 => repeat (exact (Kd.R_reads' HO507.out).2.2)); (case side4 => exact (Kd.R_reads' HO507.out).2.1); rintro e w42 ⟨rfl, hb⟩; refine ⟨_, rfl, ?_⟩; have n0_ := Aside0.mk (Kd.R_below (by (with_reducible repeat (fail)); exact HO486.out) hb); have n1_ := Aside0.mk (Kd.R_below (by (with_reducible repeat (fail)); exact HO489.out) hb); have n2_ := Aside0.mk (Kd.R_below (by (with_reducible repeat (fail)); exact HO498.out) hb); have n3_ := Aside0.mk (Kd.R_below (by (with_reducible repeat (fail)); exact HO507.out) hb); have n4_ := Aside0.mk (Kd.R_below (by (with_reducible repeat (fail)); exact HO510.out) hb); have n5_ := Aside0.mk (Kd.R_below (by (with_reducible repeat (fail)); exact HO514.out) hb); have n6_ := Aside0.mk (Kd.R_below (by (with_reducible repeat (fail)); exact HO517.out) hb); have n7_ := Aside0.mk (Kd.R_below (by (with_reducible repeat (fail)); exact HO521.out) hb); have n8_ := Aside0.mk (Kd.R_below (by (with_reducible repeat (fail)); exact HO525.out) hb); have n9_ := Aside0.mk (Kd.R_below (by (with_reducible repeat (fail)); exact HO529.out) hb); have n10_ := Aside0.mk (below_step (by repeat ((with_reducible exact HB.out))) hb); clear HO486; clear HO489; clear HO498; clear HO507; clear HO510; clear HO514; clear HO517; clear HO521; clear HO525; clear HO529; clear HB; have HO486 := n0_; have HO489 := n1_; have HO498 := n2_; have HO507 := n3_; have HO510 := n4_; have HO514 := n5_; have HO517 := n6_; have HO521 := n7_; have HO525 := n8_; have HO529 := n9_; have HB := n10_; clear n0_ n1_ n2_ n3_ n4_ n5_ n6_ n7_ n8_ n9_ n10_; (try clear hb); (try clear hb2); (try clear hk); (try clear hi)) | ((with_reducible refine gate_callee (f := 18) rfl ?_); refine goesL_ (some 85) rfl rfl Try.func18 (by kernel_rfl) rfl #[.slice Ao23 t484.length co23, .slice Ao33 y505.length co33] rfl (by (try simp only [List.map_toArray, List.map_cons, List.map_nil]); rfl) ?_; (with_reducible refine (shift_Excess.calls k _ _ t484 _ _ y505 t534 t535 t536 t537 _ ?side1 ?side2 ?side3 ?side4 A16.out).mono ?_); (case side1 => repeat (exact (Kd.R_reads' HO486.out).2.2)); (case side2 => exact (Kd.R_reads' HO486.out).2.1); (case side3 => repeat (exact (Kd.R_reads' HO507.out).2.2)); (case side4 => exact (Kd.R_reads' HO507.out).2.1); rintro e w43 ⟨rfl, hb⟩; refine ⟨_, rfl, ?_⟩; have n0_ := Aside0.mk (Kd.R_below (by (with_reducible repeat (fail)); exact HO486.out) hb); have n1_ := Aside0.mk (Kd.R_below (by (with_reducible repeat (fail)); exact HO489.out) hb); have n2_ := Aside0.mk (Kd.R_below (by (with_reducible repeat (fail)); exact HO498.out) hb); have n3_ := Aside0.mk (Kd.R_below (by (with_reducible repeat (fail)); exact HO507.out) hb); have n4_ := Aside0.mk (Kd.R_below (by (with_reducible repeat (fail)); exact HO510.out) hb); have n5_ := Aside0.mk (Kd.R_below (by (with_reducible repeat (fail)); exact HO514.out) hb); have n6_ := Aside0.mk (Kd.R_below (by (with_reducible repeat (fail)); exact HO517.out) hb); have n7_ := Aside0.mk (Kd.R_below (by (with_reducible repeat (fail)); exact HO521.out) hb); have n8_ := Aside0.mk (Kd.R_below (by (with_reducible repeat (fail)); exact HO525.out) hb); have n9_ := Aside0.mk (Kd.R_below (by (with_reducible repeat (fail)); exact HO529.out) hb); have n10_ := Aside0.mk (below_step (by repeat ((with_reducible exact HB.out))) hb); clear HO486; clear HO489; clear HO498; clear HO507; clear HO510; clear HO514; clear HO517; clear HO521; clear HO525; clear HO529; clear HB; have HO486 := n0_; have HO489 := n1_; have HO498 := n2_; have HO507 := n3_; have HO510 := n4_; have HO514 := n5_; have HO517 := n6_; have HO521 := n7_; have HO525 := n8_; have HO529 := n9_; have HB := n10_; clear n0_ n1_ n2_ n3_ n4_ n5_ n6_ n7_ n8_ n9_ n10_; (try clear hb); (try clear hb2); (try clear hk); (try clear hi)))
       (try simp only [Act.put, List.setIfInBounds_toArray, List.set_cons_zero, List.set_cons_succ])
       go_cut [111] (fun v111 wc => ∃ (kq : Nat) (x111_16 : Bool), v111 = .bool x111_16 ∧ Aside0 (letterbaglaw30_ShiftWrong.j0 kq t484 t487 y496 y505 x111_16 = some true) ∧ Aside0 (kq ≤ k) ∧ Aside0 (Kd.R k45 45 wc w.heap.size (fun k_ => some k_ ≠ ((.slice Ao37 y496.length co37) : Value).ownBlock) (.slice Ao23 t484.length co23) t484) ∧ Aside0 (Kd.R k47 47 wc w.heap.size (fun k_ => some k_ ≠ ((.slice Ao33 y505.length co33) : Value).ownBlock) (.slice Ao28 t487.length co28) t487) ∧ Aside0 (Kd.R k45 45 wc w.heap.size (fun k_ => some k_ ≠ ((.slice Ao23 t484.length co23) : Value).ownBlock) (.slice Ao37 y496.length co37) y496) ∧ Aside0 (Kd.R k47 47 wc w.heap.size (fun k_ => some k_ ≠ ((.slice Ao28 t487.length co28) : Value).ownBlock) (.slice Ao33 y505.length co33) y505) ∧ Aside0 (Below w.heap.size w wc))
       case first => as_aux_lemma =>
        have H := HC17.out
        clear HC17
        by_cases c44 : t512 = 5
        ·rw [if_pos c44] at H
         have c44b0 : (t512 == 5) = true := beq_iff_eq.mpr c44
         have c44b1 : (t512 != 5) = false := bne_eq_false_iff_eq.mpr c44
         clear c44
         (skip)
         by_cases c45 : t519 = 5
         ·rw [if_pos c45] at H
          have c45b0 : (t519 == 5) = true := beq_iff_eq.mpr c45
          have c45b1 : (t519 != 5) = false := bne_eq_false_iff_eq.mpr c45
          clear c45
          by_cases c46 : t523 = 300
          ·rw [if_pos c46] at H
           have c46b0 : (t523 == 300) = true := beq_iff_eq.mpr c46
           have c46b1 : (t523 != 300) = false := bne_eq_false_iff_eq.mpr c46
           clear c46
           by_cases c47 : t527 = 301
           ·rw [if_pos c47] at H
            have c47b0 : (t527 == 301) = true := beq_iff_eq.mpr c47
            have c47b1 : (t527 != 301) = false := bne_eq_false_iff_eq.mpr c47
            clear c47
            by_cases c48 : t533 = 300
            ·rw [if_pos c48] at H
             have c48b0 : (t533 == 300) = true := beq_iff_eq.mpr c48
             have c48b1 : (t533 != 300) = false := bne_eq_false_iff_eq.mpr c48
             clear c48
             have H' := Aside0.mk H
             clear H
             go_wp2
             go_meet
             case rel => exact ⟨_, ((t537 != 301)), (by rfl), H', ⟨by omega⟩, ⟨by (with_reducible repeat (fail)); exact Kd.R_mono HO486.out (fun _ hk => hk.1.2)⟩, ⟨by (with_reducible repeat (fail)); exact Kd.R_mono HO489.out (fun _ hk => hk.1.2)⟩, ⟨by (with_reducible repeat (fail)); exact Kd.R_mono HO498.out (fun _ hk => hk.1)⟩, ⟨by (with_reducible repeat (fail)); exact Kd.R_mono HO507.out (fun _ hk => hk.1)⟩, ⟨by repeat ((with_reducible exact HB.out))⟩⟩
            ·rw [if_neg c48] at H
             have c48b0 : (t533 == 300) = false := beq_eq_false_iff_ne.mpr c48
             have c48b1 : (t533 != 300) = true := bne_iff_ne.mpr c48
             have H' := Aside0.mk H
             clear H
             go_wp2
             go_meet
             case rel => exact ⟨_, (true), (by rfl), H', ⟨by omega⟩, ⟨by (with_reducible repeat (fail)); exact Kd.R_mono HO486.out (fun _ hk => hk.1.2)⟩, ⟨by (with_reducible repeat (fail)); exact Kd.R_mono HO489.out (fun _ hk => hk.1.2)⟩, ⟨by (with_reducible repeat (fail)); exact Kd.R_mono HO498.out (fun _ hk => hk.1)⟩, ⟨by (with_reducible repeat (fail)); exact Kd.R_mono HO507.out (fun _ hk => hk.1)⟩, ⟨by repeat ((with_reducible exact HB.out))⟩⟩
           ·rw [if_neg c47] at H
            have c47b0 : (t527 == 301) = false := beq_eq_false_iff_ne.mpr c47
            have c47b1 : (t527 != 301) = true := bne_iff_ne.mpr c47
            have H' := Aside0.mk H
            clear H
            go_wp2
            go_meet
            case rel => exact ⟨_, (true), (by rfl), H', ⟨by omega⟩, ⟨by (with_reducible repeat (fail)); exact Kd.R_mono HO486.out (fun _ hk => hk.1.2)⟩, ⟨by (with_reducible repeat (fail)); exact Kd.R_mono HO489.out (fun _ hk => hk.1.2)⟩, ⟨by (with_reducible repeat (fail)); exact Kd.R_mono HO498.out (fun _ hk => hk.1)⟩, ⟨by (with_reducible repeat (fail)); exact Kd.R_mono HO507.out (fun _ hk => hk.1)⟩, ⟨by repeat ((with_reducible exact HB.out))⟩⟩
          ·rw [if_neg c46] at H
           have c46b0 : (t523 == 300) = false := beq_eq_false_iff_ne.mpr c46
           have c46b1 : (t523 != 300) = true := bne_iff_ne.mpr c46
           have H' := Aside0.mk H
           clear H
           go_wp2
           go_meet
           case rel => exact ⟨_, (true), (by rfl), H', ⟨by omega⟩, ⟨by (with_reducible repeat (fail)); exact Kd.R_mono HO486.out (fun _ hk => hk.1.2)⟩, ⟨by (with_reducible repeat (fail)); exact Kd.R_mono HO489.out (fun _ hk => hk.1.2)⟩, ⟨by (with_reducible repeat (fail)); exact Kd.R_mono HO498.out (fun _ hk => hk.1)⟩, ⟨by (with_reducible repeat (fail)); exact Kd.R_mono HO507.out (fun _ hk => hk.1)⟩, ⟨by repeat ((with_reducible exact HB.out))⟩⟩
         ·rw [if_neg c45] at H
          have c45b0 : (t519 == 5) = false := beq_eq_false_iff_ne.mpr c45
          have c45b1 : (t519 != 5) = true := bne_iff_ne.mpr c45
          have H' := Aside0.mk H
          clear H
          go_wp2
          go_meet
          case rel => exact ⟨_, (true), (by rfl), H', ⟨by omega⟩, ⟨by (with_reducible repeat (fail)); exact Kd.R_mono HO486.out (fun _ hk => hk.1.2)⟩, ⟨by (with_reducible repeat (fail)); exact Kd.R_mono HO489.out (fun _ hk => hk.1.2)⟩, ⟨by (with_reducible repeat (fail)); exact Kd.R_mono HO498.out (fun _ hk => hk.1)⟩, ⟨by (with_reducible repeat (fail)); exact Kd.R_mono HO507.out (fun _ hk => hk.1)⟩, ⟨by repeat ((with_reducible exact HB.out))⟩⟩
        ·rw [if_neg c44] at H
         have c44b0 : (t512 == 5) = false := beq_eq_false_iff_ne.mpr c44
         have c44b1 : (t512 != 5) = true := bne_iff_ne.mpr c44
         (skip)
         have H' := Aside0.mk H
         clear H
         go_wp2
         go_meet
         case rel => exact ⟨_, (true), (by rfl), H', ⟨by omega⟩, ⟨by (with_reducible repeat (fail)); exact Kd.R_mono HO486.out (fun _ hk => hk.1.2)⟩, ⟨by (with_reducible repeat (fail)); exact Kd.R_mono HO489.out (fun _ hk => hk.1.2)⟩, ⟨by (with_reducible repeat (fail)); exact Kd.R_mono HO498.out (fun _ hk => hk.1)⟩, ⟨by (with_reducible repeat (fail)); exact Kd.R_mono HO507.out (fun _ hk => hk.1)⟩, ⟨by repeat ((with_reducible exact HB.out))⟩⟩
       case rest => as_aux_lemma =>
        clear HC17
        try clear c1
        try clear p2
        try clear c4
        try clear c5
        try clear c6
        try clear c7
        try clear c8
        try clear c9
        try clear c9b0
        try clear c9b1
        try clear c10
        try clear c11
        try clear c11b0
        try clear c11b1
        try clear c12
        try clear c18
        try clear c44
        try clear c44b0
        try clear c44b1
        try clear c45
        try clear c45b0
        try clear c45b1
        try clear c46
        try clear c46b0
        try clear c46b1
        try clear c47
        try clear c47b0
        try clear c47b1
        try clear c48
        try clear c48b0
        try clear c48b1
        obtain ⟨kq, x111_16, rfl, HA, HJ16, HO_5, HO_6, HO_7, HO_8, HB⟩ := hcut
        cases kq with
        | zero => exact absurd HA.out (by simp [letterbaglaw30_ShiftWrong.j0])
        | succ kj16 =>
         have H := HA.out
         clear HA
         simp only [letterbaglaw30_ShiftWrong.j0] at H
         by_cases c49 : x111_16 = true
         ·subst c49
          have H1 : (some false) = some true := by rw [if_pos rfl] at H; exact H
          clear H
          have H := H1
          clear H1
          exact absurd H (by simp)
         ·replace c49 := Bool.eq_false_iff.mpr c49
          subst c49
          have H1 : (if 1001 ≤ 11728124029610 then ((shift_Check.f y496 y505 (List.replicate 1001 z51)).bind fun bt541 => ((shift_Check.f y496 y505 ([] : List (S51))).bind fun bt543 => ((shift_Check.f t484 y505 ([] : List (S51))).bind fun bt545 => (if bt541.1 = 0 then (if bt543.1 = (t484.length : Int) then (if bt545.1 = (t487.length : Int) then (if bt541.2 = 5 then (if bt543.2 = 300 then (letterbaglaw30_ShiftWrong.j1 kj16 t484 t487 (bt545.2 != 301)) else (letterbaglaw30_ShiftWrong.j1 kj16 t484 t487 true)) else (letterbaglaw30_ShiftWrong.j1 kj16 t484 t487 true)) else (letterbaglaw30_ShiftWrong.j1 kj16 t484 t487 true)) else (letterbaglaw30_ShiftWrong.j1 kj16 t484 t487 true)) else (letterbaglaw30_ShiftWrong.j1 kj16 t484 t487 true))))) else (none)) = some true := by rw [if_neg (show ¬ (false = true) by decide)] at H; exact H
          clear H
          have H := H1
          clear H1
          by_cases c50 : 1001 ≤ 11728124029610
          ·rw [if_pos c50] at H
           have c50b0 := eq_true c50
           have c50b1 : decide (1001 ≤ 11728124029610) = true := decide_eq_true c50
           clear c50
           obtain ⟨y538, hy538⟩ : ∃ y_ : List (S51), y_ = (List.replicate 1001 z51) := ⟨_, rfl⟩
           replace H : ((shift_Check.f y496 y505 y538).bind fun bt541 => ((shift_Check.f y496 y505 ([] : List (S51))).bind fun bt543 => ((shift_Check.f t484 y505 ([] : List (S51))).bind fun bt545 => (if bt541.1 = 0 then (if bt543.1 = (t484.length : Int) then (if bt545.1 = (t487.length : Int) then (if bt541.2 = 5 then (if bt543.2 = 300 then (letterbaglaw30_ShiftWrong.j1 kj16 t484 t487 (bt545.2 != 301)) else (letterbaglaw30_ShiftWrong.j1 kj16 t484 t487 true)) else (letterbaglaw30_ShiftWrong.j1 kj16 t484 t487 true)) else (letterbaglaw30_ShiftWrong.j1 kj16 t484 t487 true)) else (letterbaglaw30_ShiftWrong.j1 kj16 t484 t487 true)) else (letterbaglaw30_ShiftWrong.j1 kj16 t484 t487 true))))) = some true := by (rw [hy538]; with_reducible exact H)
           have Ny538 := Aside0.mk hy538
           clear hy538
           replace H := Option.bind_eq_some_iff.mp H
           obtain ⟨⟨t541, t542⟩, A510, H⟩ := H
           replace H : ((shift_Check.f y496 y505 ([] : List (S51))).bind fun bt543 => ((shift_Check.f t484 y505 ([] : List (S51))).bind fun bt545 => (if t541 = 0 then (if bt543.1 = (t484.length : Int) then (if bt545.1 = (t487.length : Int) then (if t542 = 5 then (if bt543.2 = 300 then (letterbaglaw30_ShiftWrong.j1 kj16 t484 t487 (bt545.2 != 301)) else (letterbaglaw30_ShiftWrong.j1 kj16 t484 t487 true)) else (letterbaglaw30_ShiftWrong.j1 kj16 t484 t487 true)) else (letterbaglaw30_ShiftWrong.j1 kj16 t484 t487 true)) else (letterbaglaw30_ShiftWrong.j1 kj16 t484 t487 true)) else (letterbaglaw30_ShiftWrong.j1 kj16 t484 t487 true)))) = some true := H
           have A51 := Aside0.mk A510
           clear A510
           replace H := Option.bind_eq_some_iff.mp H
           obtain ⟨⟨t543, t544⟩, A520, H⟩ := H
           replace H : ((shift_Check.f t484 y505 ([] : List (S51))).bind fun bt545 => (if t541 = 0 then (if t543 = (t484.length : Int) then (if bt545.1 = (t487.length : Int) then (if t542 = 5 then (if t544 = 300 then (letterbaglaw30_ShiftWrong.j1 kj16 t484 t487 (bt545.2 != 301)) else (letterbaglaw30_ShiftWrong.j1 kj16 t484 t487 true)) else (letterbaglaw30_ShiftWrong.j1 kj16 t484 t487 true)) else (letterbaglaw30_ShiftWrong.j1 kj16 t484 t487 true)) else (letterbaglaw30_ShiftWrong.j1 kj16 t484 t487 true)) else (letterbaglaw30_ShiftWrong.j1 kj16 t484 t487 true))) = some true := H
           have A52 := Aside0.mk A520
           clear A520
           replace H := Option.bind_eq_some_iff.mp H
           obtain ⟨⟨t545, t546⟩, A530, H⟩ := H
           replace H : (if t541 = 0 then (if t543 = (t484.length : Int) then (if t545 = (t487.length : Int) then (if t542 = 5 then (if t544 = 300 then (letterbaglaw30_ShiftWrong.j1 kj16 t484 t487 (t546 != 301)) else (letterbaglaw30_ShiftWrong.j1 kj16 t484 t487 true)) else (letterbaglaw30_ShiftWrong.j1 kj16 t484 t487 true)) else (letterbaglaw30_ShiftWrong.j1 kj16 t484 t487 true)) else (letterbaglaw30_ShiftWrong.j1 kj16 t484 t487 true)) else (letterbaglaw30_ShiftWrong.j1 kj16 t484 t487 true)) = some true := H
           have A53 := Aside0.mk A530
           clear A530
           have HC54 := Aside0.mk H
           clear H
           go_upto_region 15 with (first | ((with_reducible refine gate_dst (N := 115) rfl ?_); (try (refine gate_guard (by rfl) ?_; dsimp only)); refine Kd.R_make k51 _ 51 rfl (N := 115) rfl 29 _ _ rfl 1001 rfl rfl Try.underlying29 (.agg #[(.int .i64 0), (.int .i64 0), (.int .i64 0)]) 24 info51 rfl (by decide) (by omega) z51 (ok := fun _ => True) (okp := fun _ => True) (k51_mkM _ _ _ z51 ) (fun _ hk => hk) trivial (by omega) (by omega) (Below.refl _ _) (Nat.le_refl _) ?_; intro v539 w55 ho56 hb hg_ hnew_; clear hg_ hnew_; ((simp only [Int.reduceToNat] at ho56; rw [← Ny538.out] at ho56)); have n0_ := Aside0.mk (Kd.R_below (by (with_reducible repeat (fail)); exact HO_5.out) hb); have n1_ := Aside0.mk (Kd.R_below (by (with_reducible repeat (fail)); exact HO_6.out) hb); have n2_ := Aside0.mk (Kd.R_below (by (with_reducible repeat (fail)); exact HO_7.out) hb); have n3_ := Aside0.mk (Kd.R_below (by (with_reducible repeat (fail)); exact HO_8.out) hb); have n4_ := Aside0.mk (Kd.R_lower ho56 (below_size (by repeat ((with_reducible exact HB.out))))); have n5_ := Aside0.mk (below_step (by repeat ((with_reducible exact HB.out))) hb); clear HO_5; clear HO_6; clear HO_7; clear HO_8; clear HB; have HO_5 := n0_; have HO_6 := n1_; have HO_7 := n2_; have HO_8 := n3_; have HO540 := n4_; have HB := n5_; clear n0_ n1_ n2_ n3_ n4_ n5_; clear hb ho56; obtain ⟨Ao57, co57, eo57⟩ := Kd.R_slice HO540.out; subst eo57) | ((with_reducible refine gate_callee (f := 14) rfl ?_); refine goesL_ (some 116) rfl rfl Try.func14 (by kernel_rfl) rfl #[.slice Ao37 y496.length co37, .slice Ao33 y505.length co33, .slice Ao57 y538.length co57] rfl (by (try simp only [List.map_toArray, List.map_cons, List.map_nil]); rfl) ?_; (with_reducible refine (shift_Check.calls _ _ y496 _ _ y505 _ _ y538 t541 t542 _ ?side1 ?side2 ?side3 ?side4 ?side5 ?side6 A51.out).mono ?_); (case side1 => repeat (exact (Kd.R_reads' HO_7.out).2.2)); (case side2 => exact (Kd.R_reads' HO_7.out).2.1); (case side3 => repeat (exact (Kd.R_reads' HO_8.out).2.2)); (case side4 => exact (Kd.R_reads' HO_8.out).2.1); (case side5 => repeat (exact (Kd.R_reads' HO540.out).2.2)); (case side6 => exact (Kd.R_reads' HO540.out).2.1); rintro e w58 ⟨rfl, hb⟩; refine ⟨_, rfl, ?_⟩; have n0_ := Aside0.mk (Kd.R_below (by (with_reducible repeat (fail)); exact HO_5.out) hb); have n1_ := Aside0.mk (Kd.R_below (by (with_reducible repeat (fail)); exact HO_6.out) hb); have n2_ := Aside0.mk (Kd.R_below (by (with_reducible repeat (fail)); exact HO_7.out) hb); have n3_ := Aside0.mk (Kd.R_below (by (with_reducible repeat (fail)); exact HO_8.out) hb); have n4_ := Aside0.mk (Kd.R_below (by (with_reducible repeat (fail)); exact HO540.out) hb); have n5_ := Aside0.mk (below_step (by repeat ((with_reducible exact HB.out))) hb); clear HO_5; clear HO_6; clear HO_7; clear HO_8; clear HO540; clear HB; have HO_5 := n0_; have HO_6 := n1_; have HO_7 := n2_; have HO_8 := n3_; have HO540 := n4_; have HB := n5_; clear n0_ n1_ n2_ n3_ n4_ n5_; (try clear hb); (try clear hb2); (try clear hk); (try clear hi)) | ((with_reducible refine gate_callee (f := 14) rfl ?_); refine goesL_ (some 122) rfl rfl Try.func14 (by kernel_rfl) rfl #[.slice Ao37 y496.length co37, .slice Ao33 y505.length co33, .slice none 0 0] rfl (by (try simp only [List.map_toArray, List.map_cons, List.map_nil]); rfl) ?_; (refine (shift_Check.calls _ _ y496 _ _ y505 _ _ ([] : List (S51)) t543 t544 _ ?side1 ?side2 ?side3 ?side4 ?side5 ?side6 A52.out).mono ?_); (case side1 => repeat (exact (Kd.R_reads' HO_7.out).2.2)); (case side2 => exact (Kd.R_reads' HO_7.out).2.1); (case side3 => repeat (exact (Kd.R_reads' HO_8.out).2.2)); (case side4 => exact (Kd.R_reads' HO_8.out).2.1); (case side5 => exact Kd.C_nil _ _); (case side6 => exact Nat.le_refl _); rintro e w59 ⟨rfl, hb⟩; refine ⟨_, rfl, ?_⟩; have n0_ := Aside0.mk (Kd.R_below (by (with_reducible repeat (fail)); exact HO_5.out) hb); have n1_ := Aside0.mk (Kd.R_below (by (with_reducible repeat (fail)); exact HO_6.out) hb); have n2_ := Aside0.mk (Kd.R_below (by (with_reducible repeat (fail)); exact HO_7.out) hb); have n3_ := Aside0.mk (Kd.R_below (by (with_reducible repeat (fail)); exact HO_8.out) hb); have n4_ := Aside0.mk (Kd.R_below (by (with_reducible repeat (fail)); exact HO540.out) hb); have n5_ := Aside0.mk (below_step (by repeat ((with_reducible exact HB.out))) hb); clear HO_5; clear HO_6; clear HO_7; clear HO_8; clear HO540; clear HB; have HO_5 := n0_; have HO_6 := n1_; have HO_7 := n2_; have HO_8 := n3_; have HO540 := n4_; have HB := n5_; clear n0_ n1_ n2_ n3_ n4_ n5_; (try clear hb); (try clear hb2); (try clear hk); (try clear hi)) | ((with_reducible refine gate_callee (f := 14) rfl ?_); refine goesL_ (some 128) rfl rfl Try.func14 (by kernel_rfl) rfl #[.slice Ao23 t484.length co23, .slice Ao33 y505.length co33, .slice none 0 0] rfl (by (try simp only [List.map_toArray, List.map_cons, List.map_nil]); rfl) ?_; (refine (shift_Check.calls _ _ t484 _ _ y505 _ _ ([] : List (S51)) t545 t546 _ ?side1 ?side2 ?side3 ?side4 ?side5 ?side6 A53.out).mono ?_); (case side1 => repeat (exact (Kd.R_reads' HO_5.out).2.2)); (case side2 => exact (Kd.R_reads' HO_5.out).2.1); (case side3 => repeat (exact (Kd.R_reads' HO_8.out).2.2)); (case side4 => exact (Kd.R_reads' HO_8.out).2.1); (case side5 => exact Kd.C_nil _ _); (case side6 => exact Nat.le_refl _); rintro e w60 ⟨rfl, hb⟩; refine ⟨_, rfl, ?_⟩; have n0_ := Aside0.mk (Kd.R_below (by (with_reducible repeat (fail)); exact HO_5.out) hb); have n1_ := Aside0.mk (Kd.R_below (by (with_reducible repeat (fail)); exact HO_6.out) hb); have n2_ := Aside0.mk (Kd.R_below (by (with_reducible repeat (fail)); exact HO_7.out) hb); have n3_ := Aside0.mk (Kd.R_below (by (with_reducible repeat (fail)); exact HO_8.out) hb); have n4_ := Aside0.mk (Kd.R_below (by (with_reducible repeat (fail)); exact HO540.out) hb); have n5_ := Aside0.mk (below_step (by repeat ((with_reducible exact HB.out))) hb); clear HO_5; clear HO_6; clear HO_7; clear HO_8; clear HO540; clear HB; have HO_5 := n0_; have HO_6 := n1_; have HO_7 := n2_; have HO_8 := n3_; have HO540 := n4_; have HB := n5_; clear n0_ n1_ n2_ n3_ n4_ n5_; (try clear hb); (try clear hb2); (try clear hk); (try clear hi)))
           (try simp only [Act.put, List.setIfInBounds_toArray, List.set_cons_zero, List.set_cons_succ])
           go_cut [156] (fun v156 wc => ∃ (kq : Nat) (x156_53 : Bool), v156 = .bool x156_53 ∧ Aside0 (letterbaglaw30_ShiftWrong.j1 kq t484 t487 x156_53 = some true) ∧ Aside0 (kq ≤ kj16) ∧ Aside0 (Kd.R k45 45 wc w.heap.size (fun _ => True) (.slice Ao23 t484.length co23) t484) ∧ Aside0 (Kd.R k47 47 wc w.heap.size (fun _ => True) (.slice Ao28 t487.length co28) t487) ∧ Aside0 (Below w.heap.size w wc))
           case first => as_aux_lemma =>
            have H := HC54.out
            clear HC54
            by_cases c61 : t541 = 0
            ·rw [if_pos c61] at H
             have c61b0 : (t541 == 0) = true := beq_iff_eq.mpr c61
             have c61b1 : (t541 != 0) = false := bne_eq_false_iff_eq.mpr c61
             clear c61
             (skip)
             by_cases c62 : t543 = (t484.length : Int)
             ·rw [if_pos c62] at H
              have c62b0 : (t543 == (t484.length : Int)) = true := beq_iff_eq.mpr c62
              have c62b1 : (t543 != (t484.length : Int)) = false := bne_eq_false_iff_eq.mpr c62
              clear c62
              by_cases c63 : t545 = (t487.length : Int)
              ·rw [if_pos c63] at H
               have c63b0 : (t545 == (t487.length : Int)) = true := beq_iff_eq.mpr c63
               have c63b1 : (t545 != (t487.length : Int)) = false := bne_eq_false_iff_eq.mpr c63
               clear c63
               by_cases c64 : t542 = 5
               ·rw [if_pos c64] at H
                have c64b0 : (t542 == 5) = true := beq_iff_eq.mpr c64
                have c64b1 : (t542 != 5) = false := bne_eq_false_iff_eq.mpr c64
                clear c64
                by_cases c65 : t544 = 300
                ·rw [if_pos c65] at H
                 have c65b0 : (t544 == 300) = true := beq_iff_eq.mpr c65
                 have c65b1 : (t544 != 300) = false := bne_eq_false_iff_eq.mpr c65
                 clear c65
                 have H' := Aside0.mk H
                 clear H
                 go_wp2
                 go_meet
                 case rel => exact ⟨_, ((t546 != 301)), (by rfl), H', ⟨by have := HJ16.out; omega⟩, ⟨by (with_reducible repeat (fail)); exact Kd.R_mono HO_5.out (fun _ hk => trivial)⟩, ⟨by (with_reducible repeat (fail)); exact Kd.R_mono HO_6.out (fun _ hk => trivial)⟩, ⟨by repeat ((with_reducible exact HB.out))⟩⟩
                ·rw [if_neg c65] at H
                 have c65b0 : (t544 == 300) = false := beq_eq_false_iff_ne.mpr c65
                 have c65b1 : (t544 != 300) = true := bne_iff_ne.mpr c65
                 have H' := Aside0.mk H
                 clear H
                 go_wp2
                 go_meet
                 case rel => exact ⟨_, (true), (by rfl), H', ⟨by have := HJ16.out; omega⟩, ⟨by (with_reducible repeat (fail)); exact Kd.R_mono HO_5.out (fun _ hk => trivial)⟩, ⟨by (with_reducible repeat (fail)); exact Kd.R_mono HO_6.out (fun _ hk => trivial)⟩, ⟨by repeat ((with_reducible exact HB.out))⟩⟩
               ·rw [if_neg c64] at H
                have c64b0 : (t542 == 5) = false := beq_eq_false_iff_ne.mpr c64
                have c64b1 : (t542 != 5) = true := bne_iff_ne.mpr c64
                have H' := Aside0.mk H
                clear H
                go_wp2
                go_meet
                case rel => exact ⟨_, (true), (by rfl), H', ⟨by have := HJ16.out; omega⟩, ⟨by (with_reducible repeat (fail)); exact Kd.R_mono HO_5.out (fun _ hk => trivial)⟩, ⟨by (with_reducible repeat (fail)); exact Kd.R_mono HO_6.out (fun _ hk => trivial)⟩, ⟨by repeat ((with_reducible exact HB.out))⟩⟩
              ·rw [if_neg c63] at H
               have c63b0 : (t545 == (t487.length : Int)) = false := beq_eq_false_iff_ne.mpr c63
               have c63b1 : (t545 != (t487.length : Int)) = true := bne_iff_ne.mpr c63
               have H' := Aside0.mk H
               clear H
               go_wp2
               go_meet
               case rel => exact ⟨_, (true), (by rfl), H', ⟨by have := HJ16.out; omega⟩, ⟨by (with_reducible repeat (fail)); exact Kd.R_mono HO_5.out (fun _ hk => trivial)⟩, ⟨by (with_reducible repeat (fail)); exact Kd.R_mono HO_6.out (fun _ hk => trivial)⟩, ⟨by repeat ((with_reducible exact HB.out))⟩⟩
             ·rw [if_neg c62] at H
              have c62b0 : (t543 == (t484.length : Int)) = false := beq_eq_false_iff_ne.mpr c62
              have c62b1 : (t543 != (t484.length : Int)) = true := bne_iff_ne.mpr c62
              have H' := Aside0.mk H
              clear H
              go_wp2
              go_meet
              case rel => exact ⟨_, (true), (by rfl), H', ⟨by have := HJ16.out; omega⟩, ⟨by (with_reducible repeat (fail)); exact Kd.R_mono HO_5.out (fun _ hk => trivial)⟩, ⟨by (with_reducible repeat (fail)); exact Kd.R_mono HO_6.out (fun _ hk => trivial)⟩, ⟨by repeat ((with_reducible exact HB.out))⟩⟩
            ·rw [if_neg c61] at H
             have c61b0 : (t541 == 0) = false := beq_eq_false_iff_ne.mpr c61
             have c61b1 : (t541 != 0) = true := bne_iff_ne.mpr c61
             (skip)
             have H' := Aside0.mk H
             clear H
             go_wp2
             go_meet
             case rel => exact ⟨_, (true), (by rfl), H', ⟨by have := HJ16.out; omega⟩, ⟨by (with_reducible repeat (fail)); exact Kd.R_mono HO_5.out (fun _ hk => trivial)⟩, ⟨by (with_reducible repeat (fail)); exact Kd.R_mono HO_6.out (fun _ hk => trivial)⟩, ⟨by repeat ((with_reducible exact HB.out))⟩⟩
           case rest => as_aux_lemma =>
            clear HC54
            try clear c1
            try clear p2
            try clear c4
            try clear c5
            try clear c6
            try clear c7
            try clear c8
            try clear c9
            try clear c9b0
            try clear c9b1
            try clear c10
            try clear c11
            try clear c11b0
            try clear c11b1
            try clear c12
            try clear c14
            try clear c18
            try clear c44
            try clear c44b0
            try clear c44b1
            try clear c45
            try clear c45b0
            try clear c45b1
            try clear c46
            try clear c46b0
            try clear c46b1
            try clear c47
            try clear c47b0
            try clear c47b1
            try clear c48
            try clear c48b0
            try clear c48b1
            try clear c49
            try clear c50
            try clear c50b0
            try clear c50b1
            try clear c61
            try clear c61b0
            try clear c61b1
            try clear c62
            try clear c62b0
            try clear c62b1
            try clear c63
            try clear c63b0
            try clear c63b1
            try clear c64
            try clear c64b0
            try clear c64b1
            try clear c65
            try clear c65b0
            try clear c65b1
            try clear p2
            obtain ⟨kq, x156_53, rfl, HA, HJ53, HO_5, HO_6, HB⟩ := hcut
            cases kq with
            | zero => exact absurd HA.out (by simp [letterbaglaw30_ShiftWrong.j1])
            | succ kj53 =>
             have H := HA.out
             clear HA
             simp only [letterbaglaw30_ShiftWrong.j1] at H
             by_cases c66 : x156_53 = true
             ·subst c66
              have H1 : (some false) = some true := by rw [if_pos rfl] at H; exact H
              clear H
              have H := H1
              clear H1
              exact absurd H (by simp)
             ·replace c66 := Bool.eq_false_iff.mpr c66
              subst c66
              have H1 : ((shift_Make.f t484 t487).bind fun bt547 => (if bt547.2 = 0 then (letterbaglaw30_ShiftWrong.l0 kj53 t484 t487 bt547.1 (bt547.1.length : Int) 0) else (some false))) = some true := by rw [if_neg (show ¬ (false = true) by decide)] at H; exact H
              clear H
              have H := H1
              clear H1
              replace H := Option.bind_eq_some_iff.mp H
              obtain ⟨⟨t547, t548⟩, A670, H⟩ := H
              replace H : (if t548 = 0 then (letterbaglaw30_ShiftWrong.l0 kj53 t484 t487 t547 (t547.length : Int) 0) else (some false)) = some true := H
              have A67 := Aside0.mk A670
              clear A670
              by_cases c68 : t548 = 0
              ·rw [if_pos c68] at H
               have c68b0 : (t548 == 0) = true := beq_iff_eq.mpr c68
               have c68b1 : (t548 != 0) = false := bne_eq_false_iff_eq.mpr c68
               clear c68
               have H' := Aside0.mk H
               clear H
               go_wp2_with (((with_reducible refine gate_callee (f := 12) rfl ?_); refine goesL_ (some 160) rfl rfl Try.func12 (by kernel_rfl) rfl #[.slice Ao23 t484.length co23, .slice Ao28 t487.length co28] rfl (by (try simp only [List.map_toArray, List.map_cons, List.map_nil]); rfl) ?_; (with_reducible refine (shift_Make.calls _ _ t484 _ _ t487 t547 t548 _ ?side1 ?side2 ?side3 ?side4 A67.out).mono ?_); (case side1 => repeat (exact (Kd.R_reads' HO_5.out).2.2)); (case side2 => exact (Kd.R_reads' HO_5.out).2.1); (case side3 => repeat (exact (Kd.R_reads' HO_6.out).2.2)); (case side4 => exact (Kd.R_reads' HO_6.out).2.1); rintro e w69 ⟨v549, rfl, ho0, hb⟩; refine ⟨_, rfl, ?_⟩; have n0_ := Aside0.mk (Kd.R_below (by (with_reducible repeat (fail)); exact HO_5.out) hb); have n1_ := Aside0.mk (Kd.R_below (by (with_reducible repeat (fail)); exact HO_6.out) hb); have n2_ := Aside0.mk (Kd.R_lower ho0 (below_size (by repeat ((with_reducible exact HB.out))))); have n3_ := Aside0.mk (below_step (by repeat ((with_reducible exact HB.out))) hb); clear HO_5; clear HO_6; clear HB; have HO_5 := n0_; have HO_6 := n1_; have HO550 := n2_; have HB := n3_; clear n0_ n1_ n2_ n3_; (try clear hb); (try clear hb2); (try clear hk); (try clear hi); (try clear ho0); obtain ⟨Ao70, co70, eo70⟩ := Kd.R_slice HO550.out; subst eo70))
               go_loopg [167] kj53 (fun kq v167 w' => ∃ (x28_3 : List (S51)) (x167_3 : Int), v167 = .int .i64 x167_3 ∧ Aside0 (letterbaglaw30_ShiftWrong.l0 kq t484 t487 x28_3 (t547.length : Int) x167_3 = some true) ∧ Aside0 (kq ≤ kj53) ∧ Aside0 (Kd.R k45 45 w' w.heap.size (fun _ => True) (.slice Ao23 t484.length co23) t484) ∧ Aside0 (Kd.R k47 47 w' w.heap.size (fun _ => True) (.slice Ao28 t487.length co28) t487) ∧ Aside0 (Kd.R k51 51 w' w.heap.size (fun _ => True) (.slice Ao70 t547.length co70) x28_3) ∧ Aside0 (Below w.heap.size w w'))
               case atStart => exact ⟨(t547), (0), (by rfl), H', ⟨Nat.le_refl _⟩, ⟨by (with_reducible repeat (fail)); exact HO_5.out⟩, ⟨by (with_reducible repeat (fail)); exact HO_6.out⟩, ⟨by (with_reducible repeat (fail)); exact HO550.out⟩, ⟨by repeat ((with_reducible exact HB.out))⟩⟩
               case round => as_aux_lemma =>
                clear H'
                try clear c1
                try clear p2
                try clear c4
                try clear c5
                try clear c6
                try clear c7
                try clear c8
                try clear c9
                try clear c9b0
                try clear c9b1
                try clear c10
                try clear c11
                try clear c11b0
                try clear c11b1
                try clear c12
                try clear c14
                try clear c18
                try clear c44
                try clear c44b0
                try clear c44b1
                try clear c45
                try clear c45b0
                try clear c45b1
                try clear c46
                try clear c46b0
                try clear c46b1
                try clear c47
                try clear c47b0
                try clear c47b1
                try clear c48
                try clear c48b0
                try clear c48b1
                try clear c49
                try clear c50
                try clear c50b0
                try clear c50b1
                try clear c61
                try clear c61b0
                try clear c61b1
                try clear c62
                try clear c62b0
                try clear c62b1
                try clear c63
                try clear c63b0
                try clear c63b1
                try clear c64
                try clear c64b0
                try clear c64b1
                try clear c65
                try clear c65b0
                try clear c65b1
                try clear c66
                try clear c68
                try clear c68b0
                try clear c68b1
                try clear p2
                obtain ⟨x28_3, x167_3, rfl, HA, HK3, HO_5, HO_6, HO_28, HB⟩ := hrel
                have hl28_3 := (Kd.R_reads' HO_28.out).1
                rw [hl28_3] at HO_28
                (try simp only [hl28_3])
                (try simp only [hl28_3] at HO_5)
                (try simp only [hl28_3] at HO_6)
                cases gk with
                | zero => exact absurd HA.out (by simp [letterbaglaw30_ShiftWrong.l0])
                | succ k3 =>
                 have H := HA.out
                 clear HA
                 simp only [letterbaglaw30_ShiftWrong.l0] at H
                 by_cases c71 : x167_3 < (t547.length : Int)
                 ·rw [if_pos c71] at H
                  have c71b0 : decide (x167_3 < (t547.length : Int)) = true := decide_eq_true c71
                  (try simp only [hl28_3] at c71b0)
                  clear c71
                  have H' := Aside0.mk H
                  clear H
                  go_wp2
                  go_loopg [30] k3 (fun kq v30 w' => ∃ (x28_4 : List (S51)) (x30_4 : Int), v30 = .int .i64 x30_4 ∧ Aside0 (letterbaglaw30_ShiftWrong.l1 kq t484 t487 x28_4 x167_3 x30_4 (t547.length : Int) x167_3 = some true) ∧ Aside0 (kq ≤ k3) ∧ Aside0 (Kd.R k45 45 w' w.heap.size (fun _ => True) (.slice Ao23 t484.length co23) t484) ∧ Aside0 (Kd.R k47 47 w' w.heap.size (fun _ => True) (.slice Ao28 t487.length co28) t487) ∧ Aside0 (Kd.R k51 51 w' w.heap.size (fun _ => True) (.slice Ao70 x28_3.length co70) x28_4) ∧ Aside0 (Below w.heap.size w w'))
                  case atStart => exact ⟨(x28_3), (0), (by rfl), H', ⟨Nat.le_refl _⟩, ⟨by (try simp only [hl28_3]); (with_reducible repeat (fail)); exact HO_5.out⟩, ⟨by (try simp only [hl28_3]); (with_reducible repeat (fail)); exact HO_6.out⟩, ⟨by (try simp only [hl28_3]); (with_reducible repeat (fail)); exact HO_28.out⟩, ⟨by repeat ((with_reducible exact HB.out))⟩⟩
                  case round => as_aux_lemma =>
                   clear H'
                   try clear c1
                   try clear p2
                   try clear c4
                   try clear c5
                   try clear c6
                   try clear c7
                   try clear c8
                   try clear c9
                   try clear c9b0
                   try clear c9b1
                   try clear c10
                   try clear c11
                   try clear c11b0
                   try clear c11b1
                   try clear c12
                   try clear c14
                   try clear c18
                   try clear c44
                   try clear c44b0
                   try clear c44b1
                   try clear c45
                   try clear c45b0
                   try clear c45b1
                   try clear c46
                   try clear c46b0
                   try clear c46b1
                   try clear c47
                   try clear c47b0
                   try clear c47b1
                   try clear c48
                   try clear c48b0
                   try clear c48b1
                   try clear c49
                   try clear c50
                   try clear c50b0
                   try clear c50b1
                   try clear c61
                   try clear c61b0
                   try clear c61b1
                   try clear c62
                   try clear c62b0
                   try clear c62b1
                   try clear c63
                   try clear c63b0
                   try clear c63b1
                   try clear c64
                   try clear c64b0
                   try clear c64b1
                   try clear c65
                   try clear c65b0
                   try clear c65b1
                   try clear c66
                   try clear c68
                   try clear c68b0
                   try clear c68b1
                   try clear c71
                   try clear c71b0
                   try clear p2
                   obtain ⟨x28_4, x30_4, rfl, HA, HK4, HO_5, HO_6, HO_28, HB⟩ := hrel
                   have hl28_4 := (Kd.R_reads' HO_28.out).1
                   rw [hl28_4] at HO_28
                   (try simp only [hl28_4])
                   (try simp only [hl28_4] at HO_5)
                   (try simp only [hl28_4] at HO_6)
                   cases gk with
                   | zero => exact absurd HA.out (by simp [letterbaglaw30_ShiftWrong.l1])
                   | succ k4 =>
                    have H := HA.out
                    clear HA
                    simp only [letterbaglaw30_ShiftWrong.l1] at H
                    by_cases c72 : x30_4 < 4
                    ·rw [if_pos c72] at H
                     have c72b0 : decide (x30_4 < 4) = true := decide_eq_true c72
                     clear c72
                     obtain ⟨y551, hy551⟩ : ∃ y_ : List (S51), y_ = (([] : List (S51))) := ⟨_, rfl⟩
                     replace H : (if y551.length + x28_4.length < 5864062014805 then ((some (y551 ++ x28_4 : List (S51))).bind fun y554 => (if x30_4 = 0 then (if 0 ≤ x167_3 then (if x167_3 < (y554.length : Int) then (letterbaglaw30_ShiftWrong.j4 k4 t484 t487 x28_4 x167_3 x30_4 (y554.set (x167_3 : Int).toNat (⟨50, (rd_T51 y554 x167_3).f1, (rd_T51 y554 x167_3).f2⟩ : S51)) (t547.length : Int) x167_3) else (none)) else (none)) else (if x30_4 = 1 then (if 0 ≤ x167_3 then (if x167_3 < (y554.length : Int) then (letterbaglaw30_ShiftWrong.j4 k4 t484 t487 x28_4 x167_3 x30_4 (y554.set (x167_3 : Int).toNat (⟨(rd_T51 y554 x167_3).f0, (rd_T51 y554 x167_3).f1, (rd_T51 y554 x167_3).f1⟩ : S51)) (t547.length : Int) x167_3) else (none)) else (none)) else (if x30_4 = 2 then (if 0 ≤ x167_3 then (if x167_3 < (y554.length : Int) then (letterbaglaw30_ShiftWrong.j4 k4 t484 t487 x28_4 x167_3 x30_4 (y554.set (x167_3 : Int).toNat (⟨(rd_T51 y554 x167_3).f0, (-1), (rd_T51 y554 x167_3).f2⟩ : S51)) (t547.length : Int) x167_3) else (none)) else (none)) else (if x30_4 = 3 then (if 0 ≤ x167_3 then (if x167_3 < (y554.length : Int) then (letterbaglaw30_ShiftWrong.j4 k4 t484 t487 x28_4 x167_3 x30_4 (y554.set (x167_3 : Int).toNat (⟨(rd_T51 y554 x167_3).f0, (rd_T51 y554 x167_3).f1, wrap64 (((rd_T51 y554 x167_3).f2) + 1000)⟩ : S51)) (t547.length : Int) x167_3) else (none)) else (none)) else (letterbaglaw30_ShiftWrong.j4 k4 t484 t487 x28_4 x167_3 x30_4 y554 (t547.length : Int) x167_3)))))) else (none)) = some true := by (have H2_ := (Option.bind_some _ _).symm.trans H; rw [hy551]; with_reducible exact H2_)
                     have Ny551 := Aside0.mk hy551
                     clear hy551
                     by_cases c73 : y551.length + x28_4.length < 5864062014805
                     ·rw [if_pos c73] at H
                      have LMc73 := Aside0.mk c73
                      clear c73
                      obtain ⟨y554, hy554⟩ : ∃ y_ : List (S51), y_ = (y551 ++ x28_4) := ⟨_, rfl⟩
                      replace H : (if x30_4 = 0 then (if 0 ≤ x167_3 then (if x167_3 < (y554.length : Int) then (letterbaglaw30_ShiftWrong.j4 k4 t484 t487 x28_4 x167_3 x30_4 (y554.set (x167_3 : Int).toNat (⟨50, (rd_T51 y554 x167_3).f1, (rd_T51 y554 x167_3).f2⟩ : S51)) (t547.length : Int) x167_3) else (none)) else (none)) else (if x30_4 = 1 then (if 0 ≤ x167_3 then (if x167_3 < (y554.length : Int) then (letterbaglaw30_ShiftWrong.j4 k4 t484 t487 x28_4 x167_3 x30_4 (y554.set (x167_3 : Int).toNat (⟨(rd_T51 y554 x167_3).f0, (rd_T51 y554 x167_3).f1, (rd_T51 y554 x167_3).f1⟩ : S51)) (t547.length : Int) x167_3) else (none)) else (none)) else (if x30_4 = 2 then (if 0 ≤ x167_3 then (if x167_3 < (y554.length : Int) then (letterbaglaw30_ShiftWrong.j4 k4 t484 t487 x28_4 x167_3 x30_4 (y554.set (x167_3 : Int).toNat (⟨(rd_T51 y554 x167_3).f0, (-1), (rd_T51 y554 x167_3).f2⟩ : S51)) (t547.length : Int) x167_3) else (none)) else (none)) else (if x30_4 = 3 then (if 0 ≤ x167_3 then (if x167_3 < (y554.length : Int) then (letterbaglaw30_ShiftWrong.j4 k4 t484 t487 x28_4 x167_3 x30_4 (y554.set (x167_3 : Int).toNat (⟨(rd_T51 y554 x167_3).f0, (rd_T51 y554 x167_3).f1, wrap64 (((rd_T51 y554 x167_3).f2) + 1000)⟩ : S51)) (t547.length : Int) x167_3) else (none)) else (none)) else (letterbaglaw30_ShiftWrong.j4 k4 t484 t487 x28_4 x167_3 x30_4 y554 (t547.length : Int) x167_3))))) = some true := by (have H2_ := (Option.bind_some _ _).symm.trans H; rw [hy554]; with_reducible exact H2_)
                      have Ny554 := Aside0.mk hy554
                      clear hy554
                      have HC74 := Aside0.mk H
                      clear H
                      go_upto_block 4 with (first | ((with_reducible refine gate_dst (N := 174) rfl ?_); (try (refine gate_guard (by rfl) ?_; dsimp only)); refine Kd.R_lit k51 _ 51 ?hg (N := 174) ?hd (xs := ([] : List (S51))) (inner := []) (ok := fun _ => True) (okp := fun _ => True) ?hr ?hp (fun _ hk => hk) trivial (Below.refl _ _) (Nat.le_refl _) (by simp) ?_; (case hd => rfl); (case hg => rfl); (case hr => (go_simp; done)); (case hp => exact (Reps.none _ _)); intro v552 w75 ho76 hb hg_ hnew_; clear hg_ hnew_; (rw [← Ny551.out] at ho76); have n0_ := Aside0.mk (Kd.R_below (by (with_reducible repeat (fail)); exact HO_5.out) hb); have n1_ := Aside0.mk (Kd.R_below (by (with_reducible repeat (fail)); exact HO_6.out) hb); have n2_ := Aside0.mk (Kd.R_elder' (by (with_reducible repeat (fail)); exact HO_28.out) (Kd.R_base ho76) hb); have n3_ := Aside0.mk (Kd.R_lower (Kd.R_new' ho76 (Kd.R_lt (by (with_reducible repeat (fail)); exact HO_28.out))) (below_size (by repeat ((with_reducible exact HB.out))))); have n4_ := Aside0.mk (below_step (by repeat ((with_reducible exact HB.out))) hb); clear HO_5; clear HO_6; clear HO_28; clear HB; have HO_5 := n0_; have HO_6 := n1_; have HO_28 := n2_; have HO553 := n3_; have HB := n4_; clear n0_ n1_ n2_ n3_ n4_; clear hb ho76) | ((with_reducible refine gate_builtin (b := .append) (xs := #[.tmp 174, .tmp 175]) rfl ?_); (try (refine gate_guard (by rfl) ?_; dsimp only)); at_builtin; refine Kd.R_append_rows k51 (w0 := w) w.heap.size rfl (.tmp 174) (.tmp 175) 29 51 (.agg #[(.int .i64 0), (.int .i64 0), (.int .i64 0)]) 24 rfl Try.underlying29 info51 rfl (by decide) (by omega) v552 y551 x28_4 _ _ _ (fun k_ => some k_ ≠ (.slice Ao70 x28_4.length co70 : Value).ownBlock) (fun _ => False) rfl rfl ?aO ?aR (fun _ _ h => h) (fun _ h => h.elim) ?aF ?aB ?aS ?aL ?_; (case aR => repeat (exact (Kd.R_reads' HO_28.out).2.2)); (case aB => exact (by repeat ((with_reducible exact HB.out)))); (case aF => exact (fun k_ hk => Kd.fresh' (Kd.R_lt (by (with_reducible repeat (fail)); exact HO_28.out)) k_ hk)); (case aO => exact (by (with_reducible repeat (fail)); exact Kd.R_mono HO553.out (fun _ hk => hk.2))); (case aS => exact (below_size (by repeat ((with_reducible exact HB.out))))); (case aL => have := LMc73.out; omega); intro v555 w77 ho hb hg hat; rw [← Ny554.out] at ho; have n0_ := Aside0.mk (Kd.R_over' (by (with_reducible repeat (fail)); exact HO_5.out) (Kd.R_typed (by (with_reducible repeat (fail)); exact HO553.out)) (by decide) hg); have n1_ := Aside0.mk (Kd.R_over' (by (with_reducible repeat (fail)); exact HO_6.out) (Kd.R_typed (by (with_reducible repeat (fail)); exact HO553.out)) (by decide) hg); have n2_ := Aside0.mk (Kd.R_after (ok := (fun _ => True)) (by (with_reducible repeat (fail)); exact HO_28.out) hg hat); have n3_ := Aside0.mk (hb); have n4_ := Aside0.mk (ho); clear HO_5; clear HO_6; clear HO_28; clear HB; clear HO553; have HO_5 := n0_; have HO_6 := n1_; have HO_28 := n2_; have HB := n3_; have HO556 := n4_; clear n0_ n1_ n2_ n3_ n4_; clear ho hb hg hat))
                      (try simp only [Act.put, List.setIfInBounds_toArray, List.set_cons_zero, List.set_cons_succ])
                      go_cut [] (fun wc => ∃ (kq : Nat) (x31_73 : List (S51)), Aside0 (letterbaglaw30_ShiftWrong.j4 kq t484 t487 x28_4 x167_3 x30_4 x31_73 (t547.length : Int) x167_3 = some true) ∧ Aside0 (kq ≤ k4) ∧ Aside0 (Kd.R k45 45 wc w.heap.size (fun _ => True) (.slice Ao23 t484.length co23) t484) ∧ Aside0 (Kd.R k47 47 wc w.heap.size (fun _ => True) (.slice Ao28 t487.length co28) t487) ∧ Aside0 (Kd.R k51 51 wc w.heap.size (fun k_ => some k_ ≠ (v555 : Value).ownBlock) (.slice Ao70 x28_4.length co70) x28_4) ∧ Aside0 (Kd.R k51 51 wc w.heap.size (fun k_ => some k_ ≠ ((.slice Ao70 x28_4.length co70) : Value).ownBlock) v555 x31_73) ∧ Aside0 (Below w.heap.size w wc))
                      case first => as_aux_lemma =>
                       have H := HC74.out
                       clear HC74
                       by_cases c78 : x30_4 = 0
                       ·rw [if_pos c78] at H
                        have c78b0 : (x30_4 == 0) = true := beq_iff_eq.mpr c78
                        have c78b1 : (x30_4 != 0) = false := bne_eq_false_iff_eq.mpr c78
                        clear c78
                        (skip)
                        by_cases c79 : 0 ≤ x167_3
                        ·rw [if_pos c79] at H
                         have c79b0 : decide (0 ≤ x167_3) = true := decide_eq_true c79
                         clear c79
                         by_cases c80 : x167_3 < (y554.length : Int)
                         ·rw [if_pos c80] at H
                          have c80b0 : decide (x167_3 < (y554.length : Int)) = true := decide_eq_true c80
                          (try simp only [hl28_3] at c80b0); (try simp only [hl28_4] at c80b0)
                          clear c80
                          obtain ⟨y557, hy557⟩ : ∃ y_ : List (S51), y_ = (y554.set (x167_3 : Int).toNat (⟨50, (rd_T51 y554 x167_3).f1, (rd_T51 y554 x167_3).f2⟩ : S51)) := ⟨_, rfl⟩
                          replace H : (letterbaglaw30_ShiftWrong.j4 k4 t484 t487 x28_4 x167_3 x30_4 y557 (t547.length : Int) x167_3) = some true := by (rw [hy557]; with_reducible exact H)
                          have Ny557 := Aside0.mk hy557
                          clear hy557
                          have H' := Aside0.mk H
                          clear H
                          have p81 : 0 ≤ (x167_3 : Int) := of_decide_eq_true (by (with_reducible assumption))
                          have q81 : (x167_3 : Int) < ((y554.length : Int) : Int) := of_decide_eq_true (by (with_reducible assumption))
                          obtain ⟨go81, co81, eo81, gb81, gl81, cl81, HG81⟩ := Kd.R_form HO556.out (by omega)
                          (cases eo81)
                          have GB81 := Aside0.mk gb81
                          have GG81 := Aside0.mk HG81
                          clear gb81 gl81 HG81
                          obtain ⟨ce81, hcl81, hM81, hcc81, hfr81⟩ := Kd.R_elem HO556.out z51 (x167_3 : Int) p81 q81
                          obtain rfl := k51_openM hM81
                          have hx81_0 : w77.cell? ⟨go81, (x167_3 : Int).toNat * 3, none⟩ = some (.int .i64 ((rd_T51 y554 x167_3).f0)) := hcc81 0 _ rfl
                          have hx81_1 : w77.cell? ⟨go81, (x167_3 : Int).toNat * 3 + 1, none⟩ = some (.int .i64 ((rd_T51 y554 x167_3).f1)) := hcc81 1 _ rfl
                          have hx81_2 : w77.cell? ⟨go81, (x167_3 : Int).toNat * 3 + 2, none⟩ = some (.int .i64 ((rd_T51 y554 x167_3).f2)) := hcc81 2 _ rfl
                          have hf81_0 : w77.frozen? ⟨go81, (x167_3 : Int).toNat * 3, none⟩ = false := hfr81 0
                          have hf81_1 : w77.frozen? ⟨go81, (x167_3 : Int).toNat * 3 + 1, none⟩ = false := hfr81 1
                          have hf81_2 : w77.frozen? ⟨go81, (x167_3 : Int).toNat * 3 + 2, none⟩ = false := hfr81 2
                          clear hcl81 hcc81 hfr81 hM81
                          replace p81 := eq_true p81
                          replace q81 := eq_true q81
                          have HX82 := Aside0.mk (show Kd.R k51 51 w77 w.heap.size (fun k_ => some k_ ≠ (.slice Ao70 x28_4.length co70 : Value).ownBlock) (.slice (some ⟨go81, 0, none⟩) y554.length co81) y554 from (by (with_reducible repeat (fail)); exact HO556.out))
                          obtain ⟨ce82, hcl82, hM82, hcc82, hfr82⟩ := Kd.R_elem HX82.out z51 (x167_3 : Int) (of_decide_eq_true (by (with_reducible assumption))) (by have h_ : (x167_3 : Int) < ((y554.length : Int) : Int) := of_decide_eq_true (by (with_reducible assumption)); exact h_)
                          obtain rfl := k51_openM hM82
                          have HP82 := Kd.R_seg HX82.out (x167_3 : Int) (of_decide_eq_true (by (with_reducible assumption))) (by have h_ : (x167_3 : Int) < ((y554.length : Int) : Int) := of_decide_eq_true (by (with_reducible assumption)); exact h_) (seg := [.int .i64 50]) (j := 0) hcl82 hcc82 (show 1 ≤ 3 from by decide) (x' := (⟨50, (rd_T51 y554 x167_3).f1, (rd_T51 y554 x167_3).f2⟩ : S51)) (k51_mkM _ _ _ (⟨50, (rd_T51 y554 x167_3).f1, (rd_T51 y554 x167_3).f2⟩ : S51) ) (fun _ hk => hk)
                          have hx82_0 := hcc82 0 _ rfl
                          (try simp only [show (k51).sz = 3 from rfl, Nat.mul_one, Nat.add_zero] at hx82_0)
                          have hf82_0 := hfr82 0
                          (try simp only [show (k51).sz = 3 from rfl, Nat.mul_one, Nat.add_zero] at hf82_0)
                          clear hcl82 hcc82 hfr82 hM82
                          go_wp2_with (((with_reducible refine gate_store (t := 3) (p := 183) rfl ?_); refine store_event (t := 3) (p := 183) (v := ?vo_w83) (w1 := (w77.setCell ⟨go81, (x167_3 : Int).toNat * 3, none⟩ (.int .i64 50))) ?hg ?ho ?hn ?hr ?_; (case ho => rfl); (case hg => rfl); (case hn => rfl); (case hr => (go_simp; done)); intro w83 hw; have hg : w77.grownBy w83 (some go81) := (by rw [hw]; exact HP82.2); have hp_ : Kd.R k51 51 w83 w.heap.size (fun k_ => some k_ ≠ (.slice Ao70 x28_4.length co70 : Value).ownBlock) (.slice (some ⟨go81, 0, none⟩) y554.length co81) y557 := (by rw [hw, Ny557.out]; exact HP82.1); clear HP82; have n0_ := Aside0.mk (Kd.R_over' (v := (.slice (some ⟨go81, 0, none⟩) y554.length co81)) (by (with_reducible repeat (fail)); exact HO_5.out) (Kd.R_typed HO556.out) (by decide) hg); have n1_ := Aside0.mk (Kd.R_over' (v := (.slice (some ⟨go81, 0, none⟩) y554.length co81)) (by (with_reducible repeat (fail)); exact HO_6.out) (Kd.R_typed HO556.out) (by decide) hg); have n2_ := Aside0.mk (Kd.R_after (v := (.slice (some ⟨go81, 0, none⟩) y554.length co81)) (v1 := (.slice (some ⟨go81, 0, none⟩) y554.length co81)) (ok := (fun _ => True)) (by (with_reducible repeat (fail)); exact HO_28.out) hg (.inl rfl)); have n3_ := Aside0.mk (hp_); have n4_ := Aside0.mk ((by rw [hw]; exact below_set (HB.out) GB81.out : Below w.heap.size w w83)); clear HO_5; clear HO_6; clear HO_28; clear HO556; clear HB; have HO_5 := n0_; have HO_6 := n1_; have HO_28 := n2_; have HO556 := n3_; have HB := n4_; clear n0_ n1_ n2_ n3_ n4_; clear hg hw hp_))
                          go_meet
                          case rel => exact ⟨_, (y557), H', ⟨by have := HJ16.out; have := HJ53.out; have := HK3.out; have := HK4.out; omega⟩, ⟨by (try simp only [hl28_3]); (try simp only [hl28_4]); (with_reducible repeat (fail)); exact HO_5.out⟩, ⟨by (try simp only [hl28_3]); (try simp only [hl28_4]); (with_reducible repeat (fail)); exact HO_6.out⟩, ⟨by (try simp only [hl28_3]); (try simp only [hl28_4]); (with_reducible repeat (fail)); exact Kd.R_mono HO_28.out (fun _ hk => hk.2)⟩, ⟨by (try simp only [hl28_3]); (try simp only [hl28_4]); (with_reducible repeat (fail)); exact HO556.out⟩, ⟨by repeat ((with_reducible exact HB.out))⟩⟩
                         ·rw [if_neg c80] at H
                          exact absurd H (by simp)
                        ·rw [if_neg c79] at H
                         exact absurd H (by simp)
                       ·rw [if_neg c78] at H
                        have c78b0 : (x30_4 == 0) = false := beq_eq_false_iff_ne.mpr c78
                        have c78b1 : (x30_4 != 0) = true := bne_iff_ne.mpr c78
                        (skip)
                        by_cases c84 : x30_4 = 1
                        ·rw [if_pos c84] at H
                         have c84b0 : (x30_4 == 1) = true := beq_iff_eq.mpr c84
                         have c84b1 : (x30_4 != 1) = false := bne_eq_false_iff_eq.mpr c84
                         clear c84
                         by_cases c85 : 0 ≤ x167_3
                         ·rw [if_pos c85] at H
                          have c85b0 : decide (0 ≤ x167_3) = true := decide_eq_true c85
                          clear c85
                          by_cases c86 : x167_3 < (y554.length : Int)
                          ·rw [if_pos c86] at H
                           have c86b0 : decide (x167_3 < (y554.length : Int)) = true := decide_eq_true c86
                           (try simp only [hl28_3] at c86b0); (try simp only [hl28_4] at c86b0)
                           clear c86
                           obtain ⟨y559, hy559⟩ : ∃ y_ : List (S51), y_ = (y554.set (x167_3 : Int).toNat (⟨(rd_T51 y554 x167_3).f0, (rd_T51 y554 x167_3).f1, (rd_T51 y554 x167_3).f1⟩ : S51)) := ⟨_, rfl⟩
                           replace H : (letterbaglaw30_ShiftWrong.j4 k4 t484 t487 x28_4 x167_3 x30_4 y559 (t547.length : Int) x167_3) = some true := by (rw [hy559]; with_reducible exact H)
                           have Ny559 := Aside0.mk hy559
                           clear hy559
                           have H' := Aside0.mk H
                           clear H
                           obtain ⟨Ao88, co88, eo88⟩ := Kd.R_slice HO556.out
                           subst eo88
                           have p558 : 0 ≤ (x167_3 : Int) := of_decide_eq_true (by (with_reducible assumption))
                           have q558 : x167_3 < (y554.length : Int) := of_decide_eq_true (by (with_reducible assumption))
                           obtain ⟨ad558, e558, hx558_0, hx558_1, hx558_2⟩ := at_T51 (Kd.R_reads' HO556.out).2.2 x167_3 p558 q558
                           cases e558
                           replace p558 := eq_true p558
                           replace q558 := eq_true q558
                           have p87 : 0 ≤ (x167_3 : Int) := of_decide_eq_true (by (with_reducible assumption))
                           have q87 : (x167_3 : Int) < ((y554.length : Int) : Int) := of_decide_eq_true (by (with_reducible assumption))
                           obtain ⟨go87, co87, eo87, gb87, gl87, cl87, HG87⟩ := Kd.R_form HO556.out (by omega)
                           (cases eo87)
                           have GB87 := Aside0.mk gb87
                           have GG87 := Aside0.mk HG87
                           clear gb87 gl87 HG87
                           (simp only [add_plain] at hx558_0)
                           (simp only [add_plain] at hx558_1)
                           (simp only [add_plain] at hx558_2)
                           obtain ⟨ce87, hcl87, hM87, hcc87, hfr87⟩ := Kd.R_elem HO556.out z51 (x167_3 : Int) p87 q87
                           obtain rfl := k51_openM hM87
                           have hx87_0 : w77.cell? ⟨go87, (x167_3 : Int).toNat * 3, none⟩ = some (.int .i64 ((rd_T51 y554 x167_3).f0)) := hcc87 0 _ rfl
                           have hx87_1 : w77.cell? ⟨go87, (x167_3 : Int).toNat * 3 + 1, none⟩ = some (.int .i64 ((rd_T51 y554 x167_3).f1)) := hcc87 1 _ rfl
                           have hx87_2 : w77.cell? ⟨go87, (x167_3 : Int).toNat * 3 + 2, none⟩ = some (.int .i64 ((rd_T51 y554 x167_3).f2)) := hcc87 2 _ rfl
                           have hf87_0 : w77.frozen? ⟨go87, (x167_3 : Int).toNat * 3, none⟩ = false := hfr87 0
                           have hf87_1 : w77.frozen? ⟨go87, (x167_3 : Int).toNat * 3 + 1, none⟩ = false := hfr87 1
                           have hf87_2 : w77.frozen? ⟨go87, (x167_3 : Int).toNat * 3 + 2, none⟩ = false := hfr87 2
                           clear hcl87 hcc87 hfr87 hM87
                           replace p87 := eq_true p87
                           replace q87 := eq_true q87
                           have HX89 := Aside0.mk (show Kd.R k51 51 w77 w.heap.size (fun k_ => some k_ ≠ (.slice Ao70 x28_4.length co70 : Value).ownBlock) (.slice (some ⟨go87, 0, none⟩) y554.length co88) y554 from (by (with_reducible repeat (fail)); exact HO556.out))
                           obtain ⟨ce89, hcl89, hM89, hcc89, hfr89⟩ := Kd.R_elem HX89.out z51 (x167_3 : Int) (of_decide_eq_true (by (with_reducible assumption))) (by have h_ : (x167_3 : Int) < ((y554.length : Int) : Int) := of_decide_eq_true (by (with_reducible assumption)); exact h_)
                           obtain rfl := k51_openM hM89
                           have HP89 := Kd.R_seg HX89.out (x167_3 : Int) (of_decide_eq_true (by (with_reducible assumption))) (by have h_ : (x167_3 : Int) < ((y554.length : Int) : Int) := of_decide_eq_true (by (with_reducible assumption)); exact h_) (seg := [.int .i64 ((rd_T51 y554 x167_3).f1)]) (j := 2) hcl89 hcc89 (show 3 ≤ 3 from by decide) (x' := (⟨(rd_T51 y554 x167_3).f0, (rd_T51 y554 x167_3).f1, (rd_T51 y554 x167_3).f1⟩ : S51)) (k51_mkM _ _ _ (⟨(rd_T51 y554 x167_3).f0, (rd_T51 y554 x167_3).f1, (rd_T51 y554 x167_3).f1⟩ : S51) ) (fun _ hk => hk)
                           have hx89_2 := hcc89 2 _ rfl
                           (try simp only [show (k51).sz = 3 from rfl, Nat.mul_one, Nat.add_zero] at hx89_2)
                           have hf89_2 := hfr89 2
                           (try simp only [show (k51).sz = 3 from rfl, Nat.mul_one, Nat.add_zero] at hf89_2)
                           clear hcl89 hcc89 hfr89 hM89
                           go_wp2_with (((with_reducible refine gate_store (t := 3) (p := 194) rfl ?_); refine store_event (t := 3) (p := 194) (v := ?vo_w90) (w1 := (w77.setCell ⟨go87, (x167_3 : Int).toNat * 3 + 2, none⟩ (.int .i64 ((rd_T51 y554 x167_3).f1)))) ?hg ?ho ?hn ?hr ?_; (case ho => rfl); (case hg => rfl); (case hn => rfl); (case hr => (go_simp; done)); intro w90 hw; have hg : w77.grownBy w90 (some go87) := (by rw [hw]; exact HP89.2); have hp_ : Kd.R k51 51 w90 w.heap.size (fun k_ => some k_ ≠ (.slice Ao70 x28_4.length co70 : Value).ownBlock) (.slice (some ⟨go87, 0, none⟩) y554.length co88) y559 := (by rw [hw, Ny559.out]; exact HP89.1); clear HP89; have n0_ := Aside0.mk (Kd.R_over' (v := (.slice (some ⟨go87, 0, none⟩) y554.length co88)) (by (with_reducible repeat (fail)); exact HO_5.out) (Kd.R_typed HO556.out) (by decide) hg); have n1_ := Aside0.mk (Kd.R_over' (v := (.slice (some ⟨go87, 0, none⟩) y554.length co88)) (by (with_reducible repeat (fail)); exact HO_6.out) (Kd.R_typed HO556.out) (by decide) hg); have n2_ := Aside0.mk (Kd.R_after (v := (.slice (some ⟨go87, 0, none⟩) y554.length co88)) (v1 := (.slice (some ⟨go87, 0, none⟩) y554.length co88)) (ok := (fun _ => True)) (by (with_reducible repeat (fail)); exact HO_28.out) hg (.inl rfl)); have n3_ := Aside0.mk (hp_); have n4_ := Aside0.mk ((by rw [hw]; exact below_set (HB.out) GB87.out : Below w.heap.size w w90)); clear HO_5; clear HO_6; clear HO_28; clear HO556; clear HB; have HO_5 := n0_; have HO_6 := n1_; have HO_28 := n2_; have HO556 := n3_; have HB := n4_; clear n0_ n1_ n2_ n3_ n4_; clear hg hw hp_))
                           go_meet
                           case rel => exact ⟨_, (y559), H', ⟨by have := HJ16.out; have := HJ53.out; have := HK3.out; have := HK4.out; omega⟩, ⟨by (try simp only [hl28_3]); (try simp only [hl28_4]); (with_reducible repeat (fail)); exact HO_5.out⟩, ⟨by (try simp only [hl28_3]); (try simp only [hl28_4]); (with_reducible repeat (fail)); exact HO_6.out⟩, ⟨by (try simp only [hl28_3]); (try simp only [hl28_4]); (with_reducible repeat (fail)); exact Kd.R_mono HO_28.out (fun _ hk => hk.2)⟩, ⟨by (try simp only [hl28_3]); (try simp only [hl28_4]); (with_reducible repeat (fail)); exact HO556.out⟩, ⟨by repeat ((with_reducible exact HB.out))⟩⟩
                          ·rw [if_neg c86] at H
                           exact absurd H (by simp)
                         ·rw [if_neg c85] at H
                          exact absurd H (by simp)
                        ·rw [if_neg c84] at H
                         have c84b0 : (x30_4 == 1) = false := beq_eq_false_iff_ne.mpr c84
                         have c84b1 : (x30_4 != 1) = true := bne_iff_ne.mpr c84
                         by_cases c91 : x30_4 = 2
                         ·rw [if_pos c91] at H
                          have c91b0 : (x30_4 == 2) = true := beq_iff_eq.mpr c91
                          have c91b1 : (x30_4 != 2) = false := bne_eq_false_iff_eq.mpr c91
                          clear c91
                          by_cases c92 : 0 ≤ x167_3
                          ·rw [if_pos c92] at H
                           have c92b0 : decide (0 ≤ x167_3) = true := decide_eq_true c92
                           clear c92
                           by_cases c93 : x167_3 < (y554.length : Int)
                           ·rw [if_pos c93] at H
                            have c93b0 : decide (x167_3 < (y554.length : Int)) = true := decide_eq_true c93
                            (try simp only [hl28_3] at c93b0); (try simp only [hl28_4] at c93b0)
                            clear c93
                            obtain ⟨y560, hy560⟩ : ∃ y_ : List (S51), y_ = (y554.set (x167_3 : Int).toNat (⟨(rd_T51 y554 x167_3).f0, (-1), (rd_T51 y554 x167_3).f2⟩ : S51)) := ⟨_, rfl⟩
                            replace H : (letterbaglaw30_ShiftWrong.j4 k4 t484 t487 x28_4 x167_3 x30_4 y560 (t547.length : Int) x167_3) = some true := by (rw [hy560]; with_reducible exact H)
                            have Ny560 := Aside0.mk hy560
                            clear hy560
                            have H' := Aside0.mk H
                            clear H
                            have p94 : 0 ≤ (x167_3 : Int) := of_decide_eq_true (by (with_reducible assumption))
                            have q94 : (x167_3 : Int) < ((y554.length : Int) : Int) := of_decide_eq_true (by (with_reducible assumption))
                            obtain ⟨go94, co94, eo94, gb94, gl94, cl94, HG94⟩ := Kd.R_form HO556.out (by omega)
                            (cases eo94)
                            have GB94 := Aside0.mk gb94
                            have GG94 := Aside0.mk HG94
                            clear gb94 gl94 HG94
                            obtain ⟨ce94, hcl94, hM94, hcc94, hfr94⟩ := Kd.R_elem HO556.out z51 (x167_3 : Int) p94 q94
                            obtain rfl := k51_openM hM94
                            have hx94_0 : w77.cell? ⟨go94, (x167_3 : Int).toNat * 3, none⟩ = some (.int .i64 ((rd_T51 y554 x167_3).f0)) := hcc94 0 _ rfl
                            have hx94_1 : w77.cell? ⟨go94, (x167_3 : Int).toNat * 3 + 1, none⟩ = some (.int .i64 ((rd_T51 y554 x167_3).f1)) := hcc94 1 _ rfl
                            have hx94_2 : w77.cell? ⟨go94, (x167_3 : Int).toNat * 3 + 2, none⟩ = some (.int .i64 ((rd_T51 y554 x167_3).f2)) := hcc94 2 _ rfl
                            have hf94_0 : w77.frozen? ⟨go94, (x167_3 : Int).toNat * 3, none⟩ = false := hfr94 0
                            have hf94_1 : w77.frozen? ⟨go94, (x167_3 : Int).toNat * 3 + 1, none⟩ = false := hfr94 1
                            have hf94_2 : w77.frozen? ⟨go94, (x167_3 : Int).toNat * 3 + 2, none⟩ = false := hfr94 2
                            clear hcl94 hcc94 hfr94 hM94
                            replace p94 := eq_true p94
                            replace q94 := eq_true q94
                            have HX95 := Aside0.mk (show Kd.R k51 51 w77 w.heap.size (fun k_ => some k_ ≠ (.slice Ao70 x28_4.length co70 : Value).ownBlock) (.slice (some ⟨go94, 0, none⟩) y554.length co94) y554 from (by (with_reducible repeat (fail)); exact HO556.out))
                            obtain ⟨ce95, hcl95, hM95, hcc95, hfr95⟩ := Kd.R_elem HX95.out z51 (x167_3 : Int) (of_decide_eq_true (by (with_reducible assumption))) (by have h_ : (x167_3 : Int) < ((y554.length : Int) : Int) := of_decide_eq_true (by (with_reducible assumption)); exact h_)
                            obtain rfl := k51_openM hM95
                            have HP95 := Kd.R_seg HX95.out (x167_3 : Int) (of_decide_eq_true (by (with_reducible assumption))) (by have h_ : (x167_3 : Int) < ((y554.length : Int) : Int) := of_decide_eq_true (by (with_reducible assumption)); exact h_) (seg := [.int .i64 (-1)]) (j := 1) hcl95 hcc95 (show 2 ≤ 3 from by decide) (x' := (⟨(rd_T51 y554 x167_3).f0, (-1), (rd_T51 y554 x167_3).f2⟩ : S51)) (k51_mkM _ _ _ (⟨(rd_T51 y554 x167_3).f0, (-1), (rd_T51 y554 x167_3).f2⟩ : S51) ) (fun _ hk => hk)
                            have hx95_1 := hcc95 1 _ rfl
                            (try simp only [show (k51).sz = 3 from rfl, Nat.mul_one, Nat.add_zero] at hx95_1)
                            have hf95_1 := hfr95 1
                            (try simp only [show (k51).sz = 3 from rfl, Nat.mul_one, Nat.add_zero] at hf95_1)
                            clear hcl95 hcc95 hfr95 hM95
                            go_wp2_with (((with_reducible refine gate_store (t := 3) (p := 200) rfl ?_); refine store_event (t := 3) (p := 200) (v := ?vo_w96) (w1 := (w77.setCell ⟨go94, (x167_3 : Int).toNat * 3 + 1, none⟩ (.int .i64 (-1)))) ?hg ?ho ?hn ?hr ?_; (case ho => rfl); (case hg => rfl); (case hn => rfl); (case hr => (go_simp; done)); intro w96 hw; have hg : w77.grownBy w96 (some go94) := (by rw [hw]; exact HP95.2); have hp_ : Kd.R k51 51 w96 w.heap.size (fun k_ => some k_ ≠ (.slice Ao70 x28_4.length co70 : Value).ownBlock) (.slice (some ⟨go94, 0, none⟩) y554.length co94) y560 := (by rw [hw, Ny560.out]; exact HP95.1); clear HP95; have n0_ := Aside0.mk (Kd.R_over' (v := (.slice (some ⟨go94, 0, none⟩) y554.length co94)) (by (with_reducible repeat (fail)); exact HO_5.out) (Kd.R_typed HO556.out) (by decide) hg); have n1_ := Aside0.mk (Kd.R_over' (v := (.slice (some ⟨go94, 0, none⟩) y554.length co94)) (by (with_reducible repeat (fail)); exact HO_6.out) (Kd.R_typed HO556.out) (by decide) hg); have n2_ := Aside0.mk (Kd.R_after (v := (.slice (some ⟨go94, 0, none⟩) y554.length co94)) (v1 := (.slice (some ⟨go94, 0, none⟩) y554.length co94)) (ok := (fun _ => True)) (by (with_reducible repeat (fail)); exact HO_28.out) hg (.inl rfl)); have n3_ := Aside0.mk (hp_); have n4_ := Aside0.mk ((by rw [hw]; exact below_set (HB.out) GB94.out : Below w.heap.size w w96)); clear HO_5; clear HO_6; clear HO_28; clear HO556; clear HB; have HO_5 := n0_; have HO_6 := n1_; have HO_28 := n2_; have HO556 := n3_; have HB := n4_; clear n0_ n1_ n2_ n3_ n4_; clear hg hw hp_))
                            go_meet
                            case rel => exact ⟨_, (y560), H', ⟨by have := HJ16.out; have := HJ53.out; have := HK3.out; have := HK4.out; omega⟩, ⟨by (try simp only [hl28_3]); (try simp only [hl28_4]); (with_reducible repeat (fail)); exact HO_5.out⟩, ⟨by (try simp only [hl28_3]); (try simp only [hl28_4]); (with_reducible repeat (fail)); exact HO_6.out⟩, ⟨by (try simp only [hl28_3]); (try simp only [hl28_4]); (with_reducible repeat (fail)); exact Kd.R_mono HO_28.out (fun _ hk => hk.2)⟩, ⟨by (try simp only [hl28_3]); (try simp only [hl28_4]); (with_reducible repeat (fail)); exact HO556.out⟩, ⟨by repeat ((with_reducible exact HB.out))⟩⟩
                           ·rw [if_neg c93] at H
                            exact absurd H (by simp)
                          ·rw [if_neg c92] at H
                           exact absurd H (by simp)
                         ·rw [if_neg c91] at H
                          have c91b0 : (x30_4 == 2) = false := beq_eq_false_iff_ne.mpr c91
                          have c91b1 : (x30_4 != 2) = true := bne_iff_ne.mpr c91
                          by_cases c97 : x30_4 = 3
                          ·rw [if_pos c97] at H
                           have c97b0 : (x30_4 == 3) = true := beq_iff_eq.mpr c97
                           have c97b1 : (x30_4 != 3) = false := bne_eq_false_iff_eq.mpr c97
                           clear c97
                           by_cases c98 : 0 ≤ x167_3
                           ·rw [if_pos c98] at H
                            have c98b0 : decide (0 ≤ x167_3) = true := decide_eq_true c98
                            clear c98
                            by_cases c99 : x167_3 < (y554.length : Int)
                            ·rw [if_pos c99] at H
                             have c99b0 : decide (x167_3 < (y554.length : Int)) = true := decide_eq_true c99
                             (try simp only [hl28_3] at c99b0); (try simp only [hl28_4] at c99b0)
                             clear c99
                             obtain ⟨y562, hy562⟩ : ∃ y_ : List (S51), y_ = (y554.set (x167_3 : Int).toNat (⟨(rd_T51 y554 x167_3).f0, (rd_T51 y554 x167_3).f1, wrap64 (((rd_T51 y554 x167_3).f2) + 1000)⟩ : S51)) := ⟨_, rfl⟩
                             replace H : (letterbaglaw30_ShiftWrong.j4 k4 t484 t487 x28_4 x167_3 x30_4 y562 (t547.length : Int) x167_3) = some true := by (rw [hy562]; with_reducible exact H)
                             have Ny562 := Aside0.mk hy562
                             clear hy562
                             have H' := Aside0.mk H
                             clear H
                             obtain ⟨Ao101, co101, eo101⟩ := Kd.R_slice HO556.out
                             subst eo101
                             have p561 : 0 ≤ (x167_3 : Int) := of_decide_eq_true (by (with_reducible assumption))
                             have q561 : x167_3 < (y554.length : Int) := of_decide_eq_true (by (with_reducible assumption))
                             obtain ⟨ad561, e561, hx561_0, hx561_1, hx561_2⟩ := at_T51 (Kd.R_reads' HO556.out).2.2 x167_3 p561 q561
                             cases e561
                             replace p561 := eq_true p561
                             replace q561 := eq_true q561
                             have p100 : 0 ≤ (x167_3 : Int) := of_decide_eq_true (by (with_reducible assumption))
                             have q100 : (x167_3 : Int) < ((y554.length : Int) : Int) := of_decide_eq_true (by (with_reducible assumption))
                             obtain ⟨go100, co100, eo100, gb100, gl100, cl100, HG100⟩ := Kd.R_form HO556.out (by omega)
                             (cases eo100)
                             have GB100 := Aside0.mk gb100
                             have GG100 := Aside0.mk HG100
                             clear gb100 gl100 HG100
                             (simp only [add_plain] at hx561_0)
                             (simp only [add_plain] at hx561_1)
                             (simp only [add_plain] at hx561_2)
                             obtain ⟨ce100, hcl100, hM100, hcc100, hfr100⟩ := Kd.R_elem HO556.out z51 (x167_3 : Int) p100 q100
                             obtain rfl := k51_openM hM100
                             have hx100_0 : w77.cell? ⟨go100, (x167_3 : Int).toNat * 3, none⟩ = some (.int .i64 ((rd_T51 y554 x167_3).f0)) := hcc100 0 _ rfl
                             have hx100_1 : w77.cell? ⟨go100, (x167_3 : Int).toNat * 3 + 1, none⟩ = some (.int .i64 ((rd_T51 y554 x167_3).f1)) := hcc100 1 _ rfl
                             have hx100_2 : w77.cell? ⟨go100, (x167_3 : Int).toNat * 3 + 2, none⟩ = some (.int .i64 ((rd_T51 y554 x167_3).f2)) := hcc100 2 _ rfl
                             have hf100_0 : w77.frozen? ⟨go100, (x167_3 : Int).toNat * 3, none⟩ = false := hfr100 0
                             have hf100_1 : w77.frozen? ⟨go100, (x167_3 : Int).toNat * 3 + 1, none⟩ = false := hfr100 1
                             have hf100_2 : w77.frozen? ⟨go100, (x167_3 : Int).toNat * 3 + 2, none⟩ = false := hfr100 2
                             clear hcl100 hcc100 hfr100 hM100
                             replace p100 := eq_true p100
                             replace q100 := eq_true q100
                             have HX102 := Aside0.mk (show Kd.R k51 51 w77 w.heap.size (fun k_ => some k_ ≠ (.slice Ao70 x28_4.length co70 : Value).ownBlock) (.slice (some ⟨go100, 0, none⟩) y554.length co101) y554 from (by (with_reducible repeat (fail)); exact HO556.out))
                             obtain ⟨ce102, hcl102, hM102, hcc102, hfr102⟩ := Kd.R_elem HX102.out z51 (x167_3 : Int) (of_decide_eq_true (by (with_reducible assumption))) (by have h_ : (x167_3 : Int) < ((y554.length : Int) : Int) := of_decide_eq_true (by (with_reducible assumption)); exact h_)
                             obtain rfl := k51_openM hM102
                             have HP102 := Kd.R_seg HX102.out (x167_3 : Int) (of_decide_eq_true (by (with_reducible assumption))) (by have h_ : (x167_3 : Int) < ((y554.length : Int) : Int) := of_decide_eq_true (by (with_reducible assumption)); exact h_) (seg := [.int .i64 (wrap64 (((rd_T51 y554 x167_3).f2) + 1000))]) (j := 2) hcl102 hcc102 (show 3 ≤ 3 from by decide) (x' := (⟨(rd_T51 y554 x167_3).f0, (rd_T51 y554 x167_3).f1, wrap64 (((rd_T51 y554 x167_3).f2) + 1000)⟩ : S51)) (k51_mkM _ _ _ (⟨(rd_T51 y554 x167_3).f0, (rd_T51 y554 x167_3).f1, wrap64 (((rd_T51 y554 x167_3).f2) + 1000)⟩ : S51) ) (fun _ hk => hk)
                             have hx102_2 := hcc102 2 _ rfl
                             (try simp only [show (k51).sz = 3 from rfl, Nat.mul_one, Nat.add_zero] at hx102_2)
                             have hf102_2 := hfr102 2
                             (try simp only [show (k51).sz = 3 from rfl, Nat.mul_one, Nat.add_zero] at hf102_2)
                             clear hcl102 hcc102 hfr102 hM102
                             go_wp2_with (((with_reducible refine gate_store (t := 3) (p := 210) rfl ?_); refine store_event (t := 3) (p := 210) (v := ?vo_w103) (w1 := (w77.setCell ⟨go100, (x167_3 : Int).toNat * 3 + 2, none⟩ (.int .i64 (wrap64 (((rd_T51 y554 x167_3).f2) + 1000))))) ?hg ?ho ?hn ?hr ?_; (case ho => rfl); (case hg => rfl); (case hn => rfl); (case hr => (go_simp; done)); intro w103 hw; have hg : w77.grownBy w103 (some go100) := (by rw [hw]; exact HP102.2); have hp_ : Kd.R k51 51 w103 w.heap.size (fun k_ => some k_ ≠ (.slice Ao70 x28_4.length co70 : Value).ownBlock) (.slice (some ⟨go100, 0, none⟩) y554.length co101) y562 := (by rw [hw, Ny562.out]; exact HP102.1); clear HP102; have n0_ := Aside0.mk (Kd.R_over' (v := (.slice (some ⟨go100, 0, none⟩) y554.length co101)) (by (with_reducible repeat (fail)); exact HO_5.out) (Kd.R_typed HO556.out) (by decide) hg); have n1_ := Aside0.mk (Kd.R_over' (v := (.slice (some ⟨go100, 0, none⟩) y554.length co101)) (by (with_reducible repeat (fail)); exact HO_6.out) (Kd.R_typed HO556.out) (by decide) hg); have n2_ := Aside0.mk (Kd.R_after (v := (.slice (some ⟨go100, 0, none⟩) y554.length co101)) (v1 := (.slice (some ⟨go100, 0, none⟩) y554.length co101)) (ok := (fun _ => True)) (by (with_reducible repeat (fail)); exact HO_28.out) hg (.inl rfl)); have n3_ := Aside0.mk (hp_); have n4_ := Aside0.mk ((by rw [hw]; exact below_set (HB.out) GB100.out : Below w.heap.size w w103)); clear HO_5; clear HO_6; clear HO_28; clear HO556; clear HB; have HO_5 := n0_; have HO_6 := n1_; have HO_28 := n2_; have HO556 := n3_; have HB := n4_; clear n0_ n1_ n2_ n3_ n4_; clear hg hw hp_))
                             go_meet
                             case rel => exact ⟨_, (y562), H', ⟨by have := HJ16.out; have := HJ53.out; have := HK3.out; have := HK4.out; omega⟩, ⟨by (try simp only [hl28_3]); (try simp only [hl28_4]); (with_reducible repeat (fail)); exact HO_5.out⟩, ⟨by (try simp only [hl28_3]); (try simp only [hl28_4]); (with_reducible repeat (fail)); exact HO_6.out⟩, ⟨by (try simp only [hl28_3]); (try simp only [hl28_4]); (with_reducible repeat (fail)); exact Kd.R_mono HO_28.out (fun _ hk => hk.2)⟩, ⟨by (try simp only [hl28_3]); (try simp only [hl28_4]); (with_reducible repeat (fail)); exact HO556.out⟩, ⟨by repeat ((with_reducible exact HB.out))⟩⟩
                            ·rw [if_neg c99] at H
                             exact absurd H (by simp)
                           ·rw [if_neg c98] at H
                            exact absurd H (by simp)
                          ·rw [if_neg c97] at H
                           have c97b0 : (x30_4 == 3) = false := beq_eq_false_iff_ne.mpr c97
                           have c97b1 : (x30_4 != 3) = true := bne_iff_ne.mpr c97
                           have H' := Aside0.mk H
                           clear H
                           go_wp2
                           go_meet
                           case rel => exact ⟨_, (y554), H', ⟨by have := HJ16.out; have := HJ53.out; have := HK3.out; have := HK4.out; omega⟩, ⟨by (try simp only [hl28_3]); (try simp only [hl28_4]); (with_reducible repeat (fail)); exact HO_5.out⟩, ⟨by (try simp only [hl28_3]); (try simp only [hl28_4]); (with_reducible repeat (fail)); exact HO_6.out⟩, ⟨by (try simp only [hl28_3]); (try simp only [hl28_4]); (with_reducible repeat (fail)); exact Kd.R_mono HO_28.out (fun _ hk => hk.2)⟩, ⟨by (try simp only [hl28_3]); (try simp only [hl28_4]); (with_reducible repeat (fail)); exact HO556.out⟩, ⟨by repeat ((with_reducible exact HB.out))⟩⟩
                      case rest => as_aux_lemma =>
                       clear HC74
                       try clear c1
                       try clear p1
                       try clear q1
                       try clear hx1
                       try clear p2
                       try clear c4
                       try clear c5
                       try clear p5
                       try clear q5
                       try clear hx5
                       try clear c6
                       try clear p6
                       try clear c7
                       try clear c8
                       try clear p8
                       try clear q8
                       try clear hx8
                       try clear hf8
                       try clear c9
                       try clear c9b0
                       try clear c9b1
                       try clear p9
                       try clear q9
                       try clear hx9
                       try clear hf9
                       try clear c10
                       try clear p10
                       try clear q10
                       try clear hx10
                       try clear hf10
                       try clear c11
                       try clear c11b0
                       try clear c11b1
                       try clear c12
                       try clear c14
                       try clear c18
                       try clear c44
                       try clear c44b0
                       try clear c44b1
                       try clear c45
                       try clear c45b0
                       try clear c45b1
                       try clear c46
                       try clear c46b0
                       try clear c46b1
                       try clear c47
                       try clear c47b0
                       try clear c47b1
                       try clear c48
                       try clear c48b0
                       try clear c48b1
                       try clear c49
                       try clear c50
                       try clear c50b0
                       try clear c50b1
                       try clear p55
                       try clear q55
                       try clear hx55
                       try clear p56
                       try clear q56
                       try clear hx56
                       try clear c61
                       try clear c61b0
                       try clear c61b1
                       try clear c62
                       try clear c62b0
                       try clear c62b1
                       try clear c63
                       try clear c63b0
                       try clear c63b1
                       try clear c64
                       try clear c64b0
                       try clear c64b1
                       try clear p64
                       try clear c65
                       try clear c65b0
                       try clear c65b1
                       try clear c66
                       try clear c68
                       try clear c68b0
                       try clear c68b1
                       try clear c71
                       try clear c71b0
                       try clear c72
                       try clear c72b0
                       try clear c73
                       try clear c78
                       try clear c78b0
                       try clear c78b1
                       try clear c79
                       try clear c79b0
                       try clear c80
                       try clear c80b0
                       try clear c81
                       try clear p81
                       try clear q81
                       try clear hx81
                       try clear hf81
                       try clear c82
                       try clear hx82
                       try clear hf82
                       try clear c84
                       try clear c84b0
                       try clear c84b1
                       try clear c85
                       try clear c85b0
                       try clear c86
                       try clear c86b0
                       try clear c87
                       try clear p87
                       try clear q87
                       try clear hx87
                       try clear hf87
                       try clear c89
                       try clear hx89
                       try clear hf89
                       try clear c91
                       try clear c91b0
                       try clear c91b1
                       try clear c92
                       try clear c92b0
                       try clear c93
                       try clear c93b0
                       try clear c94
                       try clear p94
                       try clear q94
                       try clear hx94
                       try clear hf94
                       try clear c95
                       try clear hx95
                       try clear hf95
                       try clear c97
                       try clear c97b0
                       try clear c97b1
                       try clear c98
                       try clear c98b0
                       try clear c99
                       try clear c99b0
                       try clear c100
                       try clear p100
                       try clear q100
                       try clear hx100
                       try clear hf100
                       try clear c102
                       try clear hx102
                       try clear hf102
                       try clear hx100_0
                       try clear hx100_1
                       try clear hx100_2
                       try clear hx102_2
                       try clear hx558_0
                       try clear hx558_1
                       try clear hx558_2
                       try clear hx561_0
                       try clear hx561_1
                       try clear hx561_2
                       try clear hx81_0
                       try clear hx81_1
                       try clear hx81_2
                       try clear hx82_0
                       try clear hx87_0
                       try clear hx87_1
                       try clear hx87_2
                       try clear hx89_2
                       try clear hx94_0
                       try clear hx94_1
                       try clear hx94_2
                       try clear hx95_1
                       try clear p100
                       try clear p2
                       try clear p558
                       try clear p561
                       try clear p81
                       try clear p87
                       try clear p94
                       try clear q100
                       try clear q558
                       try clear q561
                       try clear q81
                       try clear q87
                       try clear q94
                       obtain ⟨kq, x31_73, HA, HJ73, HO_5, HO_6, HO_28, HO_31, HB⟩ := hcut
                       cases kq with
                       | zero => exact absurd HA.out (by simp [letterbaglaw30_ShiftWrong.j4])
                       | succ kj73 =>
                        have H := HA.out
                        clear HA
                        simp only [letterbaglaw30_ShiftWrong.j4] at H
                        replace H := Option.bind_eq_some_iff.mp H
                        obtain ⟨⟨t563, t564⟩, A1040, H⟩ := H
                        replace H : (if t563 = x167_3 then (if t564 = 302 then (letterbaglaw30_ShiftWrong.l1 kj73 t484 t487 x28_4 x167_3 (wrap64 (x30_4 + 1)) (t547.length : Int) x167_3) else (some false)) else (some false)) = some true := H
                        have A104 := Aside0.mk A1040
                        clear A1040
                        by_cases c105 : t563 = x167_3
                        ·rw [if_pos c105] at H
                         have c105b0 : (t563 == x167_3) = true := beq_iff_eq.mpr c105
                         have c105b1 : (t563 != x167_3) = false := bne_eq_false_iff_eq.mpr c105
                         clear c105
                         by_cases c106 : t564 = 302
                         ·rw [if_pos c106] at H
                          have c106b0 : (t564 == 302) = true := beq_iff_eq.mpr c106
                          have c106b1 : (t564 != 302) = false := bne_eq_false_iff_eq.mpr c106
                          clear c106
                          have H' := Aside0.mk H
                          clear H
                          obtain ⟨Ao107, co107, eo107⟩ := Kd.R_slice HO_31.out
                          subst eo107
                          go_wp2_with (((with_reducible refine gate_callee (f := 14) rfl ?_); refine goesL_ (some 215) rfl rfl Try.func14 (by kernel_rfl) rfl #[.slice Ao23 t484.length co23, .slice Ao28 t487.length co28, .slice Ao107 x31_73.length co107] rfl (by (try simp only [List.map_toArray, List.map_cons, List.map_nil]); rfl) ?_; (with_reducible refine (shift_Check.calls _ _ t484 _ _ t487 _ _ x31_73 t563 t564 _ ?side1 ?side2 ?side3 ?side4 ?side5 ?side6 A104.out).mono ?_); (case side1 => repeat (exact (Kd.R_reads' HO_5.out).2.2)); (case side2 => exact (Kd.R_reads' HO_5.out).2.1); (case side3 => repeat (exact (Kd.R_reads' HO_6.out).2.2)); (case side4 => exact (Kd.R_reads' HO_6.out).2.1); (case side5 => repeat (exact (Kd.R_reads' HO_31.out).2.2)); (case side6 => exact (Kd.R_reads' HO_31.out).2.1); rintro e w108 ⟨rfl, hb⟩; refine ⟨_, rfl, ?_⟩; have n0_ := Aside0.mk (Kd.R_below (by (with_reducible repeat (fail)); exact HO_5.out) hb); have n1_ := Aside0.mk (Kd.R_below (by (with_reducible repeat (fail)); exact HO_6.out) hb); have n2_ := Aside0.mk (Kd.R_below (by (with_reducible repeat (fail)); exact HO_28.out) hb); have n3_ := Aside0.mk (Kd.R_below (by (with_reducible repeat (fail)); exact HO_31.out) hb); have n4_ := Aside0.mk (below_step (by repeat ((with_reducible exact HB.out))) hb); clear HO_5; clear HO_6; clear HO_28; clear HO_31; clear HB; have HO_5 := n0_; have HO_6 := n1_; have HO_28 := n2_; have HO_31 := n3_; have HB := n4_; clear n0_ n1_ n2_ n3_ n4_; (try clear hb); (try clear hb2); (try clear hk); (try clear hi)))
                          (try simp only [← hl28_4])
                          go_roundg kj73
                          case measure => have := HJ16.out; have := HJ53.out; have := HK3.out; have := HK4.out; have := HJ73.out; omega
                          case rel => exact ⟨(x28_4), (wrap64 (x30_4 + 1)), (by rfl), H', ⟨by have := HJ16.out; have := HJ53.out; have := HK3.out; have := HK4.out; have := HJ73.out; omega⟩, ⟨by (try simp only [hl28_3]); (try simp only [hl28_4]); (with_reducible repeat (fail)); exact HO_5.out⟩, ⟨by (try simp only [hl28_3]); (try simp only [hl28_4]); (with_reducible repeat (fail)); exact HO_6.out⟩, ⟨by (try simp only [hl28_3]); (try simp only [hl28_4]); (with_reducible repeat (fail)); exact Kd.R_mono HO_28.out (fun _ hk => trivial)⟩, ⟨by repeat ((with_reducible exact HB.out))⟩⟩
                         ·rw [if_neg c106] at H
                          have c106b0 : (t564 == 302) = false := beq_eq_false_iff_ne.mpr c106
                          have c106b1 : (t564 != 302) = true := bne_iff_ne.mpr c106
                          exact absurd H (by simp)
                        ·rw [if_neg c105] at H
                         have c105b0 : (t563 == x167_3) = false := beq_eq_false_iff_ne.mpr c105
                         have c105b1 : (t563 != x167_3) = true := bne_iff_ne.mpr c105
                         exact absurd H (by simp)
                     ·rw [if_neg c73] at H
                      exact absurd H (by simp)
                    ·rw [if_neg c72] at H
                     have c72b0 : decide (x30_4 < 4) = false := decide_eq_false c72
                     clear c72
                     have H' := Aside0.mk H
                     clear H
                     go_wp2
                     (try simp only [← hl28_3, ← hl28_4])
                     go_roundg k4
                     case measure => have := HJ16.out; have := HJ53.out; have := HK3.out; have := HK4.out; omega
                     case rel => exact ⟨(x28_4), (wrap64 (x167_3 + 1)), (by rfl), H', ⟨by have := HJ16.out; have := HJ53.out; have := HK3.out; have := HK4.out; omega⟩, ⟨by (try simp only [hl28_3]); (try simp only [hl28_4]); (with_reducible repeat (fail)); exact HO_5.out⟩, ⟨by (try simp only [hl28_3]); (try simp only [hl28_4]); (with_reducible repeat (fail)); exact HO_6.out⟩, ⟨by (try simp only [hl28_3]); (try simp only [hl28_4]); (with_reducible repeat (fail)); exact HO_28.out⟩, ⟨by repeat ((with_reducible exact HB.out))⟩⟩
                 ·rw [if_neg c71] at H
                  have c71b0 : decide (x167_3 < (t547.length : Int)) = false := decide_eq_false c71
                  (try simp only [hl28_3] at c71b0); (try simp only [hl28_4] at c71b0)
                  clear c71
                  replace H := Option.bind_eq_some_iff.mp H
                  obtain ⟨t565, A1090, H⟩ := H
                  replace H : (some t565) = some true := H
                  have A109 := Aside0.mk A1090
                  clear A1090
                  have HT_ := Aside0.mk (Option.some.inj H)
                  go_wp2_with (((with_reducible refine gate_callee (f := 17) rfl ?_); refine goesL_ (some 226) rfl rfl Try.func17 (by kernel_rfl) rfl #[] rfl (by (try simp only [List.map_toArray, List.map_cons, List.map_nil]); done) ?_; (with_reducible refine (letterbaglaw30_awake.calls k3  t565 _ A109.out).mono ?_); rintro e w110 ⟨rfl, hb⟩; refine ⟨_, rfl, ?_⟩; have n0_ := Aside0.mk (Kd.R_below (by (with_reducible repeat (fail)); exact HO_5.out) hb); have n1_ := Aside0.mk (Kd.R_below (by (with_reducible repeat (fail)); exact HO_6.out) hb); have n2_ := Aside0.mk (Kd.R_below (by (with_reducible repeat (fail)); exact HO_28.out) hb); have n3_ := Aside0.mk (below_step (by repeat ((with_reducible exact HB.out))) hb); clear HO_5; clear HO_6; clear HO_28; clear HB; have HO_5 := n0_; have HO_6 := n1_; have HO_28 := n2_; have HB := n3_; clear n0_ n1_ n2_ n3_; (try clear hb); (try clear hb2); (try clear hk); (try clear hi)))
                  go_ret
                  exact ⟨by (rw [HT_.out]; rfl), by repeat ((with_reducible exact HB.out))⟩
              ·rw [if_neg c68] at H
               have c68b0 : (t548 == 0) = false := beq_eq_false_iff_ne.mpr c68
               have c68b1 : (t548 != 0) = true := bne_iff_ne.mpr c68
               exact absurd H (by simp)
          ·rw [if_neg c50] at H
           exact absurd H (by simp)
      ·rw [if_neg c11] at H
       exact absurd H (by simp)
     ·rw [if_neg c9] at H
      exact absurd H (by simp)
    ·rw [if_neg c8] at H
     exact absurd H (by simp)
   ·rw [if_neg c7] at H
    exact absurd H (by simp)
  ·rw [if_neg c6] at H
   exact absurd H (by simp)
 ·rw [if_neg c5] at H
  exact absurd H (by simp)
end Go.Proofs.Ytbnjdlafnejanaa.Pr
namespace Go.Proofs.Ytbnjdlafnejanaa.Pr
open Go.RowKit Go.Proofs.YtbnjdlafnejanaaW.PrintWords Go.Proofs.YtbnjdlafnejanaaW.PrintLast Go.Proofs.YtbnjdlafnejanaaW.PrintMore
theorem firstJob_snoc {x : Sh.Job} (hx : x.id < 1) : ∀ {l p : List Sh.Job} {i : Int}, Sh.BJ (p ++ l) → Sh.firstJob p (l ++ [x]) i = i + (l.length : Int) := by
  intro l
  induction l with
  | nil =>
    intro p i _
    have hb : Sh.badJob p x = true := by
      unfold Sh.badJob
      rw [decide_eq_true hx]
      simp
    rw [List.nil_append, Sh.firstJob, if_pos hb, List.length_nil]
    omega
  | cons y l ih =>
    intro p i h
    have h1 := h.bd y (by simp)
    have h2 := h.vj.pos y (by simp)
    have hn := List.pairwise_append.1 h.vj.nod
    have hb := Sh.badJob_true (p := p) (x := y) ⟨fun z hz => hn.2.2 z hz y (by simp), by omega, by omega, by omega, by omega, by omega, by omega, by omega, by omega⟩
    rw [List.cons_append, Sh.firstJob, hb]
    simp only [Bool.false_eq_true, if_false]
    rw [ih (by simpa using h), List.length_cons]
    omega
theorem firstShift_snoc {x : Sh.Shift} (hx : x.to ≤ x.frm) : ∀ {l p : List Sh.Shift} {e i : Int}, Sh.BS (p ++ l) → (∀ s ∈ l, e ≤ s.frm) → Sh.firstShift e (l ++ [x]) i = i + (l.length : Int) := by
  intro l
  induction l with
  | nil =>
    intro p e i _ _
    rw [List.nil_append, Sh.firstShift, if_pos (.inr (.inl hx)), List.length_nil]
    omega
  | cons y l ih =>
    intro p e i h he
    have h1 := h.bd y (by simp)
    have h2 := h.vs.pos y (by simp)
    have h3 := he y (by simp)
    have ho := (List.pairwise_append.1 h.vs.ord).2.1
    rw [List.cons_append, Sh.firstShift, if_neg (by omega), ih (p := p ++ [y]) (by simpa using h) (fun s hs => (List.pairwise_cons.1 ho).1 s hs), List.length_cons]
    omega
theorem validX_many {J : List Sh.Job} {S : List Sh.Shift} (h : 200 < J.length ∨ 200 < S.length) : Sh.validX J S = (0, 5) := by
  unfold Sh.validX
  rw [if_pos h]
theorem validX_job {J : List Sh.Job} {S : List Sh.Shift} {x : Sh.Job} (hJ : Sh.BJ J) (hx : x.id < 1) (h1 : J.length < 200) (h2 : S.length ≤ 200) : Sh.validX (J ++ [x]) S = ((J.length : Int), 300) := by
  have e := firstJob_snoc hx (l := J) (p := []) (i := 0) (by simpa using hJ)
  unfold Sh.validX
  rw [if_neg (by rw [List.length_append, List.length_singleton]; omega), e, if_pos (by omega), Int.zero_add]
theorem validX_shift {J : List Sh.Job} {S : List Sh.Shift} {x : Sh.Shift} (hJ : Sh.BJ J) (hS : Sh.BS S) (hx : x.to ≤ x.frm) (h1 : J.length ≤ 200) (h2 : S.length < 200) : Sh.validX J (S ++ [x]) = ((S.length : Int), 301) := by
  have e := firstShift_snoc hx (l := S) (p := []) (e := 0) (i := 0) (by simpa using hS) (fun s hs => (hS.vs.pos s hs).1)
  unfold Sh.validX
  rw [if_neg (by rw [List.length_append, List.length_singleton]; omega), Sh.firstJob_valid (p := []) (by simpa using hJ), if_neg (by omega), e, if_pos (by omega), Int.zero_add]
theorem make_err {l0 : List S45} {l1 : List S47} {n e : Int} (hw : wf45 l0 = true) (hv : Sh.validX (l0.map toJ) (l1.map toS) = (n, e)) (he : ¬ e = 0) : shift_Make.f l0 l1 = some ([], e) := by
  unfold shift_Make.f
  rw [if_pos hw, hv, if_neg he]
theorem excess_err {l0 : List S45} {l1 : List S47} {n e : Int} (hw : wf45 l0 = true) (hv : Sh.validX (l0.map toJ) (l1.map toS) = (n, e)) (he : ¬ e = 0) : Ev (fun k => shift_Excess.f k l0 l1) (0, 0, false, e) := by
  unfold shift_Excess.f
  refine Ev.bind (ev_val (r := (n, e)) ?_) (ev_neg he (Ev.now _))
  unfold shift_valid.f
  rw [if_pos hw, hv]
theorem check_err {l0 : List S45} {l1 : List S47} {n e : Int} (hw : wf45 l0 = true) (hv : Sh.validX (l0.map toJ) (l1.map toS) = (n, e)) (he : ¬ e = 0) : shift_Check.f l0 l1 [] = some (n, e) := by
  unfold shift_Check.f Sh.checkX
  rw [if_pos hw, if_pos (show wf51 [] = true from rfl), if_neg (by simp), hv, if_neg he]
theorem wf45_snoc {l : List S45} (h : wf45 l = true) : wf45 (l ++ [(⟨0, 0, 0, 0⟩ : S45)]) = true := by
  unfold wf45 at h ⊢
  rw [List.all_append, h]
  rfl
theorem wf45_rep (n : Nat) : wf45 (List.replicate n z45) = true := by
  unfold wf45
  rw [List.all_eq_true]
  intro x hx
  rw [(List.mem_replicate.1 hx).2]
  rfl
theorem wf51_rep (n : Nat) : wf51 (List.replicate n z51) = true := by
  unfold wf51
  rw [List.all_eq_true]
  intro x hx
  rw [(List.mem_replicate.1 hx).2]
  rfl
theorem chk_at {J : List Sh.Job} {S : List Sh.Shift} {u : Sh.Slice} {r : List Sh.Slice} : ∀ (l p : List Sh.Slice) (i : Int), Sh.Sched J S (p ++ l) → ¬ Sh.okAt J S (p ++ l) u → Sh.chkFrom J S p (l ++ u :: r) i = (i + (l.length : Int), 302) := by
  intro l
  induction l with
  | nil =>
    intro p i _ hn
    rw [List.append_nil] at hn
    rw [List.nil_append, Sh.chkFrom, if_neg (fun h => hn (Sh.okB_iff.1 h)), List.length_nil, Int.natCast_zero, Int.add_zero]
  | cons v l ih =>
    intro p i h hn
    have hv : Sh.okAt J S p v := by
      have := h p.length (by rw [List.length_append, List.length_cons]; omega)
      rw [List.take_left, List.getElem_append_right (Nat.le_refl _)] at this
      simpa using this
    rw [List.cons_append, Sh.chkFrom, if_pos (Sh.okB_iff.2 hv), ih (p ++ [v]) (i + 1) (by rw [List.append_assoc]; exact h) (by rw [List.append_assoc]; exact hn), List.length_cons, Int.natCast_add, Int.natCast_one]
    have e : i + 1 + (l.length : Int) = i + ((l.length : Int) + 1) := by omega
    rw [e]
theorem sched_take {J : List Sh.Job} {S : List Sh.Shift} {a : List Sh.Slice} (h : Sh.Sched J S a) (i : Nat) : Sh.Sched J S (a.take i) := by
  intro j hj
  have hj2 : j < i ∧ j < a.length := by rw [List.length_take] at hj; omega
  have := h j hj2.2
  rw [List.take_take, List.getElem_take, Nat.min_eq_left (by omega)]
  exact this
theorem check_at {l : List S45} {l1 : List S47} {a : List S51} (hJ : Sh.BJ (l.map toJ)) (hS : Sh.BS (l1.map toS)) (hl : l.length ≤ 200) (hl1 : l1.length ≤ 200) (h : Sh.Sched (l.map toJ) (l1.map toS) (a.map toL)) (hlen : a.length ≤ 1000)
    {i : Nat} (hi : i < a.length) {u : S51} (hu : 0 ≤ u.f0 ∧ u.f0 ≤ 9223372036854775807) (hn : ¬ Sh.okAt (l.map toJ) (l1.map toS) ((a.map toL).take i) (toL u)) : shift_Check.f l l1 (a.set i u) = some ((i : Int), 302) := by
  have hw := (ends_sched hJ hS hl h (by omega)).wf
  have hw2 : wf51 (a.set i u) = true := by
    unfold wf51 at hw ⊢
    rw [List.all_eq_true] at hw ⊢
    intro x hx
    rcases List.mem_or_eq_of_mem_set hx with hx | rfl
    · exact hw x hx
    · exact wf_i64 hu
  have e : (a.set i u).map toL = (a.map toL).take i ++ toL u :: (a.map toL).drop (i + 1) := by
    rw [List.map_set, List.set_eq_take_append_cons_drop, if_pos (by rw [List.length_map]; exact hi)]
  have hil : ((a.map toL).take i).length = i := by rw [List.length_take, List.length_map]; omega
  unfold shift_Check.f Sh.checkX
  rw [if_pos (wf45_BJ hJ), if_pos hw2, if_neg (by rw [List.length_map, List.length_set]; omega), Sh.validX_of hJ hS (by simpa using hl) (by simpa using hl1), if_pos rfl, e,
    chk_at _ [] 0 (by rw [List.nil_append]; exact sched_take h i) (by rw [List.nil_append]; exact hn), hil, Int.zero_add]
section
variable {l : List S45} {l1 : List S47}
structure WAt (l : List S45) (l1 : List S47) : Prop where
  bj : Sh.BJ (l.map toJ)
  bs : Sh.BS (l1.map toS)
  len : l.length ≤ 8
  len1 : l1.length ≤ 8
  id : ∀ x ∈ l.map toJ, x.id ≤ 9
  to256 : ∀ s ∈ l1.map toS, s.to ≤ 256
theorem wrong_j4 (h : WAt l l1) {i : Nat} (hi : i < (planOf l l1).length) {u : S51} (hu : 0 ≤ u.f0 ∧ u.f0 ≤ 9223372036854775807) (hn : ¬ Sh.okAt (l.map toJ) (l1.map toS) (((planOf l l1).map toL).take i) (toL u)) {x y : Int} (hxy : wrap64 (x + 1) = y)
    (hK : Ev (fun k => letterbaglaw30_ShiftWrong.l1 k l l1 (planOf l l1) (i : Int) y ((planOf l l1).length : Int) (i : Int)) true) :
    Ev (fun k => letterbaglaw30_ShiftWrong.j4 k l l1 (planOf l l1) (i : Int) x ((planOf l l1).set i u) ((planOf l l1).length : Int) (i : Int)) true := by
  have hpl := plan_len h.bj h.bs (hi := 256) (by decide) h.to256
  have hc := check_at h.bj h.bs (Nat.le_trans h.len (by decide)) (Nat.le_trans h.len1 (by decide)) (plan_sched h.bj h.bs) (by omega) hi hu hn
  refine Ev.step (fun k => letterbaglaw30_ShiftWrong.j4.eq_2 _ _ _ _ _ _ _ _ k) ?_
  refine Ev.bind (ev_val hc) (ev_pos rfl (ev_pos rfl ?_))
  rw [hxy]
  exact hK
theorem wrong_l1 (h : WAt l l1) {i : Nat} (hi : i < (planOf l l1).length)
    (hK : Ev (fun k => letterbaglaw30_ShiftWrong.l0 k l l1 (planOf l l1) ((planOf l l1).length : Int) ((i + 1 : Nat) : Int)) true) :
    Ev (fun k => letterbaglaw30_ShiftWrong.l1 k l l1 (planOf l l1) (i : Int) 0 ((planOf l l1).length : Int) (i : Int)) true := by
  have hpl := plan_len h.bj h.bs (hi := 256) (by decide) h.to256
  have hlt : ([] : List S51).length + (planOf l l1).length < 5864062014805 := by rw [List.length_nil]; omega
  have hu : toL (planOf l l1)[i] ∈ (planOf l l1).map toL := List.mem_map.2 ⟨_, List.getElem_mem hi, rfl⟩
  obtain ⟨x, hx, e1, e2, e3, s, hs, e4, e5⟩ := (plan_sched h.bj h.bs).mem hu
  have k1 := h.id x hx
  have k2 := h.bj.vj.pos x hx
  have k3 := h.to256 s hs
  have k4 := h.bs.vs.pos s hs
  simp only [toL] at e1 e2 e3 e4 e5
  have i0 : (0 : Int) ≤ (i : Int) := by omega
  have i1 : (i : Int) < ((planOf l l1).length : Int) := by omega
  have b1 : -9223372036854775808 ≤ (planOf l l1)[i].f2 + 1000 ∧ (planOf l l1)[i].f2 + 1000 ≤ 9223372036854775807 := by omega
  have hid : 0 ≤ (planOf l l1)[i].f0 ∧ (planOf l l1)[i].f0 ≤ 9223372036854775807 := by omega
  have n0 : ¬ Sh.okAt (l.map toJ) (l1.map toS) (((planOf l l1).map toL).take i) (toL ⟨50, (planOf l l1)[i].f1, (planOf l l1)[i].f2⟩) := by
    rintro ⟨y, hy, g1, _⟩
    have := h.id y hy
    simp only [toL] at g1
    omega
  have n1 : ¬ Sh.okAt (l.map toJ) (l1.map toS) (((planOf l l1).map toL).take i) (toL ⟨(planOf l l1)[i].f0, (planOf l l1)[i].f1, (planOf l l1)[i].f1⟩) := by
    rintro ⟨y, hy, _, g1, _⟩
    simp only [toL] at g1
    omega
  have n2 : ¬ Sh.okAt (l.map toJ) (l1.map toS) (((planOf l l1).map toL).take i) (toL ⟨(planOf l l1)[i].f0, -1, (planOf l l1)[i].f2⟩) := by
    rintro ⟨y, hy, _, _, g1, _⟩
    have := h.bj.vj.pos y hy
    simp only [toL] at g1
    omega
  have n3 : ¬ Sh.okAt (l.map toJ) (l1.map toS) (((planOf l l1).map toL).take i) (toL ⟨(planOf l l1)[i].f0, (planOf l l1)[i].f1, (planOf l l1)[i].f2 + 1000⟩) := by
    rintro ⟨y, hy, _, _, _, ⟨q, hq, _, g1⟩, _⟩
    have := h.to256 q hq
    simp only [toL] at g1
    omega
  have hset : ((i : Int)).toNat = i := Int.toNat_natCast i
  have s4 : Ev (fun k => letterbaglaw30_ShiftWrong.l1 k l l1 (planOf l l1) (i : Int) 4 ((planOf l l1).length : Int) (i : Int)) true := by
    refine Ev.step (fun k => letterbaglaw30_ShiftWrong.l1.eq_2 _ _ _ _ _ _ _ k) ?_
    refine ev_neg (by decide) ?_
    rw [wsucc (n := (planOf l l1).length) hi (by omega)]
    exact hK
  have s3 : Ev (fun k => letterbaglaw30_ShiftWrong.l1 k l l1 (planOf l l1) (i : Int) 3 ((planOf l l1).length : Int) (i : Int)) true := by
    refine Ev.step (fun k => letterbaglaw30_ShiftWrong.l1.eq_2 _ _ _ _ _ _ _ k) ?_
    refine ev_pos (by decide) (Ev.bind (Ev.now _) (ev_pos hlt (Ev.bind (ev_val (r := planOf l l1) rfl) ?_)))
    refine ev_neg (by decide) (ev_neg (by decide) (ev_neg (by decide) (ev_pos rfl (ev_pos i0 (ev_pos i1 ?_)))))
    rw [rd51_get hi, hset, w64 b1.1 b1.2]
    exact wrong_j4 h hi (u := ⟨(planOf l l1)[i].f0, (planOf l l1)[i].f1, (planOf l l1)[i].f2 + 1000⟩) hid n3 (w64 (n := 3 + 1) (by decide) (by decide)) s4
  have s2 : Ev (fun k => letterbaglaw30_ShiftWrong.l1 k l l1 (planOf l l1) (i : Int) 2 ((planOf l l1).length : Int) (i : Int)) true := by
    refine Ev.step (fun k => letterbaglaw30_ShiftWrong.l1.eq_2 _ _ _ _ _ _ _ k) ?_
    refine ev_pos (by decide) (Ev.bind (Ev.now _) (ev_pos hlt (Ev.bind (ev_val (r := planOf l l1) rfl) ?_)))
    refine ev_neg (by decide) (ev_neg (by decide) (ev_pos rfl (ev_pos i0 (ev_pos i1 ?_))))
    rw [rd51_get hi, hset]
    exact wrong_j4 h hi (u := ⟨(planOf l l1)[i].f0, -1, (planOf l l1)[i].f2⟩) hid n2 (w64 (n := 2 + 1) (by decide) (by decide)) s3
  have s1 : Ev (fun k => letterbaglaw30_ShiftWrong.l1 k l l1 (planOf l l1) (i : Int) 1 ((planOf l l1).length : Int) (i : Int)) true := by
    refine Ev.step (fun k => letterbaglaw30_ShiftWrong.l1.eq_2 _ _ _ _ _ _ _ k) ?_
    refine ev_pos (by decide) (Ev.bind (Ev.now _) (ev_pos hlt (Ev.bind (ev_val (r := planOf l l1) rfl) ?_)))
    refine ev_neg (by decide) (ev_pos rfl (ev_pos i0 (ev_pos i1 ?_)))
    rw [rd51_get hi, hset]
    exact wrong_j4 h hi (u := ⟨(planOf l l1)[i].f0, (planOf l l1)[i].f1, (planOf l l1)[i].f1⟩) hid n1 (w64 (n := 1 + 1) (by decide) (by decide)) s2
  refine Ev.step (fun k => letterbaglaw30_ShiftWrong.l1.eq_2 _ _ _ _ _ _ _ k) ?_
  refine ev_pos (by decide) (Ev.bind (Ev.now _) (ev_pos hlt (Ev.bind (ev_val (r := planOf l l1) rfl) ?_)))
  refine ev_pos rfl (ev_pos i0 (ev_pos i1 ?_))
  rw [rd51_get hi, hset]
  exact wrong_j4 h hi (u := ⟨50, (planOf l l1)[i].f1, (planOf l l1)[i].f2⟩) ⟨(by decide : (0 : Int) ≤ 50), (by decide : (50 : Int) ≤ 9223372036854775807)⟩ n0 (w64 (n := 0 + 1) (by decide) (by decide)) s1
theorem wrong_l0 (h : WAt l l1) (d : Nat) : ∀ i : Nat, i ≤ (planOf l l1).length → (planOf l l1).length - i = d →
    Ev (fun k => letterbaglaw30_ShiftWrong.l0 k l l1 (planOf l l1) ((planOf l l1).length : Int) (i : Int)) true := by
  induction d with
  | zero =>
    intro i hi hd
    refine Ev.step (fun k => letterbaglaw30_ShiftWrong.l0.eq_2 _ _ _ _ _ k) ?_
    exact ev_neg (by omega) (Ev.bind awake_f (Ev.now _))
  | succ d ih =>
    intro i hi hd
    have c : i < (planOf l l1).length := by omega
    refine Ev.step (fun k => letterbaglaw30_ShiftWrong.l0.eq_2 _ _ _ _ _ k) ?_
    exact ev_pos (by omega) (wrong_l1 h c (ih (i + 1) (by omega) (by omega)))
theorem wrong_j1 (h : WAt l l1) : Ev (fun k => letterbaglaw30_ShiftWrong.j1 k l l1 false) true := by
  refine Ev.step (fun k => letterbaglaw30_ShiftWrong.j1.eq_2 _ _ _ k) ?_
  refine ev_neg Bool.false_ne_true (Ev.bind (ev_val (make_f h.bj h.bs (Nat.le_trans h.len (by decide)) (Nat.le_trans h.len1 (by decide)))) (ev_pos rfl ?_))
  exact wrong_l0 h ((planOf l l1).length - 0) 0 (by omega) rfl
end
theorem wrong_all (l0 : List S61) (l1 : List S55) (h0 : ∀ x ∈ l0, b61 x) (h1 : ∀ x ∈ l1, b55 x) : Ev (fun k => letterbaglaw30_ShiftWrong.f k l0 l1) true := by
  have hJ := workX_BJ h0
  have hS := hoursX_BS h1
  have hl := workX_len l0
  have hl1 := hoursX_len l1
  have hb : ∀ s ∈ (hoursX l1).map toS, s.to ≤ 256 := fun s hs => (hoursX_bd h1 s hs).2.2.2
  have hid : ∀ x ∈ (workX l0).map toJ, x.id ≤ 9 := fun x hx => (workX_bd h0 x hx).1.2
  have hW : WAt (workX l0) (hoursX l1) := ⟨hJ, hS, hl, hl1, hid, hb⟩
  have hw := work_f h0
  have hh := hours_f h1
  generalize workX l0 = l at *
  generalize hoursX l1 = s at *
  have wJ := wf45_BJ hJ
  have wB := wf45_snoc wJ
  have hmJ : (l ++ [(⟨0, 0, 0, 0⟩ : S45)]).map toJ = l.map toJ ++ [⟨0, 0, 0, 0⟩] := by rw [List.map_append]; rfl
  have hmS : (s ++ [(⟨300, 300⟩ : S47)]).map toS = s.map toS ++ [⟨300, 300⟩] := by rw [List.map_append]; rfl
  have va : Sh.validX ((List.replicate 201 z45).map toJ) ((s ++ [(⟨300, 300⟩ : S47)]).map toS) = (0, 5) := validX_many (.inl (by rw [List.length_map, List.length_replicate]; decide))
  have vb : Sh.validX ((l ++ [(⟨0, 0, 0, 0⟩ : S45)]).map toJ) ((List.replicate 201 z47).map toS) = (0, 5) := validX_many (.inr (by rw [List.length_map, List.length_replicate]; decide))
  have vc : Sh.validX ((l ++ [(⟨0, 0, 0, 0⟩ : S45)]).map toJ) ((s ++ [(⟨300, 300⟩ : S47)]).map toS) = ((l.length : Int), 300) := by
    rw [hmJ, validX_job hJ (by decide) (by rw [List.length_map]; omega) (by rw [List.length_map, List.length_append, List.length_singleton]; omega), List.length_map]
  have vd : Sh.validX (l.map toJ) ((s ++ [(⟨300, 300⟩ : S47)]).map toS) = ((s.length : Int), 301) := by
    rw [hmS, validX_shift hJ hS (by decide) (by rw [List.length_map]; omega) (by rw [List.length_map]; omega), List.length_map]
  have q0 : ([] : List S45).length + l.length < 4398046511104 := by rw [List.length_nil]; omega
  have q1 : l.length < 4398046511104 := by omega
  have q2 : ([] : List S47).length + s.length < 8796093022208 := by rw [List.length_nil]; omega
  have q3 : s.length < 8796093022208 := by omega
  have n5 : ¬ (5 : Int) = 0 := by decide
  have n300 : ¬ (300 : Int) = 0 := by decide
  have n301 : ¬ (301 : Int) = 0 := by decide
  have cm : shift_Check.f (l ++ [(⟨0, 0, 0, 0⟩ : S45)]) (s ++ [(⟨300, 300⟩ : S47)]) (List.replicate 1001 z51) = some (0, 5) := by
    unfold shift_Check.f Sh.checkX
    rw [if_pos wB, if_pos (wf51_rep 1001), if_pos (by rw [List.length_map, List.length_replicate]; decide)]
  have e0 : ((301 : Int) != 301) = false := rfl
  unfold letterbaglaw30_ShiftWrong.f
  refine Ev.bind hw (Ev.bind hh (Ev.bind (Ev.now _) (ev_pos q0 (Ev.bind (ev_val (r := l) rfl) (ev_pos q1 (Ev.bind (Ev.now _) (Ev.bind (Ev.now _) (ev_pos q2 (Ev.bind (ev_val (r := s) rfl) (ev_pos q3 (Ev.bind (Ev.now _) ?_)))))))))))
  refine ev_pos (by decide) (Ev.bind (ev_val (make_err (wf45_rep 201) va n5)) (ev_pos (by decide) ?_))
  refine Ev.bind (ev_val (make_err wB vb n5)) (Ev.bind (ev_val (make_err wB vc n300)) (Ev.bind (ev_val (make_err wJ vd n301)) ?_))
  refine Ev.bind (excess_err wB vc n300) (Ev.bind (excess_err wJ vd n301) ?_)
  refine ev_pos rfl (ev_pos rfl (ev_pos rfl (ev_pos rfl (ev_pos rfl ?_))))
  simp only [e0]
  refine Ev.step (fun k => letterbaglaw30_ShiftWrong.j0.eq_2 _ _ _ _ _ k) ?_
  refine ev_neg Bool.false_ne_true (ev_pos (by decide) (Ev.bind (ev_val cm) (Ev.bind (ev_val (check_err wB vc n300)) (Ev.bind (ev_val (check_err wJ vd n301)) ?_))))
  refine ev_pos rfl (ev_pos rfl (ev_pos rfl (ev_pos rfl (ev_pos rfl ?_))))
  simp only [e0]
  exact wrong_j1 hW
end Go.Proofs.Ytbnjdlafnejanaa.Pr
namespace Go.Proofs.Ytbnjdlafnejanaa.shiftWrong
open Go.ChangeShapes Go.WideShapes Go.ChangeAt Go.RowKit
set_option linter.unusedVariables false
theorem own : ownKnob Try.prog.godebug = none := by kernel_rfl
theorem laidOut : laidOutB Try.prog = true := by kernel_rfl
set_option maxRecDepth 100000 in
theorem lifted (os : Os) (started : os.Started) (H : Type) (enc : TypeId × Value → H) :
    ReturnsInHanded {} Try.checked os 9 .any (Rows.shiftWrongSpec.pre6 enc Try.prog Try.f9 Rows.shiftWrongRow.domain false) (Rows.shiftWrongSpec.post enc Try.prog Try.f9 false true false false) := by
  refine returnsInHanded_of_change_sized (C := Try.checked) own started (by kernel_rfl) Try.func9
    (ChangeSpec.witness6 (enc := enc) (C := Try.checked) false ⟨#[], #[.slice none 0 0, .slice none 0 0], []⟩ 8 (by kernel_rfl) (by kernel_rfl) (by kernel_rfl) (by kernel_rfl)) ?_
  intro W base args ds gs before hval0 hW hcnd hsz0 _
  have hval : ∀ (j : Nat) t v, Try.f9.params[j]? = some t → args[j]? = some v → Value.okWide Try.prog W .any base t v := hval0
  have hW' := hW
  obtain ⟨p, q, hA0, hV, rfl, hfz, hnd⟩ := hW
  have hA : DataW.TrodAll enc Try.prog W 0 (fun _ => true) true Try.f9.params.toList args.toList ds p := hA0
  rw [Try.params9] at hA hval
  obtain ⟨v0, vs0, d0, ds0, p0, q0, hargs, rfl, rfl, h0, r0⟩ := trodAll_cons hA
  obtain ⟨v1, vs1, d1, ds1, p1, q1, rfl, rfl, rfl, h1, r1⟩ := trodAll_cons r0
  obtain ⟨rfl, rfl, rfl⟩ := trodAll_nil r1
  obtain rfl : args = #[v0, v1] := by cases args; simp_all
  obtain ⟨rfl, rfl⟩ := trodVars_none hV
  obtain ⟨a0, len0, cap0, rfl⟩ := okWide_slice Try.underlying22 (hval 0 22 v0 rfl rfl)
  have k0 := h0
  have lt0 : ∀ x ∈ p0, x.block < W.heap.size := by obtain ⟨m, hm⟩ := k0; exact DataW.trod_lt m _ _ _ hm
  obtain ⟨l0, e0, c0, hr0, hb0⟩ := Pr.open61 h0
  subst e0
  obtain ⟨a1, len1, cap1, rfl⟩ := okWide_slice Try.underlying23 (hval 1 23 v1 rfl rfl)
  have k1 := h1
  have lt1 : ∀ x ∈ p1, x.block < W.heap.size := by obtain ⟨m, hm⟩ := k1; exact DataW.trod_lt m _ _ _ hm
  obtain ⟨l1, e1, c1, hr1, hb1⟩ := Pr.open55 h1
  subst e1
  clear hA0 hval0 hsz0
  obtain ⟨k, hk⟩ := (Pr.wrong_all l0 l1 hb0 hb1).rounds
  refine (Pr.letterbaglaw30_ShiftWrong.calls k a0 cap0 l0 a1 cap1 l1 W hr0 c0 hr1 c1 hk).mono fun e W' ⟨he, bel⟩ => ?_
  subst he
  exact ⟨_, rfl, _, _, _, [], _, [], hW', trodAll_mk1 (shut_bool Try.underlying4 _), (trodAll_cons_mk (Below.trod laidOut (by kernel_rfl) (of_decide_eq_true (by kernel_rfl)) k0 bel lt0) (trodAll_cons_mk (Below.trod laidOut (by kernel_rfl) (of_decide_eq_true (by kernel_rfl)) k1 bel lt1) trodAll_mk0)), rfl, bel.frame _, fun h => by cases h⟩
theorem over : Rows.shiftWrongRow.holds Try.pinned (OpenSpec.ofChange Rows.shiftWrongSpec) :=
  OpenClaim.holds_of_wide 9 Try.f9 rfl rfl rfl rfl rfl rfl rfl ⟨rfl, rfl, rfl, rfl, rfl⟩ rfl rfl rfl rfl rfl (by kernel_rfl) Try.func9 (by kernel_rfl)
    (of_decide_eq_true (by kernel_rfl)) (by unfold Func.isWrapper; first | (rw [if_pos (by decide +kernel)]; kernel_rfl) | (rw [if_neg (by decide +kernel)]; exact ⟨rfl, rfl⟩))
    (fun os started H enc _ => lifted os started H enc)
theorem proved : Rows.ShiftWrongSaid := over
end Go.Proofs.Ytbnjdlafnejanaa.shiftWrong
namespace Go.Proofs.Ytbnjdlafnejanaa
/-- The row, under a short name, for the claim. -/
theorem shiftWrong_holds : Rows.ShiftWrongSaid := shiftWrong.proved
end Go.Proofs.Ytbnjdlafnejanaa
