/- ShiftLater: the law returns true at every input that its statement lets in; there is no condition of this session's. (Joined by a program of this session, pack2.py: printed walks, the plain law, the row.) -/
import Derived.Test.YtbnjdlafnejanaaBa
import Derived.Test.YtbnjdlafnejanaaBb
import Derived.Test.YtbnjdlafnejanaaBc
import Derived.Test.YtbnjdlafnejanaaBd
import Derived.Test.YtbnjdlafnejanaaBe
import Derived.Test.YtbnjdlafnejanaaBf
import Derived.Test.YtbnjdlafnejanaaBg
import Derived.Test.YtbnjdlafnejanaaBh
import Derived.Test.YtbnjdlafnejanaaRows
import Derived.WalkKit
import Derived.ProofKit
import Derived.OpenShut
import Derived.ShutString
import Derived.ChangeOld
import Derived.Below
import Derived.SizedLaws
import Derived.Lib.SmallJoins
set_option linter.unusedVariables false
set_option linter.unusedSimpArgs false
namespace Go.Proofs.Ytbnjdlafnejanaa.Pr
open Go.RowKit Go.Proofs.YtbnjdlafnejanaaW.PrintWords Go.Proofs.YtbnjdlafnejanaaW.PrintLast Go.Proofs.YtbnjdlafnejanaaW.PrintMore
attribute [local go_sem] max2_int min2_int max_two min_two max_three min_three max_four min_four   -- for this text's walks alone
set_option linter.unusedVariables false
set_option linter.unusedSimpArgs false
mutual
def letterbaglaw30_ShiftLater.l0 : Nat → List (S45) → List (S47) → List (S51) → Int → Int → Int → Bool → Int → Int → Int → Int → Option (Bool)
 | 0, _, _, _, _, _, _, _, _, _, _, _ => none
 | k + 1, x7, x8, x9, x10, x11, x12, x13, x14, x15, x47, x48 => if x48 < x47 then (if 0 ≤ x48 then (if x48 < (x7.length : Int) then ((some (x7.set (x48 : Int).toNat (⟨(rd_T45 x7 x48).f0, wrap64 (((rd_T45 x7 x48).f1) + x15), (rd_T45 x7 x48).f2, (rd_T45 x7 x48).f3⟩ : S45) : List (S45))).bind fun y462 => (letterbaglaw30_ShiftLater.l0 k (y462.set (x48 : Int).toNat (⟨(rd_T45 y462 x48).f0, (rd_T45 y462 x48).f1, wrap64 (((rd_T45 y462 x48).f2) + x15), (rd_T45 y462 x48).f3⟩ : S45)) x8 x9 x10 x11 x12 x13 x14 x15 x47 (wrap64 (x48 + 1)))) else (none)) else (none)) else (letterbaglaw30_ShiftLater.l1 k x7 x8 x9 x10 x11 x12 x13 x14 x15 (x8.length : Int) 0)
def letterbaglaw30_ShiftLater.l1 : Nat → List (S45) → List (S47) → List (S51) → Int → Int → Int → Bool → Int → Int → Int → Int → Option (Bool)
 | 0, _, _, _, _, _, _, _, _, _, _, _ => none
 | k + 1, x7, x8, x9, x10, x11, x12, x13, x14, x15, x71, x72 => if x72 < x71 then (if 0 ≤ x72 then (if x72 < (x8.length : Int) then ((some (x8.set (x72 : Int).toNat (⟨wrap64 (((rd_T47 x8 x72).f0) + x15), (rd_T47 x8 x72).f1⟩ : S47) : List (S47))).bind fun y466 => (letterbaglaw30_ShiftLater.l1 k x7 (y466.set (x72 : Int).toNat (⟨(rd_T47 y466 x72).f0, wrap64 (((rd_T47 y466 x72).f1) + x15)⟩ : S47)) x9 x10 x11 x12 x13 x14 x15 x71 (wrap64 (x72 + 1)))) else (none)) else (none)) else ((shift_Make.f x7 x8).bind fun bt469 => ((shift_Excess.f k x7 x8).bind fun bt473 => (if (wrap64 ((wrap64 ((wrap64 (x10 + x14)) + bt469.2)) + bt473.2.2.2)) = 0 then (if (x9.length : Int) = (bt469.1.length : Int) then (if (x13 != bt473.2.2.1) = true then (letterbaglaw30_ShiftLater.j2 k x9 x15 bt469.1 true) else (if x13 = true then (if bt473.1 = (wrap64 (x11 + x15)) then (letterbaglaw30_ShiftLater.j2 k x9 x15 bt469.1 (bt473.2.1 != (wrap64 (x12 + x15)))) else (letterbaglaw30_ShiftLater.j2 k x9 x15 bt469.1 true)) else (letterbaglaw30_ShiftLater.j2 k x9 x15 bt469.1 false))) else (letterbaglaw30_ShiftLater.j2 k x9 x15 bt469.1 true)) else (letterbaglaw30_ShiftLater.j2 k x9 x15 bt469.1 true))))
def letterbaglaw30_ShiftLater.j2 : Nat → List (S51) → Int → List (S51) → Bool → Option (Bool)
 | 0, _, _, _, _ => none
 | k + 1, x9, x15, x18, x144 => if x144 = true then (some false) else (letterbaglaw30_ShiftLater.l2 k x9 x15 x18 (x9.length : Int) 0)
def letterbaglaw30_ShiftLater.l2 : Nat → List (S51) → Int → List (S51) → Int → Int → Option (Bool)
 | 0, _, _, _, _, _ => none
 | k + 1, x9, x15, x18, x146, x147 => if x147 < x146 then (if 0 ≤ x147 then (if x147 < (x9.length : Int) then (if x147 < (x18.length : Int) then (if ((rd_T51 x9 x147).f0) = ((rd_T51 x18 x147).f0) then (if (wrap64 (((rd_T51 x9 x147).f1) + x15)) = ((rd_T51 x18 x147).f1) then (if (wrap64 (((rd_T51 x9 x147).f2) + x15)) = ((rd_T51 x18 x147).f2) then (letterbaglaw30_ShiftLater.l2 k x9 x15 x18 x146 (wrap64 (x147 + 1))) else (some false)) else (some false)) else (some false)) else (none)) else (none)) else (none)) else ((letterbaglaw30_awake.f k).bind fun t483 => (some t483))
end
def letterbaglaw30_ShiftLater.f (k : Nat) (l0 : List (S61)) (l1 : List (S55)) (a2 : Int) : Option (Bool) := (letterbaglaw30_work.f k l0).bind fun t447 => ((letterbaglaw30_hours.f k l1).bind fun t450 => ((shift_Make.f t447 t450).bind fun bt453 => ((shift_Excess.f k t447 t450).bind fun bt457 => (letterbaglaw30_ShiftLater.l0 k t447 t450 bt453.1 bt453.2 bt457.1 bt457.2.1 bt457.2.2.1 bt457.2.2.2 (wrap64 (Int.tmod a2 1000001)) (t447.length : Int) 0))))
set_option maxHeartbeats 8000000 in
set_option maxRecDepth 100000 in
theorem letterbaglaw30_ShiftLater.calls (k : Nat) (A0 : Option Addr) (c0 : Nat) (l0 : List (S61)) (A1 : Option Addr) (c1 : Nat) (l1 : List (S55)) (a2 : Int) (w : World) (hr0 : Kd.C k61 w A0 l0.length l0) (hc0 : l0.length ≤ c0) (hr1 : Kd.C k55 w A1 l1.length l1) (hc1 : l1.length ≤ c1) (h : letterbaglaw30_ShiftLater.f k l0 l1 a2 = some true) :
  Calls Try.prog 8 #[.slice A0 l0.length c0, .slice A1 l1.length c1, .int .u32 a2] w fun e w' => e = .returned (.bool true) ∧ Below w.heap.size w w' := by
 have HR0 := Aside0.mk hr0
 have HC0 := Aside0.mk hc0
 clear hr0 hc0
 have HR1 := Aside0.mk hr1
 have HC1 := Aside0.mk hc1
 clear hr1 hc1
 have HB := Aside0.mk (Below.refl w.heap.size w)
 have H : ((letterbaglaw30_work.f k l0).bind fun t447 => ((letterbaglaw30_hours.f k l1).bind fun t450 => ((shift_Make.f t447 t450).bind fun bt453 => ((shift_Excess.f k t447 t450).bind fun bt457 => (letterbaglaw30_ShiftLater.l0 k t447 t450 bt453.1 bt453.2 bt457.1 bt457.2.1 bt457.2.2.1 bt457.2.2.2 (wrap64 (Int.tmod a2 1000001)) (t447.length : Int) 0))))) = some true := h
 clear h
 replace H := Option.bind_eq_some_iff.mp H
 obtain ⟨t447, A40, H⟩ := H
 replace H : ((letterbaglaw30_hours.f k l1).bind fun t450 => ((shift_Make.f t447 t450).bind fun bt453 => ((shift_Excess.f k t447 t450).bind fun bt457 => (letterbaglaw30_ShiftLater.l0 k t447 t450 bt453.1 bt453.2 bt457.1 bt457.2.1 bt457.2.2.1 bt457.2.2.2 (wrap64 (Int.tmod a2 1000001)) (t447.length : Int) 0)))) = some true := H
 have A4 := Aside0.mk A40
 clear A40
 replace H := Option.bind_eq_some_iff.mp H
 obtain ⟨t450, A50, H⟩ := H
 replace H : ((shift_Make.f t447 t450).bind fun bt453 => ((shift_Excess.f k t447 t450).bind fun bt457 => (letterbaglaw30_ShiftLater.l0 k t447 t450 bt453.1 bt453.2 bt457.1 bt457.2.1 bt457.2.2.1 bt457.2.2.2 (wrap64 (Int.tmod a2 1000001)) (t447.length : Int) 0))) = some true := H
 have A5 := Aside0.mk A50
 clear A50
 replace H := Option.bind_eq_some_iff.mp H
 obtain ⟨⟨t453, t454⟩, A60, H⟩ := H
 replace H : ((shift_Excess.f k t447 t450).bind fun bt457 => (letterbaglaw30_ShiftLater.l0 k t447 t450 t453 t454 bt457.1 bt457.2.1 bt457.2.2.1 bt457.2.2.2 (wrap64 (Int.tmod a2 1000001)) (t447.length : Int) 0)) = some true := H
 have A6 := Aside0.mk A60
 clear A60
 replace H := Option.bind_eq_some_iff.mp H
 obtain ⟨⟨t457, t458, t459, t460⟩, A70, H⟩ := H
 replace H : (letterbaglaw30_ShiftLater.l0 k t447 t450 t453 t454 t457 t458 t459 t460 (wrap64 (Int.tmod a2 1000001)) (t447.length : Int) 0) = some true := H
 have A7 := Aside0.mk A70
 clear A70
 have H' := Aside0.mk H
 clear H
 go_enter Try.func8, Try.ntmps8
 go_wp2_with (first | (go_at_call 10; (with_reducible refine (letterbaglaw30_work.calls k _ _ l0 t447 _ ?side1 ?side2 A4.out).mono ?_); (case side1 => repeat (exact HR0.out)); (case side2 => exact HC0.out); rintro e w8 ⟨v448, rfl, ho0, hb⟩; have n0_ := Aside0.mk (Kd.R_lower ho0 (below_size (by repeat ((with_reducible exact HB.out))))); have n1_ := Aside0.mk (below_step (by repeat ((with_reducible exact HB.out))) hb); clear HB; have HO449 := n0_; have HB := n1_; clear n0_ n1_; (try clear hb); (try clear hb2); (try clear hk); (try clear hi); (try clear ho0)) | (go_at_call 11; (with_reducible refine (letterbaglaw30_hours.calls k _ _ l1 t450 _ ?side1 ?side2 A5.out).mono ?_); (case side1 => repeat (exact (Kd.C_below HR1.out HB.out))); (case side2 => exact HC1.out); rintro e w9 ⟨v451, rfl, ho0, hb⟩; have n0_ := Aside0.mk (Kd.R_below (by (with_reducible repeat (fail)); exact HO449.out) hb); have n1_ := Aside0.mk (Kd.R_lower ho0 (below_size (by repeat ((with_reducible exact HB.out))))); have n2_ := Aside0.mk (below_step (by repeat ((with_reducible exact HB.out))) hb); clear HO449; clear HB; have HO449 := n0_; have HO452 := n1_; have HB := n2_; clear n0_ n1_ n2_; (try clear hb); (try clear hb2); (try clear hk); (try clear hi); (try clear ho0); obtain ⟨Ao10, co10, eo10⟩ := Kd.R_slice HO449.out; subst eo10; obtain ⟨Ao11, co11, eo11⟩ := Kd.R_slice HO452.out; subst eo11) | (go_at_call 12; (with_reducible refine (shift_Make.calls _ _ t447 _ _ t450 t453 t454 _ ?side1 ?side2 ?side3 ?side4 A6.out).mono ?_); (case side1 => repeat (exact (Kd.R_reads' HO449.out).2.2)); (case side2 => exact (Kd.R_reads' HO449.out).2.1); (case side3 => repeat (exact (Kd.R_reads' HO452.out).2.2)); (case side4 => exact (Kd.R_reads' HO452.out).2.1); rintro e w12 ⟨v455, rfl, ho0, hb⟩; have n0_ := Aside0.mk (Kd.R_below (by (with_reducible repeat (fail)); exact HO449.out) hb); have n1_ := Aside0.mk (Kd.R_below (by (with_reducible repeat (fail)); exact HO452.out) hb); have n2_ := Aside0.mk (Kd.R_lower ho0 (below_size (by repeat ((with_reducible exact HB.out))))); have n3_ := Aside0.mk (below_step (by repeat ((with_reducible exact HB.out))) hb); clear HO449; clear HO452; clear HB; have HO449 := n0_; have HO452 := n1_; have HO456 := n2_; have HB := n3_; clear n0_ n1_ n2_ n3_; (try clear hb); (try clear hb2); (try clear hk); (try clear hi); (try clear ho0)) | (go_at_call 18; (with_reducible refine (shift_Excess.calls k _ _ t447 _ _ t450 t457 t458 t459 t460 _ ?side1 ?side2 ?side3 ?side4 A7.out).mono ?_); (case side1 => repeat (exact (Kd.R_reads' HO449.out).2.2)); (case side2 => exact (Kd.R_reads' HO449.out).2.1); (case side3 => repeat (exact (Kd.R_reads' HO452.out).2.2)); (case side4 => exact (Kd.R_reads' HO452.out).2.1); rintro e w13 ⟨rfl, hb⟩; have n0_ := Aside0.mk (Kd.R_below (by (with_reducible repeat (fail)); exact HO449.out) hb); have n1_ := Aside0.mk (Kd.R_below (by (with_reducible repeat (fail)); exact HO452.out) hb); have n2_ := Aside0.mk (Kd.R_below (by (with_reducible repeat (fail)); exact HO456.out) hb); have n3_ := Aside0.mk (below_step (by repeat ((with_reducible exact HB.out))) hb); clear HO449; clear HO452; clear HO456; clear HB; have HO449 := n0_; have HO452 := n1_; have HO456 := n2_; have HB := n3_; clear n0_ n1_ n2_ n3_; (try clear hb); (try clear hb2); (try clear hk); (try clear hi)))
 repeat (go_quiet (fail); try go_wp2_with (fail))
 go_loopg [48] k (fun kq v48 w' => ∃ (x7_1 : List (S45)) (x48_1 : Int), v48 = .int .i64 x48_1 ∧ Aside0 (letterbaglaw30_ShiftLater.l0 kq x7_1 t450 t453 t454 t457 t458 t459 t460 (wrap64 (Int.tmod a2 1000001)) (t447.length : Int) x48_1 = some true) ∧ Aside0 (kq ≤ k) ∧ Aside0 (Kd.R k45 45 w' w.heap.size (fun _ => True) (.slice Ao10 t447.length co10) x7_1) ∧ Aside0 (Kd.R k47 47 w' w.heap.size (fun _ => True) (.slice Ao11 t450.length co11) t450) ∧ Aside0 (Kd.R k51 51 w' w.heap.size (fun _ => True) v455 t453) ∧ Aside0 (Below w.heap.size w w'))
 case atStart => exact ⟨(t447), (0), (by rfl), H', ⟨Nat.le_refl _⟩, ⟨by (with_reducible repeat (fail)); exact HO449.out⟩, ⟨by (with_reducible repeat (fail)); exact HO452.out⟩, ⟨by (with_reducible repeat (fail)); exact HO456.out⟩, ⟨by repeat ((with_reducible exact HB.out))⟩⟩
 case round =>
  clear H'
  try clear c1
  try clear p2
  try clear p6
  try clear c8
  obtain ⟨x7_1, x48_1, rfl, HA, HK1, HO_7, HO_8, HO_9, HB⟩ := hrel
  have hl7_1 := (Kd.R_reads' HO_7.out).1
  rw [hl7_1] at HO_7
  (try simp only [hl7_1])
  (try simp only [hl7_1] at HO_8)
  (try simp only [hl7_1] at HO_9)
  cases gk with
  | zero => exact absurd HA.out (by simp [letterbaglaw30_ShiftLater.l0])
  | succ k1 =>
   have H := HA.out
   clear HA
   simp only [letterbaglaw30_ShiftLater.l0] at H
   by_cases c14 : x48_1 < (t447.length : Int)
   ·rw [if_pos c14] at H
    have c14b0 : decide (x48_1 < (t447.length : Int)) = true := decide_eq_true c14
    (try simp only [hl7_1] at c14b0)
    clear c14
    by_cases c15 : 0 ≤ x48_1
    ·rw [if_pos c15] at H
     have c15b0 : decide (0 ≤ x48_1) = true := decide_eq_true c15
     clear c15
     by_cases c16 : x48_1 < (x7_1.length : Int)
     ·rw [if_pos c16] at H
      have c16b0 : decide (x48_1 < (x7_1.length : Int)) = true := decide_eq_true c16
      (try simp only [hl7_1] at c16b0)
      clear c16
      obtain ⟨y462, hy462⟩ : ∃ y_ : List (S45), y_ = (x7_1.set (x48_1 : Int).toNat (⟨(rd_T45 x7_1 x48_1).f0, wrap64 (((rd_T45 x7_1 x48_1).f1) + (wrap64 (Int.tmod a2 1000001))), (rd_T45 x7_1 x48_1).f2, (rd_T45 x7_1 x48_1).f3⟩ : S45)) := ⟨_, rfl⟩
      replace H : (letterbaglaw30_ShiftLater.l0 k1 (y462.set (x48_1 : Int).toNat (⟨(rd_T45 y462 x48_1).f0, (rd_T45 y462 x48_1).f1, wrap64 (((rd_T45 y462 x48_1).f2) + (wrap64 (Int.tmod a2 1000001))), (rd_T45 y462 x48_1).f3⟩ : S45)) t450 t453 t454 t457 t458 t459 t460 (wrap64 (Int.tmod a2 1000001)) (t447.length : Int) (wrap64 (x48_1 + 1))) = some true := by (have H2_ := (Option.bind_some _ _).symm.trans H; rw [hy462]; with_reducible exact H2_)
      have Ny462 := Aside0.mk hy462
      clear hy462
      obtain ⟨y464, hy464⟩ : ∃ y_ : List (S45), y_ = (y462.set (x48_1 : Int).toNat (⟨(rd_T45 y462 x48_1).f0, (rd_T45 y462 x48_1).f1, wrap64 (((rd_T45 y462 x48_1).f2) + (wrap64 (Int.tmod a2 1000001))), (rd_T45 y462 x48_1).f3⟩ : S45)) := ⟨_, rfl⟩
      replace H : (letterbaglaw30_ShiftLater.l0 k1 y464 t450 t453 t454 t457 t458 t459 t460 (wrap64 (Int.tmod a2 1000001)) (t447.length : Int) (wrap64 (x48_1 + 1))) = some true := by (rw [hy464]; with_reducible exact H)
      have Ny464 := Aside0.mk hy464
      clear hy464
      have H' := Aside0.mk H
      clear H
      have p461 : 0 ≤ (x48_1 : Int) := of_decide_eq_true (by (with_reducible assumption))
      have q461 : x48_1 < (x7_1.length : Int) := of_decide_eq_true (by (with_reducible assumption))
      obtain ⟨ad461, e461, hx461_0, hx461_1, hx461_2, hx461_3⟩ := at_T45 (Kd.R_reads' HO_7.out).2.2 x48_1 p461 q461
      cases e461
      replace p461 := eq_true p461
      replace q461 := eq_true q461
      have p17 : 0 ≤ (x48_1 : Int) := of_decide_eq_true (by (with_reducible assumption))
      have q17 : (x48_1 : Int) < ((x7_1.length : Int) : Int) := of_decide_eq_true (by (with_reducible assumption))
      obtain ⟨go17, co17, eo17, gb17, gl17, cl17, HG17⟩ := Kd.R_form HO_7.out (by omega)
      (cases eo17)
      have GB17 := Aside0.mk gb17
      have GG17 := Aside0.mk HG17
      clear gb17 gl17 HG17
      (simp only [add_plain] at hx461_0)
      (simp only [add_plain] at hx461_1)
      (simp only [add_plain] at hx461_2)
      (simp only [add_plain] at hx461_3)
      obtain ⟨ce17, hcl17, hM17, hcc17, hfr17⟩ := Kd.R_elem HO_7.out z45 (x48_1 : Int) p17 q17
      obtain rfl := k45_openM hM17
      have hx17_0 : wr.cell? ⟨go17, (x48_1 : Int).toNat * 4, none⟩ = some (.int .i64 ((rd_T45 x7_1 x48_1).f0)) := hcc17 0 _ rfl
      have hx17_1 : wr.cell? ⟨go17, (x48_1 : Int).toNat * 4 + 1, none⟩ = some (.int .i64 ((rd_T45 x7_1 x48_1).f1)) := hcc17 1 _ rfl
      have hx17_2 : wr.cell? ⟨go17, (x48_1 : Int).toNat * 4 + 2, none⟩ = some (.int .i64 ((rd_T45 x7_1 x48_1).f2)) := hcc17 2 _ rfl
      have hx17_3 : wr.cell? ⟨go17, (x48_1 : Int).toNat * 4 + 3, none⟩ = some (.int .i64 ((rd_T45 x7_1 x48_1).f3)) := hcc17 3 _ rfl
      have hf17_0 : wr.frozen? ⟨go17, (x48_1 : Int).toNat * 4, none⟩ = false := hfr17 0
      have hf17_1 : wr.frozen? ⟨go17, (x48_1 : Int).toNat * 4 + 1, none⟩ = false := hfr17 1
      have hf17_2 : wr.frozen? ⟨go17, (x48_1 : Int).toNat * 4 + 2, none⟩ = false := hfr17 2
      have hf17_3 : wr.frozen? ⟨go17, (x48_1 : Int).toNat * 4 + 3, none⟩ = false := hfr17 3
      clear hcl17 hcc17 hfr17 hM17
      replace p17 := eq_true p17
      replace q17 := eq_true q17
      have HX19 := Aside0.mk (show Kd.R k45 45 wr w.heap.size (fun _ => True) (.slice (some ⟨go17, 0, none⟩) x7_1.length co10) x7_1 from (by (with_reducible repeat (fail)); exact HO_7.out))
      obtain ⟨ce19, hcl19, hM19, hcc19, hfr19⟩ := Kd.R_elem HX19.out z45 (x48_1 : Int) (of_decide_eq_true (by (with_reducible assumption))) (by have h_ : (x48_1 : Int) < ((x7_1.length : Int) : Int) := of_decide_eq_true (by (with_reducible assumption)); exact h_)
      obtain rfl := k45_openM hM19
      have HP19 := Kd.R_seg HX19.out (x48_1 : Int) (of_decide_eq_true (by (with_reducible assumption))) (by have h_ : (x48_1 : Int) < ((x7_1.length : Int) : Int) := of_decide_eq_true (by (with_reducible assumption)); exact h_) (seg := [.int .i64 (wrap64 (((rd_T45 x7_1 x48_1).f1) + (wrap64 (Int.tmod a2 1000001))))]) (j := 1) hcl19 hcc19 (show 2 ≤ 4 from by decide) (x' := (⟨(rd_T45 x7_1 x48_1).f0, wrap64 (((rd_T45 x7_1 x48_1).f1) + (wrap64 (Int.tmod a2 1000001))), (rd_T45 x7_1 x48_1).f2, (rd_T45 x7_1 x48_1).f3⟩ : S45)) (k45_mkM _ _ _ (⟨(rd_T45 x7_1 x48_1).f0, wrap64 (((rd_T45 x7_1 x48_1).f1) + (wrap64 (Int.tmod a2 1000001))), (rd_T45 x7_1 x48_1).f2, (rd_T45 x7_1 x48_1).f3⟩ : S45) ) (fun _ hk => hk)
      have hx19_1 := hcc19 1 _ rfl
      (try simp only [show (k45).sz = 4 from rfl, Nat.mul_one, Nat.add_zero] at hx19_1)
      have hf19_1 := hfr19 1
      (try simp only [show (k45).sz = 4 from rfl, Nat.mul_one, Nat.add_zero] at hf19_1)
      clear hcl19 hcc19 hfr19 hM19
      go_wp2_with (first | ((with_reducible refine gate_store (t := 3) (p := 59) rfl ?_); (try (rw [drewN_self wr]; generalize hq_ : World.drewN wr _ = wr; have n0_ := Aside0.mk (Kd.R_at hq_ HO_7.out); have n1_ := Aside0.mk (Kd.R_at hq_ HO_8.out); have n2_ := Aside0.mk (Kd.R_at hq_ HO_9.out); have n3_ := Aside0.mk (below_at hq_ HB.out); clear hq_ HO_7 HO_8 HO_9 HB; have HO_7 := n0_; have HO_8 := n1_; have HO_9 := n2_; have HB := n3_; clear n0_ n1_ n2_ n3_; (try (have HX19 := Aside0.mk (show Kd.R k45 45 wr w.heap.size (fun _ => True) (.slice (some ⟨go17, 0, none⟩) x7_1.length co10) x7_1 from (by (with_reducible repeat (fail)); exact HO_7.out)))); (try (obtain ⟨ce19, hcl19, hM19, hcc19, hfr19⟩ := Kd.R_elem HX19.out z45 (x48_1 : Int) (of_decide_eq_true (by fail)) (by have h_ : (x48_1 : Int) < ((x7_1.length : Int) : Int) := of_decide_eq_true (by fail); fail))); (try (obtain rfl := k45_openM hM19)); (try (have HP19 := Kd.R_seg HX19.out (x48_1 : Int) (of_decide_eq_true (by fail)) (by have h_ : (x48_1 : Int) < ((x7_1.length : Int) : Int) := of_decide_eq_true (by fail); fail) (seg := [.int .i64 (wrap64 (((rd_T45 x7_1 x48_1).f1) + (wrap64 (Int.tmod a2 1000001))))]) (j := 1) hcl19 hcc19 (show 2 ≤ 4 from by decide) (x' := (⟨(rd_T45 x7_1 x48_1).f0, wrap64 (((rd_T45 x7_1 x48_1).f1) + (wrap64 (Int.tmod a2 1000001))), (rd_T45 x7_1 x48_1).f2, (rd_T45 x7_1 x48_1).f3⟩ : S45)) (k45_mkM _ _ _ (⟨(rd_T45 x7_1 x48_1).f0, wrap64 (((rd_T45 x7_1 x48_1).f1) + (wrap64 (Int.tmod a2 1000001))), (rd_T45 x7_1 x48_1).f2, (rd_T45 x7_1 x48_1).f3⟩ : S45) ) (fun _ hk => hk))); (try (have hx19_1 := hcc19 1 _ rfl)); (try (try simp only [show (k45).sz = 4 from rfl, Nat.mul_one, Nat.add_zero] at hx19_1)); (try (have hf19_1 := hfr19 1)); (try (try simp only [show (k45).sz = 4 from rfl, Nat.mul_one, Nat.add_zero] at hf19_1)); (try (clear hcl19 hcc19 hfr19 hM19)))); refine store_event (t := 3) (p := 59) (v := ?vo_w20) (w1 := (wr.setCell ⟨go17, (x48_1 : Int).toNat * 4 + 1, none⟩ (.int .i64 (wrap64 (((rd_T45 x7_1 x48_1).f1) + (wrap64 (Int.tmod a2 1000001))))))) ?hg ?ho ?hn ?hr ?_; (case ho => rfl); (case hg => rfl); (case hn => rfl); (case hr => (go_simp; done)); intro w20 hw; have hg : wr.grownBy w20 (some go17) := (by rw [hw]; exact HP19.2); have hp_ : Kd.R k45 45 w20 w.heap.size (fun _ => True) (.slice (some ⟨go17, 0, none⟩) x7_1.length co10) y462 := (by rw [hw, Ny462.out]; exact HP19.1); clear HP19; have n0_ := Aside0.mk (hp_); have n1_ := Aside0.mk (Kd.R_over' (v := (.slice (some ⟨go17, 0, none⟩) x7_1.length co10)) (by (with_reducible repeat (fail)); exact HO_8.out) (Kd.R_typed HO_7.out) (by decide) hg); have n2_ := Aside0.mk (Kd.R_over' (v := (.slice (some ⟨go17, 0, none⟩) x7_1.length co10)) (by (with_reducible repeat (fail)); exact HO_9.out) (Kd.R_typed HO_7.out) (by decide) hg); have n3_ := Aside0.mk ((by rw [hw]; exact below_set (HB.out) GB17.out : Below w.heap.size w w20)); clear HO_7; clear HO_8; clear HO_9; clear HB; have HO_7 := n0_; have HO_8 := n1_; have HO_9 := n2_; have HB := n3_; clear n0_ n1_ n2_ n3_; clear hg hw hp_; have p463 : 0 ≤ (x48_1 : Int) := of_decide_eq_true (by (with_reducible assumption)); have q463 : x48_1 < (y462.length : Int) := (by have h_ : (x48_1 : Int) < ((x7_1.length : Int) : Int) := of_decide_eq_true (by (with_reducible assumption)); (have e_ := (Kd.R_reads' HO_7.out).1; omega)); have ql463 : ((x48_1 : Int) < ((x7_1.length : Int) : Int)) = True := eq_true (of_decide_eq_true (by (with_reducible assumption))); obtain ⟨ad463, e463, hx463_0, hx463_1, hx463_2, hx463_3⟩ := at_T45 (Kd.R_reads' HO_7.out).2.2 x48_1 p463 q463; obtain rfl : (⟨go17, 0, none⟩ : Addr) = ad463 := (by injection e463); (simp only [add_plain] at hx463_0); (simp only [add_plain] at hx463_1); (simp only [add_plain] at hx463_2); (simp only [add_plain] at hx463_3); replace p463 := eq_true p463; replace q463 := eq_true q463; have p18 : 0 ≤ (x48_1 : Int) := of_decide_eq_true (by (with_reducible assumption)); have q18 : (x48_1 : Int) < ((x7_1.length : Int) : Int) := of_decide_eq_true (by (with_reducible assumption)); obtain ⟨ce18, hcl18, hM18, hcc18, hfr18⟩ := Kd.R_elem HO_7.out z45 (x48_1 : Int) p18 q18; obtain rfl := k45_openM hM18; have hx18_0 : w20.cell? ⟨go17, (x48_1 : Int).toNat * 4, none⟩ = some (.int .i64 ((rd_T45 y462 x48_1).f0)) := hcc18 0 _ rfl; have hx18_1 : w20.cell? ⟨go17, (x48_1 : Int).toNat * 4 + 1, none⟩ = some (.int .i64 ((rd_T45 y462 x48_1).f1)) := hcc18 1 _ rfl; have hx18_2 : w20.cell? ⟨go17, (x48_1 : Int).toNat * 4 + 2, none⟩ = some (.int .i64 ((rd_T45 y462 x48_1).f2)) := hcc18 2 _ rfl; have hx18_3 : w20.cell? ⟨go17, (x48_1 : Int).toNat * 4 + 3, none⟩ = some (.int .i64 ((rd_T45 y462 x48_1).f3)) := hcc18 3 _ rfl; have hf18_0 : w20.frozen? ⟨go17, (x48_1 : Int).toNat * 4, none⟩ = false := hfr18 0; have hf18_1 : w20.frozen? ⟨go17, (x48_1 : Int).toNat * 4 + 1, none⟩ = false := hfr18 1; have hf18_2 : w20.frozen? ⟨go17, (x48_1 : Int).toNat * 4 + 2, none⟩ = false := hfr18 2; have hf18_3 : w20.frozen? ⟨go17, (x48_1 : Int).toNat * 4 + 3, none⟩ = false := hfr18 3; clear hcl18 hcc18 hfr18 hM18; replace p18 := eq_true p18; replace q18 := eq_true q18; have HX21 := Aside0.mk (show Kd.R k45 45 w20 w.heap.size (fun _ => True) (.slice (some ⟨go17, 0, none⟩) x7_1.length co10) y462 from (by (with_reducible repeat (fail)); exact HO_7.out)); obtain ⟨ce21, hcl21, hM21, hcc21, hfr21⟩ := Kd.R_elem HX21.out z45 (x48_1 : Int) (of_decide_eq_true (by (with_reducible assumption))) (by have h_ : (x48_1 : Int) < ((x7_1.length : Int) : Int) := of_decide_eq_true (by (with_reducible assumption)); exact h_); obtain rfl := k45_openM hM21; have HP21 := Kd.R_seg HX21.out (x48_1 : Int) (of_decide_eq_true (by (with_reducible assumption))) (by have h_ : (x48_1 : Int) < ((x7_1.length : Int) : Int) := of_decide_eq_true (by (with_reducible assumption)); exact h_) (seg := [.int .i64 (wrap64 (((rd_T45 y462 x48_1).f2) + (wrap64 (Int.tmod a2 1000001))))]) (j := 2) hcl21 hcc21 (show 3 ≤ 4 from by decide) (x' := (⟨(rd_T45 y462 x48_1).f0, (rd_T45 y462 x48_1).f1, wrap64 (((rd_T45 y462 x48_1).f2) + (wrap64 (Int.tmod a2 1000001))), (rd_T45 y462 x48_1).f3⟩ : S45)) (k45_mkM _ _ _ (⟨(rd_T45 y462 x48_1).f0, (rd_T45 y462 x48_1).f1, wrap64 (((rd_T45 y462 x48_1).f2) + (wrap64 (Int.tmod a2 1000001))), (rd_T45 y462 x48_1).f3⟩ : S45) ) (fun _ hk => hk); have hx21_2 := hcc21 2 _ rfl; (try simp only [show (k45).sz = 4 from rfl, Nat.mul_one, Nat.add_zero] at hx21_2); have hf21_2 := hfr21 2; (try simp only [show (k45).sz = 4 from rfl, Nat.mul_one, Nat.add_zero] at hf21_2); clear hcl21 hcc21 hfr21 hM21) | ((with_reducible refine gate_store (t := 3) (p := 68) rfl ?_); (try (rw [drewN_self w20]; generalize hq_ : World.drewN w20 _ = w20; have n0_ := Aside0.mk (Kd.R_at hq_ HO_7.out); have n1_ := Aside0.mk (Kd.R_at hq_ HO_8.out); have n2_ := Aside0.mk (Kd.R_at hq_ HO_9.out); have n3_ := Aside0.mk (below_at hq_ HB.out); clear hq_ HO_7 HO_8 HO_9 HB; have HO_7 := n0_; have HO_8 := n1_; have HO_9 := n2_; have HB := n3_; clear n0_ n1_ n2_ n3_; (try (have HX21 := Aside0.mk (show Kd.R k45 45 w20 w.heap.size (fun _ => True) (.slice (some ⟨go17, 0, none⟩) x7_1.length co10) y462 from (by (with_reducible repeat (fail)); exact HO_7.out)))); (try (obtain ⟨ce21, hcl21, hM21, hcc21, hfr21⟩ := Kd.R_elem HX21.out z45 (x48_1 : Int) (of_decide_eq_true (by fail)) (by have h_ : (x48_1 : Int) < ((x7_1.length : Int) : Int) := of_decide_eq_true (by fail); fail))); (try (obtain rfl := k45_openM hM21)); (try (have HP21 := Kd.R_seg HX21.out (x48_1 : Int) (of_decide_eq_true (by fail)) (by have h_ : (x48_1 : Int) < ((x7_1.length : Int) : Int) := of_decide_eq_true (by fail); fail) (seg := [.int .i64 (wrap64 (((rd_T45 y462 x48_1).f2) + (wrap64 (Int.tmod a2 1000001))))]) (j := 2) hcl21 hcc21 (show 3 ≤ 4 from by decide) (x' := (⟨(rd_T45 y462 x48_1).f0, (rd_T45 y462 x48_1).f1, wrap64 (((rd_T45 y462 x48_1).f2) + (wrap64 (Int.tmod a2 1000001))), (rd_T45 y462 x48_1).f3⟩ : S45)) (k45_mkM _ _ _ (⟨(rd_T45 y462 x48_1).f0, (rd_T45 y462 x48_1).f1, wrap64 (((rd_T45 y462 x48_1).f2) + (wrap64 (Int.tmod a2 1000001))), (rd_T45 y462 x48_1).f3⟩ : S45) ) (fun _ hk => hk))); (try (have hx21_2 := hcc21 2 _ rfl)); (try (try simp only [show (k45).sz = 4 from rfl, Nat.mul_one, Nat.add_zero] at hx21_2)); (try (have hf21_2 := hfr21 2)); (try (try simp only [show (k45).sz = 4 from rfl, Nat.mul_one, Nat.add_zero] at hf21_2)); (try (clear hcl21 hcc21 hfr21 hM21)))); refine store_event (t := 3) (p := 68) (v := ?vo_w22) (w1 := (w20.setCell ⟨go17, (x48_1 : Int).toNat * 4 + 2, none⟩ (.int .i64 (wrap64 (((rd_T45 y462 x48_1).f2) + (wrap64 (Int.tmod a2 1000001))))))) ?hg ?ho ?hn ?hr ?_; (case ho => rfl); (case hg => rfl); (case hn => rfl); (case hr => (go_simp; done)); intro w22 hw; have hg : w20.grownBy w22 (some go17) := (by rw [hw]; exact HP21.2); have hp_ : Kd.R k45 45 w22 w.heap.size (fun _ => True) (.slice (some ⟨go17, 0, none⟩) x7_1.length co10) y464 := (by rw [hw, Ny464.out]; exact HP21.1); clear HP21; have n0_ := Aside0.mk (hp_); have n1_ := Aside0.mk (Kd.R_over' (v := (.slice (some ⟨go17, 0, none⟩) x7_1.length co10)) (by (with_reducible repeat (fail)); exact HO_8.out) (Kd.R_typed HO_7.out) (by decide) hg); have n2_ := Aside0.mk (Kd.R_over' (v := (.slice (some ⟨go17, 0, none⟩) x7_1.length co10)) (by (with_reducible repeat (fail)); exact HO_9.out) (Kd.R_typed HO_7.out) (by decide) hg); have n3_ := Aside0.mk ((by rw [hw]; exact below_set (HB.out) GB17.out : Below w.heap.size w w22)); clear HO_7; clear HO_8; clear HO_9; clear HB; have HO_7 := n0_; have HO_8 := n1_; have HO_9 := n2_; have HB := n3_; clear n0_ n1_ n2_ n3_; clear hg hw hp_))
      repeat (go_quiet (fail); try go_wp2_with (fail))
      (try simp only [← hl7_1])
      go_roundg k1
      case measure => have := HK1.out; omega
      case rel => exact ⟨(y464), (wrap64 (x48_1 + 1)), (by rfl), H', ⟨by have := HK1.out; omega⟩, ⟨by (try simp only [hl7_1]); (with_reducible repeat (fail)); exact HO_7.out⟩, ⟨by (try simp only [hl7_1]); (with_reducible repeat (fail)); exact HO_8.out⟩, ⟨by (try simp only [hl7_1]); (with_reducible repeat (fail)); exact HO_9.out⟩, ⟨by repeat ((with_reducible exact HB.out))⟩⟩
     ·rw [if_neg c16] at H
      exact absurd H (by simp)
    ·rw [if_neg c15] at H
     exact absurd H (by simp)
   ·rw [if_neg c14] at H
    have c14b0 : decide (x48_1 < (t447.length : Int)) = false := decide_eq_false c14
    (try simp only [hl7_1] at c14b0)
    clear c14
    have H' := Aside0.mk H
    clear H
    go_wp2
    repeat (go_quiet (fail); try go_wp2)
    go_loopg [72] k1 (fun kq v72 w' => ∃ (x8_2 : List (S47)) (x72_2 : Int), v72 = .int .i64 x72_2 ∧ Aside0 (letterbaglaw30_ShiftLater.l1 kq x7_1 x8_2 t453 t454 t457 t458 t459 t460 (wrap64 (Int.tmod a2 1000001)) (t450.length : Int) x72_2 = some true) ∧ Aside0 (kq ≤ k1) ∧ Aside0 (Kd.R k45 45 w' w.heap.size (fun _ => True) (.slice Ao10 x7_1.length co10) x7_1) ∧ Aside0 (Kd.R k47 47 w' w.heap.size (fun _ => True) (.slice Ao11 t450.length co11) x8_2) ∧ Aside0 (Kd.R k51 51 w' w.heap.size (fun _ => True) v455 t453) ∧ Aside0 (Below w.heap.size w w'))
    case atStart => exact ⟨(t450), (0), (by rfl), H', ⟨Nat.le_refl _⟩, ⟨by (try simp only [hl7_1]); (with_reducible repeat (fail)); exact HO_7.out⟩, ⟨by (try simp only [hl7_1]); (with_reducible repeat (fail)); exact HO_8.out⟩, ⟨by (try simp only [hl7_1]); (with_reducible repeat (fail)); exact HO_9.out⟩, ⟨by repeat ((with_reducible exact HB.out))⟩⟩
    case round =>
     clear H'
     try clear c1
     try clear p1
     try clear q1
     try clear hx1
     try clear c2
     try clear p2
     try clear hx2
     try clear p4
     try clear q4
     try clear hx4
     try clear p6
     try clear c8
     try clear c14
     try clear c14b0
     try clear c15
     try clear c15b0
     try clear c16
     try clear c16b0
     try clear c17
     try clear p17
     try clear q17
     try clear hx17
     try clear hf17
     try clear c18
     try clear p18
     try clear q18
     try clear hx18
     try clear hf18
     try clear c19
     try clear hx19
     try clear hf19
     try clear c21
     try clear hx21
     try clear hf21
     try clear hx17_0
     try clear hx17_1
     try clear hx17_2
     try clear hx17_3
     try clear hx18_0
     try clear hx18_1
     try clear hx18_2
     try clear hx18_3
     try clear hx19_1
     try clear hx21_2
     try clear hx461_0
     try clear hx461_1
     try clear hx461_2
     try clear hx461_3
     try clear hx463_0
     try clear hx463_1
     try clear hx463_2
     try clear hx463_3
     try clear p17
     try clear p18
     try clear p2
     try clear p461
     try clear p463
     try clear p6
     try clear q17
     try clear q18
     try clear q461
     try clear q463
     obtain ⟨x8_2, x72_2, rfl, HA, HK2, HO_7, HO_8, HO_9, HB⟩ := hrel
     have hl8_2 := (Kd.R_reads' HO_8.out).1
     rw [hl8_2] at HO_8
     (try simp only [hl8_2])
     (try simp only [hl8_2] at HO_7)
     (try simp only [hl8_2] at HO_9)
     cases gk with
     | zero => exact absurd HA.out (by simp [letterbaglaw30_ShiftLater.l1])
     | succ k2 =>
      have H := HA.out
      clear HA
      simp only [letterbaglaw30_ShiftLater.l1] at H
      by_cases c23 : x72_2 < (t450.length : Int)
      ·rw [if_pos c23] at H
       have c23b0 : decide (x72_2 < (t450.length : Int)) = true := decide_eq_true c23
       (try simp only [hl7_1] at c23b0); (try simp only [hl8_2] at c23b0)
       clear c23
       by_cases c24 : 0 ≤ x72_2
       ·rw [if_pos c24] at H
        have c24b0 : decide (0 ≤ x72_2) = true := decide_eq_true c24
        clear c24
        by_cases c25 : x72_2 < (x8_2.length : Int)
        ·rw [if_pos c25] at H
         have c25b0 : decide (x72_2 < (x8_2.length : Int)) = true := decide_eq_true c25
         (try simp only [hl7_1] at c25b0); (try simp only [hl8_2] at c25b0)
         clear c25
         obtain ⟨y466, hy466⟩ : ∃ y_ : List (S47), y_ = (x8_2.set (x72_2 : Int).toNat (⟨wrap64 (((rd_T47 x8_2 x72_2).f0) + (wrap64 (Int.tmod a2 1000001))), (rd_T47 x8_2 x72_2).f1⟩ : S47)) := ⟨_, rfl⟩
         replace H : (letterbaglaw30_ShiftLater.l1 k2 x7_1 (y466.set (x72_2 : Int).toNat (⟨(rd_T47 y466 x72_2).f0, wrap64 (((rd_T47 y466 x72_2).f1) + (wrap64 (Int.tmod a2 1000001)))⟩ : S47)) t453 t454 t457 t458 t459 t460 (wrap64 (Int.tmod a2 1000001)) (t450.length : Int) (wrap64 (x72_2 + 1))) = some true := by (have H2_ := (Option.bind_some _ _).symm.trans H; rw [hy466]; with_reducible exact H2_)
         have Ny466 := Aside0.mk hy466
         clear hy466
         obtain ⟨y468, hy468⟩ : ∃ y_ : List (S47), y_ = (y466.set (x72_2 : Int).toNat (⟨(rd_T47 y466 x72_2).f0, wrap64 (((rd_T47 y466 x72_2).f1) + (wrap64 (Int.tmod a2 1000001)))⟩ : S47)) := ⟨_, rfl⟩
         replace H : (letterbaglaw30_ShiftLater.l1 k2 x7_1 y468 t453 t454 t457 t458 t459 t460 (wrap64 (Int.tmod a2 1000001)) (t450.length : Int) (wrap64 (x72_2 + 1))) = some true := by (rw [hy468]; with_reducible exact H)
         have Ny468 := Aside0.mk hy468
         clear hy468
         have H' := Aside0.mk H
         clear H
         have p465 : 0 ≤ (x72_2 : Int) := of_decide_eq_true (by (with_reducible assumption))
         have q465 : x72_2 < (x8_2.length : Int) := of_decide_eq_true (by (with_reducible assumption))
         obtain ⟨ad465, e465, hx465_0, hx465_1⟩ := at_T47 (Kd.R_reads' HO_8.out).2.2 x72_2 p465 q465
         cases e465
         replace p465 := eq_true p465
         replace q465 := eq_true q465
         have p26 : 0 ≤ (x72_2 : Int) := of_decide_eq_true (by (with_reducible assumption))
         have q26 : (x72_2 : Int) < ((x8_2.length : Int) : Int) := of_decide_eq_true (by (with_reducible assumption))
         obtain ⟨go26, co26, eo26, gb26, gl26, cl26, HG26⟩ := Kd.R_form HO_8.out (by omega)
         (cases eo26)
         have GB26 := Aside0.mk gb26
         have GG26 := Aside0.mk HG26
         clear gb26 gl26 HG26
         (simp only [add_plain] at hx465_0)
         (simp only [add_plain] at hx465_1)
         obtain ⟨ce26, hcl26, hM26, hcc26, hfr26⟩ := Kd.R_elem HO_8.out z47 (x72_2 : Int) p26 q26
         obtain rfl := k47_openM hM26
         have hx26_0 : wr.cell? ⟨go26, (x72_2 : Int).toNat * 2, none⟩ = some (.int .i64 ((rd_T47 x8_2 x72_2).f0)) := hcc26 0 _ rfl
         have hx26_1 : wr.cell? ⟨go26, (x72_2 : Int).toNat * 2 + 1, none⟩ = some (.int .i64 ((rd_T47 x8_2 x72_2).f1)) := hcc26 1 _ rfl
         have hf26_0 : wr.frozen? ⟨go26, (x72_2 : Int).toNat * 2, none⟩ = false := hfr26 0
         have hf26_1 : wr.frozen? ⟨go26, (x72_2 : Int).toNat * 2 + 1, none⟩ = false := hfr26 1
         clear hcl26 hcc26 hfr26 hM26
         replace p26 := eq_true p26
         replace q26 := eq_true q26
         have HX28 := Aside0.mk (show Kd.R k47 47 wr w.heap.size (fun _ => True) (.slice (some ⟨go26, 0, none⟩) x8_2.length co11) x8_2 from (by (with_reducible repeat (fail)); exact HO_8.out))
         obtain ⟨ce28, hcl28, hM28, hcc28, hfr28⟩ := Kd.R_elem HX28.out z47 (x72_2 : Int) (of_decide_eq_true (by (with_reducible assumption))) (by have h_ : (x72_2 : Int) < ((x8_2.length : Int) : Int) := of_decide_eq_true (by (with_reducible assumption)); exact h_)
         obtain rfl := k47_openM hM28
         have HP28 := Kd.R_seg HX28.out (x72_2 : Int) (of_decide_eq_true (by (with_reducible assumption))) (by have h_ : (x72_2 : Int) < ((x8_2.length : Int) : Int) := of_decide_eq_true (by (with_reducible assumption)); exact h_) (seg := [.int .i64 (wrap64 (((rd_T47 x8_2 x72_2).f0) + (wrap64 (Int.tmod a2 1000001))))]) (j := 0) hcl28 hcc28 (show 1 ≤ 2 from by decide) (x' := (⟨wrap64 (((rd_T47 x8_2 x72_2).f0) + (wrap64 (Int.tmod a2 1000001))), (rd_T47 x8_2 x72_2).f1⟩ : S47)) (k47_mkM _ _ _ (⟨wrap64 (((rd_T47 x8_2 x72_2).f0) + (wrap64 (Int.tmod a2 1000001))), (rd_T47 x8_2 x72_2).f1⟩ : S47) ) (fun _ hk => hk)
         have hx28_0 := hcc28 0 _ rfl
         (try simp only [show (k47).sz = 2 from rfl, Nat.mul_one, Nat.add_zero] at hx28_0)
         have hf28_0 := hfr28 0
         (try simp only [show (k47).sz = 2 from rfl, Nat.mul_one, Nat.add_zero] at hf28_0)
         clear hcl28 hcc28 hfr28 hM28
         go_wp2_with (first | ((with_reducible refine gate_store (t := 3) (p := 83) rfl ?_); (try (rw [drewN_self wr]; generalize hq_ : World.drewN wr _ = wr; have n0_ := Aside0.mk (Kd.R_at hq_ HO_7.out); have n1_ := Aside0.mk (Kd.R_at hq_ HO_8.out); have n2_ := Aside0.mk (Kd.R_at hq_ HO_9.out); have n3_ := Aside0.mk (below_at hq_ HB.out); clear hq_ HO_7 HO_8 HO_9 HB; have HO_7 := n0_; have HO_8 := n1_; have HO_9 := n2_; have HB := n3_; clear n0_ n1_ n2_ n3_; (try (have HX28 := Aside0.mk (show Kd.R k47 47 wr w.heap.size (fun _ => True) (.slice (some ⟨go26, 0, none⟩) x8_2.length co11) x8_2 from (by (with_reducible repeat (fail)); exact HO_8.out)))); (try (obtain ⟨ce28, hcl28, hM28, hcc28, hfr28⟩ := Kd.R_elem HX28.out z47 (x72_2 : Int) (of_decide_eq_true (by fail)) (by have h_ : (x72_2 : Int) < ((x8_2.length : Int) : Int) := of_decide_eq_true (by fail); fail))); (try (obtain rfl := k47_openM hM28)); (try (have HP28 := Kd.R_seg HX28.out (x72_2 : Int) (of_decide_eq_true (by fail)) (by have h_ : (x72_2 : Int) < ((x8_2.length : Int) : Int) := of_decide_eq_true (by fail); fail) (seg := [.int .i64 (wrap64 (((rd_T47 x8_2 x72_2).f0) + (wrap64 (Int.tmod a2 1000001))))]) (j := 0) hcl28 hcc28 (show 1 ≤ 2 from by decide) (x' := (⟨wrap64 (((rd_T47 x8_2 x72_2).f0) + (wrap64 (Int.tmod a2 1000001))), (rd_T47 x8_2 x72_2).f1⟩ : S47)) (k47_mkM _ _ _ (⟨wrap64 (((rd_T47 x8_2 x72_2).f0) + (wrap64 (Int.tmod a2 1000001))), (rd_T47 x8_2 x72_2).f1⟩ : S47) ) (fun _ hk => hk))); (try (have hx28_0 := hcc28 0 _ rfl)); (try (try simp only [show (k47).sz = 2 from rfl, Nat.mul_one, Nat.add_zero] at hx28_0)); (try (have hf28_0 := hfr28 0)); (try (try simp only [show (k47).sz = 2 from rfl, Nat.mul_one, Nat.add_zero] at hf28_0)); (try (clear hcl28 hcc28 hfr28 hM28)))); refine store_event (t := 3) (p := 83) (v := ?vo_w29) (w1 := (wr.setCell ⟨go26, (x72_2 : Int).toNat * 2, none⟩ (.int .i64 (wrap64 (((rd_T47 x8_2 x72_2).f0) + (wrap64 (Int.tmod a2 1000001))))))) ?hg ?ho ?hn ?hr ?_; (case ho => rfl); (case hg => rfl); (case hn => rfl); (case hr => (go_simp; done)); intro w29 hw; have hg : wr.grownBy w29 (some go26) := (by rw [hw]; exact HP28.2); have hp_ : Kd.R k47 47 w29 w.heap.size (fun _ => True) (.slice (some ⟨go26, 0, none⟩) x8_2.length co11) y466 := (by rw [hw, Ny466.out]; exact HP28.1); clear HP28; have n0_ := Aside0.mk (Kd.R_over' (v := (.slice (some ⟨go26, 0, none⟩) x8_2.length co11)) (by (with_reducible repeat (fail)); exact HO_7.out) (Kd.R_typed HO_8.out) (by decide) hg); have n1_ := Aside0.mk (hp_); have n2_ := Aside0.mk (Kd.R_over' (v := (.slice (some ⟨go26, 0, none⟩) x8_2.length co11)) (by (with_reducible repeat (fail)); exact HO_9.out) (Kd.R_typed HO_8.out) (by decide) hg); have n3_ := Aside0.mk ((by rw [hw]; exact below_set (HB.out) GB26.out : Below w.heap.size w w29)); clear HO_7; clear HO_8; clear HO_9; clear HB; have HO_7 := n0_; have HO_8 := n1_; have HO_9 := n2_; have HB := n3_; clear n0_ n1_ n2_ n3_; clear hg hw hp_; have p467 : 0 ≤ (x72_2 : Int) := of_decide_eq_true (by (with_reducible assumption)); have q467 : x72_2 < (y466.length : Int) := (by have h_ : (x72_2 : Int) < ((x8_2.length : Int) : Int) := of_decide_eq_true (by (with_reducible assumption)); (have e_ := (Kd.R_reads' HO_8.out).1; omega)); have ql467 : ((x72_2 : Int) < ((x8_2.length : Int) : Int)) = True := eq_true (of_decide_eq_true (by (with_reducible assumption))); obtain ⟨ad467, e467, hx467_0, hx467_1⟩ := at_T47 (Kd.R_reads' HO_8.out).2.2 x72_2 p467 q467; obtain rfl : (⟨go26, 0, none⟩ : Addr) = ad467 := (by injection e467); (simp only [add_plain] at hx467_0); (simp only [add_plain] at hx467_1); replace p467 := eq_true p467; replace q467 := eq_true q467; have p27 : 0 ≤ (x72_2 : Int) := of_decide_eq_true (by (with_reducible assumption)); have q27 : (x72_2 : Int) < ((x8_2.length : Int) : Int) := of_decide_eq_true (by (with_reducible assumption)); obtain ⟨ce27, hcl27, hM27, hcc27, hfr27⟩ := Kd.R_elem HO_8.out z47 (x72_2 : Int) p27 q27; obtain rfl := k47_openM hM27; have hx27_0 : w29.cell? ⟨go26, (x72_2 : Int).toNat * 2, none⟩ = some (.int .i64 ((rd_T47 y466 x72_2).f0)) := hcc27 0 _ rfl; have hx27_1 : w29.cell? ⟨go26, (x72_2 : Int).toNat * 2 + 1, none⟩ = some (.int .i64 ((rd_T47 y466 x72_2).f1)) := hcc27 1 _ rfl; have hf27_0 : w29.frozen? ⟨go26, (x72_2 : Int).toNat * 2, none⟩ = false := hfr27 0; have hf27_1 : w29.frozen? ⟨go26, (x72_2 : Int).toNat * 2 + 1, none⟩ = false := hfr27 1; clear hcl27 hcc27 hfr27 hM27; replace p27 := eq_true p27; replace q27 := eq_true q27; have HX30 := Aside0.mk (show Kd.R k47 47 w29 w.heap.size (fun _ => True) (.slice (some ⟨go26, 0, none⟩) x8_2.length co11) y466 from (by (with_reducible repeat (fail)); exact HO_8.out)); obtain ⟨ce30, hcl30, hM30, hcc30, hfr30⟩ := Kd.R_elem HX30.out z47 (x72_2 : Int) (of_decide_eq_true (by (with_reducible assumption))) (by have h_ : (x72_2 : Int) < ((x8_2.length : Int) : Int) := of_decide_eq_true (by (with_reducible assumption)); exact h_); obtain rfl := k47_openM hM30; have HP30 := Kd.R_seg HX30.out (x72_2 : Int) (of_decide_eq_true (by (with_reducible assumption))) (by have h_ : (x72_2 : Int) < ((x8_2.length : Int) : Int) := of_decide_eq_true (by (with_reducible assumption)); exact h_) (seg := [.int .i64 (wrap64 (((rd_T47 y466 x72_2).f1) + (wrap64 (Int.tmod a2 1000001))))]) (j := 1) hcl30 hcc30 (show 2 ≤ 2 from by decide) (x' := (⟨(rd_T47 y466 x72_2).f0, wrap64 (((rd_T47 y466 x72_2).f1) + (wrap64 (Int.tmod a2 1000001)))⟩ : S47)) (k47_mkM _ _ _ (⟨(rd_T47 y466 x72_2).f0, wrap64 (((rd_T47 y466 x72_2).f1) + (wrap64 (Int.tmod a2 1000001)))⟩ : S47) ) (fun _ hk => hk); have hx30_1 := hcc30 1 _ rfl; (try simp only [show (k47).sz = 2 from rfl, Nat.mul_one, Nat.add_zero] at hx30_1); have hf30_1 := hfr30 1; (try simp only [show (k47).sz = 2 from rfl, Nat.mul_one, Nat.add_zero] at hf30_1); clear hcl30 hcc30 hfr30 hM30) | ((with_reducible refine gate_store (t := 3) (p := 92) rfl ?_); (try (rw [drewN_self w29]; generalize hq_ : World.drewN w29 _ = w29; have n0_ := Aside0.mk (Kd.R_at hq_ HO_7.out); have n1_ := Aside0.mk (Kd.R_at hq_ HO_8.out); have n2_ := Aside0.mk (Kd.R_at hq_ HO_9.out); have n3_ := Aside0.mk (below_at hq_ HB.out); clear hq_ HO_7 HO_8 HO_9 HB; have HO_7 := n0_; have HO_8 := n1_; have HO_9 := n2_; have HB := n3_; clear n0_ n1_ n2_ n3_; (try (have HX30 := Aside0.mk (show Kd.R k47 47 w29 w.heap.size (fun _ => True) (.slice (some ⟨go26, 0, none⟩) x8_2.length co11) y466 from (by (with_reducible repeat (fail)); exact HO_8.out)))); (try (obtain ⟨ce30, hcl30, hM30, hcc30, hfr30⟩ := Kd.R_elem HX30.out z47 (x72_2 : Int) (of_decide_eq_true (by fail)) (by have h_ : (x72_2 : Int) < ((x8_2.length : Int) : Int) := of_decide_eq_true (by fail); fail))); (try (obtain rfl := k47_openM hM30)); (try (have HP30 := Kd.R_seg HX30.out (x72_2 : Int) (of_decide_eq_true (by fail)) (by have h_ : (x72_2 : Int) < ((x8_2.length : Int) : Int) := of_decide_eq_true (by fail); fail) (seg := [.int .i64 (wrap64 (((rd_T47 y466 x72_2).f1) + (wrap64 (Int.tmod a2 1000001))))]) (j := 1) hcl30 hcc30 (show 2 ≤ 2 from by decide) (x' := (⟨(rd_T47 y466 x72_2).f0, wrap64 (((rd_T47 y466 x72_2).f1) + (wrap64 (Int.tmod a2 1000001)))⟩ : S47)) (k47_mkM _ _ _ (⟨(rd_T47 y466 x72_2).f0, wrap64 (((rd_T47 y466 x72_2).f1) + (wrap64 (Int.tmod a2 1000001)))⟩ : S47) ) (fun _ hk => hk))); (try (have hx30_1 := hcc30 1 _ rfl)); (try (try simp only [show (k47).sz = 2 from rfl, Nat.mul_one, Nat.add_zero] at hx30_1)); (try (have hf30_1 := hfr30 1)); (try (try simp only [show (k47).sz = 2 from rfl, Nat.mul_one, Nat.add_zero] at hf30_1)); (try (clear hcl30 hcc30 hfr30 hM30)))); refine store_event (t := 3) (p := 92) (v := ?vo_w31) (w1 := (w29.setCell ⟨go26, (x72_2 : Int).toNat * 2 + 1, none⟩ (.int .i64 (wrap64 (((rd_T47 y466 x72_2).f1) + (wrap64 (Int.tmod a2 1000001))))))) ?hg ?ho ?hn ?hr ?_; (case ho => rfl); (case hg => rfl); (case hn => rfl); (case hr => (go_simp; done)); intro w31 hw; have hg : w29.grownBy w31 (some go26) := (by rw [hw]; exact HP30.2); have hp_ : Kd.R k47 47 w31 w.heap.size (fun _ => True) (.slice (some ⟨go26, 0, none⟩) x8_2.length co11) y468 := (by rw [hw, Ny468.out]; exact HP30.1); clear HP30; have n0_ := Aside0.mk (Kd.R_over' (v := (.slice (some ⟨go26, 0, none⟩) x8_2.length co11)) (by (with_reducible repeat (fail)); exact HO_7.out) (Kd.R_typed HO_8.out) (by decide) hg); have n1_ := Aside0.mk (hp_); have n2_ := Aside0.mk (Kd.R_over' (v := (.slice (some ⟨go26, 0, none⟩) x8_2.length co11)) (by (with_reducible repeat (fail)); exact HO_9.out) (Kd.R_typed HO_8.out) (by decide) hg); have n3_ := Aside0.mk ((by rw [hw]; exact below_set (HB.out) GB26.out : Below w.heap.size w w31)); clear HO_7; clear HO_8; clear HO_9; clear HB; have HO_7 := n0_; have HO_8 := n1_; have HO_9 := n2_; have HB := n3_; clear n0_ n1_ n2_ n3_; clear hg hw hp_))
         repeat (go_quiet (fail); try go_wp2_with (fail))
         (try simp only [← hl8_2])
         go_roundg k2
         case measure => have := HK1.out; have := HK2.out; omega
         case rel => exact ⟨(y468), (wrap64 (x72_2 + 1)), (by rfl), H', ⟨by have := HK1.out; have := HK2.out; omega⟩, ⟨by (try simp only [hl7_1]); (try simp only [hl8_2]); (with_reducible repeat (fail)); exact HO_7.out⟩, ⟨by (try simp only [hl7_1]); (try simp only [hl8_2]); (with_reducible repeat (fail)); exact HO_8.out⟩, ⟨by (try simp only [hl7_1]); (try simp only [hl8_2]); (with_reducible repeat (fail)); exact HO_9.out⟩, ⟨by repeat ((with_reducible exact HB.out))⟩⟩
        ·rw [if_neg c25] at H
         exact absurd H (by simp)
       ·rw [if_neg c24] at H
        exact absurd H (by simp)
      ·rw [if_neg c23] at H
       have c23b0 : decide (x72_2 < (t450.length : Int)) = false := decide_eq_false c23
       (try simp only [hl7_1] at c23b0); (try simp only [hl8_2] at c23b0)
       clear c23
       replace H := Option.bind_eq_some_iff.mp H
       obtain ⟨⟨t469, t470⟩, A320, H⟩ := H
       replace H : ((shift_Excess.f k2 x7_1 x8_2).bind fun bt473 => (if (wrap64 ((wrap64 ((wrap64 (t454 + t460)) + t470)) + bt473.2.2.2)) = 0 then (if (t453.length : Int) = (t469.length : Int) then (if (t459 != bt473.2.2.1) = true then (letterbaglaw30_ShiftLater.j2 k2 t453 (wrap64 (Int.tmod a2 1000001)) t469 true) else (if t459 = true then (if bt473.1 = (wrap64 (t457 + (wrap64 (Int.tmod a2 1000001)))) then (letterbaglaw30_ShiftLater.j2 k2 t453 (wrap64 (Int.tmod a2 1000001)) t469 (bt473.2.1 != (wrap64 (t458 + (wrap64 (Int.tmod a2 1000001)))))) else (letterbaglaw30_ShiftLater.j2 k2 t453 (wrap64 (Int.tmod a2 1000001)) t469 true)) else (letterbaglaw30_ShiftLater.j2 k2 t453 (wrap64 (Int.tmod a2 1000001)) t469 false))) else (letterbaglaw30_ShiftLater.j2 k2 t453 (wrap64 (Int.tmod a2 1000001)) t469 true)) else (letterbaglaw30_ShiftLater.j2 k2 t453 (wrap64 (Int.tmod a2 1000001)) t469 true))) = some true := H
       have A32 := Aside0.mk A320
       clear A320
       replace H := Option.bind_eq_some_iff.mp H
       obtain ⟨⟨t473, t474, t475, t476⟩, A330, H⟩ := H
       replace H : (if (wrap64 ((wrap64 ((wrap64 (t454 + t460)) + t470)) + t476)) = 0 then (if (t453.length : Int) = (t469.length : Int) then (if (t459 != t475) = true then (letterbaglaw30_ShiftLater.j2 k2 t453 (wrap64 (Int.tmod a2 1000001)) t469 true) else (if t459 = true then (if t473 = (wrap64 (t457 + (wrap64 (Int.tmod a2 1000001)))) then (letterbaglaw30_ShiftLater.j2 k2 t453 (wrap64 (Int.tmod a2 1000001)) t469 (t474 != (wrap64 (t458 + (wrap64 (Int.tmod a2 1000001)))))) else (letterbaglaw30_ShiftLater.j2 k2 t453 (wrap64 (Int.tmod a2 1000001)) t469 true)) else (letterbaglaw30_ShiftLater.j2 k2 t453 (wrap64 (Int.tmod a2 1000001)) t469 false))) else (letterbaglaw30_ShiftLater.j2 k2 t453 (wrap64 (Int.tmod a2 1000001)) t469 true)) else (letterbaglaw30_ShiftLater.j2 k2 t453 (wrap64 (Int.tmod a2 1000001)) t469 true)) = some true := H
       have A33 := Aside0.mk A330
       clear A330
       have HC34 := Aside0.mk H
       clear H
       go_upto_region 19 with (first | (go_at_call 12; (with_reducible refine (shift_Make.calls _ _ x7_1 _ _ x8_2 t469 t470 _ ?side1 ?side2 ?side3 ?side4 A32.out).mono ?_); (case side1 => repeat (exact (Kd.R_reads' HO_7.out).2.2)); (case side2 => exact (Kd.R_reads' HO_7.out).2.1); (case side3 => repeat (exact (Kd.R_reads' HO_8.out).2.2)); (case side4 => exact (Kd.R_reads' HO_8.out).2.1); rintro e w35 ⟨v471, rfl, ho0, hb⟩; have n0_ := Aside0.mk (Kd.R_below (by (with_reducible repeat (fail)); exact HO_7.out) hb); have n1_ := Aside0.mk (Kd.R_below (by (with_reducible repeat (fail)); exact HO_8.out) hb); have n2_ := Aside0.mk (Kd.R_elder' (by (with_reducible repeat (fail)); exact HO_9.out) (Kd.R_base ho0) hb); have n3_ := Aside0.mk (Kd.R_lower (Kd.R_new' ho0 (Kd.R_lt (by (with_reducible repeat (fail)); exact HO_9.out))) (below_size (by repeat ((with_reducible exact HB.out))))); have n4_ := Aside0.mk (below_step (by repeat ((with_reducible exact HB.out))) hb); clear HO_7; clear HO_8; clear HO_9; clear HB; have HO_7 := n0_; have HO_8 := n1_; have HO_9 := n2_; have HO472 := n3_; have HB := n4_; clear n0_ n1_ n2_ n3_ n4_; (try clear hb); (try clear hb2); (try clear hk); (try clear hi); (try clear ho0)) | (go_at_call 18; (with_reducible refine (shift_Excess.calls k2 _ _ x7_1 _ _ x8_2 t473 t474 t475 t476 _ ?side1 ?side2 ?side3 ?side4 A33.out).mono ?_); (case side1 => repeat (exact (Kd.R_reads' HO_7.out).2.2)); (case side2 => exact (Kd.R_reads' HO_7.out).2.1); (case side3 => repeat (exact (Kd.R_reads' HO_8.out).2.2)); (case side4 => exact (Kd.R_reads' HO_8.out).2.1); rintro e w36 ⟨rfl, hb⟩; have n0_ := Aside0.mk (Kd.R_below (by (with_reducible repeat (fail)); exact HO_7.out) hb); have n1_ := Aside0.mk (Kd.R_below (by (with_reducible repeat (fail)); exact HO_8.out) hb); have n2_ := Aside0.mk (Kd.R_below (by (with_reducible repeat (fail)); exact HO_9.out) hb); have n3_ := Aside0.mk (Kd.R_below (by (with_reducible repeat (fail)); exact HO472.out) hb); have n4_ := Aside0.mk (below_step (by repeat ((with_reducible exact HB.out))) hb); clear HO_7; clear HO_8; clear HO_9; clear HO472; clear HB; have HO_7 := n0_; have HO_8 := n1_; have HO_9 := n2_; have HO472 := n3_; have HB := n4_; clear n0_ n1_ n2_ n3_ n4_; (try clear hb); (try clear hb2); (try clear hk); (try clear hi)))
       repeat (go_quiet (fail); go_upto_region 19 with (fail))
       (try simp only [Act.put, List.setIfInBounds_toArray, List.set_cons_zero, List.set_cons_succ])
       go_cut [144] (fun v144 wc => ∃ (kq : Nat) (x144_33 : Bool), v144 = .bool x144_33 ∧ Aside0 (letterbaglaw30_ShiftLater.j2 kq t453 (wrap64 (Int.tmod a2 1000001)) t469 x144_33 = some true) ∧ Aside0 (kq ≤ k2) ∧ Aside0 (Kd.R k51 51 wc w.heap.size (fun k_ => some k_ ≠ (v471 : Value).ownBlock) v455 t453) ∧ Aside0 (Kd.R k51 51 wc w.heap.size (fun k_ => some k_ ≠ (v455 : Value).ownBlock) v471 t469) ∧ Aside0 (Below w.heap.size w wc))
       case first =>
        have H := HC34.out
        clear HC34
        by_cases c37 : (wrap64 ((wrap64 ((wrap64 (t454 + t460)) + t470)) + t476)) = 0
        ·rw [if_pos c37] at H
         have c37b0 : ((wrap64 ((wrap64 ((wrap64 (t454 + t460)) + t470)) + t476)) == 0) = true := beq_iff_eq.mpr c37
         have c37b1 : ((wrap64 ((wrap64 ((wrap64 (t454 + t460)) + t470)) + t476)) != 0) = false := bne_eq_false_iff_eq.mpr c37
         clear c37
         (skip)
         by_cases c38 : (t453.length : Int) = (t469.length : Int)
         ·rw [if_pos c38] at H
          have c38b0 : ((t453.length : Int) == (t469.length : Int)) = true := beq_iff_eq.mpr c38
          have c38b1 : ((t453.length : Int) != (t469.length : Int)) = false := bne_eq_false_iff_eq.mpr c38
          have c38b2 : (t453.length == t469.length) = true := by (simp at c38 ⊢; omega)
          clear c38
          by_cases c39 : (t459 != t475) = true
          ·rw [if_pos c39] at H
           have c39b0 : (t459 != t475) = true := c39
           (try (have c39b1 : decide (t459 = t475) = false := by simpa using c39))
           (try (have c39b2 : (t459 == t475) = false := by simpa using c39))
           (try (have c39b3 : ¬ (t459 = t475) := by simpa using c39))
           clear c39
           have H' := Aside0.mk H
           clear H
           obtain ⟨Ao40, co40, eo40⟩ := Kd.R_slice HO_9.out
           subst eo40
           obtain ⟨Ao41, co41, eo41⟩ := Kd.R_slice HO472.out
           subst eo41
           go_wp2
           repeat (go_quiet (fail); try go_wp2)
           go_meet
           case rel => exact ⟨_, (true), (by rfl), H', ⟨by have := HK1.out; have := HK2.out; omega⟩, ⟨by (try simp only [hl7_1]); (try simp only [hl8_2]); (with_reducible repeat (fail)); exact Kd.R_mono HO_9.out (fun _ hk => hk.2)⟩, ⟨by (try simp only [hl7_1]); (try simp only [hl8_2]); (with_reducible repeat (fail)); exact Kd.R_mono HO472.out (fun _ hk => hk.2)⟩, ⟨by repeat ((with_reducible exact HB.out))⟩⟩
          ·rw [if_neg c39] at H
           have c39b0 : (t459 != t475) = false := by simpa using c39
           (try (have c39b1 : decide (t459 = t475) = true := by simpa using c39))
           (try (have c39b2 : (t459 == t475) = true := by simpa using c39))
           clear c39
           by_cases c42 : t459 = true
           ·subst c42
            have H1 : (if t473 = (wrap64 (t457 + (wrap64 (Int.tmod a2 1000001)))) then (letterbaglaw30_ShiftLater.j2 k2 t453 (wrap64 (Int.tmod a2 1000001)) t469 (t474 != (wrap64 (t458 + (wrap64 (Int.tmod a2 1000001)))))) else (letterbaglaw30_ShiftLater.j2 k2 t453 (wrap64 (Int.tmod a2 1000001)) t469 true)) = some true := by rw [if_pos rfl] at H; exact H
            clear H
            have H := H1
            clear H1
            by_cases c43 : t473 = (wrap64 (t457 + (wrap64 (Int.tmod a2 1000001))))
            ·rw [if_pos c43] at H
             have c43b0 : (t473 == (wrap64 (t457 + (wrap64 (Int.tmod a2 1000001))))) = true := beq_iff_eq.mpr c43
             have c43b1 : (t473 != (wrap64 (t457 + (wrap64 (Int.tmod a2 1000001))))) = false := bne_eq_false_iff_eq.mpr c43
             clear c43
             have H' := Aside0.mk H
             clear H
             obtain ⟨Ao44, co44, eo44⟩ := Kd.R_slice HO_9.out
             subst eo44
             obtain ⟨Ao45, co45, eo45⟩ := Kd.R_slice HO472.out
             subst eo45
             go_wp2
             repeat (go_quiet (fail); try go_wp2)
             go_meet
             case rel => exact ⟨_, ((t474 != (wrap64 (t458 + (wrap64 (Int.tmod a2 1000001)))))), (by rfl), H', ⟨by have := HK1.out; have := HK2.out; omega⟩, ⟨by (try simp only [hl7_1]); (try simp only [hl8_2]); (with_reducible repeat (fail)); exact Kd.R_mono HO_9.out (fun _ hk => hk.2)⟩, ⟨by (try simp only [hl7_1]); (try simp only [hl8_2]); (with_reducible repeat (fail)); exact Kd.R_mono HO472.out (fun _ hk => hk.2)⟩, ⟨by repeat ((with_reducible exact HB.out))⟩⟩
            ·rw [if_neg c43] at H
             have c43b0 : (t473 == (wrap64 (t457 + (wrap64 (Int.tmod a2 1000001))))) = false := beq_eq_false_iff_ne.mpr c43
             have c43b1 : (t473 != (wrap64 (t457 + (wrap64 (Int.tmod a2 1000001))))) = true := bne_iff_ne.mpr c43
             have H' := Aside0.mk H
             clear H
             obtain ⟨Ao46, co46, eo46⟩ := Kd.R_slice HO_9.out
             subst eo46
             obtain ⟨Ao47, co47, eo47⟩ := Kd.R_slice HO472.out
             subst eo47
             go_wp2
             repeat (go_quiet (fail); try go_wp2)
             go_meet
             case rel => exact ⟨_, (true), (by rfl), H', ⟨by have := HK1.out; have := HK2.out; omega⟩, ⟨by (try simp only [hl7_1]); (try simp only [hl8_2]); (with_reducible repeat (fail)); exact Kd.R_mono HO_9.out (fun _ hk => hk.2)⟩, ⟨by (try simp only [hl7_1]); (try simp only [hl8_2]); (with_reducible repeat (fail)); exact Kd.R_mono HO472.out (fun _ hk => hk.2)⟩, ⟨by repeat ((with_reducible exact HB.out))⟩⟩
           ·replace c42 := Bool.eq_false_iff.mpr c42
            subst c42
            have H1 : (letterbaglaw30_ShiftLater.j2 k2 t453 (wrap64 (Int.tmod a2 1000001)) t469 false) = some true := by rw [if_neg (show ¬ (false = true) by decide)] at H; exact H
            clear H
            have H := H1
            clear H1
            have H' := Aside0.mk H
            clear H
            obtain ⟨Ao48, co48, eo48⟩ := Kd.R_slice HO_9.out
            subst eo48
            obtain ⟨Ao49, co49, eo49⟩ := Kd.R_slice HO472.out
            subst eo49
            go_wp2
            repeat (go_quiet (fail); try go_wp2)
            go_meet
            case rel => exact ⟨_, (false), (by rfl), H', ⟨by have := HK1.out; have := HK2.out; omega⟩, ⟨by (try simp only [hl7_1]); (try simp only [hl8_2]); (with_reducible repeat (fail)); exact Kd.R_mono HO_9.out (fun _ hk => hk.2)⟩, ⟨by (try simp only [hl7_1]); (try simp only [hl8_2]); (with_reducible repeat (fail)); exact Kd.R_mono HO472.out (fun _ hk => hk.2)⟩, ⟨by repeat ((with_reducible exact HB.out))⟩⟩
         ·rw [if_neg c38] at H
          have c38b0 : ((t453.length : Int) == (t469.length : Int)) = false := beq_eq_false_iff_ne.mpr c38
          have c38b1 : ((t453.length : Int) != (t469.length : Int)) = true := bne_iff_ne.mpr c38
          have c38b2 : (t453.length == t469.length) = false := by (simp at c38 ⊢; omega)
          have H' := Aside0.mk H
          clear H
          obtain ⟨Ao50, co50, eo50⟩ := Kd.R_slice HO_9.out
          subst eo50
          obtain ⟨Ao51, co51, eo51⟩ := Kd.R_slice HO472.out
          subst eo51
          go_wp2
          repeat (go_quiet (fail); try go_wp2)
          go_meet
          case rel => exact ⟨_, (true), (by rfl), H', ⟨by have := HK1.out; have := HK2.out; omega⟩, ⟨by (try simp only [hl7_1]); (try simp only [hl8_2]); (with_reducible repeat (fail)); exact Kd.R_mono HO_9.out (fun _ hk => hk.2)⟩, ⟨by (try simp only [hl7_1]); (try simp only [hl8_2]); (with_reducible repeat (fail)); exact Kd.R_mono HO472.out (fun _ hk => hk.2)⟩, ⟨by repeat ((with_reducible exact HB.out))⟩⟩
        ·rw [if_neg c37] at H
         have c37b0 : ((wrap64 ((wrap64 ((wrap64 (t454 + t460)) + t470)) + t476)) == 0) = false := beq_eq_false_iff_ne.mpr c37
         have c37b1 : ((wrap64 ((wrap64 ((wrap64 (t454 + t460)) + t470)) + t476)) != 0) = true := bne_iff_ne.mpr c37
         (skip)
         have H' := Aside0.mk H
         clear H
         go_wp2
         repeat (go_quiet (fail); try go_wp2)
         go_meet
         case rel => exact ⟨_, (true), (by rfl), H', ⟨by have := HK1.out; have := HK2.out; omega⟩, ⟨by (try simp only [hl7_1]); (try simp only [hl8_2]); (with_reducible repeat (fail)); exact Kd.R_mono HO_9.out (fun _ hk => hk.2)⟩, ⟨by (try simp only [hl7_1]); (try simp only [hl8_2]); (with_reducible repeat (fail)); exact Kd.R_mono HO472.out (fun _ hk => hk.2)⟩, ⟨by repeat ((with_reducible exact HB.out))⟩⟩
       case rest =>
        clear HC34
        try clear c1
        try clear p1
        try clear q1
        try clear hx1
        try clear c2
        try clear p2
        try clear q2
        try clear hx2
        try clear c3
        try clear hx3
        try clear hf3
        try clear c4
        try clear p4
        try clear q4
        try clear hx4
        try clear p6
        try clear c8
        try clear c14
        try clear c14b0
        try clear c15
        try clear c15b0
        try clear c16
        try clear c16b0
        try clear c17
        try clear p17
        try clear q17
        try clear hx17
        try clear hf17
        try clear c18
        try clear p18
        try clear q18
        try clear hx18
        try clear hf18
        try clear c19
        try clear hx19
        try clear hf19
        try clear c21
        try clear hx21
        try clear hf21
        try clear c23
        try clear c23b0
        try clear c24
        try clear c24b0
        try clear c25
        try clear c25b0
        try clear c26
        try clear p26
        try clear q26
        try clear hx26
        try clear hf26
        try clear c27
        try clear p27
        try clear q27
        try clear hx27
        try clear hf27
        try clear c28
        try clear hx28
        try clear hf28
        try clear c30
        try clear hx30
        try clear hf30
        try clear c37
        try clear c37b0
        try clear c37b1
        try clear c38
        try clear c38b0
        try clear c38b1
        try clear c38b2
        try clear c39
        try clear c39b0
        try clear c39b1
        try clear c39b2
        try clear c42
        try clear c43
        try clear c43b0
        try clear c43b1
        try clear p46
        try clear q46
        try clear hx46
        try clear hx17_0
        try clear hx17_1
        try clear hx17_2
        try clear hx17_3
        try clear hx18_0
        try clear hx18_1
        try clear hx18_2
        try clear hx18_3
        try clear hx19_1
        try clear hx21_2
        try clear hx26_0
        try clear hx26_1
        try clear hx27_0
        try clear hx27_1
        try clear hx28_0
        try clear hx30_1
        try clear hx461_0
        try clear hx461_1
        try clear hx461_2
        try clear hx461_3
        try clear hx463_0
        try clear hx463_1
        try clear hx463_2
        try clear hx463_3
        try clear hx465_0
        try clear hx465_1
        try clear hx467_0
        try clear hx467_1
        try clear p1
        try clear p17
        try clear p18
        try clear p2
        try clear p26
        try clear p27
        try clear p4
        try clear p461
        try clear p463
        try clear p465
        try clear p467
        try clear p6
        try clear q1
        try clear q17
        try clear q18
        try clear q26
        try clear q27
        try clear q4
        try clear q461
        try clear q463
        try clear q465
        try clear q467
        obtain ⟨kq, x144_33, rfl, HA, HJ33, HO_9, HO_18, HB⟩ := hcut
        cases kq with
        | zero => exact absurd HA.out (by simp [letterbaglaw30_ShiftLater.j2])
        | succ kj33 =>
         have H := HA.out
         clear HA
         simp only [letterbaglaw30_ShiftLater.j2] at H
         by_cases c52 : x144_33 = true
         ·subst c52
          have H1 : (some false) = some true := by rw [if_pos rfl] at H; exact H
          clear H
          have H := H1
          clear H1
          exact absurd H (by simp)
         ·replace c52 := Bool.eq_false_iff.mpr c52
          subst c52
          have H1 : (letterbaglaw30_ShiftLater.l2 kj33 t453 (wrap64 (Int.tmod a2 1000001)) t469 (t453.length : Int) 0) = some true := by rw [if_neg (show ¬ (false = true) by decide)] at H; exact H
          clear H
          have H := H1
          clear H1
          have H' := Aside0.mk H
          clear H
          obtain ⟨Ao53, co53, eo53⟩ := Kd.R_slice HO_9.out
          subst eo53
          go_wp2
          repeat (go_quiet (fail); try go_wp2)
          go_loopg [147] kj33 (fun kq v147 w' => ∃ (x147_4 : Int), v147 = .int .i64 x147_4 ∧ Aside0 (letterbaglaw30_ShiftLater.l2 kq t453 (wrap64 (Int.tmod a2 1000001)) t469 (t453.length : Int) x147_4 = some true) ∧ Aside0 (kq ≤ kj33) ∧ Aside0 (Kd.R k51 51 w' w.heap.size (fun k_ => some k_ ≠ (v471 : Value).ownBlock) (.slice Ao53 t453.length co53) t453) ∧ Aside0 (Kd.R k51 51 w' w.heap.size (fun k_ => some k_ ≠ ((.slice Ao53 t453.length co53) : Value).ownBlock) v471 t469) ∧ Aside0 (Below w.heap.size w w'))
          case atStart => exact ⟨(0), (by rfl), H', ⟨Nat.le_refl _⟩, ⟨by (try simp only [hl7_1]); (try simp only [hl8_2]); (with_reducible repeat (fail)); exact HO_9.out⟩, ⟨by (try simp only [hl7_1]); (try simp only [hl8_2]); (with_reducible repeat (fail)); exact HO_18.out⟩, ⟨by repeat ((with_reducible exact HB.out))⟩⟩
          case round =>
           clear H'
           try clear c1
           try clear p1
           try clear q1
           try clear hx1
           try clear c2
           try clear p2
           try clear q2
           try clear hx2
           try clear c3
           try clear hx3
           try clear hf3
           try clear c4
           try clear p4
           try clear q4
           try clear hx4
           try clear c5
           try clear p6
           try clear c8
           try clear c14
           try clear c14b0
           try clear c15
           try clear c15b0
           try clear c16
           try clear c16b0
           try clear c17
           try clear p17
           try clear q17
           try clear hx17
           try clear hf17
           try clear c18
           try clear p18
           try clear q18
           try clear hx18
           try clear hf18
           try clear c19
           try clear hx19
           try clear hf19
           try clear c21
           try clear hx21
           try clear hf21
           try clear c23
           try clear c23b0
           try clear c24
           try clear c24b0
           try clear c25
           try clear c25b0
           try clear c26
           try clear p26
           try clear q26
           try clear hx26
           try clear hf26
           try clear c27
           try clear p27
           try clear q27
           try clear hx27
           try clear hf27
           try clear c28
           try clear hx28
           try clear hf28
           try clear c30
           try clear hx30
           try clear hf30
           try clear c37
           try clear c37b0
           try clear c37b1
           try clear c38
           try clear c38b0
           try clear c38b1
           try clear c38b2
           try clear c39
           try clear c39b0
           try clear c39b1
           try clear c39b2
           try clear c42
           try clear c43
           try clear c43b0
           try clear c43b1
           try clear p46
           try clear q46
           try clear hx46
           try clear c52
           try clear hx17_0
           try clear hx17_1
           try clear hx17_2
           try clear hx17_3
           try clear hx18_0
           try clear hx18_1
           try clear hx18_2
           try clear hx18_3
           try clear hx19_1
           try clear hx21_2
           try clear hx26_0
           try clear hx26_1
           try clear hx27_0
           try clear hx27_1
           try clear hx28_0
           try clear hx30_1
           try clear hx461_0
           try clear hx461_1
           try clear hx461_2
           try clear hx461_3
           try clear hx463_0
           try clear hx463_1
           try clear hx463_2
           try clear hx463_3
           try clear hx465_0
           try clear hx465_1
           try clear hx467_0
           try clear hx467_1
           try clear p1
           try clear p17
           try clear p18
           try clear p2
           try clear p26
           try clear p27
           try clear p4
           try clear p46
           try clear p461
           try clear p463
           try clear p465
           try clear p467
           try clear p6
           try clear q1
           try clear q17
           try clear q18
           try clear q2
           try clear q26
           try clear q27
           try clear q4
           try clear q46
           try clear q461
           try clear q463
           try clear q465
           try clear q467
           obtain ⟨x147_4, rfl, HA, HK4, HO_9, HO_18, HB⟩ := hrel
           cases gk with
           | zero => exact absurd HA.out (by simp [letterbaglaw30_ShiftLater.l2])
           | succ k4 =>
            have H := HA.out
            clear HA
            simp only [letterbaglaw30_ShiftLater.l2] at H
            by_cases c54 : x147_4 < (t453.length : Int)
            ·rw [if_pos c54] at H
             have c54b0 : decide (x147_4 < (t453.length : Int)) = true := decide_eq_true c54
             (try simp only [hl7_1] at c54b0); (try simp only [hl8_2] at c54b0)
             clear c54
             by_cases c55 : 0 ≤ x147_4
             ·rw [if_pos c55] at H
              have c55b0 : decide (0 ≤ x147_4) = true := decide_eq_true c55
              clear c55
              by_cases c56 : x147_4 < (t453.length : Int)
              ·rw [if_pos c56] at H
               have c56b0 : decide (x147_4 < (t453.length : Int)) = true := decide_eq_true c56
               (try simp only [hl7_1] at c56b0); (try simp only [hl8_2] at c56b0)
               clear c56
               by_cases c57 : x147_4 < (t469.length : Int)
               ·rw [if_pos c57] at H
                have c57b0 : decide (x147_4 < (t469.length : Int)) = true := decide_eq_true c57
                (try simp only [hl7_1] at c57b0); (try simp only [hl8_2] at c57b0)
                clear c57
                by_cases c58 : ((rd_T51 t453 x147_4).f0) = ((rd_T51 t469 x147_4).f0)
                ·rw [if_pos c58] at H
                 have c58b0 : (((rd_T51 t453 x147_4).f0) == ((rd_T51 t469 x147_4).f0)) = true := beq_iff_eq.mpr c58
                 have c58b1 : (((rd_T51 t453 x147_4).f0) != ((rd_T51 t469 x147_4).f0)) = false := bne_eq_false_iff_eq.mpr c58
                 clear c58
                 by_cases c59 : (wrap64 (((rd_T51 t453 x147_4).f1) + (wrap64 (Int.tmod a2 1000001)))) = ((rd_T51 t469 x147_4).f1)
                 ·rw [if_pos c59] at H
                  have c59b0 : ((wrap64 (((rd_T51 t453 x147_4).f1) + (wrap64 (Int.tmod a2 1000001)))) == ((rd_T51 t469 x147_4).f1)) = true := beq_iff_eq.mpr c59
                  have c59b1 : ((wrap64 (((rd_T51 t453 x147_4).f1) + (wrap64 (Int.tmod a2 1000001)))) != ((rd_T51 t469 x147_4).f1)) = false := bne_eq_false_iff_eq.mpr c59
                  clear c59
                  by_cases c60 : (wrap64 (((rd_T51 t453 x147_4).f2) + (wrap64 (Int.tmod a2 1000001)))) = ((rd_T51 t469 x147_4).f2)
                  ·rw [if_pos c60] at H
                   have c60b0 : ((wrap64 (((rd_T51 t453 x147_4).f2) + (wrap64 (Int.tmod a2 1000001)))) == ((rd_T51 t469 x147_4).f2)) = true := beq_iff_eq.mpr c60
                   have c60b1 : ((wrap64 (((rd_T51 t453 x147_4).f2) + (wrap64 (Int.tmod a2 1000001)))) != ((rd_T51 t469 x147_4).f2)) = false := bne_eq_false_iff_eq.mpr c60
                   clear c60
                   have H' := Aside0.mk H
                   clear H
                   have p477 : 0 ≤ (x147_4 : Int) := of_decide_eq_true (by (with_reducible assumption))
                   have q477 : x147_4 < (t453.length : Int) := of_decide_eq_true (by (with_reducible assumption))
                   obtain ⟨ad477, e477, hx477_0, hx477_1, hx477_2⟩ := at_T51 (Kd.R_reads' HO_9.out).2.2 x147_4 p477 q477
                   cases e477
                   replace p477 := eq_true p477
                   replace q477 := eq_true q477
                   obtain ⟨Ao61, co61, eo61⟩ := Kd.R_slice HO_18.out
                   subst eo61
                   have p478 : 0 ≤ (x147_4 : Int) := of_decide_eq_true (by (with_reducible assumption))
                   have q478 : x147_4 < (t469.length : Int) := of_decide_eq_true (by (with_reducible assumption))
                   obtain ⟨ad478, e478, hx478_0, hx478_1, hx478_2⟩ := at_T51 (Kd.R_reads' HO_18.out).2.2 x147_4 p478 q478
                   cases e478
                   replace p478 := eq_true p478
                   replace q478 := eq_true q478
                   have p479 : 0 ≤ (x147_4 : Int) := of_decide_eq_true (by (with_reducible assumption))
                   have q479 : x147_4 < (t453.length : Int) := of_decide_eq_true (by (with_reducible assumption))
                   obtain ⟨ad479, e479, hx479_0, hx479_1, hx479_2⟩ := at_T51 (Kd.R_reads' HO_9.out).2.2 x147_4 p479 q479
                   obtain rfl : ad477 = ad479 := (by injection e479)
                   replace p479 := eq_true p479
                   replace q479 := eq_true q479
                   have p480 : 0 ≤ (x147_4 : Int) := of_decide_eq_true (by (with_reducible assumption))
                   have q480 : x147_4 < (t469.length : Int) := of_decide_eq_true (by (with_reducible assumption))
                   obtain ⟨ad480, e480, hx480_0, hx480_1, hx480_2⟩ := at_T51 (Kd.R_reads' HO_18.out).2.2 x147_4 p480 q480
                   obtain rfl : ad478 = ad480 := (by injection e480)
                   replace p480 := eq_true p480
                   replace q480 := eq_true q480
                   have p481 : 0 ≤ (x147_4 : Int) := of_decide_eq_true (by (with_reducible assumption))
                   have q481 : x147_4 < (t453.length : Int) := of_decide_eq_true (by (with_reducible assumption))
                   obtain ⟨ad481, e481, hx481_0, hx481_1, hx481_2⟩ := at_T51 (Kd.R_reads' HO_9.out).2.2 x147_4 p481 q481
                   obtain rfl : ad477 = ad481 := (by injection e481)
                   replace p481 := eq_true p481
                   replace q481 := eq_true q481
                   have p482 : 0 ≤ (x147_4 : Int) := of_decide_eq_true (by (with_reducible assumption))
                   have q482 : x147_4 < (t469.length : Int) := of_decide_eq_true (by (with_reducible assumption))
                   obtain ⟨ad482, e482, hx482_0, hx482_1, hx482_2⟩ := at_T51 (Kd.R_reads' HO_18.out).2.2 x147_4 p482 q482
                   obtain rfl : ad478 = ad482 := (by injection e482)
                   replace p482 := eq_true p482
                   replace q482 := eq_true q482
                   go_wp2
                   repeat (go_quiet (fail); try go_wp2)
                   go_roundg k4
                   case measure => have := HK1.out; have := HK2.out; have := HJ33.out; have := HK4.out; omega
                   case rel => exact ⟨(wrap64 (x147_4 + 1)), (by rfl), H', ⟨by have := HK1.out; have := HK2.out; have := HJ33.out; have := HK4.out; omega⟩, ⟨by (try simp only [hl7_1]); (try simp only [hl8_2]); (with_reducible repeat (apply Kd.R_drewN)); exact HO_9.out⟩, ⟨by (try simp only [hl7_1]); (try simp only [hl8_2]); (with_reducible repeat (apply Kd.R_drewN)); exact HO_18.out⟩, ⟨by repeat ((with_reducible first | exact HB.out | apply pw_below_drewN))⟩⟩
                  ·rw [if_neg c60] at H
                   have c60b0 : ((wrap64 (((rd_T51 t453 x147_4).f2) + (wrap64 (Int.tmod a2 1000001)))) == ((rd_T51 t469 x147_4).f2)) = false := beq_eq_false_iff_ne.mpr c60
                   have c60b1 : ((wrap64 (((rd_T51 t453 x147_4).f2) + (wrap64 (Int.tmod a2 1000001)))) != ((rd_T51 t469 x147_4).f2)) = true := bne_iff_ne.mpr c60
                   exact absurd H (by simp)
                 ·rw [if_neg c59] at H
                  have c59b0 : ((wrap64 (((rd_T51 t453 x147_4).f1) + (wrap64 (Int.tmod a2 1000001)))) == ((rd_T51 t469 x147_4).f1)) = false := beq_eq_false_iff_ne.mpr c59
                  have c59b1 : ((wrap64 (((rd_T51 t453 x147_4).f1) + (wrap64 (Int.tmod a2 1000001)))) != ((rd_T51 t469 x147_4).f1)) = true := bne_iff_ne.mpr c59
                  exact absurd H (by simp)
                ·rw [if_neg c58] at H
                 have c58b0 : (((rd_T51 t453 x147_4).f0) == ((rd_T51 t469 x147_4).f0)) = false := beq_eq_false_iff_ne.mpr c58
                 have c58b1 : (((rd_T51 t453 x147_4).f0) != ((rd_T51 t469 x147_4).f0)) = true := bne_iff_ne.mpr c58
                 exact absurd H (by simp)
               ·rw [if_neg c57] at H
                exact absurd H (by simp)
              ·rw [if_neg c56] at H
               exact absurd H (by simp)
             ·rw [if_neg c55] at H
              exact absurd H (by simp)
            ·rw [if_neg c54] at H
             have c54b0 : decide (x147_4 < (t453.length : Int)) = false := decide_eq_false c54
             (try simp only [hl7_1] at c54b0); (try simp only [hl8_2] at c54b0)
             clear c54
             replace H := Option.bind_eq_some_iff.mp H
             obtain ⟨t483, A620, H⟩ := H
             replace H : (some t483) = some true := H
             have A62 := Aside0.mk A620
             clear A620
             have HT_ := Aside0.mk (Option.some.inj H)
             go_wp2_with ((go_at_call 17; (with_reducible refine (letterbaglaw30_awake.calls k4  t483 _ A62.out).mono ?_); rintro e w63 ⟨rfl, hb⟩; have n0_ := Aside0.mk (Kd.R_below (by (with_reducible repeat (fail)); exact HO_9.out) hb); have n1_ := Aside0.mk (Kd.R_below (by (with_reducible repeat (fail)); exact HO_18.out) hb); have n2_ := Aside0.mk (below_step (by repeat ((with_reducible exact HB.out))) hb); clear HO_9; clear HO_18; clear HB; have HO_9 := n0_; have HO_18 := n1_; have HB := n2_; clear n0_ n1_ n2_; (try clear hb); (try clear hb2); (try clear hk); (try clear hi)))
             repeat (go_quiet (fail); try go_wp2_with (fail))
             go_ret
             exact ⟨by (rw [HT_.out]; rfl), by repeat ((with_reducible exact HB.out))⟩
end Go.Proofs.Ytbnjdlafnejanaa.Pr
namespace Go.Proofs.Ytbnjdlafnejanaa.Pr
open Go.RowKit Go.Proofs.YtbnjdlafnejanaaW.PrintWords Go.Proofs.YtbnjdlafnejanaaW.PrintLast Go.Proofs.YtbnjdlafnejanaaW.PrintMore
theorem set_mid {α : Type} {x v : α} : ∀ {P Q : List α} {i : Nat}, P.length = i → (P ++ x :: Q).set i v = P ++ v :: Q := by
  intro P
  induction P with
  | nil => intro Q i h; subst h; rfl
  | cons y P ih => intro Q i h; subst h; simp [ih rfl]
theorem rd45_mid {x : S45} {P Q : List S45} {i : Nat} (h : P.length = i) : rd_T45 (P ++ x :: Q) (i : Int) = x := by subst h; simp [rd_T45]
theorem rd47_mid {x : S47} {P Q : List S47} {i : Nat} (h : P.length = i) : rd_T47 (P ++ x :: Q) (i : Int) = x := by subst h; simp [rd_T47]
def mv45 (d : Int) (x : S45) : S45 := ⟨x.f0, x.f1 + d, x.f2 + d, x.f3⟩
def mv47 (d : Int) (x : S47) : S47 := ⟨x.f0 + d, x.f1 + d⟩
def mv51 (d : Int) (x : S51) : S51 := ⟨x.f0, x.f1 + d, x.f2 + d⟩
theorem mv45_toJ (d : Int) (l : List S45) : (l.map (mv45 d)).map toJ = (l.map toJ).map (Sh.Job.mv d) := by
  rw [List.map_map, List.map_map]; rfl
theorem mv47_toS (d : Int) (l : List S47) : (l.map (mv47 d)).map toS = (l.map toS).map (Sh.Shift.mv d) := by
  rw [List.map_map, List.map_map]; rfl
theorem mv51_ofL (d : Int) (l : List Sh.Slice) : (l.map (Sh.Slice.mv d)).map ofL = (l.map ofL).map (mv51 d) := by
  rw [List.map_map, List.map_map]; rfl
theorem BJ_mv {J : List Sh.Job} (h : Sh.BJ J) {d : Int} (hd : 0 ≤ d) (hb : ∀ x ∈ J, x.rel + d ≤ 1051898399 ∧ x.due + d ≤ 1051898399) : Sh.BJ (J.map (Sh.Job.mv d)) := by
  refine ⟨h.vj.mv hd, fun x hx => ?_⟩
  obtain ⟨y, hy, rfl⟩ := List.mem_map.1 hx
  have h1 := h.bd y hy
  have h2 := hb y hy
  simp only [Sh.Job.mv]
  omega
theorem BS_mv {S : List Sh.Shift} (h : Sh.BS S) {d : Int} (hd : 0 ≤ d) (hb : ∀ s ∈ S, s.to + d ≤ 1051898399) : Sh.BS (S.map (Sh.Shift.mv d)) := by
  refine ⟨h.vs.mv hd, fun x hx => ?_⟩
  obtain ⟨y, hy, rfl⟩ := List.mem_map.1 hx
  have h2 := hb y hy
  simp only [Sh.Shift.mv]
  omega
def mvE (d : Int) (st : Int × Int × Bool) : Int × Int × Bool := if st.2.2 = true then (st.1 + d, st.2.1 + d, true) else st
theorem excStep_mv {ov ov' : Int → Int → Bool} {d : Int} (h : ∀ a b, ov' (a + d) (b + d) = ov a b) (st : Int × Int × Bool) (p : Int × Int) :
    Sh.excStep ov' (mvE d st) (p.1 + d, p.2 + d) = mvE d (Sh.excStep ov st p) := by
  obtain ⟨f, t, b⟩ := st
  obtain ⟨x, y⟩ := p
  unfold Sh.excStep
  simp only [h]
  cases b with
  | false =>
    simp only [mvE, Bool.false_eq_true, if_false, Bool.not_false, Bool.true_or, Bool.true_and]
    cases ov x y <;> simp
  | true =>
    simp only [mvE, if_true, Bool.not_true, Bool.false_or]
    have e : (decide (y + d < t + d) || (decide (y + d = t + d) && decide (f + d < x + d))) = (decide (y < t) || (decide (y = t) && decide (f < x))) := by
      rw [Bool.eq_iff_iff]
      simp only [Bool.or_eq_true, Bool.and_eq_true, decide_eq_true_eq]
      omega
    rw [e]
    cases (decide (y < t) || (decide (y = t) && decide (f < x))) && ov x y <;> simp
theorem exc_fold_mv {ov ov' : Int → Int → Bool} {d : Int} (h : ∀ a b, ov' (a + d) (b + d) = ov a b) : ∀ (L : List (Int × Int)) (st : Int × Int × Bool),
    (L.map fun p => (p.1 + d, p.2 + d)).foldl (Sh.excStep ov') (mvE d st) = mvE d (L.foldl (Sh.excStep ov) st) := by
  intro L
  induction L with
  | nil => intro st; rfl
  | cons p L ih =>
    intro st
    rw [List.map_cons, List.foldl_cons, List.foldl_cons, excStep_mv h]
    exact ih _
theorem pairs_mv (d : Int) (J : List Sh.Job) : ∀ L : List Sh.Job, pairs (L.map (Sh.Job.mv d)) (J.map (Sh.Job.mv d)) = (pairs L J).map fun p => (p.1 + d, p.2 + d) := by
  intro L
  induction L with
  | nil => rfl
  | cons x L ih =>
    unfold pairs at ih ⊢
    rw [List.map_cons, List.flatMap_cons, List.flatMap_cons, List.map_append, ih, List.map_map, List.map_map]
    rfl
theorem excX_mv (d : Int) (J : List Sh.Job) (S : List Sh.Shift) : excX (J.map (Sh.Job.mv d)) (S.map (Sh.Shift.mv d)) = mvE d (excX J S) := by
  have h : ∀ a b, ovX (J.map (Sh.Job.mv d)) (S.map (Sh.Shift.mv d)) (a + d) (b + d) = ovX J S a b := by
    intro a b
    unfold ovX
    rw [Sh.need_mv, Sh.supply_mv]
  have e : (0, 0, false) = mvE d (0, 0, false) := rfl
  unfold excX
  rw [pairs_mv, e, exc_fold_mv h]
  rfl
theorem later_l2 (a : List S51) (y : Int) (hy : 0 ≤ y ∧ y ≤ 1000000) (ha : ∀ u ∈ a, (0 ≤ u.f1 ∧ u.f1 ≤ 256) ∧ 0 ≤ u.f2 ∧ u.f2 ≤ 256) (hl : a.length ≤ 1000000) (d : Nat) : ∀ i : Nat, i ≤ a.length → a.length - i = d →
    Ev (fun k => letterbaglaw30_ShiftLater.l2 k a y (a.map (mv51 y)) (a.length : Int) (i : Int)) true := by
  induction d with
  | zero =>
    intro i hi hd
    refine Ev.step (fun k => letterbaglaw30_ShiftLater.l2.eq_2 _ _ _ _ _ k) ?_
    exact ev_neg (by omega) (Ev.bind awake_f (Ev.now _))
  | succ d ih =>
    intro i hi hd
    have c : i < a.length := by omega
    have ci : (i : Int) < (a.length : Int) := by omega
    have cj : i < (a.map (mv51 y)).length := by rw [List.length_map]; exact c
    obtain ⟨⟨h1, h2⟩, h3, h4⟩ := ha _ (List.getElem_mem c)
    have ih1 := ih (i + 1) (by omega) (by omega)
    have b1 : -9223372036854775808 ≤ a[i].f1 + y ∧ a[i].f1 + y ≤ 9223372036854775807 := by omega
    have b2 : -9223372036854775808 ≤ a[i].f2 + y ∧ a[i].f2 + y ≤ 9223372036854775807 := by omega
    refine Ev.step (fun k => letterbaglaw30_ShiftLater.l2.eq_2 _ _ _ _ _ k) ?_
    refine ev_pos ci (ev_pos (by omega) (ev_pos ci (ev_pos (by omega) ?_)))
    rw [rd51_get c, rd51_get cj, List.getElem_map, wsucc c hl]
    exact ev_pos rfl (ev_pos (w64 b1.1 b1.2) (ev_pos (w64 b2.1 b2.2) ih1))
theorem later_j2 (a : List S51) (y : Int) (hy : 0 ≤ y ∧ y ≤ 1000000) (ha : ∀ u ∈ a, (0 ≤ u.f1 ∧ u.f1 ≤ 256) ∧ 0 ≤ u.f2 ∧ u.f2 ≤ 256) (hl : a.length ≤ 1000000) :
    Ev (fun k => letterbaglaw30_ShiftLater.j2 k a y (a.map (mv51 y)) false) true := by
  refine Ev.step (fun k => letterbaglaw30_ShiftLater.j2.eq_2 _ _ _ _ k) ?_
  exact ev_neg (by decide) (later_l2 a y hy ha hl (a.length - 0) 0 (by omega) rfl)
/-- Behind the loops that move. -/
theorem later_tail {l0 : List S45} {l1 : List S47} (hJ : Sh.BJ (l0.map toJ)) (hS : Sh.BS (l1.map toS)) (hl0 : l0.length ≤ 8) (hl : l1.length ≤ 8) (hx : ∀ x ∈ l0.map toJ, x.rel ≤ 63 ∧ x.due ≤ 63) (hb : ∀ s ∈ l1.map toS, s.to ≤ 256) (y : Int) (hy : 0 ≤ y ∧ y ≤ 1000000) :
    Ev (fun k => (shift_Make.f (l0.map (mv45 y)) (l1.map (mv47 y))).bind fun bt469 => ((shift_Excess.f k (l0.map (mv45 y)) (l1.map (mv47 y))).bind fun bt473 => (if (wrap64 ((wrap64 ((wrap64 ((0 : Int) + 0)) + bt469.2)) + bt473.2.2.2)) = 0 then (if ((planOf l0 l1).length : Int) = (bt469.1.length : Int) then (if ((excX (l0.map toJ) (l1.map toS)).2.2 != bt473.2.2.1) = true then (letterbaglaw30_ShiftLater.j2 k (planOf l0 l1) y bt469.1 true) else (if (excX (l0.map toJ) (l1.map toS)).2.2 = true then (if bt473.1 = (wrap64 ((excX (l0.map toJ) (l1.map toS)).1 + y)) then (letterbaglaw30_ShiftLater.j2 k (planOf l0 l1) y bt469.1 (bt473.2.1 != (wrap64 ((excX (l0.map toJ) (l1.map toS)).2.1 + y)))) else (letterbaglaw30_ShiftLater.j2 k (planOf l0 l1) y bt469.1 true)) else (letterbaglaw30_ShiftLater.j2 k (planOf l0 l1) y bt469.1 false))) else (letterbaglaw30_ShiftLater.j2 k (planOf l0 l1) y bt469.1 true)) else (letterbaglaw30_ShiftLater.j2 k (planOf l0 l1) y bt469.1 true)))) true := by
  have hJ2 : Sh.BJ ((l0.map (mv45 y)).map toJ) := by rw [mv45_toJ]; exact BJ_mv hJ hy.1 (fun x h => by have := hx x h; omega)
  have hS2 : Sh.BS ((l1.map (mv47 y)).map toS) := by rw [mv47_toS]; exact BS_mv hS hy.1 (fun s h => by have := hb s h; omega)
  have em : (Sh.makeX ((l0.map (mv45 y)).map toJ) ((l1.map (mv47 y)).map toS)).map ofL = (planOf l0 l1).map (mv51 y) := by
    rw [mv45_toJ, mv47_toS, ← ((Sh.made_makeX hJ.vj hS.vs).mv hJ.vj hS.vs hy.1).eq (hJ.vj.mv hy.1) (hS.vs.mv hy.1), mv51_ofL]
    rfl
  have ee : excX ((l0.map (mv45 y)).map toJ) ((l1.map (mv47 y)).map toS) = mvE y (excX (l0.map toJ) (l1.map toS)) := by rw [mv45_toJ, mv47_toS, excX_mv]
  have hpl := plan_len hJ hS (hi := 256) (by decide) hb
  have hsl : ∀ u ∈ planOf l0 l1, (0 ≤ u.f1 ∧ u.f1 ≤ 256) ∧ 0 ≤ u.f2 ∧ u.f2 ≤ 256 := by
    intro u hu
    obtain ⟨x, hx, _, h1, h2, s, hs, h3, h4⟩ := (plan_sched hJ hS).mem (List.mem_map.2 ⟨u, hu, rfl⟩)
    have h5 := hb s hs
    have h6 := hS.vs.pos s hs
    simp only [toL] at h1 h2 h3 h4
    omega
  have key := later_j2 (planOf l0 l1) y hy hsl (by omega)
  have hE := excX_exc (l0.map toJ) (l1.map toS)
  refine Ev.bind (ev_val (make_f hJ2 hS2 (by simp; omega) (by simp; omega))) (Ev.bind (excess_f hJ2 hS2 (by simp; omega) (by simp; omega)) ?_)
  rw [em, ee]
  have w0 : wrap64 ((0 : Int) + 0) = 0 := w64 (by decide) (by decide)
  refine ev_pos (by simp only [w0]) (ev_pos (by rw [List.length_map]) ?_)
  clear w0
  generalize excX (l0.map toJ) (l1.map toS) = st at *
  obtain ⟨f, t, b⟩ := st
  cases b with
  | true =>
    obtain ⟨h1, _, _⟩ := hE.some rfl
    obtain ⟨x, hx1, z, hz1, e⟩ := mem_pairs.1 h1
    injection e with e1 e2
    have h2 := hx x hx1
    have h3 := hx z hz1
    have h4 := hJ.bd x hx1
    have h5 := hJ.vj.pos z hz1
    simp only at e1 e2
    have b1 : -9223372036854775808 ≤ f + y ∧ f + y ≤ 9223372036854775807 := by omega
    have b2 : -9223372036854775808 ≤ t + y ∧ t + y ≤ 9223372036854775807 := by omega
    have w1 := w64 b1.1 b1.2
    have w2 := w64 b2.1 b2.2
    refine ev_neg (by simp [mvE]) (ev_pos rfl ?_)
    simp only [mvE, if_true, w1, w2]
    have e : (t + y != t + y) = false := by simp
    rw [e]
    exact key
  | false =>
    exact ev_neg (by simp [mvE]) (ev_neg Bool.false_ne_true key)
theorem later_l1 {l0 : List S45} {l1 : List S47} (hJ : Sh.BJ (l0.map toJ)) (hS : Sh.BS (l1.map toS)) (hl0 : l0.length ≤ 8) (hl : l1.length ≤ 8) (hx : ∀ x ∈ l0.map toJ, x.rel ≤ 63 ∧ x.due ≤ 63) (hb : ∀ s ∈ l1.map toS, s.to ≤ 256) (y : Int) (hy : 0 ≤ y ∧ y ≤ 1000000) (d : Nat) : ∀ i : Nat, i ≤ l1.length → l1.length - i = d →
    Ev (fun k => letterbaglaw30_ShiftLater.l1 k (l0.map (mv45 y)) ((l1.take i).map (mv47 y) ++ l1.drop i) (planOf l0 l1) 0 (excX (l0.map toJ) (l1.map toS)).1 (excX (l0.map toJ) (l1.map toS)).2.1 (excX (l0.map toJ) (l1.map toS)).2.2 0 y (l1.length : Int) (i : Int)) true := by
  induction d with
  | zero =>
    intro i hi hd
    have e : i = l1.length := by omega
    subst e
    rw [List.take_length, List.drop_length, List.append_nil]
    refine Ev.step (fun k => letterbaglaw30_ShiftLater.l1.eq_2 _ _ _ _ _ _ _ _ _ _ _ k) ?_
    exact ev_neg (by omega) (later_tail hJ hS hl0 hl hx hb y hy)
  | succ d ih =>
    intro i hi hd
    have c : i < l1.length := by omega
    have ci : (i : Int) < (l1.length : Int) := by omega
    have hm : toS l1[i] ∈ l1.map toS := List.mem_map.2 ⟨_, List.getElem_mem c, rfl⟩
    have h3 := hb _ hm
    have h4 := hS.vs.pos _ hm
    simp only [toS] at h3 h4
    have ih1 := ih (i + 1) (by omega) (by omega)
    rw [List.take_succ_eq_append_getElem c, List.map_append, List.append_assoc] at ih1
    have hP : ((l1.take i).map (mv47 y)).length = i := by rw [List.length_map, List.length_take]; omega
    rw [List.drop_eq_getElem_cons c]
    generalize hPP : (l1.take i).map (mv47 y) = P at *
    have b1 : -9223372036854775808 ≤ l1[i].f0 + y ∧ l1[i].f0 + y ≤ 9223372036854775807 := by omega
    have b2 : -9223372036854775808 ≤ l1[i].f1 + y ∧ l1[i].f1 + y ≤ 9223372036854775807 := by omega
    have hlen : (P ++ l1[i] :: l1.drop (i + 1)).length = l1.length := by rw [List.length_append, List.length_cons, List.length_drop]; omega
    have hN : ((i : Int)).toNat = i := by omega
    refine Ev.step (fun k => letterbaglaw30_ShiftLater.l1.eq_2 _ _ _ _ _ _ _ _ _ _ _ k) ?_
    refine ev_pos ci (ev_pos (by omega) (ev_pos (by rw [hlen]; exact ci) ?_))
    refine Ev.bind (Ev.now _) ?_
    rw [hN, rd47_mid hP, set_mid hP, rd47_mid hP, set_mid hP, wsucc c (by omega)]
    simp only
    rw [w64 b1.1 b1.2, w64 b2.1 b2.2]
    exact ih1
theorem later_l0 {l0 : List S45} {l1 : List S47} (hJ : Sh.BJ (l0.map toJ)) (hS : Sh.BS (l1.map toS)) (hl0 : l0.length ≤ 8) (hl : l1.length ≤ 8) (hx : ∀ x ∈ l0.map toJ, x.rel ≤ 63 ∧ x.due ≤ 63) (hb : ∀ s ∈ l1.map toS, s.to ≤ 256) (y : Int) (hy : 0 ≤ y ∧ y ≤ 1000000) (d : Nat) : ∀ i : Nat, i ≤ l0.length → l0.length - i = d →
    Ev (fun k => letterbaglaw30_ShiftLater.l0 k ((l0.take i).map (mv45 y) ++ l0.drop i) l1 (planOf l0 l1) 0 (excX (l0.map toJ) (l1.map toS)).1 (excX (l0.map toJ) (l1.map toS)).2.1 (excX (l0.map toJ) (l1.map toS)).2.2 0 y (l0.length : Int) (i : Int)) true := by
  induction d with
  | zero =>
    intro i hi hd
    have e : i = l0.length := by omega
    subst e
    rw [List.take_length, List.drop_length, List.append_nil]
    refine Ev.step (fun k => letterbaglaw30_ShiftLater.l0.eq_2 _ _ _ _ _ _ _ _ _ _ _ k) ?_
    refine ev_neg (by omega) ?_
    have key := later_l1 hJ hS hl0 hl hx hb y hy (l1.length - 0) 0 (by omega) rfl
    rw [List.take_zero, List.map_nil, List.nil_append, List.drop_zero] at key
    exact key
  | succ d ih =>
    intro i hi hd
    have c : i < l0.length := by omega
    have ci : (i : Int) < (l0.length : Int) := by omega
    have hm : toJ l0[i] ∈ l0.map toJ := List.mem_map.2 ⟨_, List.getElem_mem c, rfl⟩
    have h3 := hx _ hm
    have h4 := hJ.vj.pos _ hm
    have h5 := hJ.bd _ hm
    simp only [toJ] at h3 h4 h5
    have ih1 := ih (i + 1) (by omega) (by omega)
    rw [List.take_succ_eq_append_getElem c, List.map_append, List.append_assoc] at ih1
    have hP : ((l0.take i).map (mv45 y)).length = i := by rw [List.length_map, List.length_take]; omega
    rw [List.drop_eq_getElem_cons c]
    generalize hPP : (l0.take i).map (mv45 y) = P at *
    have b1 : -9223372036854775808 ≤ l0[i].f1 + y ∧ l0[i].f1 + y ≤ 9223372036854775807 := by omega
    have b2 : -9223372036854775808 ≤ l0[i].f2 + y ∧ l0[i].f2 + y ≤ 9223372036854775807 := by omega
    have hlen : (P ++ l0[i] :: l0.drop (i + 1)).length = l0.length := by rw [List.length_append, List.length_cons, List.length_drop]; omega
    have hN : ((i : Int)).toNat = i := by omega
    refine Ev.step (fun k => letterbaglaw30_ShiftLater.l0.eq_2 _ _ _ _ _ _ _ _ _ _ _ k) ?_
    refine ev_pos ci (ev_pos (by omega) (ev_pos (by rw [hlen]; exact ci) ?_))
    refine Ev.bind (Ev.now _) ?_
    rw [hN, rd45_mid hP, set_mid hP, rd45_mid hP, set_mid hP, wsucc c (by omega)]
    simp only
    rw [w64 b1.1 b1.2, w64 b2.1 b2.2]
    exact ih1
theorem later_all (l0 : List S61) (l1 : List S55) (a2 : Int) (h0 : ∀ x ∈ l0, b61 x) (h1 : ∀ x ∈ l1, b55 x) (h2 : 0 ≤ a2 ∧ a2 ≤ 4294967295) : Ev (fun k => letterbaglaw30_ShiftLater.f k l0 l1 a2) true := by
  have hJ := workX_BJ h0
  have hS := hoursX_BS h1
  have hl := workX_len l0
  have hl1 := hoursX_len l1
  have hb : ∀ s ∈ (hoursX l1).map toS, s.to ≤ 256 := fun s hs => (hoursX_bd h1 s hs).2.2.2
  have hx : ∀ x ∈ (workX l0).map toJ, x.rel ≤ 63 ∧ x.due ≤ 63 := fun x hx => by have := workX_bd h0 x hx; omega
  have hy : 0 ≤ a2 % 1000001 ∧ a2 % 1000001 ≤ 1000000 := by omega
  unfold letterbaglaw30_ShiftLater.f
  refine Ev.bind (work_f h0) (Ev.bind (hours_f h1) ?_)
  refine Ev.bind (ev_val (make_f hJ hS (by omega) (by omega))) (Ev.bind (excess_f hJ hS (by omega) (by omega)) ?_)
  rw [wtmod (n := a2) (m := 1000001) h2.1 (by decide) (by decide)]
  have key := later_l0 hJ hS hl hl1 hx hb (a2 % 1000001) hy ((workX l0).length - 0) 0 (by omega) rfl
  rw [List.take_zero, List.map_nil, List.nil_append, List.drop_zero] at key
  exact key
end Go.Proofs.Ytbnjdlafnejanaa.Pr
namespace Go.Proofs.Ytbnjdlafnejanaa.shiftLater
open Go.ChangeShapes Go.WideShapes Go.ChangeAt Go.RowKit
set_option linter.unusedVariables false
theorem own : ownKnob Try.prog.godebug = none := by kernel_rfl
theorem laidOut : laidOutB Try.prog = true := by kernel_rfl
set_option maxRecDepth 100000 in
theorem lifted (os : Os) (started : os.Started) (H : Type) (enc : TypeId × Value → H) :
    ReturnsInHanded {} Try.checked os 8 .any (Rows.shiftLaterSpec.pre6 enc Try.prog Try.f8 Rows.shiftLaterRow.domain false) (Rows.shiftLaterSpec.post enc Try.prog Try.f8 false true false false) := by
  refine returnsInHanded_of_change_sized (C := Try.checked) own started (by kernel_rfl) Try.func8
    (ChangeSpec.witness6 (enc := enc) (C := Try.checked) false ⟨#[], #[.slice none 0 0, .slice none 0 0, .int .u32 0], []⟩ 8 (by kernel_rfl) (by kernel_rfl) (by kernel_rfl) (by kernel_rfl)) ?_
  intro W base args ds gs before hval0 hW hcnd hsz0 _
  have hval : ∀ (j : Nat) t v, Try.f8.params[j]? = some t → args[j]? = some v → Value.okWide Try.prog W .any base t v := hval0
  have hW' := hW
  obtain ⟨p, q, hA0, hV, rfl, hfz, hnd⟩ := hW
  have hA : DataW.TrodAll enc Try.prog W 0 (fun _ => true) true Try.f8.params.toList args.toList ds p := hA0
  rw [Try.params8] at hA hval
  obtain ⟨v0, vs0, d0, ds0, p0, q0, hargs, rfl, rfl, h0, r0⟩ := trodAll_cons hA
  obtain ⟨v1, vs1, d1, ds1, p1, q1, rfl, rfl, rfl, h1, r1⟩ := trodAll_cons r0
  obtain ⟨v2, vs2, d2, ds2, p2, q2, rfl, rfl, rfl, h2, r2⟩ := trodAll_cons r1
  obtain ⟨rfl, rfl, rfl⟩ := trodAll_nil r2
  obtain rfl : args = #[v0, v1, v2] := by cases args; simp_all
  obtain ⟨rfl, rfl⟩ := trodVars_none hV
  obtain ⟨a0, len0, cap0, rfl⟩ := okWide_slice Try.underlying22 (hval 0 22 v0 rfl rfl)
  have k0 := h0
  have lt0 : ∀ x ∈ p0, x.block < W.heap.size := by obtain ⟨m, hm⟩ := k0; exact DataW.trod_lt m _ _ _ hm
  obtain ⟨l0, e0, c0, hr0, hb0⟩ := Pr.open61 h0
  subst e0
  obtain ⟨a1, len1, cap1, rfl⟩ := okWide_slice Try.underlying23 (hval 1 23 v1 rfl rfl)
  have k1 := h1
  have lt1 : ∀ x ∈ p1, x.block < W.heap.size := by obtain ⟨m, hm⟩ := k1; exact DataW.trod_lt m _ _ _ hm
  obtain ⟨l1, e1, c1, hr1, hb1⟩ := Pr.open55 h1
  subst e1
  obtain ⟨a2, rfl, rfl, rfl, w2⟩ := open_int Try.underlying58 (hval 2 58 v2 rfl rfl) h2
  clear hA0 hval0 hsz0
  obtain ⟨k, hk⟩ := (Pr.later_all l0 l1 a2 hb0 hb1 (Pr.u32_bd w2)).rounds
  refine (Pr.letterbaglaw30_ShiftLater.calls k a0 cap0 l0 a1 cap1 l1 a2 W hr0 c0 hr1 c1  hk).mono fun e W' ⟨he, bel⟩ => ?_
  subst he
  exact ⟨_, rfl, _, _, _, [], _, [], hW', trodAll_mk1 (shut_bool Try.underlying4 _), (trodAll_cons_mk (Below.trod laidOut (by kernel_rfl) (of_decide_eq_true (by kernel_rfl)) k0 bel lt0) (trodAll_cons_mk (Below.trod laidOut (by kernel_rfl) (of_decide_eq_true (by kernel_rfl)) k1 bel lt1) (trodAll_cons_mk (shut_int Try.underlying58 w2) trodAll_mk0))), rfl, bel.frame _, fun h => by cases h⟩
theorem over : Rows.shiftLaterRow.holds Try.pinned (OpenSpec.ofChange Rows.shiftLaterSpec) :=
  OpenClaim.holds_of_wide 8 Try.f8 rfl rfl rfl rfl rfl rfl rfl ⟨rfl, rfl, rfl, rfl, rfl⟩ rfl rfl rfl rfl rfl (by kernel_rfl) Try.func8 (by kernel_rfl)
    (of_decide_eq_true (by kernel_rfl)) (by unfold Func.isWrapper; first | (rw [if_pos (by decide +kernel)]; kernel_rfl) | (rw [if_neg (by decide +kernel)]; exact ⟨rfl, rfl⟩))
    (fun os started H enc _ => lifted os started H enc)
theorem proved : Rows.ShiftLaterSaid := over
end Go.Proofs.Ytbnjdlafnejanaa.shiftLater
namespace Go.Proofs.Ytbnjdlafnejanaa
/-- The row, under a short name, for the claim. -/
theorem shiftLater_holds : Rows.ShiftLaterSaid := shiftLater.proved
end Go.Proofs.Ytbnjdlafnejanaa
