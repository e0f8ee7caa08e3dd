/- ShiftUrgent: the law returns true at every input that its statement lets in; there is no condition of this session's. (Joined by a program of this session, pack2.py: printed walks, the plain law, the row.) -/
import Derived.Test.YtbnjdlafnejanaaUrg0
import Derived.Test.YtbnjdlafnejanaaRows
import Derived.WalkKit
import Derived.ProofKit
import Derived.OpenShut
import Derived.ShutString
import Derived.ChangeOld
import Derived.Below
import Derived.SizedLaws
import Derived.Lib.SmallJoins
set_option linter.unusedVariables false
set_option linter.unusedSimpArgs false
namespace Go.Proofs.Ytbnjdlafnejanaa.Pr
open Go.RowKit Go.Proofs.YtbnjdlafnejanaaW.PrintWords Go.Proofs.YtbnjdlafnejanaaW.PrintLast Go.Proofs.YtbnjdlafnejanaaW.PrintMore
attribute [local go_sem] max2_int min2_int max_two min_two max_three min_three max_four min_four   -- for this text's walks alone
set_option linter.unusedVariables false
set_option linter.unusedSimpArgs false
mutual
def letterbaglaw30_ShiftUrgent.j0 : Nat → List (S45) → List (S47) → List (S51) → Bool → Option (Bool)
 | 0, _, _, _, _ => none
 | k + 1, x5, x6, x7, x51 => if x51 = true then (some false) else (if 0 ≤ (x5.length : Int) then (if ((x5.length : Int) : Int).toNat ≤ 35184372088832 then (letterbaglaw30_ShiftUrgent.l0 k x5 x6 x7 (List.replicate ((x5.length : Int) : Int).toNat 0) x5 (x5.length : Int) 0) else (none)) else (none))
def letterbaglaw30_ShiftUrgent.l0 : Nat → List (S45) → List (S47) → List (S51) → List Int → List (S45) → Int → Int → Option (Bool)
 | 0, _, _, _, _, _, _, _ => none
 | k + 1, x5, x6, x7, x11, x55, x56, x57 => if x57 < x56 then (if 0 ≤ x57 then (if x57 < (x55.length : Int) then (if x57 < (x11.length : Int) then (letterbaglaw30_ShiftUrgent.l0 k x5 x6 x7 (x11.set (x57 : Int).toNat ((rd_T45 x55 x57).f3)) x55 x56 (wrap64 (x57 + 1))) else (none)) else (none)) else (none)) else (letterbaglaw30_ShiftUrgent.l1 k x5 x7 x11 0 x6 (x6.length : Int) 0)
def letterbaglaw30_ShiftUrgent.l1 : Nat → List (S45) → List (S51) → List Int → Int → List (S47) → Int → Int → Option (Bool)
 | 0, _, _, _, _, _, _, _ => none
 | k + 1, x5, x7, x11, x14, x68, x69, x70 => if x70 < x69 then (if 0 ≤ x70 then (if x70 < (x68.length : Int) then (letterbaglaw30_ShiftUrgent.l2 k x5 x7 x11 x14 ((rd_T47 x68 x70).f0) x68 x69 x70 ((rd_T47 x68 x70).f0) ((rd_T47 x68 x70).f1)) else (none)) else (none)) else (letterbaglaw30_ShiftUrgent.l5 k x14 x7 (x7.length : Int) 0)
def letterbaglaw30_ShiftUrgent.l2 : Nat → List (S45) → List (S51) → List Int → Int → Int → List (S47) → Int → Int → Int → Int → Option (Bool)
 | 0, _, _, _, _, _, _, _, _, _, _ => none
 | k + 1, x5, x7, x11, x14, x17, x68, x69, x70, x322000, x322001 => if x17 < x322001 then (letterbaglaw30_ShiftUrgent.l3 k x5 x7 x11 x14 x17 (-1) x68 x69 x70 x5 (x5.length : Int) 0 x322000 x322001) else (letterbaglaw30_ShiftUrgent.l4 k x5 x7 x11 x14 1 x68 x69 x70 x322000 x322001)
def letterbaglaw30_ShiftUrgent.l3 : Nat → List (S45) → List (S51) → List Int → Int → Int → Int → List (S47) → Int → Int → List (S45) → Int → Int → Int → Int → Option (Bool)
 | 0, _, _, _, _, _, _, _, _, _, _, _, _, _, _ => none
 | k + 1, x5, x7, x11, x14, x17, x18, x68, x69, x70, x82, x83, x84, x322000, x322001 => if x84 < x83 then (if 0 ≤ x84 then (if x84 < (x82.length : Int) then (if ((rd_T45 x82 x84).f1) ≤ x17 then (if x84 < (x11.length : Int) then (if (rd x11 x84) > 0 then (if x18 < 0 then (letterbaglaw30_ShiftUrgent.j5 k x5 x7 x11 x14 x17 x18 x84 x68 x69 x70 x82 x83 x84 true x322000 x322001) else (if 0 ≤ x18 then (if x18 < (x5.length : Int) then (if ((rd_T45 x82 x84).f2) < ((rd_T45 x5 x18).f2) then (letterbaglaw30_ShiftUrgent.j5 k x5 x7 x11 x14 x17 x18 x84 x68 x69 x70 x82 x83 x84 true x322000 x322001) else (if ((rd_T45 x82 x84).f2) = ((rd_T45 x5 x18).f2) then (letterbaglaw30_ShiftUrgent.j5 k x5 x7 x11 x14 x17 x18 x84 x68 x69 x70 x82 x83 x84 (decide (((rd_T45 x82 x84).f0) < ((rd_T45 x5 x18).f0))) x322000 x322001) else (letterbaglaw30_ShiftUrgent.j5 k x5 x7 x11 x14 x17 x18 x84 x68 x69 x70 x82 x83 x84 false x322000 x322001))) else (none)) else (none))) else (letterbaglaw30_ShiftUrgent.j5 k x5 x7 x11 x14 x17 x18 x84 x68 x69 x70 x82 x83 x84 false x322000 x322001)) else (none)) else (letterbaglaw30_ShiftUrgent.j5 k x5 x7 x11 x14 x17 x18 x84 x68 x69 x70 x82 x83 x84 false x322000 x322001)) else (none)) else (none)) else (if x18 ≥ 0 then (if 0 ≤ x18 then (if x18 < (x11.length : Int) then (if x18 < (x5.length : Int) then (letterbaglaw30_ShiftUrgent.j6 k x5 x7 (x11.set (x18 : Int).toNat (wrap64 ((rd x11 x18) - 1))) (wrap64 (x14 + 1)) x17 ((rd_T45 x5 x18).f0) x68 x69 x70 x322000 x322001) else (none)) else (none)) else (none)) else (letterbaglaw30_ShiftUrgent.j6 k x5 x7 x11 x14 x17 0 x68 x69 x70 x322000 x322001))
def letterbaglaw30_ShiftUrgent.j5 : Nat → List (S45) → List (S51) → List Int → Int → Int → Int → Int → List (S47) → Int → Int → List (S45) → Int → Int → Bool → Int → Int → Option (Bool)
 | 0, _, _, _, _, _, _, _, _, _, _, _, _, _, _, _, _ => none
 | k + 1, x5, x7, x11, x14, x17, x18, x19, x68, x69, x70, x82, x83, x84, x133, x322000, x322001 => if x133 = true then (letterbaglaw30_ShiftUrgent.l3 k x5 x7 x11 x14 x17 x19 x68 x69 x70 x82 x83 (wrap64 (x84 + 1)) x322000 x322001) else (letterbaglaw30_ShiftUrgent.l3 k x5 x7 x11 x14 x17 x18 x68 x69 x70 x82 x83 (wrap64 (x84 + 1)) x322000 x322001)
def letterbaglaw30_ShiftUrgent.j6 : Nat → List (S45) → List (S51) → List Int → Int → Int → Int → List (S47) → Int → Int → Int → Int → Option (Bool)
 | 0, _, _, _, _, _, _, _, _, _, _, _ => none
 | k + 1, x5, x7, x11, x14, x17, x21, x68, x69, x70, x322000, x322001 => (letterbaglaw30_running.f k x7 x17).bind fun t331 => (if t331 = x21 then (letterbaglaw30_ShiftUrgent.l2 k x5 x7 x11 x14 (wrap64 (x17 + 1)) x68 x69 x70 x322000 x322001) else (some false))
def letterbaglaw30_ShiftUrgent.l4 : Nat → List (S45) → List (S51) → List Int → Int → Int → List (S47) → Int → Int → Int → Int → Option (Bool)
 | 0, _, _, _, _, _, _, _, _, _, _ => none
 | k + 1, x5, x7, x11, x14, x22, x68, x69, x70, x322000, x322001 => if x22 < (x7.length : Int) then (if 0 ≤ x22 then (if 0 ≤ (wrap64 (x22 - 1)) then (if (wrap64 (x22 - 1)) < (x7.length : Int) then (if ((rd_T51 x7 x22).f0) = ((rd_T51 x7 (wrap64 (x22 - 1))).f0) then (if ((rd_T51 x7 x22).f1) = ((rd_T51 x7 (wrap64 (x22 - 1))).f2) then (if x322000 < ((rd_T51 x7 x22).f1) then (letterbaglaw30_ShiftUrgent.j8 k x5 x7 x11 x14 x22 x68 x69 x70 (decide (((rd_T51 x7 x22).f1) < x322001)) x322000 x322001) else (letterbaglaw30_ShiftUrgent.j8 k x5 x7 x11 x14 x22 x68 x69 x70 false x322000 x322001)) else (letterbaglaw30_ShiftUrgent.j8 k x5 x7 x11 x14 x22 x68 x69 x70 false x322000 x322001)) else (letterbaglaw30_ShiftUrgent.j8 k x5 x7 x11 x14 x22 x68 x69 x70 false x322000 x322001)) else (none)) else (none)) else (none)) else (letterbaglaw30_ShiftUrgent.l1 k x5 x7 x11 x14 x68 x69 (wrap64 (x70 + 1)))
def letterbaglaw30_ShiftUrgent.j8 : Nat → List (S45) → List (S51) → List Int → Int → Int → List (S47) → Int → Int → Bool → Int → Int → Option (Bool)
 | 0, _, _, _, _, _, _, _, _, _, _, _ => none
 | k + 1, x5, x7, x11, x14, x22, x68, x69, x70, x207, x322000, x322001 => if x207 = true then (some false) else (letterbaglaw30_ShiftUrgent.l4 k x5 x7 x11 x14 (wrap64 (x22 + 1)) x68 x69 x70 x322000 x322001)
def letterbaglaw30_ShiftUrgent.l5 : Nat → Int → List (S51) → Int → Int → Option (Bool)
 | 0, _, _, _, _ => none
 | k + 1, x14, x209, x210, x211 => if x211 < x210 then (if 0 ≤ x211 then (if x211 < (x209.length : Int) then (letterbaglaw30_ShiftUrgent.l5 k (wrap64 (x14 - (wrap64 (((rd_T51 x209 x211).f2) - ((rd_T51 x209 x211).f1))))) x209 x210 (wrap64 (x211 + 1))) else (none)) else (none)) else (if x14 = 0 then ((letterbaglaw30_awake.f k).bind fun t340 => (some t340)) else (some false))
end
def letterbaglaw30_ShiftUrgent.f (k : Nat) (l0 : List (S61)) (l1 : List (S55)) : Option (Bool) := (letterbaglaw30_work.f k l0).bind fun t302 => ((letterbaglaw30_hours.f k l1).bind fun t305 => ((shift_Make.f t302 t305).bind fun bt308 => ((shift_Check.f t302 t305 bt308.1).bind fun bt312 => (if bt308.2 = 0 then (if bt312.1 = 0 then (letterbaglaw30_ShiftUrgent.j0 k t302 t305 bt308.1 (bt312.2 != 0)) else (letterbaglaw30_ShiftUrgent.j0 k t302 t305 bt308.1 true)) else (letterbaglaw30_ShiftUrgent.j0 k t302 t305 bt308.1 true)))))
set_option maxHeartbeats 8000000 in
set_option maxRecDepth 100000 in
theorem letterbaglaw30_ShiftUrgent.calls (k : Nat) (A0 : Option Addr) (c0 : Nat) (l0 : List (S61)) (A1 : Option Addr) (c1 : Nat) (l1 : List (S55)) (w : World) (hr0 : Kd.C k61 w A0 l0.length l0) (hc0 : l0.length ≤ c0) (hr1 : Kd.C k55 w A1 l1.length l1) (hc1 : l1.length ≤ c1) (h : letterbaglaw30_ShiftUrgent.f k l0 l1 = some true) :
  Calls Try.prog 5 #[.slice A0 l0.length c0, .slice A1 l1.length c1] w fun e w' => e = .returned (.bool true) ∧ Below w.heap.size w w' := by
 have hu45 := Try.underlying45
 have hu47 := Try.underlying47
 have hu51 := Try.underlying51
 have HR0 := Aside0.mk hr0
 have HC0 := Aside0.mk hc0
 clear hr0 hc0
 have HR1 := Aside0.mk hr1
 have HC1 := Aside0.mk hc1
 clear hr1 hc1
 have HB := Aside0.mk (Below.refl w.heap.size w)
 have H : ((letterbaglaw30_work.f k l0).bind fun t302 => ((letterbaglaw30_hours.f k l1).bind fun t305 => ((shift_Make.f t302 t305).bind fun bt308 => ((shift_Check.f t302 t305 bt308.1).bind fun bt312 => (if bt308.2 = 0 then (if bt312.1 = 0 then (letterbaglaw30_ShiftUrgent.j0 k t302 t305 bt308.1 (bt312.2 != 0)) else (letterbaglaw30_ShiftUrgent.j0 k t302 t305 bt308.1 true)) else (letterbaglaw30_ShiftUrgent.j0 k t302 t305 bt308.1 true)))))) = some true := h
 clear h
 replace H := Option.bind_eq_some_iff.mp H
 obtain ⟨t302, A30, H⟩ := H
 replace H : ((letterbaglaw30_hours.f k l1).bind fun t305 => ((shift_Make.f t302 t305).bind fun bt308 => ((shift_Check.f t302 t305 bt308.1).bind fun bt312 => (if bt308.2 = 0 then (if bt312.1 = 0 then (letterbaglaw30_ShiftUrgent.j0 k t302 t305 bt308.1 (bt312.2 != 0)) else (letterbaglaw30_ShiftUrgent.j0 k t302 t305 bt308.1 true)) else (letterbaglaw30_ShiftUrgent.j0 k t302 t305 bt308.1 true))))) = some true := H
 have A3 := Aside0.mk A30
 clear A30
 replace H := Option.bind_eq_some_iff.mp H
 obtain ⟨t305, A40, H⟩ := H
 replace H : ((shift_Make.f t302 t305).bind fun bt308 => ((shift_Check.f t302 t305 bt308.1).bind fun bt312 => (if bt308.2 = 0 then (if bt312.1 = 0 then (letterbaglaw30_ShiftUrgent.j0 k t302 t305 bt308.1 (bt312.2 != 0)) else (letterbaglaw30_ShiftUrgent.j0 k t302 t305 bt308.1 true)) else (letterbaglaw30_ShiftUrgent.j0 k t302 t305 bt308.1 true)))) = some true := H
 have A4 := Aside0.mk A40
 clear A40
 replace H := Option.bind_eq_some_iff.mp H
 obtain ⟨⟨t308, t309⟩, A50, H⟩ := H
 replace H : ((shift_Check.f t302 t305 t308).bind fun bt312 => (if t309 = 0 then (if bt312.1 = 0 then (letterbaglaw30_ShiftUrgent.j0 k t302 t305 t308 (bt312.2 != 0)) else (letterbaglaw30_ShiftUrgent.j0 k t302 t305 t308 true)) else (letterbaglaw30_ShiftUrgent.j0 k t302 t305 t308 true))) = some true := H
 have A5 := Aside0.mk A50
 clear A50
 replace H := Option.bind_eq_some_iff.mp H
 obtain ⟨⟨t312, t313⟩, A60, H⟩ := H
 replace H : (if t309 = 0 then (if t312 = 0 then (letterbaglaw30_ShiftUrgent.j0 k t302 t305 t308 (t313 != 0)) else (letterbaglaw30_ShiftUrgent.j0 k t302 t305 t308 true)) else (letterbaglaw30_ShiftUrgent.j0 k t302 t305 t308 true)) = some true := H
 have A6 := Aside0.mk A60
 clear A60
 have HC7 := Aside0.mk H
 clear H
 go_enter Try.func5, Try.ntmps5
 go_upto_region 4 with (first | (go_at_call 10; (with_reducible refine (letterbaglaw30_work.calls k _ _ l0 t302 _ ?side1 ?side2 A3.out).mono ?_); (case side1 => repeat (exact HR0.out)); (case side2 => exact HC0.out); rintro e w8 ⟨v303, rfl, ho0, hb⟩; have n0_ := Aside0.mk (Kd.R_lower ho0 (below_size (by repeat ((with_reducible exact HB.out))))); have n1_ := Aside0.mk (below_step (by repeat ((with_reducible exact HB.out))) hb); clear HB; have HO304 := n0_; have HB := n1_; clear n0_ n1_; (try clear hb); (try clear hb2); (try clear hk); (try clear hi); (try clear ho0)) | (go_at_call 11; (with_reducible refine (letterbaglaw30_hours.calls k _ _ l1 t305 _ ?side1 ?side2 A4.out).mono ?_); (case side1 => repeat (exact (Kd.C_below HR1.out HB.out))); (case side2 => exact HC1.out); rintro e w9 ⟨v306, rfl, ho0, hb⟩; have n0_ := Aside0.mk (Kd.R_below (by (with_reducible repeat (fail)); exact HO304.out) hb); have n1_ := Aside0.mk (Kd.R_lower ho0 (below_size (by repeat ((with_reducible exact HB.out))))); have n2_ := Aside0.mk (below_step (by repeat ((with_reducible exact HB.out))) hb); clear HO304; clear HB; have HO304 := n0_; have HO307 := n1_; have HB := n2_; clear n0_ n1_ n2_; (try clear hb); (try clear hb2); (try clear hk); (try clear hi); (try clear ho0); obtain ⟨Ao10, co10, eo10⟩ := Kd.R_slice HO304.out; subst eo10; obtain ⟨Ao11, co11, eo11⟩ := Kd.R_slice HO307.out; subst eo11) | (go_at_call 12; (with_reducible refine (shift_Make.calls _ _ t302 _ _ t305 t308 t309 _ ?side1 ?side2 ?side3 ?side4 A5.out).mono ?_); (case side1 => repeat (exact (Kd.R_reads' HO304.out).2.2)); (case side2 => exact (Kd.R_reads' HO304.out).2.1); (case side3 => repeat (exact (Kd.R_reads' HO307.out).2.2)); (case side4 => exact (Kd.R_reads' HO307.out).2.1); rintro e w12 ⟨v310, rfl, ho0, hb⟩; have n0_ := Aside0.mk (Kd.R_below (by (with_reducible repeat (fail)); exact HO304.out) hb); have n1_ := Aside0.mk (Kd.R_below (by (with_reducible repeat (fail)); exact HO307.out) hb); have n2_ := Aside0.mk (Kd.R_lower ho0 (below_size (by repeat ((with_reducible exact HB.out))))); have n3_ := Aside0.mk (below_step (by repeat ((with_reducible exact HB.out))) hb); clear HO304; clear HO307; clear HB; have HO304 := n0_; have HO307 := n1_; have HO311 := n2_; have HB := n3_; clear n0_ n1_ n2_ n3_; (try clear hb); (try clear hb2); (try clear hk); (try clear hi); (try clear ho0); obtain ⟨Ao13, co13, eo13⟩ := Kd.R_slice HO311.out; subst eo13) | (go_at_call 14; (with_reducible refine (shift_Check.calls _ _ t302 _ _ t305 _ _ t308 t312 t313 _ ?side1 ?side2 ?side3 ?side4 ?side5 ?side6 A6.out).mono ?_); (case side1 => repeat (exact (Kd.R_reads' HO304.out).2.2)); (case side2 => exact (Kd.R_reads' HO304.out).2.1); (case side3 => repeat (exact (Kd.R_reads' HO307.out).2.2)); (case side4 => exact (Kd.R_reads' HO307.out).2.1); (case side5 => repeat (exact (Kd.R_reads' HO311.out).2.2)); (case side6 => exact (Kd.R_reads' HO311.out).2.1); rintro e w14 ⟨rfl, hb⟩; have n0_ := Aside0.mk (Kd.R_below (by (with_reducible repeat (fail)); exact HO304.out) hb); have n1_ := Aside0.mk (Kd.R_below (by (with_reducible repeat (fail)); exact HO307.out) hb); have n2_ := Aside0.mk (Kd.R_below (by (with_reducible repeat (fail)); exact HO311.out) hb); have n3_ := Aside0.mk (below_step (by repeat ((with_reducible exact HB.out))) hb); clear HO304; clear HO307; clear HO311; clear HB; have HO304 := n0_; have HO307 := n1_; have HO311 := n2_; have HB := n3_; clear n0_ n1_ n2_ n3_; (try clear hb); (try clear hb2); (try clear hk); (try clear hi)))
 repeat (go_quiet (fail); go_upto_region 4 with (fail))
 (try simp only [Act.put, List.setIfInBounds_toArray, List.set_cons_zero, List.set_cons_succ])
 go_cut [51] (fun v51 wc => ∃ (kq : Nat) (x51_6 : Bool), v51 = .bool x51_6 ∧ Aside0 (letterbaglaw30_ShiftUrgent.j0 kq t302 t305 t308 x51_6 = some true) ∧ Aside0 (kq ≤ k) ∧ Aside0 (Kd.R k45 45 wc w.heap.size (fun _ => True) (.slice Ao10 t302.length co10) t302) ∧ Aside0 (Kd.R k47 47 wc w.heap.size (fun _ => True) (.slice Ao11 t305.length co11) t305) ∧ Aside0 (Kd.R k51 51 wc w.heap.size (fun _ => True) (.slice Ao13 t308.length co13) t308) ∧ Aside0 (Below w.heap.size w wc))
 case first => as_aux_lemma =>
  have H := HC7.out
  clear HC7
  by_cases c15 : t309 = 0
  ·rw [if_pos c15] at H
   have c15b0 : (t309 == 0) = true := beq_iff_eq.mpr c15
   have c15b1 : (t309 != 0) = false := bne_eq_false_iff_eq.mpr c15
   clear c15
   (skip)
   by_cases c16 : t312 = 0
   ·rw [if_pos c16] at H
    have c16b0 : (t312 == 0) = true := beq_iff_eq.mpr c16
    have c16b1 : (t312 != 0) = false := bne_eq_false_iff_eq.mpr c16
    clear c16
    have H' := Aside0.mk H
    clear H
    go_wp2
    repeat (go_quiet (fail); try go_wp2)
    go_meet
    case rel => exact ⟨_, ((t313 != 0)), (by rfl), H', ⟨by omega⟩, ⟨by (with_reducible repeat (fail)); exact HO304.out⟩, ⟨by (with_reducible repeat (fail)); exact HO307.out⟩, ⟨by (with_reducible repeat (fail)); exact HO311.out⟩, ⟨by repeat ((with_reducible exact HB.out))⟩⟩
   ·rw [if_neg c16] at H
    have c16b0 : (t312 == 0) = false := beq_eq_false_iff_ne.mpr c16
    have c16b1 : (t312 != 0) = true := bne_iff_ne.mpr c16
    have H' := Aside0.mk H
    clear H
    go_wp2
    repeat (go_quiet (fail); try go_wp2)
    go_meet
    case rel => exact ⟨_, (true), (by rfl), H', ⟨by omega⟩, ⟨by (with_reducible repeat (fail)); exact HO304.out⟩, ⟨by (with_reducible repeat (fail)); exact HO307.out⟩, ⟨by (with_reducible repeat (fail)); exact HO311.out⟩, ⟨by repeat ((with_reducible exact HB.out))⟩⟩
  ·rw [if_neg c15] at H
   have c15b0 : (t309 == 0) = false := beq_eq_false_iff_ne.mpr c15
   have c15b1 : (t309 != 0) = true := bne_iff_ne.mpr c15
   (skip)
   have H' := Aside0.mk H
   clear H
   go_wp2
   repeat (go_quiet (fail); try go_wp2)
   go_meet
   case rel => exact ⟨_, (true), (by rfl), H', ⟨by omega⟩, ⟨by (with_reducible repeat (fail)); exact HO304.out⟩, ⟨by (with_reducible repeat (fail)); exact HO307.out⟩, ⟨by (with_reducible repeat (fail)); exact HO311.out⟩, ⟨by repeat ((with_reducible exact HB.out))⟩⟩
 case rest => as_aux_lemma =>
  clear HC7
  try clear c1
  try clear p2
  try clear c5
  try clear c15
  try clear c15b0
  try clear c15b1
  try clear c16
  try clear c16b0
  try clear c16b1
  obtain ⟨kq, x51_6, rfl, HA, HJ6, HO_5, HO_6, HO_7, HB⟩ := hcut
  cases kq with
  | zero => exact absurd HA.out (by simp [letterbaglaw30_ShiftUrgent.j0])
  | succ kj6 =>
   have H := HA.out
   clear HA
   simp only [letterbaglaw30_ShiftUrgent.j0] at H
   by_cases c17 : x51_6 = true
   ·subst c17
    have H1 : (some false) = some true := by rw [if_pos rfl] at H; exact H
    clear H
    have H := H1
    clear H1
    exact absurd H (by simp)
   ·replace c17 := Bool.eq_false_iff.mpr c17
    subst c17
    have H1 : (if 0 ≤ (t302.length : Int) then (if ((t302.length : Int) : Int).toNat ≤ 35184372088832 then (letterbaglaw30_ShiftUrgent.l0 kj6 t302 t305 t308 (List.replicate ((t302.length : Int) : Int).toNat 0) t302 (t302.length : Int) 0) else (none)) else (none)) = some true := by rw [if_neg (show ¬ (false = true) by decide)] at H; exact H
    clear H
    have H := H1
    clear H1
    by_cases c18 : 0 ≤ (t302.length : Int)
    ·rw [if_pos c18] at H
     have c18b0 := eq_true c18
     have c18b1 : decide (0 ≤ (t302.length : Int)) = true := decide_eq_true c18
     clear c18
     by_cases c19 : ((t302.length : Int) : Int).toNat ≤ 35184372088832
     ·rw [if_pos c19] at H
      have c19b0 := eq_true c19
      have c19b1 : decide (((t302.length : Int) : Int).toNat ≤ 35184372088832) = true := decide_eq_true c19
      clear c19
      obtain ⟨y314, hy314⟩ : ∃ y_ : List Int, y_ = (List.replicate ((t302.length : Int) : Int).toNat 0) := ⟨_, rfl⟩
      replace H : (letterbaglaw30_ShiftUrgent.l0 kj6 t302 t305 t308 y314 t302 (t302.length : Int) 0) = some true := by (rw [hy314]; with_reducible exact H)
      have Ny314 := Aside0.mk hy314
      clear hy314
      have H' := Aside0.mk H
      clear H
      go_wp2_with (((with_reducible refine gate_dst (N := 54) rfl ?_); refine Kd.R_make (Kd.int .i64) _ 3 rfl (N := 54) rfl 36 _ _ rfl (t302.length : Int) rfl rfl Try.underlying36 (.int .i64 0) 8 info3 rfl (by decide) (by omega) 0 (ok := fun _ => True) (okp := fun _ => True) rfl (fun _ hk => hk) trivial (of_decide_eq_true (by (with_reducible assumption))) (Nat.le_trans (Nat.mul_le_mul_right _ (of_decide_eq_true (by (with_reducible assumption)) : (t302.length : Int).toNat ≤ 35184372088832)) (by omega)) (Below.refl _ _) (Nat.le_refl _) ?_; intro v315 w20 ho21 hb hg_ hnew_; clear hg_ hnew_; (rw [← Ny314.out] at ho21); have n0_ := Aside0.mk (Kd.R_below (by (with_reducible repeat (fail)); exact HO_5.out) hb); have n1_ := Aside0.mk (Kd.R_below (by (with_reducible repeat (fail)); exact HO_6.out) hb); have n2_ := Aside0.mk (Kd.R_below (by (with_reducible repeat (fail)); exact HO_7.out) hb); have n3_ := Aside0.mk (Kd.R_lower ho21 (below_size (by repeat ((with_reducible exact HB.out))))); have n4_ := Aside0.mk (below_step (by repeat ((with_reducible exact HB.out))) hb); clear HO_5; clear HO_6; clear HO_7; clear HB; have HO_5 := n0_; have HO_6 := n1_; have HO_7 := n2_; have HO316 := n3_; have HB := n4_; clear n0_ n1_ n2_ n3_ n4_; clear hb ho21))
      repeat (go_quiet (fail); try go_wp2_with (fail))
      go_loopg [57] kj6 (fun kq v57 w' => ∃ (x11_2 : List Int) (x57_2 : Int), v57 = .int .i64 x57_2 ∧ Aside0 (letterbaglaw30_ShiftUrgent.l0 kq t302 t305 t308 x11_2 t302 (t302.length : Int) x57_2 = some true) ∧ Aside0 (kq ≤ kj6) ∧ Aside0 (Kd.R k45 45 w' w.heap.size (fun _ => True) (.slice Ao10 t302.length co10) t302) ∧ Aside0 (Kd.R k47 47 w' w.heap.size (fun _ => True) (.slice Ao11 t305.length co11) t305) ∧ Aside0 (Kd.R k51 51 w' w.heap.size (fun _ => True) (.slice Ao13 t308.length co13) t308) ∧ Aside0 (Kd.R (Kd.int .i64) 3 w' w.heap.size (fun _ => True) v315 x11_2) ∧ Aside0 (Kd.R k45 45 w' w.heap.size (fun _ => True) (.slice Ao10 t302.length co10) t302) ∧ Aside0 (Below w.heap.size w w'))
      case atStart => exact ⟨(y314), (0), (by rfl), H', ⟨Nat.le_refl _⟩, ⟨by (with_reducible repeat (fail)); exact HO_5.out⟩, ⟨by (with_reducible repeat (fail)); exact HO_6.out⟩, ⟨by (with_reducible repeat (fail)); exact HO_7.out⟩, ⟨by (with_reducible repeat (fail)); exact HO316.out⟩, ⟨by (with_reducible repeat (fail)); exact HO_5.out⟩, ⟨by repeat ((with_reducible exact HB.out))⟩⟩
      case round => as_aux_lemma =>
       clear H'
       try clear c1
       try clear p2
       try clear c5
       try clear c15
       try clear c15b0
       try clear c15b1
       try clear c16
       try clear c16b0
       try clear c16b1
       try clear c17
       try clear c18
       try clear c18b0
       try clear c18b1
       try clear c19
       try clear c19b0
       try clear c19b1
       try clear p2
       obtain ⟨x11_2, x57_2, rfl, HA, HK2, HO_5, HO_6, HO_7, HO_11, HO_55, HB⟩ := hrel
       cases gk with
       | zero => exact absurd HA.out (by simp [letterbaglaw30_ShiftUrgent.l0])
       | succ k2 =>
        have H := HA.out
        clear HA
        simp only [letterbaglaw30_ShiftUrgent.l0] at H
        by_cases c22 : x57_2 < (t302.length : Int)
        ·rw [if_pos c22] at H
         have c22b0 : decide (x57_2 < (t302.length : Int)) = true := decide_eq_true c22
         clear c22
         by_cases c23 : 0 ≤ x57_2
         ·rw [if_pos c23] at H
          have c23b0 : decide (0 ≤ x57_2) = true := decide_eq_true c23
          clear c23
          by_cases c24 : x57_2 < (t302.length : Int)
          ·rw [if_pos c24] at H
           have c24b0 : decide (x57_2 < (t302.length : Int)) = true := decide_eq_true c24
           clear c24
           by_cases c25 : x57_2 < (x11_2.length : Int)
           ·rw [if_pos c25] at H
            have c25b0 : decide (x57_2 < (x11_2.length : Int)) = true := decide_eq_true c25
            clear c25
            obtain ⟨y319, hy319⟩ : ∃ y_ : List Int, y_ = (x11_2.set (x57_2 : Int).toNat ((rd_T45 t302 x57_2).f3)) := ⟨_, rfl⟩
            replace H : (letterbaglaw30_ShiftUrgent.l0 k2 t302 t305 t308 y319 t302 (t302.length : Int) (wrap64 (x57_2 + 1))) = some true := by (rw [hy319]; with_reducible exact H)
            have Ny319 := Aside0.mk hy319
            clear hy319
            have H' := Aside0.mk H
            clear H
            have p317 : 0 ≤ (x57_2 : Int) := of_decide_eq_true (by (with_reducible assumption))
            have q317 : x57_2 < (t302.length : Int) := of_decide_eq_true (by (with_reducible assumption))
            obtain ⟨ad317, e317, hx317_0, hx317_1, hx317_2, hx317_3⟩ := at_T45 (Kd.R_reads' HO_55.out).2.2 x57_2 p317 q317
            cases e317
            replace p317 := eq_true p317
            replace q317 := eq_true q317
            go_wp2_with (first | ((with_reducible refine gate_dst (N := 13) rfl ?_); refine box_event ?hg (N := 13) ?hd (cs := #[.int .i64 0, .int .i64 0, .int .i64 0, .int .i64 0]) (t := 45) ?hr ?_; (case hd => rfl); (case hg => rfl); (case hr => (go_simp; done)); intro gb318 hg w27 hbox hb; have n0_ := Aside0.mk (Kd.R_below (Kd.R_elderB (by (with_reducible repeat (fail)); exact HO_5.out) gb318 (Nat.le_of_eq hg.symm)) hb); have n1_ := Aside0.mk (Kd.R_below (by (with_reducible repeat (fail)); exact HO_6.out) hb); have n2_ := Aside0.mk (Kd.R_below (by (with_reducible repeat (fail)); exact HO_7.out) hb); have n3_ := Aside0.mk (Kd.R_below (by (with_reducible repeat (fail)); exact HO_11.out) hb); have n4_ := Aside0.mk (Kd.R_below (Kd.R_elderB (by (with_reducible repeat (fail)); exact HO_55.out) gb318 (Nat.le_of_eq hg.symm)) hb); have n5_ := Aside0.mk (below_step (by repeat ((with_reducible exact HB.out))) hb); have n6_ := Aside0.mk (hbox); have n7_ := Aside0.mk ((by rw [hg]; exact (below_size (by repeat ((with_reducible exact HB.out)))) : w.heap.size ≤ gb318)); have n8_ := Aside0.mk ((by rw [hg]; exact (below_size (by repeat ((with_reducible exact HB.out)))) : w.heap.size ≤ gb318)); clear HO_5; clear HO_6; clear HO_7; clear HO_11; clear HO_55; clear HB; have HO_5 := n0_; have HO_6 := n1_; have HO_7 := n2_; have HO_11 := n3_; have HO_55 := n4_; have HB := n5_; have BK318 := n6_; have GW318 := n7_; have GE318 := n8_; clear n0_ n1_ n2_ n3_ n4_ n5_ n6_ n7_ n8_; clear hb hbox hg; have hcz28_0 : w27.cell? ⟨gb318, 0, none⟩ = some (.int .i64 0) := (blk_cell BK318.out 0).trans rfl; have hcz28_1 : w27.cell? ⟨gb318, 1, none⟩ = some (.int .i64 0) := (blk_cell BK318.out 1).trans rfl; have hcz28_2 : w27.cell? ⟨gb318, 2, none⟩ = some (.int .i64 0) := (blk_cell BK318.out 2).trans rfl; have hcz28_3 : w27.cell? ⟨gb318, 3, none⟩ = some (.int .i64 0) := (blk_cell BK318.out 3).trans rfl; have hfz28_0 := blk_frozen BK318.out 0; have hfz28_1 := blk_frozen BK318.out 1; have hfz28_2 := blk_frozen BK318.out 2; have hfz28_3 := blk_frozen BK318.out 3) | ((with_reducible refine gate_store (t := 45) (p := 13) rfl ?_); (try (rw [drewN_self w27]; generalize hq_ : World.drewN w27 _ = w27; have n0_ := Aside0.mk (Kd.R_at hq_ HO_5.out); have n1_ := Aside0.mk (Kd.R_at hq_ HO_6.out); have n2_ := Aside0.mk (Kd.R_at hq_ HO_7.out); have n3_ := Aside0.mk (Kd.R_at hq_ HO_11.out); have n4_ := Aside0.mk (Kd.R_at hq_ HO_55.out); have n5_ := Aside0.mk (blk_at hq_ BK318.out); have n6_ := Aside0.mk (below_at hq_ HB.out); clear hq_ HO_5 HO_6 HO_7 HO_11 HO_55 BK318 HB; have HO_5 := n0_; have HO_6 := n1_; have HO_7 := n2_; have HO_11 := n3_; have HO_55 := n4_; have BK318 := n5_; have HB := n6_; clear n0_ n1_ n2_ n3_ n4_ n5_ n6_)); refine store_event (t := 45) (p := 13) (v := ?vo_w29) (w1 := ((((w27.setCell ⟨gb318, 0, none⟩ (.int .i64 ((rd_T45 t302 x57_2).f0))).setCell ⟨gb318, 1, none⟩ (.int .i64 ((rd_T45 t302 x57_2).f1))).setCell ⟨gb318, 2, none⟩ (.int .i64 ((rd_T45 t302 x57_2).f2))).setCell ⟨gb318, 3, none⟩ (.int .i64 ((rd_T45 t302 x57_2).f3)))) ?hg ?ho ?hn ?hr ?_; (case ho => rfl); (case hg => rfl); (case hn => rfl); (case hr => (go_simp; done)); intro w29 hw; have n0_ : Aside0 (Kd.R k45 45 w29 w.heap.size (fun k_ => k_ ≠ gb318) (.slice (some ad317) t302.length co10) t302) := ⟨(by rw [hw]; exact (by (with_reducible repeat (fail)); exact Kd.R_mono (Kd.R_far (p := ⟨gb318, 3, none⟩) (Kd.R_far (p := ⟨gb318, 2, none⟩) (Kd.R_far (p := ⟨gb318, 1, none⟩) (Kd.R_far (p := ⟨gb318, 0, none⟩) (Kd.R_mono HO_5.out (fun k_ hk => (⟨hk, hk.2⟩ : _ ∧ k_ ≠ gb318))) (fun _ hk => hk.2) (.int .i64 ((rd_T45 t302 x57_2).f0))) (fun _ hk => hk.2) (.int .i64 ((rd_T45 t302 x57_2).f1))) (fun _ hk => hk.2) (.int .i64 ((rd_T45 t302 x57_2).f2))) (fun _ hk => hk.2) (.int .i64 ((rd_T45 t302 x57_2).f3))) (fun _ hk => hk.1.2)))⟩; have n1_ : Aside0 (Kd.R k47 47 w29 w.heap.size (fun _ => True) (.slice Ao11 t305.length co11) t305) := ⟨(by rw [hw]; exact (by (with_reducible repeat (fail)); exact Kd.R_mono (Kd.R_far (p := ⟨gb318, 3, none⟩) (Kd.R_far (p := ⟨gb318, 2, none⟩) (Kd.R_far (p := ⟨gb318, 1, none⟩) (Kd.R_far (p := ⟨gb318, 0, none⟩) (Kd.R_types HO_6.out BK318.out (by decide)) (fun _ hk => hk.2) (.int .i64 ((rd_T45 t302 x57_2).f0))) (fun _ hk => hk.2) (.int .i64 ((rd_T45 t302 x57_2).f1))) (fun _ hk => hk.2) (.int .i64 ((rd_T45 t302 x57_2).f2))) (fun _ hk => hk.2) (.int .i64 ((rd_T45 t302 x57_2).f3))) (fun _ hk => trivial)))⟩; have n2_ : Aside0 (Kd.R k51 51 w29 w.heap.size (fun _ => True) (.slice Ao13 t308.length co13) t308) := ⟨(by rw [hw]; exact (by (with_reducible repeat (fail)); exact Kd.R_mono (Kd.R_far (p := ⟨gb318, 3, none⟩) (Kd.R_far (p := ⟨gb318, 2, none⟩) (Kd.R_far (p := ⟨gb318, 1, none⟩) (Kd.R_far (p := ⟨gb318, 0, none⟩) (Kd.R_types HO_7.out BK318.out (by decide)) (fun _ hk => hk.2) (.int .i64 ((rd_T45 t302 x57_2).f0))) (fun _ hk => hk.2) (.int .i64 ((rd_T45 t302 x57_2).f1))) (fun _ hk => hk.2) (.int .i64 ((rd_T45 t302 x57_2).f2))) (fun _ hk => hk.2) (.int .i64 ((rd_T45 t302 x57_2).f3))) (fun _ hk => trivial)))⟩; have n3_ : Aside0 (Kd.R (Kd.int .i64) 3 w29 w.heap.size (fun _ => True) v315 x11_2) := ⟨(by rw [hw]; exact (by (with_reducible repeat (fail)); exact Kd.R_mono (Kd.R_far (p := ⟨gb318, 3, none⟩) (Kd.R_far (p := ⟨gb318, 2, none⟩) (Kd.R_far (p := ⟨gb318, 1, none⟩) (Kd.R_far (p := ⟨gb318, 0, none⟩) (Kd.R_types HO_11.out BK318.out (by decide)) (fun _ hk => hk.2) (.int .i64 ((rd_T45 t302 x57_2).f0))) (fun _ hk => hk.2) (.int .i64 ((rd_T45 t302 x57_2).f1))) (fun _ hk => hk.2) (.int .i64 ((rd_T45 t302 x57_2).f2))) (fun _ hk => hk.2) (.int .i64 ((rd_T45 t302 x57_2).f3))) (fun _ hk => trivial)))⟩; have n4_ : Aside0 (Kd.R k45 45 w29 w.heap.size (fun k_ => k_ ≠ gb318) (.slice (some ad317) t302.length co10) t302) := ⟨(by rw [hw]; exact (by (with_reducible repeat (fail)); exact Kd.R_mono (Kd.R_far (p := ⟨gb318, 3, none⟩) (Kd.R_far (p := ⟨gb318, 2, none⟩) (Kd.R_far (p := ⟨gb318, 1, none⟩) (Kd.R_far (p := ⟨gb318, 0, none⟩) (Kd.R_mono HO_55.out (fun k_ hk => (⟨hk, hk.2⟩ : _ ∧ k_ ≠ gb318))) (fun _ hk => hk.2) (.int .i64 ((rd_T45 t302 x57_2).f0))) (fun _ hk => hk.2) (.int .i64 ((rd_T45 t302 x57_2).f1))) (fun _ hk => hk.2) (.int .i64 ((rd_T45 t302 x57_2).f2))) (fun _ hk => hk.2) (.int .i64 ((rd_T45 t302 x57_2).f3))) (fun _ hk => hk.1.2)))⟩; have n5_ : Aside0 (w29.heap[gb318]? = some (.cells #[.int .i64 ((rd_T45 t302 x57_2).f0), .int .i64 ((rd_T45 t302 x57_2).f1), .int .i64 ((rd_T45 t302 x57_2).f2), .int .i64 ((rd_T45 t302 x57_2).f3)] 45 (0, 0))) := ⟨(by rw [hw]; exact (by (with_reducible repeat (fail)); refine blk_put (cs := #[.int .i64 ((rd_T45 t302 x57_2).f0), .int .i64 ((rd_T45 t302 x57_2).f1), .int .i64 ((rd_T45 t302 x57_2).f2), .int .i64 0]) ?_ 3 _ rfl; (with_reducible repeat (fail)); refine blk_put (cs := #[.int .i64 ((rd_T45 t302 x57_2).f0), .int .i64 ((rd_T45 t302 x57_2).f1), .int .i64 0, .int .i64 0]) ?_ 2 _ rfl; (with_reducible repeat (fail)); refine blk_put (cs := #[.int .i64 ((rd_T45 t302 x57_2).f0), .int .i64 0, .int .i64 0, .int .i64 0]) ?_ 1 _ rfl; (with_reducible repeat (fail)); refine blk_put (cs := #[.int .i64 0, .int .i64 0, .int .i64 0, .int .i64 0]) ?_ 0 _ rfl; (with_reducible repeat (fail)); exact BK318.out))⟩; have n6_ : Aside0 (Below w.heap.size w w29) := ⟨(by rw [hw]; exact (by repeat ((with_reducible first | exact HB.out | refine below_set ?_ GE318.out))))⟩; clear hw; clear HO_5; clear HO_6; clear HO_7; clear HO_11; clear HO_55; clear BK318; clear HB; have HO_5 := n0_; have HO_6 := n1_; have HO_7 := n2_; have HO_11 := n3_; have HO_55 := n4_; have BK318 := n5_; have HB := n6_; clear n0_ n1_ n2_ n3_ n4_ n5_ n6_; have hcz30_0 : w29.cell? ⟨gb318, 0, none⟩ = some (.int .i64 ((rd_T45 t302 x57_2).f0)) := (blk_cell BK318.out 0).trans rfl; have hcz30_1 : w29.cell? ⟨gb318, 1, none⟩ = some (.int .i64 ((rd_T45 t302 x57_2).f1)) := (blk_cell BK318.out 1).trans rfl; have hcz30_2 : w29.cell? ⟨gb318, 2, none⟩ = some (.int .i64 ((rd_T45 t302 x57_2).f2)) := (blk_cell BK318.out 2).trans rfl; have hcz30_3 : w29.cell? ⟨gb318, 3, none⟩ = some (.int .i64 ((rd_T45 t302 x57_2).f3)) := (blk_cell BK318.out 3).trans rfl; have hfz30_0 := blk_frozen BK318.out 0; have hfz30_1 := blk_frozen BK318.out 1; have hfz30_2 := blk_frozen BK318.out 2; have hfz30_3 := blk_frozen BK318.out 3; have p26 : 0 ≤ (x57_2 : Int) := of_decide_eq_true (by (with_reducible assumption)); have q26 : (x57_2 : Int) < ((x11_2.length : Int) : Int) := of_decide_eq_true (by (with_reducible assumption)); obtain ⟨go26, co26, eo26, gb26, gl26, cl26, HG26⟩ := Kd.R_form HO_11.out (by omega); (cases eo26); have GB26 := Aside0.mk gb26; have GG26 := Aside0.mk HG26; clear gb26 gl26 HG26; obtain ⟨hx26_0, hf26_0⟩ := Kd.R_celln 0 HO_11.out (x57_2 : Int) p26 q26; replace p26 := eq_true p26; replace q26 := eq_true q26; obtain ⟨hy31_, hz31_⟩ := Kd.R_celln 0 HO_11.out (x57_2 : Int) (of_decide_eq_true (by (with_reducible assumption))) (of_decide_eq_true (by (with_reducible assumption))); have HP31 := Kd.R_putg HO_11.out (x57_2 : Int) ((rd_T45 t302 x57_2).f3)) | ((with_reducible refine gate_store (t := 3) (p := 66) rfl ?_); (try (rw [drewN_self w29]; generalize hq_ : World.drewN w29 _ = w29; have n0_ := Aside0.mk (Kd.R_at hq_ HO_5.out); have n1_ := Aside0.mk (Kd.R_at hq_ HO_6.out); have n2_ := Aside0.mk (Kd.R_at hq_ HO_7.out); have n3_ := Aside0.mk (Kd.R_at hq_ HO_11.out); have n4_ := Aside0.mk (Kd.R_at hq_ HO_55.out); have n5_ := Aside0.mk (blk_at hq_ BK318.out); have n6_ := Aside0.mk (below_at hq_ HB.out); clear hq_ HO_5 HO_6 HO_7 HO_11 HO_55 BK318 HB; have HO_5 := n0_; have HO_6 := n1_; have HO_7 := n2_; have HO_11 := n3_; have HO_55 := n4_; have BK318 := n5_; have HB := n6_; clear n0_ n1_ n2_ n3_ n4_ n5_ n6_; (try (obtain ⟨hy31_, hz31_⟩ := Kd.R_celln 0 HO_11.out (x57_2 : Int) (of_decide_eq_true (by fail)) (of_decide_eq_true (by fail)))); (try (have HP31 := Kd.R_putg HO_11.out (x57_2 : Int) ((rd_T45 t302 x57_2).f3))))); refine store_event (t := 3) (p := 66) (v := ?vo_w32) (w1 := (w29.setCell ⟨go26, (x57_2 : Int).toNat, none⟩ (.int .i64 ((rd_T45 t302 x57_2).f3)))) ?hg ?ho ?hn ?hr ?_; (case ho => rfl); (case hg => rfl); (case hn => rfl); (case hr => (go_simp; done)); intro w32 hw; have hg : w29.grownBy w32 (some go26) := (by rw [hw]; exact HP31.2); have hp_ : Kd.R (Kd.int .i64) 3 w32 w.heap.size (fun _ => True) (.slice (some ⟨go26, 0, none⟩) x11_2.length co26) y319 := (by rw [hw, Ny319.out]; exact HP31.1); clear HP31; have n0_ := Aside0.mk (Kd.R_over' (v := (.slice (some ⟨go26, 0, none⟩) x11_2.length co26)) (by (with_reducible repeat (fail)); exact HO_5.out) (Kd.R_typed HO_11.out) (by decide) hg); have n1_ := Aside0.mk (Kd.R_over' (v := (.slice (some ⟨go26, 0, none⟩) x11_2.length co26)) (by (with_reducible repeat (fail)); exact HO_6.out) (Kd.R_typed HO_11.out) (by decide) hg); have n2_ := Aside0.mk (Kd.R_over' (v := (.slice (some ⟨go26, 0, none⟩) x11_2.length co26)) (by (with_reducible repeat (fail)); exact HO_7.out) (Kd.R_typed HO_11.out) (by decide) hg); have n3_ := Aside0.mk (hp_); have n4_ := Aside0.mk (Kd.R_over' (v := (.slice (some ⟨go26, 0, none⟩) x11_2.length co26)) (by (with_reducible repeat (fail)); exact HO_55.out) (Kd.R_typed HO_11.out) (by decide) hg); have n5_ := Aside0.mk (blk_grown (g := gb318) (o := .cells #[.int .i64 ((rd_T45 t302 x57_2).f0), .int .i64 ((rd_T45 t302 x57_2).f1), .int .i64 ((rd_T45 t302 x57_2).f2), .int .i64 ((rd_T45 t302 x57_2).f3)] 45 (0, 0)) (by (with_reducible repeat (fail)); exact BK318.out) hg (Kd.R_ne HO_11.out BK318.out (by decide))); have n6_ := Aside0.mk ((by rw [hw]; exact below_set (HB.out) GB26.out : Below w.heap.size w w32)); clear HO_5; clear HO_6; clear HO_7; clear HO_11; clear HO_55; clear BK318; clear HB; have HO_5 := n0_; have HO_6 := n1_; have HO_7 := n2_; have HO_11 := n3_; have HO_55 := n4_; have BK318 := n5_; have HB := n6_; clear n0_ n1_ n2_ n3_ n4_ n5_ n6_; clear hg hw hp_))
            repeat (go_quiet (fail); try go_wp2_with (fail))
            go_roundg k2
            case measure => have := HJ6.out; have := HK2.out; omega
            case rel => exact ⟨(y319), (wrap64 (x57_2 + 1)), (by rfl), H', ⟨by have := HJ6.out; have := HK2.out; omega⟩, ⟨by (with_reducible repeat (fail)); exact Kd.R_mono HO_5.out (fun _ hk => trivial)⟩, ⟨by (with_reducible repeat (fail)); exact HO_6.out⟩, ⟨by (with_reducible repeat (fail)); exact HO_7.out⟩, ⟨by (with_reducible repeat (fail)); exact HO_11.out⟩, ⟨by (with_reducible repeat (fail)); exact Kd.R_mono HO_55.out (fun _ hk => trivial)⟩, ⟨by repeat ((with_reducible exact HB.out))⟩⟩
           ·rw [if_neg c25] at H
            exact absurd H (by simp)
          ·rw [if_neg c24] at H
           exact absurd H (by simp)
         ·rw [if_neg c23] at H
          exact absurd H (by simp)
        ·rw [if_neg c22] at H
         have c22b0 : decide (x57_2 < (t302.length : Int)) = false := decide_eq_false c22
         clear c22
         have H' := Aside0.mk H
         clear H
         go_wp2
         repeat (go_quiet (fail); try go_wp2)
         go_loopg [14, 70] k2 (fun kq v14 v70 w' => ∃ (x11_3 : List Int) (x14_3 : Int) (x70_3 : Int), v14 = .int .i64 x14_3 ∧ v70 = .int .i64 x70_3 ∧ Aside0 (letterbaglaw30_ShiftUrgent.l1 kq t302 t308 x11_3 x14_3 t305 (t305.length : Int) x70_3 = some true) ∧ Aside0 (kq ≤ k2) ∧ Aside0 (Kd.R k45 45 w' w.heap.size (fun _ => True) (.slice Ao10 t302.length co10) t302) ∧ Aside0 (Kd.R k51 51 w' w.heap.size (fun _ => True) (.slice Ao13 t308.length co13) t308) ∧ Aside0 (Kd.R (Kd.int .i64) 3 w' w.heap.size (fun _ => True) v315 x11_3) ∧ Aside0 (Kd.R k47 47 w' w.heap.size (fun _ => True) (.slice Ao11 t305.length co11) t305) ∧ Aside0 (Below w.heap.size w w'))
         case atStart => exact ⟨(x11_2), (0), (0), (by rfl), (by rfl), H', ⟨Nat.le_refl _⟩, ⟨by (with_reducible repeat (fail)); exact HO_5.out⟩, ⟨by (with_reducible repeat (fail)); exact HO_7.out⟩, ⟨by (with_reducible repeat (fail)); exact HO_11.out⟩, ⟨by (with_reducible repeat (fail)); exact HO_6.out⟩, ⟨by repeat ((with_reducible exact HB.out))⟩⟩
         case round => as_aux_lemma =>
          clear H'
          try clear c1
          try clear c2
          try clear p2
          try clear q2
          try clear hx2
          try clear hf2
          try clear p3
          try clear q3
          try clear hx3
          try clear c5
          try clear p6
          try clear c15
          try clear c15b0
          try clear c15b1
          try clear c16
          try clear c16b0
          try clear c16b1
          try clear c17
          try clear c18
          try clear c18b0
          try clear c18b1
          try clear c19
          try clear c19b0
          try clear c19b1
          try clear c22
          try clear c22b0
          try clear c23
          try clear c23b0
          try clear c24
          try clear c24b0
          try clear c25
          try clear c25b0
          try clear p26
          try clear q26
          try clear hx26
          try clear hf26
          try clear p31
          try clear q31
          try clear hx31
          try clear hcz28_0
          try clear hcz28_1
          try clear hcz28_2
          try clear hcz28_3
          try clear hcz30_0
          try clear hcz30_1
          try clear hcz30_2
          try clear hcz30_3
          try clear hfz28_0
          try clear hfz28_1
          try clear hfz28_2
          try clear hfz28_3
          try clear hfz30_0
          try clear hfz30_1
          try clear hfz30_2
          try clear hfz30_3
          try clear hx26_0
          try clear hx317_0
          try clear hx317_1
          try clear hx317_2
          try clear hx317_3
          try clear p2
          try clear p26
          try clear p317
          try clear q26
          try clear q317
          obtain ⟨x11_3, x14_3, x70_3, rfl, rfl, HA, HK3, HO_5, HO_7, HO_11, HO_68, HB⟩ := hrel
          cases gk with
          | zero => exact absurd HA.out (by simp [letterbaglaw30_ShiftUrgent.l1])
          | succ k3 =>
           have H := HA.out
           clear HA
           simp only [letterbaglaw30_ShiftUrgent.l1] at H
           by_cases c33 : x70_3 < (t305.length : Int)
           ·rw [if_pos c33] at H
            have c33b0 : decide (x70_3 < (t305.length : Int)) = true := decide_eq_true c33
            clear c33
            by_cases c34 : 0 ≤ x70_3
            ·rw [if_pos c34] at H
             have c34b0 : decide (0 ≤ x70_3) = true := decide_eq_true c34
             clear c34
             by_cases c35 : x70_3 < (t305.length : Int)
             ·rw [if_pos c35] at H
              have c35b0 : decide (x70_3 < (t305.length : Int)) = true := decide_eq_true c35
              clear c35
              have H' := Aside0.mk H
              clear H
              have p320 : 0 ≤ (x70_3 : Int) := of_decide_eq_true (by (with_reducible assumption))
              have q320 : x70_3 < (t305.length : Int) := of_decide_eq_true (by (with_reducible assumption))
              obtain ⟨ad320, e320, hx320_0, hx320_1⟩ := at_T47 (Kd.R_reads' HO_68.out).2.2 x70_3 p320 q320
              cases e320
              replace p320 := eq_true p320
              replace q320 := eq_true q320
              go_wp2_with (((with_reducible refine gate_dst (N := 16) rfl ?_); refine box_event ?hg (N := 16) ?hd (cs := #[.int .i64 0, .int .i64 0]) (t := 47) ?hr ?_; (case hd => rfl); (case hg => rfl); (case hr => (go_simp; done)); intro gb321 hg w36 hbox hb; have n0_ := Aside0.mk (Kd.R_below (by (with_reducible repeat (fail)); exact HO_5.out) hb); have n1_ := Aside0.mk (Kd.R_below (by (with_reducible repeat (fail)); exact HO_7.out) hb); have n2_ := Aside0.mk (Kd.R_below (by (with_reducible repeat (fail)); exact HO_11.out) hb); have n3_ := Aside0.mk (Kd.R_below (Kd.R_elderB (by (with_reducible repeat (fail)); exact HO_68.out) gb321 (Nat.le_of_eq hg.symm)) hb); have n4_ := Aside0.mk (below_step (by repeat ((with_reducible exact HB.out))) hb); have n5_ := Aside0.mk (hbox); have n6_ := Aside0.mk ((by rw [hg]; exact (below_size (by repeat ((with_reducible exact HB.out)))) : w.heap.size ≤ gb321)); have n7_ := Aside0.mk ((by rw [hg]; exact (below_size (by repeat ((with_reducible exact HB.out)))) : w.heap.size ≤ gb321)); clear HO_5; clear HO_7; clear HO_11; clear HO_68; clear HB; have HO_5 := n0_; have HO_7 := n1_; have HO_11 := n2_; have HO_68 := n3_; have HB := n4_; have BK321 := n5_; have GW321 := n6_; have GE321 := n7_; clear n0_ n1_ n2_ n3_ n4_ n5_ n6_ n7_; clear hb hbox hg; have hcz37_0 : w36.cell? ⟨gb321, 0, none⟩ = some (.int .i64 0) := (blk_cell BK321.out 0).trans rfl; have hcz37_1 : w36.cell? ⟨gb321, 1, none⟩ = some (.int .i64 0) := (blk_cell BK321.out 1).trans rfl; have hfz37_0 := blk_frozen BK321.out 0; have hfz37_1 := blk_frozen BK321.out 1))
              repeat (go_quiet (fail); try go_wp2_with (fail))
              go_loopg [14, 17] k3 (fun kq v14 v17 w' => ∃ (x11_4 : List Int) (x14_4 : Int) (x17_4 : Int), v14 = .int .i64 x14_4 ∧ v17 = .int .i64 x17_4 ∧ Aside0 (letterbaglaw30_ShiftUrgent.l2 kq t302 t308 x11_4 x14_4 x17_4 t305 (t305.length : Int) x70_3 ((rd_T47 t305 x70_3).f0) ((rd_T47 t305 x70_3).f1) = some true) ∧ Aside0 (kq ≤ k3) ∧ Aside0 (Kd.R k45 45 w' w.heap.size (fun _ => True) (.slice Ao10 t302.length co10) t302) ∧ Aside0 (Kd.R k51 51 w' w.heap.size (fun _ => True) (.slice Ao13 t308.length co13) t308) ∧ Aside0 (Kd.R (Kd.int .i64) 3 w' w.heap.size (fun _ => True) v315 x11_4) ∧ Aside0 (Kd.R k47 47 w' w.heap.size (fun k_ => k_ ≠ gb321) (.slice (some ad320) t305.length co11) t305) ∧ Aside0 (w'.heap[gb321]? = some (.cells #[.int .i64 ((rd_T47 t305 x70_3).f0), .int .i64 ((rd_T47 t305 x70_3).f1)] 47 (0, 0))) ∧ Aside0 (Below w.heap.size w w'))
              case atStart => exact ⟨(x11_3), (x14_3), ((rd_T47 t305 x70_3).f0), (by rfl), (by rfl), H', ⟨Nat.le_refl _⟩, ⟨by (with_reducible repeat (fail)); exact Kd.R_mono (Kd.R_far (p := ⟨gb321, 1, none⟩) (Kd.R_far (p := ⟨gb321, 0, none⟩) (Kd.R_types HO_5.out BK321.out (by decide)) (fun _ hk => hk.2) (.int .i64 ((rd_T47 t305 x70_3).f0))) (fun _ hk => hk.2) (.int .i64 ((rd_T47 t305 x70_3).f1))) (fun _ hk => trivial)⟩, ⟨by (with_reducible repeat (fail)); exact Kd.R_mono (Kd.R_far (p := ⟨gb321, 1, none⟩) (Kd.R_far (p := ⟨gb321, 0, none⟩) (Kd.R_types HO_7.out BK321.out (by decide)) (fun _ hk => hk.2) (.int .i64 ((rd_T47 t305 x70_3).f0))) (fun _ hk => hk.2) (.int .i64 ((rd_T47 t305 x70_3).f1))) (fun _ hk => trivial)⟩, ⟨by (with_reducible repeat (fail)); exact Kd.R_mono (Kd.R_far (p := ⟨gb321, 1, none⟩) (Kd.R_far (p := ⟨gb321, 0, none⟩) (Kd.R_types HO_11.out BK321.out (by decide)) (fun _ hk => hk.2) (.int .i64 ((rd_T47 t305 x70_3).f0))) (fun _ hk => hk.2) (.int .i64 ((rd_T47 t305 x70_3).f1))) (fun _ hk => trivial)⟩, ⟨by (with_reducible repeat (fail)); exact Kd.R_mono (Kd.R_far (p := ⟨gb321, 1, none⟩) (Kd.R_far (p := ⟨gb321, 0, none⟩) (Kd.R_mono HO_68.out (fun k_ hk => (⟨hk, hk.2⟩ : _ ∧ k_ ≠ gb321))) (fun _ hk => hk.2) (.int .i64 ((rd_T47 t305 x70_3).f0))) (fun _ hk => hk.2) (.int .i64 ((rd_T47 t305 x70_3).f1))) (fun _ hk => hk.1.2)⟩, ⟨by (with_reducible repeat (fail)); refine blk_put (cs := #[.int .i64 ((rd_T47 t305 x70_3).f0), .int .i64 0]) ?_ 1 _ rfl; (with_reducible repeat (fail)); refine blk_put (cs := #[.int .i64 0, .int .i64 0]) ?_ 0 _ rfl; (with_reducible repeat (fail)); exact BK321.out⟩, ⟨by repeat ((with_reducible first | exact HB.out | refine below_set ?_ GE321.out))⟩⟩
              case round => as_aux_lemma =>
               clear H'
               try clear c1
               try clear c2
               try clear p2
               try clear q2
               try clear hx2
               try clear hf2
               try clear c3
               try clear p3
               try clear q3
               try clear hx3
               try clear c5
               try clear p6
               try clear c15
               try clear c15b0
               try clear c15b1
               try clear c16
               try clear c16b0
               try clear c16b1
               try clear c17
               try clear c18
               try clear c18b0
               try clear c18b1
               try clear c19
               try clear c19b0
               try clear c19b1
               try clear c22
               try clear c22b0
               try clear c23
               try clear c23b0
               try clear c24
               try clear c24b0
               try clear c25
               try clear c25b0
               try clear p26
               try clear q26
               try clear hx26
               try clear hf26
               try clear p31
               try clear q31
               try clear hx31
               try clear p32
               try clear q32
               try clear hx32
               try clear c33
               try clear c33b0
               try clear c34
               try clear c34b0
               try clear c35
               try clear c35b0
               try clear hcz28_0
               try clear hcz28_1
               try clear hcz28_2
               try clear hcz28_3
               try clear hcz30_0
               try clear hcz30_1
               try clear hcz30_2
               try clear hcz30_3
               try clear hcz37_0
               try clear hcz37_1
               try clear hfz28_0
               try clear hfz28_1
               try clear hfz28_2
               try clear hfz28_3
               try clear hfz30_0
               try clear hfz30_1
               try clear hfz30_2
               try clear hfz30_3
               try clear hfz37_0
               try clear hfz37_1
               try clear hx26_0
               try clear hx317_0
               try clear hx317_1
               try clear hx317_2
               try clear hx317_3
               try clear hx320_0
               try clear hx320_1
               try clear p2
               try clear p26
               try clear p3
               try clear p31
               try clear p317
               try clear p320
               try clear p6
               try clear q2
               try clear q26
               try clear q3
               try clear q31
               try clear q317
               try clear q320
               obtain ⟨x11_4, x14_4, x17_4, rfl, rfl, HA, HK4, HO_5, HO_7, HO_11, HO_68, BK321, HB⟩ := hrel
               cases gk with
               | zero => exact absurd HA.out (by simp [letterbaglaw30_ShiftUrgent.l2])
               | succ k4 =>
                have H := HA.out
                clear HA
                simp only [letterbaglaw30_ShiftUrgent.l2] at H
                by_cases c38 : x17_4 < ((rd_T47 t305 x70_3).f1)
                ·rw [if_pos c38] at H
                 have c38b0 : decide (x17_4 < ((rd_T47 t305 x70_3).f1)) = true := decide_eq_true c38
                 clear c38
                 have H' := Aside0.mk H
                 clear H
                 have hcz39_0 : wr.cell? ⟨gb321, 0, none⟩ = some (.int .i64 ((rd_T47 t305 x70_3).f0)) := (blk_cell BK321.out 0).trans rfl
                 have hcz39_1 : wr.cell? ⟨gb321, 1, none⟩ = some (.int .i64 ((rd_T47 t305 x70_3).f1)) := (blk_cell BK321.out 1).trans rfl
                 have hfz39_0 := blk_frozen BK321.out 0
                 have hfz39_1 := blk_frozen BK321.out 1
                 go_wp2
                 repeat (go_quiet (fail); try go_wp2)
                 go_loopg [18, 84] k4 (fun kq v18 v84 w' => ∃ (x18_5 : Int) (x84_5 : Int), v18 = .int .i64 x18_5 ∧ v84 = .int .i64 x84_5 ∧ Aside0 (letterbaglaw30_ShiftUrgent.l3 kq t302 t308 x11_4 x14_4 x17_4 x18_5 t305 (t305.length : Int) x70_3 t302 (t302.length : Int) x84_5 ((rd_T47 t305 x70_3).f0) ((rd_T47 t305 x70_3).f1) = some true) ∧ Aside0 (kq ≤ k4) ∧ Aside0 (Kd.R k45 45 w' w.heap.size (fun _ => True) (.slice Ao10 t302.length co10) t302) ∧ Aside0 (Kd.R k51 51 w' w.heap.size (fun _ => True) (.slice Ao13 t308.length co13) t308) ∧ Aside0 (Kd.R (Kd.int .i64) 3 w' w.heap.size (fun _ => True) v315 x11_4) ∧ Aside0 (Kd.R k47 47 w' w.heap.size (fun k_ => k_ ≠ gb321) (.slice (some ad320) t305.length co11) t305) ∧ Aside0 (Kd.R k45 45 w' w.heap.size (fun _ => True) (.slice Ao10 t302.length co10) t302) ∧ Aside0 (w'.heap[gb321]? = some (.cells #[.int .i64 ((rd_T47 t305 x70_3).f0), .int .i64 ((rd_T47 t305 x70_3).f1)] 47 (0, 0))) ∧ Aside0 (Below w.heap.size w w'))
                 case atStart => exact ⟨((-1)), (0), (by rfl), (by rfl), H', ⟨Nat.le_refl _⟩, ⟨by (with_reducible repeat (fail)); exact HO_5.out⟩, ⟨by (with_reducible repeat (fail)); exact HO_7.out⟩, ⟨by (with_reducible repeat (fail)); exact HO_11.out⟩, ⟨by (with_reducible repeat (fail)); exact HO_68.out⟩, ⟨by (with_reducible repeat (fail)); exact HO_5.out⟩, ⟨by (with_reducible repeat (fail)); exact BK321.out⟩, ⟨by repeat ((with_reducible exact HB.out))⟩⟩
                 case round => as_aux_lemma =>
                  clear H'
                  try clear c1
                  try clear c2
                  try clear p2
                  try clear q2
                  try clear hx2
                  try clear hf2
                  try clear c3
                  try clear p3
                  try clear q3
                  try clear hx3
                  try clear c5
                  try clear p6
                  try clear c15
                  try clear c15b0
                  try clear c15b1
                  try clear c16
                  try clear c16b0
                  try clear c16b1
                  try clear c17
                  try clear c18
                  try clear c18b0
                  try clear c18b1
                  try clear c19
                  try clear c19b0
                  try clear c19b1
                  try clear c22
                  try clear c22b0
                  try clear c23
                  try clear c23b0
                  try clear c24
                  try clear c24b0
                  try clear c25
                  try clear c25b0
                  try clear p26
                  try clear q26
                  try clear hx26
                  try clear hf26
                  try clear p31
                  try clear q31
                  try clear hx31
                  try clear p32
                  try clear q32
                  try clear hx32
                  try clear c33
                  try clear c33b0
                  try clear c34
                  try clear c34b0
                  try clear c35
                  try clear c35b0
                  try clear c38
                  try clear c38b0
                  try clear hcz28_0
                  try clear hcz28_1
                  try clear hcz28_2
                  try clear hcz28_3
                  try clear hcz30_0
                  try clear hcz30_1
                  try clear hcz30_2
                  try clear hcz30_3
                  try clear hcz37_0
                  try clear hcz37_1
                  try clear hcz39_0
                  try clear hcz39_1
                  try clear hfz28_0
                  try clear hfz28_1
                  try clear hfz28_2
                  try clear hfz28_3
                  try clear hfz30_0
                  try clear hfz30_1
                  try clear hfz30_2
                  try clear hfz30_3
                  try clear hfz37_0
                  try clear hfz37_1
                  try clear hfz39_0
                  try clear hfz39_1
                  try clear hx26_0
                  try clear hx317_0
                  try clear hx317_1
                  try clear hx317_2
                  try clear hx317_3
                  try clear hx320_0
                  try clear hx320_1
                  try clear p2
                  try clear p26
                  try clear p3
                  try clear p31
                  try clear p317
                  try clear p32
                  try clear p320
                  try clear p6
                  try clear q2
                  try clear q26
                  try clear q3
                  try clear q31
                  try clear q317
                  try clear q32
                  try clear q320
                  obtain ⟨x18_5, x84_5, rfl, rfl, HA, HK5, HO_5, HO_7, HO_11, HO_68, HO_82, BK321, HB⟩ := hrel
                  cases gk with
                  | zero => exact absurd HA.out (by simp [letterbaglaw30_ShiftUrgent.l3])
                  | succ k5 =>
                   have H := HA.out
                   clear HA
                   simp only [letterbaglaw30_ShiftUrgent.l3] at H
                   by_cases c40 : x84_5 < (t302.length : Int)
                   ·rw [if_pos c40] at H
                    have c40b0 : decide (x84_5 < (t302.length : Int)) = true := decide_eq_true c40
                    clear c40
                    by_cases c41 : 0 ≤ x84_5
                    ·rw [if_pos c41] at H
                     have c41b0 : decide (0 ≤ x84_5) = true := decide_eq_true c41
                     clear c41
                     by_cases c42 : x84_5 < (t302.length : Int)
                     ·rw [if_pos c42] at H
                      have c42b0 : decide (x84_5 < (t302.length : Int)) = true := decide_eq_true c42
                      clear c42
                      have HC43 := Aside0.mk H
                      clear H
                      have p322 : 0 ≤ (x84_5 : Int) := of_decide_eq_true (by (with_reducible assumption))
                      have q322 : x84_5 < (t302.length : Int) := of_decide_eq_true (by (with_reducible assumption))
                      obtain ⟨ad322, e322, hx322_0, hx322_1, hx322_2, hx322_3⟩ := at_T45 (Kd.R_reads' HO_82.out).2.2 x84_5 p322 q322
                      cases e322
                      replace p322 := eq_true p322
                      replace q322 := eq_true q322
                      go_upto_region 23 with (((with_reducible refine gate_dst (N := 20) rfl ?_); refine box_event ?hg (N := 20) ?hd (cs := #[.int .i64 0, .int .i64 0, .int .i64 0, .int .i64 0]) (t := 45) ?hr ?_; (case hd => rfl); (case hg => rfl); (case hr => (go_simp; done)); intro gb323 hg w44 hbox hb; have n0_ := Aside0.mk (Kd.R_below (Kd.R_elderB (by (with_reducible repeat (fail)); exact HO_5.out) gb323 (Nat.le_of_eq hg.symm)) hb); have n1_ := Aside0.mk (Kd.R_below (by (with_reducible repeat (fail)); exact HO_7.out) hb); have n2_ := Aside0.mk (Kd.R_below (by (with_reducible repeat (fail)); exact HO_11.out) hb); have n3_ := Aside0.mk (Kd.R_below (by (with_reducible repeat (fail)); exact HO_68.out) hb); have n4_ := Aside0.mk (Kd.R_below (Kd.R_elderB (by (with_reducible repeat (fail)); exact HO_82.out) gb323 (Nat.le_of_eq hg.symm)) hb); have n5_ := Aside0.mk (blk_below (g := gb321) (o := .cells #[.int .i64 ((rd_T47 t305 x70_3).f0), .int .i64 ((rd_T47 t305 x70_3).f1)] 47 (0, 0)) (by (with_reducible repeat (fail)); exact BK321.out) hb); have n6_ := Aside0.mk (below_step (by repeat ((with_reducible exact HB.out))) hb); have n7_ := Aside0.mk (hbox); have n8_ := Aside0.mk ((by rw [hg]; exact (below_size (by repeat ((with_reducible exact HB.out)))) : w.heap.size ≤ gb323)); have n9_ := Aside0.mk ((by rw [hg]; exact (below_size (by repeat ((with_reducible exact HB.out)))) : w.heap.size ≤ gb323)); have n10_ := Aside0.mk ((by rw [hg]; exact Nat.ne_of_lt (blk_lt (g := gb321) (o := .cells #[.int .i64 ((rd_T47 t305 x70_3).f0), .int .i64 ((rd_T47 t305 x70_3).f1)] 47 (0, 0)) (by (with_reducible repeat (fail)); exact BK321.out)) : gb321 ≠ gb323)); have n11_ := Aside0.mk ((by rw [hg]; exact Nat.ne_of_gt (blk_lt (g := gb321) (o := .cells #[.int .i64 ((rd_T47 t305 x70_3).f0), .int .i64 ((rd_T47 t305 x70_3).f1)] 47 (0, 0)) (by (with_reducible repeat (fail)); exact BK321.out)) : gb323 ≠ gb321)); clear HO_5; clear HO_7; clear HO_11; clear HO_68; clear HO_82; clear BK321; clear HB; have HO_5 := n0_; have HO_7 := n1_; have HO_11 := n2_; have HO_68 := n3_; have HO_82 := n4_; have BK321 := n5_; have HB := n6_; have BK323 := n7_; have GW323 := n8_; have GE323 := n9_; have NB321_323 := n10_; have NB323_321 := n11_; clear n0_ n1_ n2_ n3_ n4_ n5_ n6_ n7_ n8_ n9_ n10_ n11_; clear hb hbox hg; have hnb45 := NB323_321.out; have hnc45 := NB321_323.out; have hcz46_0 : w44.cell? ⟨gb323, 0, none⟩ = some (.int .i64 0) := (blk_cell BK323.out 0).trans rfl; have hcz46_1 : w44.cell? ⟨gb323, 1, none⟩ = some (.int .i64 0) := (blk_cell BK323.out 1).trans rfl; have hcz46_2 : w44.cell? ⟨gb323, 2, none⟩ = some (.int .i64 0) := (blk_cell BK323.out 2).trans rfl; have hcz46_3 : w44.cell? ⟨gb323, 3, none⟩ = some (.int .i64 0) := (blk_cell BK323.out 3).trans rfl; have hfz46_0 := blk_frozen BK323.out 0; have hfz46_1 := blk_frozen BK323.out 1; have hfz46_2 := blk_frozen BK323.out 2; have hfz46_3 := blk_frozen BK323.out 3))
                      repeat (go_quiet (fail); go_upto_region 23 with (fail))
                      (try simp only [Act.put, List.setIfInBounds_toArray, List.set_cons_zero, List.set_cons_succ])
                      go_cut [133] (fun v133 wc => ∃ (kq : Nat) (x133_42 : Bool), v133 = .bool x133_42 ∧ Aside0 (letterbaglaw30_ShiftUrgent.j5 kq t302 t308 x11_4 x14_4 x17_4 x18_5 x84_5 t305 (t305.length : Int) x70_3 t302 (t302.length : Int) x84_5 x133_42 ((rd_T47 t305 x70_3).f0) ((rd_T47 t305 x70_3).f1) = some true) ∧ Aside0 (kq ≤ k5) ∧ Aside0 (Kd.R k45 45 wc w.heap.size (fun k_ => k_ ≠ gb323) (.slice (some ad322) t302.length co10) t302) ∧ Aside0 (Kd.R k51 51 wc w.heap.size (fun _ => True) (.slice Ao13 t308.length co13) t308) ∧ Aside0 (Kd.R (Kd.int .i64) 3 wc w.heap.size (fun _ => True) v315 x11_4) ∧ Aside0 (Kd.R k47 47 wc w.heap.size (fun k_ => k_ ≠ gb321) (.slice (some ad320) t305.length co11) t305) ∧ Aside0 (Kd.R k45 45 wc w.heap.size (fun k_ => k_ ≠ gb323) (.slice (some ad322) t302.length co10) t302) ∧ Aside0 (wc.heap[gb321]? = some (.cells #[.int .i64 ((rd_T47 t305 x70_3).f0), .int .i64 ((rd_T47 t305 x70_3).f1)] 47 (0, 0))) ∧ Aside0 (wc.heap[gb323]? = some (.cells #[.int .i64 ((rd_T45 t302 x84_5).f0), .int .i64 ((rd_T45 t302 x84_5).f1), .int .i64 ((rd_T45 t302 x84_5).f2), .int .i64 ((rd_T45 t302 x84_5).f3)] 45 (0, 0))) ∧ Aside0 (Below w.heap.size w wc))
                      case first => as_aux_lemma =>
                       have H := HC43.out
                       clear HC43
                       by_cases c47 : ((rd_T45 t302 x84_5).f1) ≤ x17_4
                       ·rw [if_pos c47] at H
                        have c47b0 : decide (((rd_T45 t302 x84_5).f1) ≤ x17_4) = true := decide_eq_true c47
                        clear c47
                        (skip)
                        by_cases c48 : x84_5 < (x11_4.length : Int)
                        ·rw [if_pos c48] at H
                         have c48b0 : decide (x84_5 < (x11_4.length : Int)) = true := decide_eq_true c48
                         clear c48
                         by_cases c49 : (rd x11_4 x84_5) > 0
                         ·rw [if_pos c49] at H
                          have c49b0 : decide (0 < (rd x11_4 x84_5)) = true := decide_eq_true c49
                          clear c49
                          by_cases c50 : x18_5 < 0
                          ·rw [if_pos c50] at H
                           have c50b0 : decide (x18_5 < 0) = true := decide_eq_true c50
                           clear c50
                           have H' := Aside0.mk H
                           clear H
                           have hnb51 := NB323_321.out
                           have hnc51 := NB321_323.out
                           have hcz52_0 : w44.cell? ⟨gb323, 0, none⟩ = some (.int .i64 0) := (blk_cell BK323.out 0).trans rfl
                           have hcz52_1 : w44.cell? ⟨gb323, 1, none⟩ = some (.int .i64 0) := (blk_cell BK323.out 1).trans rfl
                           have hcz52_2 : w44.cell? ⟨gb323, 2, none⟩ = some (.int .i64 0) := (blk_cell BK323.out 2).trans rfl
                           have hcz52_3 : w44.cell? ⟨gb323, 3, none⟩ = some (.int .i64 0) := (blk_cell BK323.out 3).trans rfl
                           have hfz52_0 := blk_frozen BK323.out 0
                           have hfz52_1 := blk_frozen BK323.out 1
                           have hfz52_2 := blk_frozen BK323.out 2
                           have hfz52_3 := blk_frozen BK323.out 3
                           obtain ⟨Ao53, co53, eo53⟩ := Kd.R_slice HO_11.out
                           subst eo53
                           have p324 : 0 ≤ (x84_5 : Int) := of_decide_eq_true (by (with_reducible assumption))
                           have q324 : x84_5 < (x11_4.length : Int) := of_decide_eq_true (by (with_reducible assumption))
                           obtain ⟨ad324, e324, hx324_0⟩ := Kd.at_int (Kd.R_reads' HO_11.out).2.2 x84_5 p324 q324
                           cases e324
                           have hn324_0 : ad324.block ≠ gb323 := Kd.own_blk (Kd.R_ne HO_11.out BK323.out (by decide))
                           have hn324_1 : ad324.block ≠ gb323 := Kd.own_blk (Kd.R_ne HO_11.out BK323.out (by decide))
                           have hn324_2 : ad324.block ≠ gb323 := Kd.own_blk (Kd.R_ne HO_11.out BK323.out (by decide))
                           have hn324_3 : ad324.block ≠ gb323 := Kd.own_blk (Kd.R_ne HO_11.out BK323.out (by decide))
                           replace hx324_0 := (cell_far (p := ⟨gb323, 0, none⟩) (by (rw [add_block]; exact hn324_0)) (.int .i64 ((rd_T45 t302 x84_5).f0))).trans hx324_0
                           replace hx324_0 := (cell_far (p := ⟨gb323, 1, none⟩) (by (rw [add_block]; exact hn324_1)) (.int .i64 ((rd_T45 t302 x84_5).f1))).trans hx324_0
                           replace hx324_0 := (cell_far (p := ⟨gb323, 2, none⟩) (by (rw [add_block]; exact hn324_2)) (.int .i64 ((rd_T45 t302 x84_5).f2))).trans hx324_0
                           replace hx324_0 := (cell_far (p := ⟨gb323, 3, none⟩) (by (rw [add_block]; exact hn324_3)) (.int .i64 ((rd_T45 t302 x84_5).f3))).trans hx324_0
                           (try have hy324_0 := fun (n_ : Nat) => (show ((((((w44.drewN n_).setCell ⟨gb323, 0, none⟩ (.int .i64 ((rd_T45 t302 x84_5).f0))).setCell ⟨gb323, 1, none⟩ (.int .i64 ((rd_T45 t302 x84_5).f1))).setCell ⟨gb323, 2, none⟩ (.int .i64 ((rd_T45 t302 x84_5).f2))).setCell ⟨gb323, 3, none⟩ (.int .i64 ((rd_T45 t302 x84_5).f3)))).cell? _ = some _ from hx324_0))
                           clear hn324_0
                           clear hn324_1
                           clear hn324_2
                           clear hn324_3
                           replace p324 := eq_true p324
                           replace q324 := eq_true q324
                           go_wp2
                           repeat (go_quiet (fail); try go_wp2)
                           go_meet
                           case rel => exact ⟨_, (true), (by rfl), H', ⟨by have := HJ6.out; have := HK2.out; have := HK3.out; have := HK4.out; have := HK5.out; omega⟩, ⟨by (with_reducible repeat (apply Kd.R_drewN)); exact Kd.R_mono (Kd.R_far (p := ⟨gb323, 3, none⟩) (Kd.R_far (p := ⟨gb323, 2, none⟩) (Kd.R_far (p := ⟨gb323, 1, none⟩) (Kd.R_far (p := ⟨gb323, 0, none⟩) (Kd.R_mono HO_5.out (fun k_ hk => (⟨hk, hk.2⟩ : _ ∧ k_ ≠ gb323))) (fun _ hk => hk.2) (.int .i64 ((rd_T45 t302 x84_5).f0))) (fun _ hk => hk.2) (.int .i64 ((rd_T45 t302 x84_5).f1))) (fun _ hk => hk.2) (.int .i64 ((rd_T45 t302 x84_5).f2))) (fun _ hk => hk.2) (.int .i64 ((rd_T45 t302 x84_5).f3))) (fun _ hk => hk.1.2)⟩, ⟨by (with_reducible repeat (apply Kd.R_drewN)); exact Kd.R_mono (Kd.R_far (p := ⟨gb323, 3, none⟩) (Kd.R_far (p := ⟨gb323, 2, none⟩) (Kd.R_far (p := ⟨gb323, 1, none⟩) (Kd.R_far (p := ⟨gb323, 0, none⟩) (Kd.R_types HO_7.out BK323.out (by decide)) (fun _ hk => hk.2) (.int .i64 ((rd_T45 t302 x84_5).f0))) (fun _ hk => hk.2) (.int .i64 ((rd_T45 t302 x84_5).f1))) (fun _ hk => hk.2) (.int .i64 ((rd_T45 t302 x84_5).f2))) (fun _ hk => hk.2) (.int .i64 ((rd_T45 t302 x84_5).f3))) (fun _ hk => trivial)⟩, ⟨by (with_reducible repeat (apply Kd.R_drewN)); exact Kd.R_mono (Kd.R_far (p := ⟨gb323, 3, none⟩) (Kd.R_far (p := ⟨gb323, 2, none⟩) (Kd.R_far (p := ⟨gb323, 1, none⟩) (Kd.R_far (p := ⟨gb323, 0, none⟩) (Kd.R_types HO_11.out BK323.out (by decide)) (fun _ hk => hk.2) (.int .i64 ((rd_T45 t302 x84_5).f0))) (fun _ hk => hk.2) (.int .i64 ((rd_T45 t302 x84_5).f1))) (fun _ hk => hk.2) (.int .i64 ((rd_T45 t302 x84_5).f2))) (fun _ hk => hk.2) (.int .i64 ((rd_T45 t302 x84_5).f3))) (fun _ hk => trivial)⟩, ⟨by (with_reducible repeat (apply Kd.R_drewN)); exact Kd.R_mono (Kd.R_far (p := ⟨gb323, 3, none⟩) (Kd.R_far (p := ⟨gb323, 2, none⟩) (Kd.R_far (p := ⟨gb323, 1, none⟩) (Kd.R_far (p := ⟨gb323, 0, none⟩) (Kd.R_types HO_68.out BK323.out (by decide)) (fun _ hk => hk.2) (.int .i64 ((rd_T45 t302 x84_5).f0))) (fun _ hk => hk.2) (.int .i64 ((rd_T45 t302 x84_5).f1))) (fun _ hk => hk.2) (.int .i64 ((rd_T45 t302 x84_5).f2))) (fun _ hk => hk.2) (.int .i64 ((rd_T45 t302 x84_5).f3))) (fun _ hk => hk.1)⟩, ⟨by (with_reducible repeat (apply Kd.R_drewN)); exact Kd.R_mono (Kd.R_far (p := ⟨gb323, 3, none⟩) (Kd.R_far (p := ⟨gb323, 2, none⟩) (Kd.R_far (p := ⟨gb323, 1, none⟩) (Kd.R_far (p := ⟨gb323, 0, none⟩) (Kd.R_mono HO_82.out (fun k_ hk => (⟨hk, hk.2⟩ : _ ∧ k_ ≠ gb323))) (fun _ hk => hk.2) (.int .i64 ((rd_T45 t302 x84_5).f0))) (fun _ hk => hk.2) (.int .i64 ((rd_T45 t302 x84_5).f1))) (fun _ hk => hk.2) (.int .i64 ((rd_T45 t302 x84_5).f2))) (fun _ hk => hk.2) (.int .i64 ((rd_T45 t302 x84_5).f3))) (fun _ hk => hk.1.2)⟩, ⟨by (with_reducible repeat (refine blk_drewN ?_ _)); refine blk_far ?_ NB321_323.out _; (with_reducible repeat (fail)); refine blk_far ?_ NB321_323.out _; (with_reducible repeat (fail)); refine blk_far ?_ NB321_323.out _; (with_reducible repeat (fail)); refine blk_far ?_ NB321_323.out _; (with_reducible repeat (fail)); exact BK321.out⟩, ⟨by (with_reducible repeat (refine blk_drewN ?_ _)); refine blk_put (cs := #[.int .i64 ((rd_T45 t302 x84_5).f0), .int .i64 ((rd_T45 t302 x84_5).f1), .int .i64 ((rd_T45 t302 x84_5).f2), .int .i64 0]) ?_ 3 _ rfl; (with_reducible repeat (fail)); refine blk_put (cs := #[.int .i64 ((rd_T45 t302 x84_5).f0), .int .i64 ((rd_T45 t302 x84_5).f1), .int .i64 0, .int .i64 0]) ?_ 2 _ rfl; (with_reducible repeat (fail)); refine blk_put (cs := #[.int .i64 ((rd_T45 t302 x84_5).f0), .int .i64 0, .int .i64 0, .int .i64 0]) ?_ 1 _ rfl; (with_reducible repeat (fail)); refine blk_put (cs := #[.int .i64 0, .int .i64 0, .int .i64 0, .int .i64 0]) ?_ 0 _ rfl; (with_reducible repeat (fail)); exact BK323.out⟩, ⟨by repeat ((with_reducible first | exact HB.out | apply pw_below_drewN | refine below_set ?_ GE323.out))⟩⟩
                          ·rw [if_neg c50] at H
                           have c50b0 : decide (x18_5 < 0) = false := decide_eq_false c50
                           clear c50
                           by_cases c54 : 0 ≤ x18_5
                           ·rw [if_pos c54] at H
                            have c54b0 : decide (0 ≤ x18_5) = true := decide_eq_true c54
                            clear c54
                            by_cases c55 : x18_5 < (t302.length : Int)
                            ·rw [if_pos c55] at H
                             have c55b0 : decide (x18_5 < (t302.length : Int)) = true := decide_eq_true c55
                             clear c55
                             by_cases c56 : ((rd_T45 t302 x84_5).f2) < ((rd_T45 t302 x18_5).f2)
                             ·rw [if_pos c56] at H
                              have c56b0 : decide (((rd_T45 t302 x84_5).f2) < ((rd_T45 t302 x18_5).f2)) = true := decide_eq_true c56
                              clear c56
                              have H' := Aside0.mk H
                              clear H
                              have hnb57 := NB323_321.out
                              have hnc57 := NB321_323.out
                              have hcz58_0 : w44.cell? ⟨gb323, 0, none⟩ = some (.int .i64 0) := (blk_cell BK323.out 0).trans rfl
                              have hcz58_1 : w44.cell? ⟨gb323, 1, none⟩ = some (.int .i64 0) := (blk_cell BK323.out 1).trans rfl
                              have hcz58_2 : w44.cell? ⟨gb323, 2, none⟩ = some (.int .i64 0) := (blk_cell BK323.out 2).trans rfl
                              have hcz58_3 : w44.cell? ⟨gb323, 3, none⟩ = some (.int .i64 0) := (blk_cell BK323.out 3).trans rfl
                              have hfz58_0 := blk_frozen BK323.out 0
                              have hfz58_1 := blk_frozen BK323.out 1
                              have hfz58_2 := blk_frozen BK323.out 2
                              have hfz58_3 := blk_frozen BK323.out 3
                              obtain ⟨Ao59, co59, eo59⟩ := Kd.R_slice HO_11.out
                              subst eo59
                              have p324 : 0 ≤ (x84_5 : Int) := of_decide_eq_true (by (with_reducible assumption))
                              have q324 : x84_5 < (x11_4.length : Int) := of_decide_eq_true (by (with_reducible assumption))
                              obtain ⟨ad324, e324, hx324_0⟩ := Kd.at_int (Kd.R_reads' HO_11.out).2.2 x84_5 p324 q324
                              cases e324
                              have hn324_0 : ad324.block ≠ gb323 := Kd.own_blk (Kd.R_ne HO_11.out BK323.out (by decide))
                              have hn324_1 : ad324.block ≠ gb323 := Kd.own_blk (Kd.R_ne HO_11.out BK323.out (by decide))
                              have hn324_2 : ad324.block ≠ gb323 := Kd.own_blk (Kd.R_ne HO_11.out BK323.out (by decide))
                              have hn324_3 : ad324.block ≠ gb323 := Kd.own_blk (Kd.R_ne HO_11.out BK323.out (by decide))
                              replace hx324_0 := (cell_far (p := ⟨gb323, 0, none⟩) (by (rw [add_block]; exact hn324_0)) (.int .i64 ((rd_T45 t302 x84_5).f0))).trans hx324_0
                              replace hx324_0 := (cell_far (p := ⟨gb323, 1, none⟩) (by (rw [add_block]; exact hn324_1)) (.int .i64 ((rd_T45 t302 x84_5).f1))).trans hx324_0
                              replace hx324_0 := (cell_far (p := ⟨gb323, 2, none⟩) (by (rw [add_block]; exact hn324_2)) (.int .i64 ((rd_T45 t302 x84_5).f2))).trans hx324_0
                              replace hx324_0 := (cell_far (p := ⟨gb323, 3, none⟩) (by (rw [add_block]; exact hn324_3)) (.int .i64 ((rd_T45 t302 x84_5).f3))).trans hx324_0
                              (try have hy324_0 := fun (n_ : Nat) => (show ((((((w44.drewN n_).setCell ⟨gb323, 0, none⟩ (.int .i64 ((rd_T45 t302 x84_5).f0))).setCell ⟨gb323, 1, none⟩ (.int .i64 ((rd_T45 t302 x84_5).f1))).setCell ⟨gb323, 2, none⟩ (.int .i64 ((rd_T45 t302 x84_5).f2))).setCell ⟨gb323, 3, none⟩ (.int .i64 ((rd_T45 t302 x84_5).f3)))).cell? _ = some _ from hx324_0))
                              clear hn324_0
                              clear hn324_1
                              clear hn324_2
                              clear hn324_3
                              replace p324 := eq_true p324
                              replace q324 := eq_true q324
                              have p325 : 0 ≤ (x18_5 : Int) := of_decide_eq_true (by (with_reducible assumption))
                              have q325 : x18_5 < (t302.length : Int) := of_decide_eq_true (by (with_reducible assumption))
                              obtain ⟨ad325, e325, hx325_0, hx325_1, hx325_2, hx325_3⟩ := at_T45 (Kd.R_reads' HO_5.out).2.2 x18_5 p325 q325
                              obtain rfl : ad322 = ad325 := (by injection e325)
                              have hn325_0 : ad322.block ≠ gb323 := Kd.own_blk (Kd.R_away HO_5.out (fun _ hk => hk.2))
                              have hn325_1 : ad322.block ≠ gb323 := Kd.own_blk (Kd.R_away HO_5.out (fun _ hk => hk.2))
                              have hn325_2 : ad322.block ≠ gb323 := Kd.own_blk (Kd.R_away HO_5.out (fun _ hk => hk.2))
                              have hn325_3 : ad322.block ≠ gb323 := Kd.own_blk (Kd.R_away HO_5.out (fun _ hk => hk.2))
                              replace hx325_0 := (cell_far (p := ⟨gb323, 0, none⟩) (by (rw [add_block]; exact hn325_0)) (.int .i64 ((rd_T45 t302 x84_5).f0))).trans hx325_0
                              replace hx325_1 := (cell_far (p := ⟨gb323, 0, none⟩) (by (rw [add_block]; exact hn325_0)) (.int .i64 ((rd_T45 t302 x84_5).f0))).trans hx325_1
                              replace hx325_2 := (cell_far (p := ⟨gb323, 0, none⟩) (by (rw [add_block]; exact hn325_0)) (.int .i64 ((rd_T45 t302 x84_5).f0))).trans hx325_2
                              replace hx325_3 := (cell_far (p := ⟨gb323, 0, none⟩) (by (rw [add_block]; exact hn325_0)) (.int .i64 ((rd_T45 t302 x84_5).f0))).trans hx325_3
                              replace hx325_0 := (cell_far (p := ⟨gb323, 1, none⟩) (by (rw [add_block]; exact hn325_1)) (.int .i64 ((rd_T45 t302 x84_5).f1))).trans hx325_0
                              replace hx325_1 := (cell_far (p := ⟨gb323, 1, none⟩) (by (rw [add_block]; exact hn325_1)) (.int .i64 ((rd_T45 t302 x84_5).f1))).trans hx325_1
                              replace hx325_2 := (cell_far (p := ⟨gb323, 1, none⟩) (by (rw [add_block]; exact hn325_1)) (.int .i64 ((rd_T45 t302 x84_5).f1))).trans hx325_2
                              replace hx325_3 := (cell_far (p := ⟨gb323, 1, none⟩) (by (rw [add_block]; exact hn325_1)) (.int .i64 ((rd_T45 t302 x84_5).f1))).trans hx325_3
                              replace hx325_0 := (cell_far (p := ⟨gb323, 2, none⟩) (by (rw [add_block]; exact hn325_2)) (.int .i64 ((rd_T45 t302 x84_5).f2))).trans hx325_0
                              replace hx325_1 := (cell_far (p := ⟨gb323, 2, none⟩) (by (rw [add_block]; exact hn325_2)) (.int .i64 ((rd_T45 t302 x84_5).f2))).trans hx325_1
                              replace hx325_2 := (cell_far (p := ⟨gb323, 2, none⟩) (by (rw [add_block]; exact hn325_2)) (.int .i64 ((rd_T45 t302 x84_5).f2))).trans hx325_2
                              replace hx325_3 := (cell_far (p := ⟨gb323, 2, none⟩) (by (rw [add_block]; exact hn325_2)) (.int .i64 ((rd_T45 t302 x84_5).f2))).trans hx325_3
                              replace hx325_0 := (cell_far (p := ⟨gb323, 3, none⟩) (by (rw [add_block]; exact hn325_3)) (.int .i64 ((rd_T45 t302 x84_5).f3))).trans hx325_0
                              replace hx325_1 := (cell_far (p := ⟨gb323, 3, none⟩) (by (rw [add_block]; exact hn325_3)) (.int .i64 ((rd_T45 t302 x84_5).f3))).trans hx325_1
                              replace hx325_2 := (cell_far (p := ⟨gb323, 3, none⟩) (by (rw [add_block]; exact hn325_3)) (.int .i64 ((rd_T45 t302 x84_5).f3))).trans hx325_2
                              replace hx325_3 := (cell_far (p := ⟨gb323, 3, none⟩) (by (rw [add_block]; exact hn325_3)) (.int .i64 ((rd_T45 t302 x84_5).f3))).trans hx325_3
                              (try have hy325_0 := fun (n_ : Nat) => (show ((((((w44.drewN n_).setCell ⟨gb323, 0, none⟩ (.int .i64 ((rd_T45 t302 x84_5).f0))).setCell ⟨gb323, 1, none⟩ (.int .i64 ((rd_T45 t302 x84_5).f1))).setCell ⟨gb323, 2, none⟩ (.int .i64 ((rd_T45 t302 x84_5).f2))).setCell ⟨gb323, 3, none⟩ (.int .i64 ((rd_T45 t302 x84_5).f3)))).cell? _ = some _ from hx325_0))
                              (try have hy325_1 := fun (n_ : Nat) => (show ((((((w44.drewN n_).setCell ⟨gb323, 0, none⟩ (.int .i64 ((rd_T45 t302 x84_5).f0))).setCell ⟨gb323, 1, none⟩ (.int .i64 ((rd_T45 t302 x84_5).f1))).setCell ⟨gb323, 2, none⟩ (.int .i64 ((rd_T45 t302 x84_5).f2))).setCell ⟨gb323, 3, none⟩ (.int .i64 ((rd_T45 t302 x84_5).f3)))).cell? _ = some _ from hx325_1))
                              (try have hy325_2 := fun (n_ : Nat) => (show ((((((w44.drewN n_).setCell ⟨gb323, 0, none⟩ (.int .i64 ((rd_T45 t302 x84_5).f0))).setCell ⟨gb323, 1, none⟩ (.int .i64 ((rd_T45 t302 x84_5).f1))).setCell ⟨gb323, 2, none⟩ (.int .i64 ((rd_T45 t302 x84_5).f2))).setCell ⟨gb323, 3, none⟩ (.int .i64 ((rd_T45 t302 x84_5).f3)))).cell? _ = some _ from hx325_2))
                              (try have hy325_3 := fun (n_ : Nat) => (show ((((((w44.drewN n_).setCell ⟨gb323, 0, none⟩ (.int .i64 ((rd_T45 t302 x84_5).f0))).setCell ⟨gb323, 1, none⟩ (.int .i64 ((rd_T45 t302 x84_5).f1))).setCell ⟨gb323, 2, none⟩ (.int .i64 ((rd_T45 t302 x84_5).f2))).setCell ⟨gb323, 3, none⟩ (.int .i64 ((rd_T45 t302 x84_5).f3)))).cell? _ = some _ from hx325_3))
                              clear hn325_0
                              clear hn325_1
                              clear hn325_2
                              clear hn325_3
                              replace p325 := eq_true p325
                              replace q325 := eq_true q325
                              go_wp2
                              repeat (go_quiet (fail); try go_wp2)
                              go_meet
                              case rel => exact ⟨_, (true), (by rfl), H', ⟨by have := HJ6.out; have := HK2.out; have := HK3.out; have := HK4.out; have := HK5.out; omega⟩, ⟨by (with_reducible repeat (apply Kd.R_drewN)); exact Kd.R_mono (Kd.R_far (p := ⟨gb323, 3, none⟩) (Kd.R_far (p := ⟨gb323, 2, none⟩) (Kd.R_far (p := ⟨gb323, 1, none⟩) (Kd.R_far (p := ⟨gb323, 0, none⟩) (Kd.R_mono HO_5.out (fun k_ hk => (⟨hk, hk.2⟩ : _ ∧ k_ ≠ gb323))) (fun _ hk => hk.2) (.int .i64 ((rd_T45 t302 x84_5).f0))) (fun _ hk => hk.2) (.int .i64 ((rd_T45 t302 x84_5).f1))) (fun _ hk => hk.2) (.int .i64 ((rd_T45 t302 x84_5).f2))) (fun _ hk => hk.2) (.int .i64 ((rd_T45 t302 x84_5).f3))) (fun _ hk => hk.1.2)⟩, ⟨by (with_reducible repeat (apply Kd.R_drewN)); exact Kd.R_mono (Kd.R_far (p := ⟨gb323, 3, none⟩) (Kd.R_far (p := ⟨gb323, 2, none⟩) (Kd.R_far (p := ⟨gb323, 1, none⟩) (Kd.R_far (p := ⟨gb323, 0, none⟩) (Kd.R_types HO_7.out BK323.out (by decide)) (fun _ hk => hk.2) (.int .i64 ((rd_T45 t302 x84_5).f0))) (fun _ hk => hk.2) (.int .i64 ((rd_T45 t302 x84_5).f1))) (fun _ hk => hk.2) (.int .i64 ((rd_T45 t302 x84_5).f2))) (fun _ hk => hk.2) (.int .i64 ((rd_T45 t302 x84_5).f3))) (fun _ hk => trivial)⟩, ⟨by (with_reducible repeat (apply Kd.R_drewN)); exact Kd.R_mono (Kd.R_far (p := ⟨gb323, 3, none⟩) (Kd.R_far (p := ⟨gb323, 2, none⟩) (Kd.R_far (p := ⟨gb323, 1, none⟩) (Kd.R_far (p := ⟨gb323, 0, none⟩) (Kd.R_types HO_11.out BK323.out (by decide)) (fun _ hk => hk.2) (.int .i64 ((rd_T45 t302 x84_5).f0))) (fun _ hk => hk.2) (.int .i64 ((rd_T45 t302 x84_5).f1))) (fun _ hk => hk.2) (.int .i64 ((rd_T45 t302 x84_5).f2))) (fun _ hk => hk.2) (.int .i64 ((rd_T45 t302 x84_5).f3))) (fun _ hk => trivial)⟩, ⟨by (with_reducible repeat (apply Kd.R_drewN)); exact Kd.R_mono (Kd.R_far (p := ⟨gb323, 3, none⟩) (Kd.R_far (p := ⟨gb323, 2, none⟩) (Kd.R_far (p := ⟨gb323, 1, none⟩) (Kd.R_far (p := ⟨gb323, 0, none⟩) (Kd.R_types HO_68.out BK323.out (by decide)) (fun _ hk => hk.2) (.int .i64 ((rd_T45 t302 x84_5).f0))) (fun _ hk => hk.2) (.int .i64 ((rd_T45 t302 x84_5).f1))) (fun _ hk => hk.2) (.int .i64 ((rd_T45 t302 x84_5).f2))) (fun _ hk => hk.2) (.int .i64 ((rd_T45 t302 x84_5).f3))) (fun _ hk => hk.1)⟩, ⟨by (with_reducible repeat (apply Kd.R_drewN)); exact Kd.R_mono (Kd.R_far (p := ⟨gb323, 3, none⟩) (Kd.R_far (p := ⟨gb323, 2, none⟩) (Kd.R_far (p := ⟨gb323, 1, none⟩) (Kd.R_far (p := ⟨gb323, 0, none⟩) (Kd.R_mono HO_82.out (fun k_ hk => (⟨hk, hk.2⟩ : _ ∧ k_ ≠ gb323))) (fun _ hk => hk.2) (.int .i64 ((rd_T45 t302 x84_5).f0))) (fun _ hk => hk.2) (.int .i64 ((rd_T45 t302 x84_5).f1))) (fun _ hk => hk.2) (.int .i64 ((rd_T45 t302 x84_5).f2))) (fun _ hk => hk.2) (.int .i64 ((rd_T45 t302 x84_5).f3))) (fun _ hk => hk.1.2)⟩, ⟨by (with_reducible repeat (refine blk_drewN ?_ _)); refine blk_far ?_ NB321_323.out _; (with_reducible repeat (fail)); refine blk_far ?_ NB321_323.out _; (with_reducible repeat (fail)); refine blk_far ?_ NB321_323.out _; (with_reducible repeat (fail)); refine blk_far ?_ NB321_323.out _; (with_reducible repeat (fail)); exact BK321.out⟩, ⟨by (with_reducible repeat (refine blk_drewN ?_ _)); refine blk_put (cs := #[.int .i64 ((rd_T45 t302 x84_5).f0), .int .i64 ((rd_T45 t302 x84_5).f1), .int .i64 ((rd_T45 t302 x84_5).f2), .int .i64 0]) ?_ 3 _ rfl; (with_reducible repeat (fail)); refine blk_put (cs := #[.int .i64 ((rd_T45 t302 x84_5).f0), .int .i64 ((rd_T45 t302 x84_5).f1), .int .i64 0, .int .i64 0]) ?_ 2 _ rfl; (with_reducible repeat (fail)); refine blk_put (cs := #[.int .i64 ((rd_T45 t302 x84_5).f0), .int .i64 0, .int .i64 0, .int .i64 0]) ?_ 1 _ rfl; (with_reducible repeat (fail)); refine blk_put (cs := #[.int .i64 0, .int .i64 0, .int .i64 0, .int .i64 0]) ?_ 0 _ rfl; (with_reducible repeat (fail)); exact BK323.out⟩, ⟨by repeat ((with_reducible first | exact HB.out | apply pw_below_drewN | refine below_set ?_ GE323.out))⟩⟩
                             ·rw [if_neg c56] at H
                              have c56b0 : decide (((rd_T45 t302 x84_5).f2) < ((rd_T45 t302 x18_5).f2)) = false := decide_eq_false c56
                              clear c56
                              by_cases c60 : ((rd_T45 t302 x84_5).f2) = ((rd_T45 t302 x18_5).f2)
                              ·rw [if_pos c60] at H
                               have c60b0 : (((rd_T45 t302 x84_5).f2) == ((rd_T45 t302 x18_5).f2)) = true := beq_iff_eq.mpr c60
                               have c60b1 : (((rd_T45 t302 x84_5).f2) != ((rd_T45 t302 x18_5).f2)) = false := bne_eq_false_iff_eq.mpr c60
                               clear c60
                               have H' := Aside0.mk H
                               clear H
                               have hnb61 := NB323_321.out
                               have hnc61 := NB321_323.out
                               have hcz62_0 : w44.cell? ⟨gb323, 0, none⟩ = some (.int .i64 0) := (blk_cell BK323.out 0).trans rfl
                               have hcz62_1 : w44.cell? ⟨gb323, 1, none⟩ = some (.int .i64 0) := (blk_cell BK323.out 1).trans rfl
                               have hcz62_2 : w44.cell? ⟨gb323, 2, none⟩ = some (.int .i64 0) := (blk_cell BK323.out 2).trans rfl
                               have hcz62_3 : w44.cell? ⟨gb323, 3, none⟩ = some (.int .i64 0) := (blk_cell BK323.out 3).trans rfl
                               have hfz62_0 := blk_frozen BK323.out 0
                               have hfz62_1 := blk_frozen BK323.out 1
                               have hfz62_2 := blk_frozen BK323.out 2
                               have hfz62_3 := blk_frozen BK323.out 3
                               obtain ⟨Ao63, co63, eo63⟩ := Kd.R_slice HO_11.out
                               subst eo63
                               have p324 : 0 ≤ (x84_5 : Int) := of_decide_eq_true (by (with_reducible assumption))
                               have q324 : x84_5 < (x11_4.length : Int) := of_decide_eq_true (by (with_reducible assumption))
                               obtain ⟨ad324, e324, hx324_0⟩ := Kd.at_int (Kd.R_reads' HO_11.out).2.2 x84_5 p324 q324
                               cases e324
                               have hn324_0 : ad324.block ≠ gb323 := Kd.own_blk (Kd.R_ne HO_11.out BK323.out (by decide))
                               have hn324_1 : ad324.block ≠ gb323 := Kd.own_blk (Kd.R_ne HO_11.out BK323.out (by decide))
                               have hn324_2 : ad324.block ≠ gb323 := Kd.own_blk (Kd.R_ne HO_11.out BK323.out (by decide))
                               have hn324_3 : ad324.block ≠ gb323 := Kd.own_blk (Kd.R_ne HO_11.out BK323.out (by decide))
                               replace hx324_0 := (cell_far (p := ⟨gb323, 0, none⟩) (by (rw [add_block]; exact hn324_0)) (.int .i64 ((rd_T45 t302 x84_5).f0))).trans hx324_0
                               replace hx324_0 := (cell_far (p := ⟨gb323, 1, none⟩) (by (rw [add_block]; exact hn324_1)) (.int .i64 ((rd_T45 t302 x84_5).f1))).trans hx324_0
                               replace hx324_0 := (cell_far (p := ⟨gb323, 2, none⟩) (by (rw [add_block]; exact hn324_2)) (.int .i64 ((rd_T45 t302 x84_5).f2))).trans hx324_0
                               replace hx324_0 := (cell_far (p := ⟨gb323, 3, none⟩) (by (rw [add_block]; exact hn324_3)) (.int .i64 ((rd_T45 t302 x84_5).f3))).trans hx324_0
                               (try have hy324_0 := fun (n_ : Nat) => (show ((((((w44.drewN n_).setCell ⟨gb323, 0, none⟩ (.int .i64 ((rd_T45 t302 x84_5).f0))).setCell ⟨gb323, 1, none⟩ (.int .i64 ((rd_T45 t302 x84_5).f1))).setCell ⟨gb323, 2, none⟩ (.int .i64 ((rd_T45 t302 x84_5).f2))).setCell ⟨gb323, 3, none⟩ (.int .i64 ((rd_T45 t302 x84_5).f3)))).cell? _ = some _ from hx324_0))
                               clear hn324_0
                               clear hn324_1
                               clear hn324_2
                               clear hn324_3
                               replace p324 := eq_true p324
                               replace q324 := eq_true q324
                               have p325 : 0 ≤ (x18_5 : Int) := of_decide_eq_true (by (with_reducible assumption))
                               have q325 : x18_5 < (t302.length : Int) := of_decide_eq_true (by (with_reducible assumption))
                               obtain ⟨ad325, e325, hx325_0, hx325_1, hx325_2, hx325_3⟩ := at_T45 (Kd.R_reads' HO_5.out).2.2 x18_5 p325 q325
                               obtain rfl : ad322 = ad325 := (by injection e325)
                               have hn325_0 : ad322.block ≠ gb323 := Kd.own_blk (Kd.R_away HO_5.out (fun _ hk => hk.2))
                               have hn325_1 : ad322.block ≠ gb323 := Kd.own_blk (Kd.R_away HO_5.out (fun _ hk => hk.2))
                               have hn325_2 : ad322.block ≠ gb323 := Kd.own_blk (Kd.R_away HO_5.out (fun _ hk => hk.2))
                               have hn325_3 : ad322.block ≠ gb323 := Kd.own_blk (Kd.R_away HO_5.out (fun _ hk => hk.2))
                               replace hx325_0 := (cell_far (p := ⟨gb323, 0, none⟩) (by (rw [add_block]; exact hn325_0)) (.int .i64 ((rd_T45 t302 x84_5).f0))).trans hx325_0
                               replace hx325_1 := (cell_far (p := ⟨gb323, 0, none⟩) (by (rw [add_block]; exact hn325_0)) (.int .i64 ((rd_T45 t302 x84_5).f0))).trans hx325_1
                               replace hx325_2 := (cell_far (p := ⟨gb323, 0, none⟩) (by (rw [add_block]; exact hn325_0)) (.int .i64 ((rd_T45 t302 x84_5).f0))).trans hx325_2
                               replace hx325_3 := (cell_far (p := ⟨gb323, 0, none⟩) (by (rw [add_block]; exact hn325_0)) (.int .i64 ((rd_T45 t302 x84_5).f0))).trans hx325_3
                               replace hx325_0 := (cell_far (p := ⟨gb323, 1, none⟩) (by (rw [add_block]; exact hn325_1)) (.int .i64 ((rd_T45 t302 x84_5).f1))).trans hx325_0
                               replace hx325_1 := (cell_far (p := ⟨gb323, 1, none⟩) (by (rw [add_block]; exact hn325_1)) (.int .i64 ((rd_T45 t302 x84_5).f1))).trans hx325_1
                               replace hx325_2 := (cell_far (p := ⟨gb323, 1, none⟩) (by (rw [add_block]; exact hn325_1)) (.int .i64 ((rd_T45 t302 x84_5).f1))).trans hx325_2
                               replace hx325_3 := (cell_far (p := ⟨gb323, 1, none⟩) (by (rw [add_block]; exact hn325_1)) (.int .i64 ((rd_T45 t302 x84_5).f1))).trans hx325_3
                               replace hx325_0 := (cell_far (p := ⟨gb323, 2, none⟩) (by (rw [add_block]; exact hn325_2)) (.int .i64 ((rd_T45 t302 x84_5).f2))).trans hx325_0
                               replace hx325_1 := (cell_far (p := ⟨gb323, 2, none⟩) (by (rw [add_block]; exact hn325_2)) (.int .i64 ((rd_T45 t302 x84_5).f2))).trans hx325_1
                               replace hx325_2 := (cell_far (p := ⟨gb323, 2, none⟩) (by (rw [add_block]; exact hn325_2)) (.int .i64 ((rd_T45 t302 x84_5).f2))).trans hx325_2
                               replace hx325_3 := (cell_far (p := ⟨gb323, 2, none⟩) (by (rw [add_block]; exact hn325_2)) (.int .i64 ((rd_T45 t302 x84_5).f2))).trans hx325_3
                               replace hx325_0 := (cell_far (p := ⟨gb323, 3, none⟩) (by (rw [add_block]; exact hn325_3)) (.int .i64 ((rd_T45 t302 x84_5).f3))).trans hx325_0
                               replace hx325_1 := (cell_far (p := ⟨gb323, 3, none⟩) (by (rw [add_block]; exact hn325_3)) (.int .i64 ((rd_T45 t302 x84_5).f3))).trans hx325_1
                               replace hx325_2 := (cell_far (p := ⟨gb323, 3, none⟩) (by (rw [add_block]; exact hn325_3)) (.int .i64 ((rd_T45 t302 x84_5).f3))).trans hx325_2
                               replace hx325_3 := (cell_far (p := ⟨gb323, 3, none⟩) (by (rw [add_block]; exact hn325_3)) (.int .i64 ((rd_T45 t302 x84_5).f3))).trans hx325_3
                               (try have hy325_0 := fun (n_ : Nat) => (show ((((((w44.drewN n_).setCell ⟨gb323, 0, none⟩ (.int .i64 ((rd_T45 t302 x84_5).f0))).setCell ⟨gb323, 1, none⟩ (.int .i64 ((rd_T45 t302 x84_5).f1))).setCell ⟨gb323, 2, none⟩ (.int .i64 ((rd_T45 t302 x84_5).f2))).setCell ⟨gb323, 3, none⟩ (.int .i64 ((rd_T45 t302 x84_5).f3)))).cell? _ = some _ from hx325_0))
                               (try have hy325_1 := fun (n_ : Nat) => (show ((((((w44.drewN n_).setCell ⟨gb323, 0, none⟩ (.int .i64 ((rd_T45 t302 x84_5).f0))).setCell ⟨gb323, 1, none⟩ (.int .i64 ((rd_T45 t302 x84_5).f1))).setCell ⟨gb323, 2, none⟩ (.int .i64 ((rd_T45 t302 x84_5).f2))).setCell ⟨gb323, 3, none⟩ (.int .i64 ((rd_T45 t302 x84_5).f3)))).cell? _ = some _ from hx325_1))
                               (try have hy325_2 := fun (n_ : Nat) => (show ((((((w44.drewN n_).setCell ⟨gb323, 0, none⟩ (.int .i64 ((rd_T45 t302 x84_5).f0))).setCell ⟨gb323, 1, none⟩ (.int .i64 ((rd_T45 t302 x84_5).f1))).setCell ⟨gb323, 2, none⟩ (.int .i64 ((rd_T45 t302 x84_5).f2))).setCell ⟨gb323, 3, none⟩ (.int .i64 ((rd_T45 t302 x84_5).f3)))).cell? _ = some _ from hx325_2))
                               (try have hy325_3 := fun (n_ : Nat) => (show ((((((w44.drewN n_).setCell ⟨gb323, 0, none⟩ (.int .i64 ((rd_T45 t302 x84_5).f0))).setCell ⟨gb323, 1, none⟩ (.int .i64 ((rd_T45 t302 x84_5).f1))).setCell ⟨gb323, 2, none⟩ (.int .i64 ((rd_T45 t302 x84_5).f2))).setCell ⟨gb323, 3, none⟩ (.int .i64 ((rd_T45 t302 x84_5).f3)))).cell? _ = some _ from hx325_3))
                               clear hn325_0
                               clear hn325_1
                               clear hn325_2
                               clear hn325_3
                               replace p325 := eq_true p325
                               replace q325 := eq_true q325
                               have p326 : 0 ≤ (x18_5 : Int) := of_decide_eq_true (by (with_reducible assumption))
                               have q326 : x18_5 < (t302.length : Int) := of_decide_eq_true (by (with_reducible assumption))
                               obtain ⟨ad326, e326, hx326_0, hx326_1, hx326_2, hx326_3⟩ := at_T45 (Kd.R_reads' HO_5.out).2.2 x18_5 p326 q326
                               obtain rfl : ad322 = ad326 := (by injection e326)
                               have hn326_0 : ad322.block ≠ gb323 := Kd.own_blk (Kd.R_away HO_5.out (fun _ hk => hk.2))
                               have hn326_1 : ad322.block ≠ gb323 := Kd.own_blk (Kd.R_away HO_5.out (fun _ hk => hk.2))
                               have hn326_2 : ad322.block ≠ gb323 := Kd.own_blk (Kd.R_away HO_5.out (fun _ hk => hk.2))
                               have hn326_3 : ad322.block ≠ gb323 := Kd.own_blk (Kd.R_away HO_5.out (fun _ hk => hk.2))
                               replace hx326_0 := (cell_far (p := ⟨gb323, 0, none⟩) (by (rw [add_block]; exact hn326_0)) (.int .i64 ((rd_T45 t302 x84_5).f0))).trans hx326_0
                               replace hx326_1 := (cell_far (p := ⟨gb323, 0, none⟩) (by (rw [add_block]; exact hn326_0)) (.int .i64 ((rd_T45 t302 x84_5).f0))).trans hx326_1
                               replace hx326_2 := (cell_far (p := ⟨gb323, 0, none⟩) (by (rw [add_block]; exact hn326_0)) (.int .i64 ((rd_T45 t302 x84_5).f0))).trans hx326_2
                               replace hx326_3 := (cell_far (p := ⟨gb323, 0, none⟩) (by (rw [add_block]; exact hn326_0)) (.int .i64 ((rd_T45 t302 x84_5).f0))).trans hx326_3
                               replace hx326_0 := (cell_far (p := ⟨gb323, 1, none⟩) (by (rw [add_block]; exact hn326_1)) (.int .i64 ((rd_T45 t302 x84_5).f1))).trans hx326_0
                               replace hx326_1 := (cell_far (p := ⟨gb323, 1, none⟩) (by (rw [add_block]; exact hn326_1)) (.int .i64 ((rd_T45 t302 x84_5).f1))).trans hx326_1
                               replace hx326_2 := (cell_far (p := ⟨gb323, 1, none⟩) (by (rw [add_block]; exact hn326_1)) (.int .i64 ((rd_T45 t302 x84_5).f1))).trans hx326_2
                               replace hx326_3 := (cell_far (p := ⟨gb323, 1, none⟩) (by (rw [add_block]; exact hn326_1)) (.int .i64 ((rd_T45 t302 x84_5).f1))).trans hx326_3
                               replace hx326_0 := (cell_far (p := ⟨gb323, 2, none⟩) (by (rw [add_block]; exact hn326_2)) (.int .i64 ((rd_T45 t302 x84_5).f2))).trans hx326_0
                               replace hx326_1 := (cell_far (p := ⟨gb323, 2, none⟩) (by (rw [add_block]; exact hn326_2)) (.int .i64 ((rd_T45 t302 x84_5).f2))).trans hx326_1
                               replace hx326_2 := (cell_far (p := ⟨gb323, 2, none⟩) (by (rw [add_block]; exact hn326_2)) (.int .i64 ((rd_T45 t302 x84_5).f2))).trans hx326_2
                               replace hx326_3 := (cell_far (p := ⟨gb323, 2, none⟩) (by (rw [add_block]; exact hn326_2)) (.int .i64 ((rd_T45 t302 x84_5).f2))).trans hx326_3
                               replace hx326_0 := (cell_far (p := ⟨gb323, 3, none⟩) (by (rw [add_block]; exact hn326_3)) (.int .i64 ((rd_T45 t302 x84_5).f3))).trans hx326_0
                               replace hx326_1 := (cell_far (p := ⟨gb323, 3, none⟩) (by (rw [add_block]; exact hn326_3)) (.int .i64 ((rd_T45 t302 x84_5).f3))).trans hx326_1
                               replace hx326_2 := (cell_far (p := ⟨gb323, 3, none⟩) (by (rw [add_block]; exact hn326_3)) (.int .i64 ((rd_T45 t302 x84_5).f3))).trans hx326_2
                               replace hx326_3 := (cell_far (p := ⟨gb323, 3, none⟩) (by (rw [add_block]; exact hn326_3)) (.int .i64 ((rd_T45 t302 x84_5).f3))).trans hx326_3
                               (try have hy326_0 := fun (n_ : Nat) => (show ((((((w44.drewN n_).setCell ⟨gb323, 0, none⟩ (.int .i64 ((rd_T45 t302 x84_5).f0))).setCell ⟨gb323, 1, none⟩ (.int .i64 ((rd_T45 t302 x84_5).f1))).setCell ⟨gb323, 2, none⟩ (.int .i64 ((rd_T45 t302 x84_5).f2))).setCell ⟨gb323, 3, none⟩ (.int .i64 ((rd_T45 t302 x84_5).f3)))).cell? _ = some _ from hx326_0))
                               (try have hy326_1 := fun (n_ : Nat) => (show ((((((w44.drewN n_).setCell ⟨gb323, 0, none⟩ (.int .i64 ((rd_T45 t302 x84_5).f0))).setCell ⟨gb323, 1, none⟩ (.int .i64 ((rd_T45 t302 x84_5).f1))).setCell ⟨gb323, 2, none⟩ (.int .i64 ((rd_T45 t302 x84_5).f2))).setCell ⟨gb323, 3, none⟩ (.int .i64 ((rd_T45 t302 x84_5).f3)))).cell? _ = some _ from hx326_1))
                               (try have hy326_2 := fun (n_ : Nat) => (show ((((((w44.drewN n_).setCell ⟨gb323, 0, none⟩ (.int .i64 ((rd_T45 t302 x84_5).f0))).setCell ⟨gb323, 1, none⟩ (.int .i64 ((rd_T45 t302 x84_5).f1))).setCell ⟨gb323, 2, none⟩ (.int .i64 ((rd_T45 t302 x84_5).f2))).setCell ⟨gb323, 3, none⟩ (.int .i64 ((rd_T45 t302 x84_5).f3)))).cell? _ = some _ from hx326_2))
                               (try have hy326_3 := fun (n_ : Nat) => (show ((((((w44.drewN n_).setCell ⟨gb323, 0, none⟩ (.int .i64 ((rd_T45 t302 x84_5).f0))).setCell ⟨gb323, 1, none⟩ (.int .i64 ((rd_T45 t302 x84_5).f1))).setCell ⟨gb323, 2, none⟩ (.int .i64 ((rd_T45 t302 x84_5).f2))).setCell ⟨gb323, 3, none⟩ (.int .i64 ((rd_T45 t302 x84_5).f3)))).cell? _ = some _ from hx326_3))
                               clear hn326_0
                               clear hn326_1
                               clear hn326_2
                               clear hn326_3
                               replace p326 := eq_true p326
                               replace q326 := eq_true q326
                               have p327 : 0 ≤ (x18_5 : Int) := of_decide_eq_true (by (with_reducible assumption))
                               have q327 : x18_5 < (t302.length : Int) := of_decide_eq_true (by (with_reducible assumption))
                               obtain ⟨ad327, e327, hx327_0, hx327_1, hx327_2, hx327_3⟩ := at_T45 (Kd.R_reads' HO_5.out).2.2 x18_5 p327 q327
                               obtain rfl : ad322 = ad327 := (by injection e327)
                               have hn327_0 : ad322.block ≠ gb323 := Kd.own_blk (Kd.R_away HO_5.out (fun _ hk => hk.2))
                               have hn327_1 : ad322.block ≠ gb323 := Kd.own_blk (Kd.R_away HO_5.out (fun _ hk => hk.2))
                               have hn327_2 : ad322.block ≠ gb323 := Kd.own_blk (Kd.R_away HO_5.out (fun _ hk => hk.2))
                               have hn327_3 : ad322.block ≠ gb323 := Kd.own_blk (Kd.R_away HO_5.out (fun _ hk => hk.2))
                               replace hx327_0 := (cell_far (p := ⟨gb323, 0, none⟩) (by (rw [add_block]; exact hn327_0)) (.int .i64 ((rd_T45 t302 x84_5).f0))).trans hx327_0
                               replace hx327_1 := (cell_far (p := ⟨gb323, 0, none⟩) (by (rw [add_block]; exact hn327_0)) (.int .i64 ((rd_T45 t302 x84_5).f0))).trans hx327_1
                               replace hx327_2 := (cell_far (p := ⟨gb323, 0, none⟩) (by (rw [add_block]; exact hn327_0)) (.int .i64 ((rd_T45 t302 x84_5).f0))).trans hx327_2
                               replace hx327_3 := (cell_far (p := ⟨gb323, 0, none⟩) (by (rw [add_block]; exact hn327_0)) (.int .i64 ((rd_T45 t302 x84_5).f0))).trans hx327_3
                               replace hx327_0 := (cell_far (p := ⟨gb323, 1, none⟩) (by (rw [add_block]; exact hn327_1)) (.int .i64 ((rd_T45 t302 x84_5).f1))).trans hx327_0
                               replace hx327_1 := (cell_far (p := ⟨gb323, 1, none⟩) (by (rw [add_block]; exact hn327_1)) (.int .i64 ((rd_T45 t302 x84_5).f1))).trans hx327_1
                               replace hx327_2 := (cell_far (p := ⟨gb323, 1, none⟩) (by (rw [add_block]; exact hn327_1)) (.int .i64 ((rd_T45 t302 x84_5).f1))).trans hx327_2
                               replace hx327_3 := (cell_far (p := ⟨gb323, 1, none⟩) (by (rw [add_block]; exact hn327_1)) (.int .i64 ((rd_T45 t302 x84_5).f1))).trans hx327_3
                               replace hx327_0 := (cell_far (p := ⟨gb323, 2, none⟩) (by (rw [add_block]; exact hn327_2)) (.int .i64 ((rd_T45 t302 x84_5).f2))).trans hx327_0
                               replace hx327_1 := (cell_far (p := ⟨gb323, 2, none⟩) (by (rw [add_block]; exact hn327_2)) (.int .i64 ((rd_T45 t302 x84_5).f2))).trans hx327_1
                               replace hx327_2 := (cell_far (p := ⟨gb323, 2, none⟩) (by (rw [add_block]; exact hn327_2)) (.int .i64 ((rd_T45 t302 x84_5).f2))).trans hx327_2
                               replace hx327_3 := (cell_far (p := ⟨gb323, 2, none⟩) (by (rw [add_block]; exact hn327_2)) (.int .i64 ((rd_T45 t302 x84_5).f2))).trans hx327_3
                               replace hx327_0 := (cell_far (p := ⟨gb323, 3, none⟩) (by (rw [add_block]; exact hn327_3)) (.int .i64 ((rd_T45 t302 x84_5).f3))).trans hx327_0
                               replace hx327_1 := (cell_far (p := ⟨gb323, 3, none⟩) (by (rw [add_block]; exact hn327_3)) (.int .i64 ((rd_T45 t302 x84_5).f3))).trans hx327_1
                               replace hx327_2 := (cell_far (p := ⟨gb323, 3, none⟩) (by (rw [add_block]; exact hn327_3)) (.int .i64 ((rd_T45 t302 x84_5).f3))).trans hx327_2
                               replace hx327_3 := (cell_far (p := ⟨gb323, 3, none⟩) (by (rw [add_block]; exact hn327_3)) (.int .i64 ((rd_T45 t302 x84_5).f3))).trans hx327_3
                               (try have hy327_0 := fun (n_ : Nat) => (show ((((((w44.drewN n_).setCell ⟨gb323, 0, none⟩ (.int .i64 ((rd_T45 t302 x84_5).f0))).setCell ⟨gb323, 1, none⟩ (.int .i64 ((rd_T45 t302 x84_5).f1))).setCell ⟨gb323, 2, none⟩ (.int .i64 ((rd_T45 t302 x84_5).f2))).setCell ⟨gb323, 3, none⟩ (.int .i64 ((rd_T45 t302 x84_5).f3)))).cell? _ = some _ from hx327_0))
                               (try have hy327_1 := fun (n_ : Nat) => (show ((((((w44.drewN n_).setCell ⟨gb323, 0, none⟩ (.int .i64 ((rd_T45 t302 x84_5).f0))).setCell ⟨gb323, 1, none⟩ (.int .i64 ((rd_T45 t302 x84_5).f1))).setCell ⟨gb323, 2, none⟩ (.int .i64 ((rd_T45 t302 x84_5).f2))).setCell ⟨gb323, 3, none⟩ (.int .i64 ((rd_T45 t302 x84_5).f3)))).cell? _ = some _ from hx327_1))
                               (try have hy327_2 := fun (n_ : Nat) => (show ((((((w44.drewN n_).setCell ⟨gb323, 0, none⟩ (.int .i64 ((rd_T45 t302 x84_5).f0))).setCell ⟨gb323, 1, none⟩ (.int .i64 ((rd_T45 t302 x84_5).f1))).setCell ⟨gb323, 2, none⟩ (.int .i64 ((rd_T45 t302 x84_5).f2))).setCell ⟨gb323, 3, none⟩ (.int .i64 ((rd_T45 t302 x84_5).f3)))).cell? _ = some _ from hx327_2))
                               (try have hy327_3 := fun (n_ : Nat) => (show ((((((w44.drewN n_).setCell ⟨gb323, 0, none⟩ (.int .i64 ((rd_T45 t302 x84_5).f0))).setCell ⟨gb323, 1, none⟩ (.int .i64 ((rd_T45 t302 x84_5).f1))).setCell ⟨gb323, 2, none⟩ (.int .i64 ((rd_T45 t302 x84_5).f2))).setCell ⟨gb323, 3, none⟩ (.int .i64 ((rd_T45 t302 x84_5).f3)))).cell? _ = some _ from hx327_3))
                               clear hn327_0
                               clear hn327_1
                               clear hn327_2
                               clear hn327_3
                               replace p327 := eq_true p327
                               replace q327 := eq_true q327
                               go_wp2
                               repeat (go_quiet (fail); try go_wp2)
                               go_meet
                               case rel => exact ⟨_, (decide (((rd_T45 t302 x84_5).f0) < ((rd_T45 t302 x18_5).f0))), (by rfl), H', ⟨by have := HJ6.out; have := HK2.out; have := HK3.out; have := HK4.out; have := HK5.out; omega⟩, ⟨by (with_reducible repeat (apply Kd.R_drewN)); exact Kd.R_mono (Kd.R_far (p := ⟨gb323, 3, none⟩) (Kd.R_far (p := ⟨gb323, 2, none⟩) (Kd.R_far (p := ⟨gb323, 1, none⟩) (Kd.R_far (p := ⟨gb323, 0, none⟩) (Kd.R_mono HO_5.out (fun k_ hk => (⟨hk, hk.2⟩ : _ ∧ k_ ≠ gb323))) (fun _ hk => hk.2) (.int .i64 ((rd_T45 t302 x84_5).f0))) (fun _ hk => hk.2) (.int .i64 ((rd_T45 t302 x84_5).f1))) (fun _ hk => hk.2) (.int .i64 ((rd_T45 t302 x84_5).f2))) (fun _ hk => hk.2) (.int .i64 ((rd_T45 t302 x84_5).f3))) (fun _ hk => hk.1.2)⟩, ⟨by (with_reducible repeat (apply Kd.R_drewN)); exact Kd.R_mono (Kd.R_far (p := ⟨gb323, 3, none⟩) (Kd.R_far (p := ⟨gb323, 2, none⟩) (Kd.R_far (p := ⟨gb323, 1, none⟩) (Kd.R_far (p := ⟨gb323, 0, none⟩) (Kd.R_types HO_7.out BK323.out (by decide)) (fun _ hk => hk.2) (.int .i64 ((rd_T45 t302 x84_5).f0))) (fun _ hk => hk.2) (.int .i64 ((rd_T45 t302 x84_5).f1))) (fun _ hk => hk.2) (.int .i64 ((rd_T45 t302 x84_5).f2))) (fun _ hk => hk.2) (.int .i64 ((rd_T45 t302 x84_5).f3))) (fun _ hk => trivial)⟩, ⟨by (with_reducible repeat (apply Kd.R_drewN)); exact Kd.R_mono (Kd.R_far (p := ⟨gb323, 3, none⟩) (Kd.R_far (p := ⟨gb323, 2, none⟩) (Kd.R_far (p := ⟨gb323, 1, none⟩) (Kd.R_far (p := ⟨gb323, 0, none⟩) (Kd.R_types HO_11.out BK323.out (by decide)) (fun _ hk => hk.2) (.int .i64 ((rd_T45 t302 x84_5).f0))) (fun _ hk => hk.2) (.int .i64 ((rd_T45 t302 x84_5).f1))) (fun _ hk => hk.2) (.int .i64 ((rd_T45 t302 x84_5).f2))) (fun _ hk => hk.2) (.int .i64 ((rd_T45 t302 x84_5).f3))) (fun _ hk => trivial)⟩, ⟨by (with_reducible repeat (apply Kd.R_drewN)); exact Kd.R_mono (Kd.R_far (p := ⟨gb323, 3, none⟩) (Kd.R_far (p := ⟨gb323, 2, none⟩) (Kd.R_far (p := ⟨gb323, 1, none⟩) (Kd.R_far (p := ⟨gb323, 0, none⟩) (Kd.R_types HO_68.out BK323.out (by decide)) (fun _ hk => hk.2) (.int .i64 ((rd_T45 t302 x84_5).f0))) (fun _ hk => hk.2) (.int .i64 ((rd_T45 t302 x84_5).f1))) (fun _ hk => hk.2) (.int .i64 ((rd_T45 t302 x84_5).f2))) (fun _ hk => hk.2) (.int .i64 ((rd_T45 t302 x84_5).f3))) (fun _ hk => hk.1)⟩, ⟨by (with_reducible repeat (apply Kd.R_drewN)); exact Kd.R_mono (Kd.R_far (p := ⟨gb323, 3, none⟩) (Kd.R_far (p := ⟨gb323, 2, none⟩) (Kd.R_far (p := ⟨gb323, 1, none⟩) (Kd.R_far (p := ⟨gb323, 0, none⟩) (Kd.R_mono HO_82.out (fun k_ hk => (⟨hk, hk.2⟩ : _ ∧ k_ ≠ gb323))) (fun _ hk => hk.2) (.int .i64 ((rd_T45 t302 x84_5).f0))) (fun _ hk => hk.2) (.int .i64 ((rd_T45 t302 x84_5).f1))) (fun _ hk => hk.2) (.int .i64 ((rd_T45 t302 x84_5).f2))) (fun _ hk => hk.2) (.int .i64 ((rd_T45 t302 x84_5).f3))) (fun _ hk => hk.1.2)⟩, ⟨by (with_reducible repeat (refine blk_drewN ?_ _)); refine blk_far ?_ NB321_323.out _; (with_reducible repeat (fail)); refine blk_far ?_ NB321_323.out _; (with_reducible repeat (fail)); refine blk_far ?_ NB321_323.out _; (with_reducible repeat (fail)); refine blk_far ?_ NB321_323.out _; (with_reducible repeat (fail)); exact BK321.out⟩, ⟨by (with_reducible repeat (refine blk_drewN ?_ _)); refine blk_put (cs := #[.int .i64 ((rd_T45 t302 x84_5).f0), .int .i64 ((rd_T45 t302 x84_5).f1), .int .i64 ((rd_T45 t302 x84_5).f2), .int .i64 0]) ?_ 3 _ rfl; (with_reducible repeat (fail)); refine blk_put (cs := #[.int .i64 ((rd_T45 t302 x84_5).f0), .int .i64 ((rd_T45 t302 x84_5).f1), .int .i64 0, .int .i64 0]) ?_ 2 _ rfl; (with_reducible repeat (fail)); refine blk_put (cs := #[.int .i64 ((rd_T45 t302 x84_5).f0), .int .i64 0, .int .i64 0, .int .i64 0]) ?_ 1 _ rfl; (with_reducible repeat (fail)); refine blk_put (cs := #[.int .i64 0, .int .i64 0, .int .i64 0, .int .i64 0]) ?_ 0 _ rfl; (with_reducible repeat (fail)); exact BK323.out⟩, ⟨by repeat ((with_reducible first | exact HB.out | apply pw_below_drewN | refine below_set ?_ GE323.out))⟩⟩
                              ·rw [if_neg c60] at H
                               have c60b0 : (((rd_T45 t302 x84_5).f2) == ((rd_T45 t302 x18_5).f2)) = false := beq_eq_false_iff_ne.mpr c60
                               have c60b1 : (((rd_T45 t302 x84_5).f2) != ((rd_T45 t302 x18_5).f2)) = true := bne_iff_ne.mpr c60
                               have H' := Aside0.mk H
                               clear H
                               have hnb64 := NB323_321.out
                               have hnc64 := NB321_323.out
                               have hcz65_0 : w44.cell? ⟨gb323, 0, none⟩ = some (.int .i64 0) := (blk_cell BK323.out 0).trans rfl
                               have hcz65_1 : w44.cell? ⟨gb323, 1, none⟩ = some (.int .i64 0) := (blk_cell BK323.out 1).trans rfl
                               have hcz65_2 : w44.cell? ⟨gb323, 2, none⟩ = some (.int .i64 0) := (blk_cell BK323.out 2).trans rfl
                               have hcz65_3 : w44.cell? ⟨gb323, 3, none⟩ = some (.int .i64 0) := (blk_cell BK323.out 3).trans rfl
                               have hfz65_0 := blk_frozen BK323.out 0
                               have hfz65_1 := blk_frozen BK323.out 1
                               have hfz65_2 := blk_frozen BK323.out 2
                               have hfz65_3 := blk_frozen BK323.out 3
                               obtain ⟨Ao66, co66, eo66⟩ := Kd.R_slice HO_11.out
                               subst eo66
                               have p324 : 0 ≤ (x84_5 : Int) := of_decide_eq_true (by (with_reducible assumption))
                               have q324 : x84_5 < (x11_4.length : Int) := of_decide_eq_true (by (with_reducible assumption))
                               obtain ⟨ad324, e324, hx324_0⟩ := Kd.at_int (Kd.R_reads' HO_11.out).2.2 x84_5 p324 q324
                               cases e324
                               have hn324_0 : ad324.block ≠ gb323 := Kd.own_blk (Kd.R_ne HO_11.out BK323.out (by decide))
                               have hn324_1 : ad324.block ≠ gb323 := Kd.own_blk (Kd.R_ne HO_11.out BK323.out (by decide))
                               have hn324_2 : ad324.block ≠ gb323 := Kd.own_blk (Kd.R_ne HO_11.out BK323.out (by decide))
                               have hn324_3 : ad324.block ≠ gb323 := Kd.own_blk (Kd.R_ne HO_11.out BK323.out (by decide))
                               replace hx324_0 := (cell_far (p := ⟨gb323, 0, none⟩) (by (rw [add_block]; exact hn324_0)) (.int .i64 ((rd_T45 t302 x84_5).f0))).trans hx324_0
                               replace hx324_0 := (cell_far (p := ⟨gb323, 1, none⟩) (by (rw [add_block]; exact hn324_1)) (.int .i64 ((rd_T45 t302 x84_5).f1))).trans hx324_0
                               replace hx324_0 := (cell_far (p := ⟨gb323, 2, none⟩) (by (rw [add_block]; exact hn324_2)) (.int .i64 ((rd_T45 t302 x84_5).f2))).trans hx324_0
                               replace hx324_0 := (cell_far (p := ⟨gb323, 3, none⟩) (by (rw [add_block]; exact hn324_3)) (.int .i64 ((rd_T45 t302 x84_5).f3))).trans hx324_0
                               (try have hy324_0 := fun (n_ : Nat) => (show ((((((w44.drewN n_).setCell ⟨gb323, 0, none⟩ (.int .i64 ((rd_T45 t302 x84_5).f0))).setCell ⟨gb323, 1, none⟩ (.int .i64 ((rd_T45 t302 x84_5).f1))).setCell ⟨gb323, 2, none⟩ (.int .i64 ((rd_T45 t302 x84_5).f2))).setCell ⟨gb323, 3, none⟩ (.int .i64 ((rd_T45 t302 x84_5).f3)))).cell? _ = some _ from hx324_0))
                               clear hn324_0
                               clear hn324_1
                               clear hn324_2
                               clear hn324_3
                               replace p324 := eq_true p324
                               replace q324 := eq_true q324
                               have p325 : 0 ≤ (x18_5 : Int) := of_decide_eq_true (by (with_reducible assumption))
                               have q325 : x18_5 < (t302.length : Int) := of_decide_eq_true (by (with_reducible assumption))
                               obtain ⟨ad325, e325, hx325_0, hx325_1, hx325_2, hx325_3⟩ := at_T45 (Kd.R_reads' HO_5.out).2.2 x18_5 p325 q325
                               obtain rfl : ad322 = ad325 := (by injection e325)
                               have hn325_0 : ad322.block ≠ gb323 := Kd.own_blk (Kd.R_away HO_5.out (fun _ hk => hk.2))
                               have hn325_1 : ad322.block ≠ gb323 := Kd.own_blk (Kd.R_away HO_5.out (fun _ hk => hk.2))
                               have hn325_2 : ad322.block ≠ gb323 := Kd.own_blk (Kd.R_away HO_5.out (fun _ hk => hk.2))
                               have hn325_3 : ad322.block ≠ gb323 := Kd.own_blk (Kd.R_away HO_5.out (fun _ hk => hk.2))
                               replace hx325_0 := (cell_far (p := ⟨gb323, 0, none⟩) (by (rw [add_block]; exact hn325_0)) (.int .i64 ((rd_T45 t302 x84_5).f0))).trans hx325_0
                               replace hx325_1 := (cell_far (p := ⟨gb323, 0, none⟩) (by (rw [add_block]; exact hn325_0)) (.int .i64 ((rd_T45 t302 x84_5).f0))).trans hx325_1
                               replace hx325_2 := (cell_far (p := ⟨gb323, 0, none⟩) (by (rw [add_block]; exact hn325_0)) (.int .i64 ((rd_T45 t302 x84_5).f0))).trans hx325_2
                               replace hx325_3 := (cell_far (p := ⟨gb323, 0, none⟩) (by (rw [add_block]; exact hn325_0)) (.int .i64 ((rd_T45 t302 x84_5).f0))).trans hx325_3
                               replace hx325_0 := (cell_far (p := ⟨gb323, 1, none⟩) (by (rw [add_block]; exact hn325_1)) (.int .i64 ((rd_T45 t302 x84_5).f1))).trans hx325_0
                               replace hx325_1 := (cell_far (p := ⟨gb323, 1, none⟩) (by (rw [add_block]; exact hn325_1)) (.int .i64 ((rd_T45 t302 x84_5).f1))).trans hx325_1
                               replace hx325_2 := (cell_far (p := ⟨gb323, 1, none⟩) (by (rw [add_block]; exact hn325_1)) (.int .i64 ((rd_T45 t302 x84_5).f1))).trans hx325_2
                               replace hx325_3 := (cell_far (p := ⟨gb323, 1, none⟩) (by (rw [add_block]; exact hn325_1)) (.int .i64 ((rd_T45 t302 x84_5).f1))).trans hx325_3
                               replace hx325_0 := (cell_far (p := ⟨gb323, 2, none⟩) (by (rw [add_block]; exact hn325_2)) (.int .i64 ((rd_T45 t302 x84_5).f2))).trans hx325_0
                               replace hx325_1 := (cell_far (p := ⟨gb323, 2, none⟩) (by (rw [add_block]; exact hn325_2)) (.int .i64 ((rd_T45 t302 x84_5).f2))).trans hx325_1
                               replace hx325_2 := (cell_far (p := ⟨gb323, 2, none⟩) (by (rw [add_block]; exact hn325_2)) (.int .i64 ((rd_T45 t302 x84_5).f2))).trans hx325_2
                               replace hx325_3 := (cell_far (p := ⟨gb323, 2, none⟩) (by (rw [add_block]; exact hn325_2)) (.int .i64 ((rd_T45 t302 x84_5).f2))).trans hx325_3
                               replace hx325_0 := (cell_far (p := ⟨gb323, 3, none⟩) (by (rw [add_block]; exact hn325_3)) (.int .i64 ((rd_T45 t302 x84_5).f3))).trans hx325_0
                               replace hx325_1 := (cell_far (p := ⟨gb323, 3, none⟩) (by (rw [add_block]; exact hn325_3)) (.int .i64 ((rd_T45 t302 x84_5).f3))).trans hx325_1
                               replace hx325_2 := (cell_far (p := ⟨gb323, 3, none⟩) (by (rw [add_block]; exact hn325_3)) (.int .i64 ((rd_T45 t302 x84_5).f3))).trans hx325_2
                               replace hx325_3 := (cell_far (p := ⟨gb323, 3, none⟩) (by (rw [add_block]; exact hn325_3)) (.int .i64 ((rd_T45 t302 x84_5).f3))).trans hx325_3
                               (try have hy325_0 := fun (n_ : Nat) => (show ((((((w44.drewN n_).setCell ⟨gb323, 0, none⟩ (.int .i64 ((rd_T45 t302 x84_5).f0))).setCell ⟨gb323, 1, none⟩ (.int .i64 ((rd_T45 t302 x84_5).f1))).setCell ⟨gb323, 2, none⟩ (.int .i64 ((rd_T45 t302 x84_5).f2))).setCell ⟨gb323, 3, none⟩ (.int .i64 ((rd_T45 t302 x84_5).f3)))).cell? _ = some _ from hx325_0))
                               (try have hy325_1 := fun (n_ : Nat) => (show ((((((w44.drewN n_).setCell ⟨gb323, 0, none⟩ (.int .i64 ((rd_T45 t302 x84_5).f0))).setCell ⟨gb323, 1, none⟩ (.int .i64 ((rd_T45 t302 x84_5).f1))).setCell ⟨gb323, 2, none⟩ (.int .i64 ((rd_T45 t302 x84_5).f2))).setCell ⟨gb323, 3, none⟩ (.int .i64 ((rd_T45 t302 x84_5).f3)))).cell? _ = some _ from hx325_1))
                               (try have hy325_2 := fun (n_ : Nat) => (show ((((((w44.drewN n_).setCell ⟨gb323, 0, none⟩ (.int .i64 ((rd_T45 t302 x84_5).f0))).setCell ⟨gb323, 1, none⟩ (.int .i64 ((rd_T45 t302 x84_5).f1))).setCell ⟨gb323, 2, none⟩ (.int .i64 ((rd_T45 t302 x84_5).f2))).setCell ⟨gb323, 3, none⟩ (.int .i64 ((rd_T45 t302 x84_5).f3)))).cell? _ = some _ from hx325_2))
                               (try have hy325_3 := fun (n_ : Nat) => (show ((((((w44.drewN n_).setCell ⟨gb323, 0, none⟩ (.int .i64 ((rd_T45 t302 x84_5).f0))).setCell ⟨gb323, 1, none⟩ (.int .i64 ((rd_T45 t302 x84_5).f1))).setCell ⟨gb323, 2, none⟩ (.int .i64 ((rd_T45 t302 x84_5).f2))).setCell ⟨gb323, 3, none⟩ (.int .i64 ((rd_T45 t302 x84_5).f3)))).cell? _ = some _ from hx325_3))
                               clear hn325_0
                               clear hn325_1
                               clear hn325_2
                               clear hn325_3
                               replace p325 := eq_true p325
                               replace q325 := eq_true q325
                               have p326 : 0 ≤ (x18_5 : Int) := of_decide_eq_true (by (with_reducible assumption))
                               have q326 : x18_5 < (t302.length : Int) := of_decide_eq_true (by (with_reducible assumption))
                               obtain ⟨ad326, e326, hx326_0, hx326_1, hx326_2, hx326_3⟩ := at_T45 (Kd.R_reads' HO_5.out).2.2 x18_5 p326 q326
                               obtain rfl : ad322 = ad326 := (by injection e326)
                               have hn326_0 : ad322.block ≠ gb323 := Kd.own_blk (Kd.R_away HO_5.out (fun _ hk => hk.2))
                               have hn326_1 : ad322.block ≠ gb323 := Kd.own_blk (Kd.R_away HO_5.out (fun _ hk => hk.2))
                               have hn326_2 : ad322.block ≠ gb323 := Kd.own_blk (Kd.R_away HO_5.out (fun _ hk => hk.2))
                               have hn326_3 : ad322.block ≠ gb323 := Kd.own_blk (Kd.R_away HO_5.out (fun _ hk => hk.2))
                               replace hx326_0 := (cell_far (p := ⟨gb323, 0, none⟩) (by (rw [add_block]; exact hn326_0)) (.int .i64 ((rd_T45 t302 x84_5).f0))).trans hx326_0
                               replace hx326_1 := (cell_far (p := ⟨gb323, 0, none⟩) (by (rw [add_block]; exact hn326_0)) (.int .i64 ((rd_T45 t302 x84_5).f0))).trans hx326_1
                               replace hx326_2 := (cell_far (p := ⟨gb323, 0, none⟩) (by (rw [add_block]; exact hn326_0)) (.int .i64 ((rd_T45 t302 x84_5).f0))).trans hx326_2
                               replace hx326_3 := (cell_far (p := ⟨gb323, 0, none⟩) (by (rw [add_block]; exact hn326_0)) (.int .i64 ((rd_T45 t302 x84_5).f0))).trans hx326_3
                               replace hx326_0 := (cell_far (p := ⟨gb323, 1, none⟩) (by (rw [add_block]; exact hn326_1)) (.int .i64 ((rd_T45 t302 x84_5).f1))).trans hx326_0
                               replace hx326_1 := (cell_far (p := ⟨gb323, 1, none⟩) (by (rw [add_block]; exact hn326_1)) (.int .i64 ((rd_T45 t302 x84_5).f1))).trans hx326_1
                               replace hx326_2 := (cell_far (p := ⟨gb323, 1, none⟩) (by (rw [add_block]; exact hn326_1)) (.int .i64 ((rd_T45 t302 x84_5).f1))).trans hx326_2
                               replace hx326_3 := (cell_far (p := ⟨gb323, 1, none⟩) (by (rw [add_block]; exact hn326_1)) (.int .i64 ((rd_T45 t302 x84_5).f1))).trans hx326_3
                               replace hx326_0 := (cell_far (p := ⟨gb323, 2, none⟩) (by (rw [add_block]; exact hn326_2)) (.int .i64 ((rd_T45 t302 x84_5).f2))).trans hx326_0
                               replace hx326_1 := (cell_far (p := ⟨gb323, 2, none⟩) (by (rw [add_block]; exact hn326_2)) (.int .i64 ((rd_T45 t302 x84_5).f2))).trans hx326_1
                               replace hx326_2 := (cell_far (p := ⟨gb323, 2, none⟩) (by (rw [add_block]; exact hn326_2)) (.int .i64 ((rd_T45 t302 x84_5).f2))).trans hx326_2
                               replace hx326_3 := (cell_far (p := ⟨gb323, 2, none⟩) (by (rw [add_block]; exact hn326_2)) (.int .i64 ((rd_T45 t302 x84_5).f2))).trans hx326_3
                               replace hx326_0 := (cell_far (p := ⟨gb323, 3, none⟩) (by (rw [add_block]; exact hn326_3)) (.int .i64 ((rd_T45 t302 x84_5).f3))).trans hx326_0
                               replace hx326_1 := (cell_far (p := ⟨gb323, 3, none⟩) (by (rw [add_block]; exact hn326_3)) (.int .i64 ((rd_T45 t302 x84_5).f3))).trans hx326_1
                               replace hx326_2 := (cell_far (p := ⟨gb323, 3, none⟩) (by (rw [add_block]; exact hn326_3)) (.int .i64 ((rd_T45 t302 x84_5).f3))).trans hx326_2
                               replace hx326_3 := (cell_far (p := ⟨gb323, 3, none⟩) (by (rw [add_block]; exact hn326_3)) (.int .i64 ((rd_T45 t302 x84_5).f3))).trans hx326_3
                               (try have hy326_0 := fun (n_ : Nat) => (show ((((((w44.drewN n_).setCell ⟨gb323, 0, none⟩ (.int .i64 ((rd_T45 t302 x84_5).f0))).setCell ⟨gb323, 1, none⟩ (.int .i64 ((rd_T45 t302 x84_5).f1))).setCell ⟨gb323, 2, none⟩ (.int .i64 ((rd_T45 t302 x84_5).f2))).setCell ⟨gb323, 3, none⟩ (.int .i64 ((rd_T45 t302 x84_5).f3)))).cell? _ = some _ from hx326_0))
                               (try have hy326_1 := fun (n_ : Nat) => (show ((((((w44.drewN n_).setCell ⟨gb323, 0, none⟩ (.int .i64 ((rd_T45 t302 x84_5).f0))).setCell ⟨gb323, 1, none⟩ (.int .i64 ((rd_T45 t302 x84_5).f1))).setCell ⟨gb323, 2, none⟩ (.int .i64 ((rd_T45 t302 x84_5).f2))).setCell ⟨gb323, 3, none⟩ (.int .i64 ((rd_T45 t302 x84_5).f3)))).cell? _ = some _ from hx326_1))
                               (try have hy326_2 := fun (n_ : Nat) => (show ((((((w44.drewN n_).setCell ⟨gb323, 0, none⟩ (.int .i64 ((rd_T45 t302 x84_5).f0))).setCell ⟨gb323, 1, none⟩ (.int .i64 ((rd_T45 t302 x84_5).f1))).setCell ⟨gb323, 2, none⟩ (.int .i64 ((rd_T45 t302 x84_5).f2))).setCell ⟨gb323, 3, none⟩ (.int .i64 ((rd_T45 t302 x84_5).f3)))).cell? _ = some _ from hx326_2))
                               (try have hy326_3 := fun (n_ : Nat) => (show ((((((w44.drewN n_).setCell ⟨gb323, 0, none⟩ (.int .i64 ((rd_T45 t302 x84_5).f0))).setCell ⟨gb323, 1, none⟩ (.int .i64 ((rd_T45 t302 x84_5).f1))).setCell ⟨gb323, 2, none⟩ (.int .i64 ((rd_T45 t302 x84_5).f2))).setCell ⟨gb323, 3, none⟩ (.int .i64 ((rd_T45 t302 x84_5).f3)))).cell? _ = some _ from hx326_3))
                               clear hn326_0
                               clear hn326_1
                               clear hn326_2
                               clear hn326_3
                               replace p326 := eq_true p326
                               replace q326 := eq_true q326
                               go_wp2
                               repeat (go_quiet (fail); try go_wp2)
                               go_meet
                               case rel => exact ⟨_, (false), (by rfl), H', ⟨by have := HJ6.out; have := HK2.out; have := HK3.out; have := HK4.out; have := HK5.out; omega⟩, ⟨by (with_reducible repeat (apply Kd.R_drewN)); exact Kd.R_mono (Kd.R_far (p := ⟨gb323, 3, none⟩) (Kd.R_far (p := ⟨gb323, 2, none⟩) (Kd.R_far (p := ⟨gb323, 1, none⟩) (Kd.R_far (p := ⟨gb323, 0, none⟩) (Kd.R_mono HO_5.out (fun k_ hk => (⟨hk, hk.2⟩ : _ ∧ k_ ≠ gb323))) (fun _ hk => hk.2) (.int .i64 ((rd_T45 t302 x84_5).f0))) (fun _ hk => hk.2) (.int .i64 ((rd_T45 t302 x84_5).f1))) (fun _ hk => hk.2) (.int .i64 ((rd_T45 t302 x84_5).f2))) (fun _ hk => hk.2) (.int .i64 ((rd_T45 t302 x84_5).f3))) (fun _ hk => hk.1.2)⟩, ⟨by (with_reducible repeat (apply Kd.R_drewN)); exact Kd.R_mono (Kd.R_far (p := ⟨gb323, 3, none⟩) (Kd.R_far (p := ⟨gb323, 2, none⟩) (Kd.R_far (p := ⟨gb323, 1, none⟩) (Kd.R_far (p := ⟨gb323, 0, none⟩) (Kd.R_types HO_7.out BK323.out (by decide)) (fun _ hk => hk.2) (.int .i64 ((rd_T45 t302 x84_5).f0))) (fun _ hk => hk.2) (.int .i64 ((rd_T45 t302 x84_5).f1))) (fun _ hk => hk.2) (.int .i64 ((rd_T45 t302 x84_5).f2))) (fun _ hk => hk.2) (.int .i64 ((rd_T45 t302 x84_5).f3))) (fun _ hk => trivial)⟩, ⟨by (with_reducible repeat (apply Kd.R_drewN)); exact Kd.R_mono (Kd.R_far (p := ⟨gb323, 3, none⟩) (Kd.R_far (p := ⟨gb323, 2, none⟩) (Kd.R_far (p := ⟨gb323, 1, none⟩) (Kd.R_far (p := ⟨gb323, 0, none⟩) (Kd.R_types HO_11.out BK323.out (by decide)) (fun _ hk => hk.2) (.int .i64 ((rd_T45 t302 x84_5).f0))) (fun _ hk => hk.2) (.int .i64 ((rd_T45 t302 x84_5).f1))) (fun _ hk => hk.2) (.int .i64 ((rd_T45 t302 x84_5).f2))) (fun _ hk => hk.2) (.int .i64 ((rd_T45 t302 x84_5).f3))) (fun _ hk => trivial)⟩, ⟨by (with_reducible repeat (apply Kd.R_drewN)); exact Kd.R_mono (Kd.R_far (p := ⟨gb323, 3, none⟩) (Kd.R_far (p := ⟨gb323, 2, none⟩) (Kd.R_far (p := ⟨gb323, 1, none⟩) (Kd.R_far (p := ⟨gb323, 0, none⟩) (Kd.R_types HO_68.out BK323.out (by decide)) (fun _ hk => hk.2) (.int .i64 ((rd_T45 t302 x84_5).f0))) (fun _ hk => hk.2) (.int .i64 ((rd_T45 t302 x84_5).f1))) (fun _ hk => hk.2) (.int .i64 ((rd_T45 t302 x84_5).f2))) (fun _ hk => hk.2) (.int .i64 ((rd_T45 t302 x84_5).f3))) (fun _ hk => hk.1)⟩, ⟨by (with_reducible repeat (apply Kd.R_drewN)); exact Kd.R_mono (Kd.R_far (p := ⟨gb323, 3, none⟩) (Kd.R_far (p := ⟨gb323, 2, none⟩) (Kd.R_far (p := ⟨gb323, 1, none⟩) (Kd.R_far (p := ⟨gb323, 0, none⟩) (Kd.R_mono HO_82.out (fun k_ hk => (⟨hk, hk.2⟩ : _ ∧ k_ ≠ gb323))) (fun _ hk => hk.2) (.int .i64 ((rd_T45 t302 x84_5).f0))) (fun _ hk => hk.2) (.int .i64 ((rd_T45 t302 x84_5).f1))) (fun _ hk => hk.2) (.int .i64 ((rd_T45 t302 x84_5).f2))) (fun _ hk => hk.2) (.int .i64 ((rd_T45 t302 x84_5).f3))) (fun _ hk => hk.1.2)⟩, ⟨by (with_reducible repeat (refine blk_drewN ?_ _)); refine blk_far ?_ NB321_323.out _; (with_reducible repeat (fail)); refine blk_far ?_ NB321_323.out _; (with_reducible repeat (fail)); refine blk_far ?_ NB321_323.out _; (with_reducible repeat (fail)); refine blk_far ?_ NB321_323.out _; (with_reducible repeat (fail)); exact BK321.out⟩, ⟨by (with_reducible repeat (refine blk_drewN ?_ _)); refine blk_put (cs := #[.int .i64 ((rd_T45 t302 x84_5).f0), .int .i64 ((rd_T45 t302 x84_5).f1), .int .i64 ((rd_T45 t302 x84_5).f2), .int .i64 0]) ?_ 3 _ rfl; (with_reducible repeat (fail)); refine blk_put (cs := #[.int .i64 ((rd_T45 t302 x84_5).f0), .int .i64 ((rd_T45 t302 x84_5).f1), .int .i64 0, .int .i64 0]) ?_ 2 _ rfl; (with_reducible repeat (fail)); refine blk_put (cs := #[.int .i64 ((rd_T45 t302 x84_5).f0), .int .i64 0, .int .i64 0, .int .i64 0]) ?_ 1 _ rfl; (with_reducible repeat (fail)); refine blk_put (cs := #[.int .i64 0, .int .i64 0, .int .i64 0, .int .i64 0]) ?_ 0 _ rfl; (with_reducible repeat (fail)); exact BK323.out⟩, ⟨by repeat ((with_reducible first | exact HB.out | apply pw_below_drewN | refine below_set ?_ GE323.out))⟩⟩
                            ·rw [if_neg c55] at H
                             exact absurd H (by simp)
                           ·rw [if_neg c54] at H
                            exact absurd H (by simp)
                         ·rw [if_neg c49] at H
                          have c49b0 : decide (0 < (rd x11_4 x84_5)) = false := decide_eq_false c49
                          clear c49
                          have H' := Aside0.mk H
                          clear H
                          have hnb67 := NB323_321.out
                          have hnc67 := NB321_323.out
                          have hcz68_0 : w44.cell? ⟨gb323, 0, none⟩ = some (.int .i64 0) := (blk_cell BK323.out 0).trans rfl
                          have hcz68_1 : w44.cell? ⟨gb323, 1, none⟩ = some (.int .i64 0) := (blk_cell BK323.out 1).trans rfl
                          have hcz68_2 : w44.cell? ⟨gb323, 2, none⟩ = some (.int .i64 0) := (blk_cell BK323.out 2).trans rfl
                          have hcz68_3 : w44.cell? ⟨gb323, 3, none⟩ = some (.int .i64 0) := (blk_cell BK323.out 3).trans rfl
                          have hfz68_0 := blk_frozen BK323.out 0
                          have hfz68_1 := blk_frozen BK323.out 1
                          have hfz68_2 := blk_frozen BK323.out 2
                          have hfz68_3 := blk_frozen BK323.out 3
                          obtain ⟨Ao69, co69, eo69⟩ := Kd.R_slice HO_11.out
                          subst eo69
                          have p324 : 0 ≤ (x84_5 : Int) := of_decide_eq_true (by (with_reducible assumption))
                          have q324 : x84_5 < (x11_4.length : Int) := of_decide_eq_true (by (with_reducible assumption))
                          obtain ⟨ad324, e324, hx324_0⟩ := Kd.at_int (Kd.R_reads' HO_11.out).2.2 x84_5 p324 q324
                          cases e324
                          have hn324_0 : ad324.block ≠ gb323 := Kd.own_blk (Kd.R_ne HO_11.out BK323.out (by decide))
                          have hn324_1 : ad324.block ≠ gb323 := Kd.own_blk (Kd.R_ne HO_11.out BK323.out (by decide))
                          have hn324_2 : ad324.block ≠ gb323 := Kd.own_blk (Kd.R_ne HO_11.out BK323.out (by decide))
                          have hn324_3 : ad324.block ≠ gb323 := Kd.own_blk (Kd.R_ne HO_11.out BK323.out (by decide))
                          replace hx324_0 := (cell_far (p := ⟨gb323, 0, none⟩) (by (rw [add_block]; exact hn324_0)) (.int .i64 ((rd_T45 t302 x84_5).f0))).trans hx324_0
                          replace hx324_0 := (cell_far (p := ⟨gb323, 1, none⟩) (by (rw [add_block]; exact hn324_1)) (.int .i64 ((rd_T45 t302 x84_5).f1))).trans hx324_0
                          replace hx324_0 := (cell_far (p := ⟨gb323, 2, none⟩) (by (rw [add_block]; exact hn324_2)) (.int .i64 ((rd_T45 t302 x84_5).f2))).trans hx324_0
                          replace hx324_0 := (cell_far (p := ⟨gb323, 3, none⟩) (by (rw [add_block]; exact hn324_3)) (.int .i64 ((rd_T45 t302 x84_5).f3))).trans hx324_0
                          (try have hy324_0 := fun (n_ : Nat) => (show ((((((w44.drewN n_).setCell ⟨gb323, 0, none⟩ (.int .i64 ((rd_T45 t302 x84_5).f0))).setCell ⟨gb323, 1, none⟩ (.int .i64 ((rd_T45 t302 x84_5).f1))).setCell ⟨gb323, 2, none⟩ (.int .i64 ((rd_T45 t302 x84_5).f2))).setCell ⟨gb323, 3, none⟩ (.int .i64 ((rd_T45 t302 x84_5).f3)))).cell? _ = some _ from hx324_0))
                          clear hn324_0
                          clear hn324_1
                          clear hn324_2
                          clear hn324_3
                          replace p324 := eq_true p324
                          replace q324 := eq_true q324
                          go_wp2
                          repeat (go_quiet (fail); try go_wp2)
                          go_meet
                          case rel => exact ⟨_, (false), (by rfl), H', ⟨by have := HJ6.out; have := HK2.out; have := HK3.out; have := HK4.out; have := HK5.out; omega⟩, ⟨by (with_reducible repeat (apply Kd.R_drewN)); exact Kd.R_mono (Kd.R_far (p := ⟨gb323, 3, none⟩) (Kd.R_far (p := ⟨gb323, 2, none⟩) (Kd.R_far (p := ⟨gb323, 1, none⟩) (Kd.R_far (p := ⟨gb323, 0, none⟩) (Kd.R_mono HO_5.out (fun k_ hk => (⟨hk, hk.2⟩ : _ ∧ k_ ≠ gb323))) (fun _ hk => hk.2) (.int .i64 ((rd_T45 t302 x84_5).f0))) (fun _ hk => hk.2) (.int .i64 ((rd_T45 t302 x84_5).f1))) (fun _ hk => hk.2) (.int .i64 ((rd_T45 t302 x84_5).f2))) (fun _ hk => hk.2) (.int .i64 ((rd_T45 t302 x84_5).f3))) (fun _ hk => hk.1.2)⟩, ⟨by (with_reducible repeat (apply Kd.R_drewN)); exact Kd.R_mono (Kd.R_far (p := ⟨gb323, 3, none⟩) (Kd.R_far (p := ⟨gb323, 2, none⟩) (Kd.R_far (p := ⟨gb323, 1, none⟩) (Kd.R_far (p := ⟨gb323, 0, none⟩) (Kd.R_types HO_7.out BK323.out (by decide)) (fun _ hk => hk.2) (.int .i64 ((rd_T45 t302 x84_5).f0))) (fun _ hk => hk.2) (.int .i64 ((rd_T45 t302 x84_5).f1))) (fun _ hk => hk.2) (.int .i64 ((rd_T45 t302 x84_5).f2))) (fun _ hk => hk.2) (.int .i64 ((rd_T45 t302 x84_5).f3))) (fun _ hk => trivial)⟩, ⟨by (with_reducible repeat (apply Kd.R_drewN)); exact Kd.R_mono (Kd.R_far (p := ⟨gb323, 3, none⟩) (Kd.R_far (p := ⟨gb323, 2, none⟩) (Kd.R_far (p := ⟨gb323, 1, none⟩) (Kd.R_far (p := ⟨gb323, 0, none⟩) (Kd.R_types HO_11.out BK323.out (by decide)) (fun _ hk => hk.2) (.int .i64 ((rd_T45 t302 x84_5).f0))) (fun _ hk => hk.2) (.int .i64 ((rd_T45 t302 x84_5).f1))) (fun _ hk => hk.2) (.int .i64 ((rd_T45 t302 x84_5).f2))) (fun _ hk => hk.2) (.int .i64 ((rd_T45 t302 x84_5).f3))) (fun _ hk => trivial)⟩, ⟨by (with_reducible repeat (apply Kd.R_drewN)); exact Kd.R_mono (Kd.R_far (p := ⟨gb323, 3, none⟩) (Kd.R_far (p := ⟨gb323, 2, none⟩) (Kd.R_far (p := ⟨gb323, 1, none⟩) (Kd.R_far (p := ⟨gb323, 0, none⟩) (Kd.R_types HO_68.out BK323.out (by decide)) (fun _ hk => hk.2) (.int .i64 ((rd_T45 t302 x84_5).f0))) (fun _ hk => hk.2) (.int .i64 ((rd_T45 t302 x84_5).f1))) (fun _ hk => hk.2) (.int .i64 ((rd_T45 t302 x84_5).f2))) (fun _ hk => hk.2) (.int .i64 ((rd_T45 t302 x84_5).f3))) (fun _ hk => hk.1)⟩, ⟨by (with_reducible repeat (apply Kd.R_drewN)); exact Kd.R_mono (Kd.R_far (p := ⟨gb323, 3, none⟩) (Kd.R_far (p := ⟨gb323, 2, none⟩) (Kd.R_far (p := ⟨gb323, 1, none⟩) (Kd.R_far (p := ⟨gb323, 0, none⟩) (Kd.R_mono HO_82.out (fun k_ hk => (⟨hk, hk.2⟩ : _ ∧ k_ ≠ gb323))) (fun _ hk => hk.2) (.int .i64 ((rd_T45 t302 x84_5).f0))) (fun _ hk => hk.2) (.int .i64 ((rd_T45 t302 x84_5).f1))) (fun _ hk => hk.2) (.int .i64 ((rd_T45 t302 x84_5).f2))) (fun _ hk => hk.2) (.int .i64 ((rd_T45 t302 x84_5).f3))) (fun _ hk => hk.1.2)⟩, ⟨by (with_reducible repeat (refine blk_drewN ?_ _)); refine blk_far ?_ NB321_323.out _; (with_reducible repeat (fail)); refine blk_far ?_ NB321_323.out _; (with_reducible repeat (fail)); refine blk_far ?_ NB321_323.out _; (with_reducible repeat (fail)); refine blk_far ?_ NB321_323.out _; (with_reducible repeat (fail)); exact BK321.out⟩, ⟨by (with_reducible repeat (refine blk_drewN ?_ _)); refine blk_put (cs := #[.int .i64 ((rd_T45 t302 x84_5).f0), .int .i64 ((rd_T45 t302 x84_5).f1), .int .i64 ((rd_T45 t302 x84_5).f2), .int .i64 0]) ?_ 3 _ rfl; (with_reducible repeat (fail)); refine blk_put (cs := #[.int .i64 ((rd_T45 t302 x84_5).f0), .int .i64 ((rd_T45 t302 x84_5).f1), .int .i64 0, .int .i64 0]) ?_ 2 _ rfl; (with_reducible repeat (fail)); refine blk_put (cs := #[.int .i64 ((rd_T45 t302 x84_5).f0), .int .i64 0, .int .i64 0, .int .i64 0]) ?_ 1 _ rfl; (with_reducible repeat (fail)); refine blk_put (cs := #[.int .i64 0, .int .i64 0, .int .i64 0, .int .i64 0]) ?_ 0 _ rfl; (with_reducible repeat (fail)); exact BK323.out⟩, ⟨by repeat ((with_reducible first | exact HB.out | apply pw_below_drewN | refine below_set ?_ GE323.out))⟩⟩
                        ·rw [if_neg c48] at H
                         exact absurd H (by simp)
                       ·rw [if_neg c47] at H
                        have c47b0 : decide (((rd_T45 t302 x84_5).f1) ≤ x17_4) = false := decide_eq_false c47
                        clear c47
                        (skip)
                        have H' := Aside0.mk H
                        clear H
                        have hnb70 := NB323_321.out
                        have hnc70 := NB321_323.out
                        have hcz71_0 : w44.cell? ⟨gb323, 0, none⟩ = some (.int .i64 0) := (blk_cell BK323.out 0).trans rfl
                        have hcz71_1 : w44.cell? ⟨gb323, 1, none⟩ = some (.int .i64 0) := (blk_cell BK323.out 1).trans rfl
                        have hcz71_2 : w44.cell? ⟨gb323, 2, none⟩ = some (.int .i64 0) := (blk_cell BK323.out 2).trans rfl
                        have hcz71_3 : w44.cell? ⟨gb323, 3, none⟩ = some (.int .i64 0) := (blk_cell BK323.out 3).trans rfl
                        have hfz71_0 := blk_frozen BK323.out 0
                        have hfz71_1 := blk_frozen BK323.out 1
                        have hfz71_2 := blk_frozen BK323.out 2
                        have hfz71_3 := blk_frozen BK323.out 3
                        go_wp2
                        repeat (go_quiet (fail); try go_wp2)
                        go_meet
                        case rel => exact ⟨_, (false), (by rfl), H', ⟨by have := HJ6.out; have := HK2.out; have := HK3.out; have := HK4.out; have := HK5.out; omega⟩, ⟨by (with_reducible repeat (apply Kd.R_drewN)); exact Kd.R_mono (Kd.R_far (p := ⟨gb323, 3, none⟩) (Kd.R_far (p := ⟨gb323, 2, none⟩) (Kd.R_far (p := ⟨gb323, 1, none⟩) (Kd.R_far (p := ⟨gb323, 0, none⟩) (Kd.R_mono HO_5.out (fun k_ hk => (⟨hk, hk.2⟩ : _ ∧ k_ ≠ gb323))) (fun _ hk => hk.2) (.int .i64 ((rd_T45 t302 x84_5).f0))) (fun _ hk => hk.2) (.int .i64 ((rd_T45 t302 x84_5).f1))) (fun _ hk => hk.2) (.int .i64 ((rd_T45 t302 x84_5).f2))) (fun _ hk => hk.2) (.int .i64 ((rd_T45 t302 x84_5).f3))) (fun _ hk => hk.1.2)⟩, ⟨by (with_reducible repeat (apply Kd.R_drewN)); exact Kd.R_mono (Kd.R_far (p := ⟨gb323, 3, none⟩) (Kd.R_far (p := ⟨gb323, 2, none⟩) (Kd.R_far (p := ⟨gb323, 1, none⟩) (Kd.R_far (p := ⟨gb323, 0, none⟩) (Kd.R_types HO_7.out BK323.out (by decide)) (fun _ hk => hk.2) (.int .i64 ((rd_T45 t302 x84_5).f0))) (fun _ hk => hk.2) (.int .i64 ((rd_T45 t302 x84_5).f1))) (fun _ hk => hk.2) (.int .i64 ((rd_T45 t302 x84_5).f2))) (fun _ hk => hk.2) (.int .i64 ((rd_T45 t302 x84_5).f3))) (fun _ hk => trivial)⟩, ⟨by (with_reducible repeat (apply Kd.R_drewN)); exact Kd.R_mono (Kd.R_far (p := ⟨gb323, 3, none⟩) (Kd.R_far (p := ⟨gb323, 2, none⟩) (Kd.R_far (p := ⟨gb323, 1, none⟩) (Kd.R_far (p := ⟨gb323, 0, none⟩) (Kd.R_types HO_11.out BK323.out (by decide)) (fun _ hk => hk.2) (.int .i64 ((rd_T45 t302 x84_5).f0))) (fun _ hk => hk.2) (.int .i64 ((rd_T45 t302 x84_5).f1))) (fun _ hk => hk.2) (.int .i64 ((rd_T45 t302 x84_5).f2))) (fun _ hk => hk.2) (.int .i64 ((rd_T45 t302 x84_5).f3))) (fun _ hk => trivial)⟩, ⟨by (with_reducible repeat (apply Kd.R_drewN)); exact Kd.R_mono (Kd.R_far (p := ⟨gb323, 3, none⟩) (Kd.R_far (p := ⟨gb323, 2, none⟩) (Kd.R_far (p := ⟨gb323, 1, none⟩) (Kd.R_far (p := ⟨gb323, 0, none⟩) (Kd.R_types HO_68.out BK323.out (by decide)) (fun _ hk => hk.2) (.int .i64 ((rd_T45 t302 x84_5).f0))) (fun _ hk => hk.2) (.int .i64 ((rd_T45 t302 x84_5).f1))) (fun _ hk => hk.2) (.int .i64 ((rd_T45 t302 x84_5).f2))) (fun _ hk => hk.2) (.int .i64 ((rd_T45 t302 x84_5).f3))) (fun _ hk => hk.1)⟩, ⟨by (with_reducible repeat (apply Kd.R_drewN)); exact Kd.R_mono (Kd.R_far (p := ⟨gb323, 3, none⟩) (Kd.R_far (p := ⟨gb323, 2, none⟩) (Kd.R_far (p := ⟨gb323, 1, none⟩) (Kd.R_far (p := ⟨gb323, 0, none⟩) (Kd.R_mono HO_82.out (fun k_ hk => (⟨hk, hk.2⟩ : _ ∧ k_ ≠ gb323))) (fun _ hk => hk.2) (.int .i64 ((rd_T45 t302 x84_5).f0))) (fun _ hk => hk.2) (.int .i64 ((rd_T45 t302 x84_5).f1))) (fun _ hk => hk.2) (.int .i64 ((rd_T45 t302 x84_5).f2))) (fun _ hk => hk.2) (.int .i64 ((rd_T45 t302 x84_5).f3))) (fun _ hk => hk.1.2)⟩, ⟨by (with_reducible repeat (refine blk_drewN ?_ _)); refine blk_far ?_ NB321_323.out _; (with_reducible repeat (fail)); refine blk_far ?_ NB321_323.out _; (with_reducible repeat (fail)); refine blk_far ?_ NB321_323.out _; (with_reducible repeat (fail)); refine blk_far ?_ NB321_323.out _; (with_reducible repeat (fail)); exact BK321.out⟩, ⟨by (with_reducible repeat (refine blk_drewN ?_ _)); refine blk_put (cs := #[.int .i64 ((rd_T45 t302 x84_5).f0), .int .i64 ((rd_T45 t302 x84_5).f1), .int .i64 ((rd_T45 t302 x84_5).f2), .int .i64 0]) ?_ 3 _ rfl; (with_reducible repeat (fail)); refine blk_put (cs := #[.int .i64 ((rd_T45 t302 x84_5).f0), .int .i64 ((rd_T45 t302 x84_5).f1), .int .i64 0, .int .i64 0]) ?_ 2 _ rfl; (with_reducible repeat (fail)); refine blk_put (cs := #[.int .i64 ((rd_T45 t302 x84_5).f0), .int .i64 0, .int .i64 0, .int .i64 0]) ?_ 1 _ rfl; (with_reducible repeat (fail)); refine blk_put (cs := #[.int .i64 0, .int .i64 0, .int .i64 0, .int .i64 0]) ?_ 0 _ rfl; (with_reducible repeat (fail)); exact BK323.out⟩, ⟨by repeat ((with_reducible first | exact HB.out | apply pw_below_drewN | refine below_set ?_ GE323.out))⟩⟩
                      case rest => as_aux_lemma =>
                       clear HC43
                       try clear c1
                       try clear c2
                       try clear p2
                       try clear q2
                       try clear hx2
                       try clear hf2
                       try clear c3
                       try clear p3
                       try clear q3
                       try clear hx3
                       try clear c4
                       try clear c5
                       try clear c6
                       try clear p6
                       try clear c7
                       try clear c15
                       try clear c15b0
                       try clear c15b1
                       try clear c16
                       try clear c16b0
                       try clear c16b1
                       try clear c17
                       try clear c18
                       try clear c18b0
                       try clear c18b1
                       try clear c19
                       try clear c19b0
                       try clear c19b1
                       try clear c22
                       try clear c22b0
                       try clear c23
                       try clear c23b0
                       try clear c24
                       try clear c24b0
                       try clear c25
                       try clear c25b0
                       try clear p26
                       try clear q26
                       try clear hx26
                       try clear hf26
                       try clear p31
                       try clear q31
                       try clear hx31
                       try clear p32
                       try clear q32
                       try clear hx32
                       try clear c33
                       try clear c33b0
                       try clear c34
                       try clear c34b0
                       try clear c35
                       try clear c35b0
                       try clear c38
                       try clear c38b0
                       try clear c40
                       try clear c40b0
                       try clear c41
                       try clear c41b0
                       try clear c42
                       try clear c42b0
                       try clear c45
                       try clear c47
                       try clear c47b0
                       try clear c48
                       try clear c48b0
                       try clear c49
                       try clear c49b0
                       try clear c50
                       try clear c50b0
                       try clear c51
                       try clear c54
                       try clear c54b0
                       try clear c55
                       try clear c55b0
                       try clear c56
                       try clear c56b0
                       try clear c57
                       try clear c60
                       try clear c60b0
                       try clear c60b1
                       try clear c61
                       try clear c64
                       try clear c67
                       try clear c70
                       try clear hcz28_0
                       try clear hcz28_1
                       try clear hcz28_2
                       try clear hcz28_3
                       try clear hcz30_0
                       try clear hcz30_1
                       try clear hcz30_2
                       try clear hcz30_3
                       try clear hcz37_0
                       try clear hcz37_1
                       try clear hcz39_0
                       try clear hcz39_1
                       try clear hcz46_0
                       try clear hcz46_1
                       try clear hcz46_2
                       try clear hcz46_3
                       try clear hcz52_0
                       try clear hcz52_1
                       try clear hcz52_2
                       try clear hcz52_3
                       try clear hcz58_0
                       try clear hcz58_1
                       try clear hcz58_2
                       try clear hcz58_3
                       try clear hcz62_0
                       try clear hcz62_1
                       try clear hcz62_2
                       try clear hcz62_3
                       try clear hcz65_0
                       try clear hcz65_1
                       try clear hcz65_2
                       try clear hcz65_3
                       try clear hcz68_0
                       try clear hcz68_1
                       try clear hcz68_2
                       try clear hcz68_3
                       try clear hcz71_0
                       try clear hcz71_1
                       try clear hcz71_2
                       try clear hcz71_3
                       try clear hfz28_0
                       try clear hfz28_1
                       try clear hfz28_2
                       try clear hfz28_3
                       try clear hfz30_0
                       try clear hfz30_1
                       try clear hfz30_2
                       try clear hfz30_3
                       try clear hfz37_0
                       try clear hfz37_1
                       try clear hfz39_0
                       try clear hfz39_1
                       try clear hfz46_0
                       try clear hfz46_1
                       try clear hfz46_2
                       try clear hfz46_3
                       try clear hfz52_0
                       try clear hfz52_1
                       try clear hfz52_2
                       try clear hfz52_3
                       try clear hfz58_0
                       try clear hfz58_1
                       try clear hfz58_2
                       try clear hfz58_3
                       try clear hfz62_0
                       try clear hfz62_1
                       try clear hfz62_2
                       try clear hfz62_3
                       try clear hfz65_0
                       try clear hfz65_1
                       try clear hfz65_2
                       try clear hfz65_3
                       try clear hfz68_0
                       try clear hfz68_1
                       try clear hfz68_2
                       try clear hfz68_3
                       try clear hfz71_0
                       try clear hfz71_1
                       try clear hfz71_2
                       try clear hfz71_3
                       try clear hx26_0
                       try clear hx317_0
                       try clear hx317_1
                       try clear hx317_2
                       try clear hx317_3
                       try clear hx320_0
                       try clear hx320_1
                       try clear hx322_0
                       try clear hx322_1
                       try clear hx322_2
                       try clear hx322_3
                       try clear hx324_0
                       try clear hx325_0
                       try clear hx325_1
                       try clear hx325_2
                       try clear hx325_3
                       try clear hx326_0
                       try clear hx326_1
                       try clear hx326_2
                       try clear hx326_3
                       try clear hx327_0
                       try clear hx327_1
                       try clear hx327_2
                       try clear hx327_3
                       try clear p2
                       try clear p26
                       try clear p3
                       try clear p31
                       try clear p317
                       try clear p32
                       try clear p320
                       try clear p322
                       try clear p324
                       try clear p325
                       try clear p326
                       try clear p327
                       try clear p6
                       try clear q2
                       try clear q26
                       try clear q3
                       try clear q31
                       try clear q317
                       try clear q32
                       try clear q320
                       try clear q322
                       try clear q324
                       try clear q325
                       try clear q326
                       try clear q327
                       obtain ⟨kq, x133_42, rfl, HA, HJ42, HO_5, HO_7, HO_11, HO_68, HO_82, BK321, BK323, HB⟩ := hcut
                       cases kq with
                       | zero => exact absurd HA.out (by simp [letterbaglaw30_ShiftUrgent.j5])
                       | succ kj42 =>
                        have H := HA.out
                        clear HA
                        simp only [letterbaglaw30_ShiftUrgent.j5] at H
                        by_cases c72 : x133_42 = true
                        ·subst c72
                         have H1 : (letterbaglaw30_ShiftUrgent.l3 kj42 t302 t308 x11_4 x14_4 x17_4 x84_5 t305 (t305.length : Int) x70_3 t302 (t302.length : Int) (wrap64 (x84_5 + 1)) ((rd_T47 t305 x70_3).f0) ((rd_T47 t305 x70_3).f1)) = some true := by rw [if_pos rfl] at H; exact H
                         clear H
                         have H := H1
                         clear H1
                         have H' := Aside0.mk H
                         clear H
                         go_wp2
                         repeat (go_quiet (fail); try go_wp2)
                         go_roundg kj42
                         case measure => have := HJ6.out; have := HK2.out; have := HK3.out; have := HK4.out; have := HK5.out; have := HJ42.out; omega
                         case rel => exact ⟨(x84_5), (wrap64 (x84_5 + 1)), (by rfl), (by rfl), H', ⟨by have := HJ6.out; have := HK2.out; have := HK3.out; have := HK4.out; have := HK5.out; have := HJ42.out; omega⟩, ⟨by (with_reducible repeat (fail)); exact Kd.R_mono HO_5.out (fun _ hk => trivial)⟩, ⟨by (with_reducible repeat (fail)); exact HO_7.out⟩, ⟨by (with_reducible repeat (fail)); exact HO_11.out⟩, ⟨by (with_reducible repeat (fail)); exact HO_68.out⟩, ⟨by (with_reducible repeat (fail)); exact Kd.R_mono HO_82.out (fun _ hk => trivial)⟩, ⟨by (with_reducible repeat (fail)); exact BK321.out⟩, ⟨by repeat ((with_reducible exact HB.out))⟩⟩
                        ·replace c72 := Bool.eq_false_iff.mpr c72
                         subst c72
                         have H1 : (letterbaglaw30_ShiftUrgent.l3 kj42 t302 t308 x11_4 x14_4 x17_4 x18_5 t305 (t305.length : Int) x70_3 t302 (t302.length : Int) (wrap64 (x84_5 + 1)) ((rd_T47 t305 x70_3).f0) ((rd_T47 t305 x70_3).f1)) = some true := by rw [if_neg (show ¬ (false = true) by decide)] at H; exact H
                         clear H
                         have H := H1
                         clear H1
                         have H' := Aside0.mk H
                         clear H
                         go_wp2
                         repeat (go_quiet (fail); try go_wp2)
                         go_roundg kj42
                         case measure => have := HJ6.out; have := HK2.out; have := HK3.out; have := HK4.out; have := HK5.out; have := HJ42.out; omega
                         case rel => exact ⟨(x18_5), (wrap64 (x84_5 + 1)), (by rfl), (by rfl), H', ⟨by have := HJ6.out; have := HK2.out; have := HK3.out; have := HK4.out; have := HK5.out; have := HJ42.out; omega⟩, ⟨by (with_reducible repeat (fail)); exact Kd.R_mono HO_5.out (fun _ hk => trivial)⟩, ⟨by (with_reducible repeat (fail)); exact HO_7.out⟩, ⟨by (with_reducible repeat (fail)); exact HO_11.out⟩, ⟨by (with_reducible repeat (fail)); exact HO_68.out⟩, ⟨by (with_reducible repeat (fail)); exact Kd.R_mono HO_82.out (fun _ hk => trivial)⟩, ⟨by (with_reducible repeat (fail)); exact BK321.out⟩, ⟨by repeat ((with_reducible exact HB.out))⟩⟩
                     ·rw [if_neg c42] at H
                      exact absurd H (by simp)
                    ·rw [if_neg c41] at H
                     exact absurd H (by simp)
                   ·rw [if_neg c40] at H
                    have c40b0 : decide (x84_5 < (t302.length : Int)) = false := decide_eq_false c40
                    clear c40
                    have HC73 := Aside0.mk H
                    clear H
                    go_upto_if 137 with (fail)
                    repeat (go_quiet (fail); go_upto_if 137 with (fail))
                    go_cut [14, 21] (fun v14 v21 wc => ∃ (kq : Nat) (x11_72 : List Int) (x14_72 : Int) (x21_72 : Int), v14 = .int .i64 x14_72 ∧ v21 = .int .i64 x21_72 ∧ Aside0 (letterbaglaw30_ShiftUrgent.j6 kq t302 t308 x11_72 x14_72 x17_4 x21_72 t305 (t305.length : Int) x70_3 ((rd_T47 t305 x70_3).f0) ((rd_T47 t305 x70_3).f1) = some true) ∧ Aside0 (kq ≤ k5) ∧ Aside0 (Kd.R k45 45 wc w.heap.size (fun _ => True) (.slice Ao10 t302.length co10) t302) ∧ Aside0 (Kd.R k51 51 wc w.heap.size (fun _ => True) (.slice Ao13 t308.length co13) t308) ∧ Aside0 (Kd.R (Kd.int .i64) 3 wc w.heap.size (fun _ => True) v315 x11_72) ∧ Aside0 (Kd.R k47 47 wc w.heap.size (fun k_ => k_ ≠ gb321) (.slice (some ad320) t305.length co11) t305) ∧ Aside0 (wc.heap[gb321]? = some (.cells #[.int .i64 ((rd_T47 t305 x70_3).f0), .int .i64 ((rd_T47 t305 x70_3).f1)] 47 (0, 0))) ∧ Aside0 (Below w.heap.size w wc))
                    case first => as_aux_lemma =>
                     have H := HC73.out
                     clear HC73
                     by_cases c74 : x18_5 ≥ 0
                     ·rw [if_pos c74] at H
                      have c74b0 : decide (0 ≤ x18_5) = true := decide_eq_true c74
                      clear c74
                      (rw [c74b0])
                      by_cases c75 : 0 ≤ x18_5
                      ·rw [if_pos c75] at H
                       have c75b0 : decide (0 ≤ x18_5) = true := decide_eq_true c75
                       clear c75
                       by_cases c76 : x18_5 < (x11_4.length : Int)
                       ·rw [if_pos c76] at H
                        have c76b0 : decide (x18_5 < (x11_4.length : Int)) = true := decide_eq_true c76
                        clear c76
                        obtain ⟨y329, hy329⟩ : ∃ y_ : List Int, y_ = (x11_4.set (x18_5 : Int).toNat (wrap64 ((rd x11_4 x18_5) - 1))) := ⟨_, rfl⟩
                        replace H : (if x18_5 < (t302.length : Int) then (letterbaglaw30_ShiftUrgent.j6 k5 t302 t308 y329 (wrap64 (x14_4 + 1)) x17_4 ((rd_T45 t302 x18_5).f0) t305 (t305.length : Int) x70_3 ((rd_T47 t305 x70_3).f0) ((rd_T47 t305 x70_3).f1)) else (none)) = some true := by (rw [hy329]; with_reducible exact H)
                        have Ny329 := Aside0.mk hy329
                        clear hy329
                        by_cases c78 : x18_5 < (t302.length : Int)
                        ·rw [if_pos c78] at H
                         have c78b0 : decide (x18_5 < (t302.length : Int)) = true := decide_eq_true c78
                         clear c78
                         have H' := Aside0.mk H
                         clear H
                         obtain ⟨Ao79, co79, eo79⟩ := Kd.R_slice HO_11.out
                         subst eo79
                         have p328 : 0 ≤ (x18_5 : Int) := of_decide_eq_true (by (with_reducible assumption))
                         have q328 : x18_5 < (x11_4.length : Int) := of_decide_eq_true (by (with_reducible assumption))
                         obtain ⟨ad328, e328, hx328_0⟩ := Kd.at_int (Kd.R_reads' HO_11.out).2.2 x18_5 p328 q328
                         cases e328
                         replace p328 := eq_true p328
                         replace q328 := eq_true q328
                         have p77 : 0 ≤ (x18_5 : Int) := of_decide_eq_true (by (with_reducible assumption))
                         have q77 : (x18_5 : Int) < ((x11_4.length : Int) : Int) := of_decide_eq_true (by (with_reducible assumption))
                         obtain ⟨go77, co77, eo77, gb77, gl77, cl77, HG77⟩ := Kd.R_form HO_11.out (by omega)
                         (cases eo77)
                         have GB77 := Aside0.mk gb77
                         have GG77 := Aside0.mk HG77
                         clear gb77 gl77 HG77
                         (simp only [add_plain] at hx328_0)
                         obtain ⟨hx77_0, hf77_0⟩ := Kd.R_celln 0 HO_11.out (x18_5 : Int) p77 q77
                         replace p77 := eq_true p77
                         replace q77 := eq_true q77
                         have HP80 := Kd.R_putg HO_11.out (x18_5 : Int) (wrap64 ((rd x11_4 x18_5) - 1))
                         go_wp2_with (((with_reducible refine gate_store (t := 3) (p := 143) rfl ?_); (try (rw [drewN_self wr]; generalize hq_ : World.drewN wr _ = wr; have n0_ := Aside0.mk (Kd.R_at hq_ HO_5.out); have n1_ := Aside0.mk (Kd.R_at hq_ HO_7.out); have n2_ := Aside0.mk (Kd.R_at hq_ HO_11.out); have n3_ := Aside0.mk (Kd.R_at hq_ HO_68.out); have n4_ := Aside0.mk (Kd.R_at hq_ HO_82.out); have n5_ := Aside0.mk (blk_at hq_ BK321.out); have n6_ := Aside0.mk (below_at hq_ HB.out); clear hq_ HO_5 HO_7 HO_11 HO_68 HO_82 BK321 HB; have HO_5 := n0_; have HO_7 := n1_; have HO_11 := n2_; have HO_68 := n3_; have HO_82 := n4_; have BK321 := n5_; have HB := n6_; clear n0_ n1_ n2_ n3_ n4_ n5_ n6_; (try (have HP80 := Kd.R_putg HO_11.out (x18_5 : Int) (wrap64 ((rd x11_4 x18_5) - 1)))))); refine store_event (t := 3) (p := 143) (v := ?vo_w81) (w1 := (wr.setCell ⟨go77, (x18_5 : Int).toNat, none⟩ (.int .i64 (wrap64 ((rd x11_4 x18_5) - 1))))) ?hg ?ho ?hn ?hr ?_; (case ho => rfl); (case hg => rfl); (case hn => rfl); (case hr => (go_simp; done)); intro w81 hw; have hg : wr.grownBy w81 (some go77) := (by rw [hw]; exact HP80.2); have hp_ : Kd.R (Kd.int .i64) 3 w81 w.heap.size (fun _ => True) (.slice (some ⟨go77, 0, none⟩) x11_4.length co79) y329 := (by rw [hw, Ny329.out]; exact HP80.1); clear HP80; have n0_ := Aside0.mk (Kd.R_over' (v := (.slice (some ⟨go77, 0, none⟩) x11_4.length co79)) (by (with_reducible repeat (fail)); exact HO_5.out) (Kd.R_typed HO_11.out) (by decide) hg); have n1_ := Aside0.mk (Kd.R_over' (v := (.slice (some ⟨go77, 0, none⟩) x11_4.length co79)) (by (with_reducible repeat (fail)); exact HO_7.out) (Kd.R_typed HO_11.out) (by decide) hg); have n2_ := Aside0.mk (hp_); have n3_ := Aside0.mk (Kd.R_over' (v := (.slice (some ⟨go77, 0, none⟩) x11_4.length co79)) (by (with_reducible repeat (fail)); exact HO_68.out) (Kd.R_typed HO_11.out) (by decide) hg); have n4_ := Aside0.mk (Kd.R_over' (v := (.slice (some ⟨go77, 0, none⟩) x11_4.length co79)) (by (with_reducible repeat (fail)); exact HO_82.out) (Kd.R_typed HO_11.out) (by decide) hg); have n5_ := Aside0.mk (blk_grown (g := gb321) (o := .cells #[.int .i64 ((rd_T47 t305 x70_3).f0), .int .i64 ((rd_T47 t305 x70_3).f1)] 47 (0, 0)) (by (with_reducible repeat (fail)); exact BK321.out) hg (Kd.R_ne HO_11.out BK321.out (by decide))); have n6_ := Aside0.mk ((by rw [hw]; exact below_set (HB.out) GB77.out : Below w.heap.size w w81)); clear HO_5; clear HO_7; clear HO_11; clear HO_68; clear HO_82; clear BK321; clear HB; have HO_5 := n0_; have HO_7 := n1_; have HO_11 := n2_; have HO_68 := n3_; have HO_82 := n4_; have BK321 := n5_; have HB := n6_; clear n0_ n1_ n2_ n3_ n4_ n5_ n6_; clear hg hw hp_; have p330 : 0 ≤ (x18_5 : Int) := of_decide_eq_true (by (with_reducible assumption)); have q330 : x18_5 < (t302.length : Int) := of_decide_eq_true (by (with_reducible assumption)); obtain ⟨ad330, e330, hx330_0, hx330_1, hx330_2, hx330_3⟩ := at_T45 (Kd.R_reads' HO_5.out).2.2 x18_5 p330 q330; cases e330; replace p330 := eq_true p330; replace q330 := eq_true q330))
                         repeat (go_quiet (fail); try go_wp2_with (fail))
                         go_meet
                         case rel => exact ⟨_, (y329), (wrap64 (x14_4 + 1)), ((rd_T45 t302 x18_5).f0), (by rfl), (by rfl), H', ⟨by have := HJ6.out; have := HK2.out; have := HK3.out; have := HK4.out; have := HK5.out; omega⟩, ⟨by (with_reducible repeat (fail)); exact HO_5.out⟩, ⟨by (with_reducible repeat (fail)); exact HO_7.out⟩, ⟨by (with_reducible repeat (fail)); exact HO_11.out⟩, ⟨by (with_reducible repeat (fail)); exact HO_68.out⟩, ⟨by (with_reducible repeat (fail)); exact BK321.out⟩, ⟨by repeat ((with_reducible exact HB.out))⟩⟩
                        ·rw [if_neg c78] at H
                         exact absurd H (by simp)
                       ·rw [if_neg c76] at H
                        exact absurd H (by simp)
                      ·rw [if_neg c75] at H
                       exact absurd H (by simp)
                     ·rw [if_neg c74] at H
                      have c74b0 : decide (0 ≤ x18_5) = false := decide_eq_false c74
                      clear c74
                      (rw [c74b0])
                      have H' := Aside0.mk H
                      clear H
                      go_wp2
                      repeat (go_quiet (fail); try go_wp2)
                      go_meet
                      case rel => exact ⟨_, (x11_4), (x14_4), (0), (by rfl), (by rfl), H', ⟨by have := HJ6.out; have := HK2.out; have := HK3.out; have := HK4.out; have := HK5.out; omega⟩, ⟨by (with_reducible repeat (fail)); exact HO_5.out⟩, ⟨by (with_reducible repeat (fail)); exact HO_7.out⟩, ⟨by (with_reducible repeat (fail)); exact HO_11.out⟩, ⟨by (with_reducible repeat (fail)); exact HO_68.out⟩, ⟨by (with_reducible repeat (fail)); exact BK321.out⟩, ⟨by repeat ((with_reducible exact HB.out))⟩⟩
                    case rest => as_aux_lemma =>
                     clear HC73
                     try clear c1
                     try clear c2
                     try clear p2
                     try clear q2
                     try clear hx2
                     try clear hf2
                     try clear c3
                     try clear p3
                     try clear q3
                     try clear hx3
                     try clear c4
                     try clear c5
                     try clear c6
                     try clear p6
                     try clear c7
                     try clear p7
                     try clear q7
                     try clear hx7
                     try clear hf7
                     try clear c15
                     try clear c15b0
                     try clear c15b1
                     try clear c16
                     try clear c16b0
                     try clear c16b1
                     try clear c17
                     try clear c18
                     try clear c18b0
                     try clear c18b1
                     try clear c19
                     try clear c19b0
                     try clear c19b1
                     try clear c22
                     try clear c22b0
                     try clear c23
                     try clear c23b0
                     try clear c24
                     try clear c24b0
                     try clear c25
                     try clear c25b0
                     try clear p26
                     try clear q26
                     try clear hx26
                     try clear hf26
                     try clear p31
                     try clear q31
                     try clear hx31
                     try clear p32
                     try clear q32
                     try clear hx32
                     try clear c33
                     try clear c33b0
                     try clear p33
                     try clear q33
                     try clear hx33
                     try clear c34
                     try clear c34b0
                     try clear c35
                     try clear c35b0
                     try clear c38
                     try clear c38b0
                     try clear c40
                     try clear c40b0
                     try clear c41
                     try clear c41b0
                     try clear c42
                     try clear c42b0
                     try clear c45
                     try clear c47
                     try clear c47b0
                     try clear c48
                     try clear c48b0
                     try clear c49
                     try clear c49b0
                     try clear c50
                     try clear c50b0
                     try clear c51
                     try clear c54
                     try clear c54b0
                     try clear c55
                     try clear c55b0
                     try clear c56
                     try clear c56b0
                     try clear c57
                     try clear c60
                     try clear c60b0
                     try clear c60b1
                     try clear c61
                     try clear c64
                     try clear p64
                     try clear c67
                     try clear c70
                     try clear c72
                     try clear c74
                     try clear c74b0
                     try clear c75
                     try clear c75b0
                     try clear c76
                     try clear c76b0
                     try clear p77
                     try clear q77
                     try clear hx77
                     try clear hf77
                     try clear c78
                     try clear c78b0
                     try clear hcz28_0
                     try clear hcz28_1
                     try clear hcz28_2
                     try clear hcz28_3
                     try clear hcz30_0
                     try clear hcz30_1
                     try clear hcz30_2
                     try clear hcz30_3
                     try clear hcz37_0
                     try clear hcz37_1
                     try clear hcz39_0
                     try clear hcz39_1
                     try clear hcz46_0
                     try clear hcz46_1
                     try clear hcz46_2
                     try clear hcz46_3
                     try clear hcz52_0
                     try clear hcz52_1
                     try clear hcz52_2
                     try clear hcz52_3
                     try clear hcz58_0
                     try clear hcz58_1
                     try clear hcz58_2
                     try clear hcz58_3
                     try clear hcz62_0
                     try clear hcz62_1
                     try clear hcz62_2
                     try clear hcz62_3
                     try clear hcz65_0
                     try clear hcz65_1
                     try clear hcz65_2
                     try clear hcz65_3
                     try clear hcz68_0
                     try clear hcz68_1
                     try clear hcz68_2
                     try clear hcz68_3
                     try clear hcz71_0
                     try clear hcz71_1
                     try clear hcz71_2
                     try clear hcz71_3
                     try clear hfz28_0
                     try clear hfz28_1
                     try clear hfz28_2
                     try clear hfz28_3
                     try clear hfz30_0
                     try clear hfz30_1
                     try clear hfz30_2
                     try clear hfz30_3
                     try clear hfz37_0
                     try clear hfz37_1
                     try clear hfz39_0
                     try clear hfz39_1
                     try clear hfz46_0
                     try clear hfz46_1
                     try clear hfz46_2
                     try clear hfz46_3
                     try clear hfz52_0
                     try clear hfz52_1
                     try clear hfz52_2
                     try clear hfz52_3
                     try clear hfz58_0
                     try clear hfz58_1
                     try clear hfz58_2
                     try clear hfz58_3
                     try clear hfz62_0
                     try clear hfz62_1
                     try clear hfz62_2
                     try clear hfz62_3
                     try clear hfz65_0
                     try clear hfz65_1
                     try clear hfz65_2
                     try clear hfz65_3
                     try clear hfz68_0
                     try clear hfz68_1
                     try clear hfz68_2
                     try clear hfz68_3
                     try clear hfz71_0
                     try clear hfz71_1
                     try clear hfz71_2
                     try clear hfz71_3
                     try clear hx26_0
                     try clear hx317_0
                     try clear hx317_1
                     try clear hx317_2
                     try clear hx317_3
                     try clear hx320_0
                     try clear hx320_1
                     try clear hx322_0
                     try clear hx322_1
                     try clear hx322_2
                     try clear hx322_3
                     try clear hx324_0
                     try clear hx325_0
                     try clear hx325_1
                     try clear hx325_2
                     try clear hx325_3
                     try clear hx326_0
                     try clear hx326_1
                     try clear hx326_2
                     try clear hx326_3
                     try clear hx327_0
                     try clear hx327_1
                     try clear hx327_2
                     try clear hx327_3
                     try clear hx328_0
                     try clear hx330_0
                     try clear hx330_1
                     try clear hx330_2
                     try clear hx330_3
                     try clear hx77_0
                     try clear p2
                     try clear p26
                     try clear p3
                     try clear p31
                     try clear p317
                     try clear p32
                     try clear p320
                     try clear p322
                     try clear p324
                     try clear p325
                     try clear p326
                     try clear p327
                     try clear p328
                     try clear p330
                     try clear p6
                     try clear p77
                     try clear q2
                     try clear q26
                     try clear q3
                     try clear q31
                     try clear q317
                     try clear q32
                     try clear q320
                     try clear q322
                     try clear q324
                     try clear q325
                     try clear q326
                     try clear q327
                     try clear q328
                     try clear q330
                     try clear q77
                     obtain ⟨kq, x11_72, x14_72, x21_72, rfl, rfl, HA, HJ72, HO_5, HO_7, HO_11, HO_68, BK321, HB⟩ := hcut
                     cases kq with
                     | zero => exact absurd HA.out (by simp [letterbaglaw30_ShiftUrgent.j6])
                     | succ kj72 =>
                      have H := HA.out
                      clear HA
                      simp only [letterbaglaw30_ShiftUrgent.j6] at H
                      replace H := Option.bind_eq_some_iff.mp H
                      obtain ⟨t331, A820, H⟩ := H
                      replace H : (if t331 = x21_72 then (letterbaglaw30_ShiftUrgent.l2 kj72 t302 t308 x11_72 x14_72 (wrap64 (x17_4 + 1)) t305 (t305.length : Int) x70_3 ((rd_T47 t305 x70_3).f0) ((rd_T47 t305 x70_3).f1)) else (some false)) = some true := H
                      have A82 := Aside0.mk A820
                      clear A820
                      by_cases c83 : t331 = x21_72
                      ·rw [if_pos c83] at H
                       have c83b0 : (t331 == x21_72) = true := beq_iff_eq.mpr c83
                       have c83b1 : (t331 != x21_72) = false := bne_eq_false_iff_eq.mpr c83
                       clear c83
                       have H' := Aside0.mk H
                       clear H
                       go_wp2_with ((go_at_call 19; (with_reducible refine (letterbaglaw30_running.calls kj72 _ _ t308 x17_4 t331 _ ?side1 ?side2 A82.out).mono ?_); (case side1 => repeat (exact (Kd.R_reads' HO_7.out).2.2)); (case side2 => exact (Kd.R_reads' HO_7.out).2.1); rintro e w84 ⟨rfl, hb⟩; have n0_ := Aside0.mk (Kd.R_below (by (with_reducible repeat (fail)); exact HO_5.out) hb); have n1_ := Aside0.mk (Kd.R_below (by (with_reducible repeat (fail)); exact HO_7.out) hb); have n2_ := Aside0.mk (Kd.R_below (by (with_reducible repeat (fail)); exact HO_11.out) hb); have n3_ := Aside0.mk (Kd.R_below (by (with_reducible repeat (fail)); exact HO_68.out) hb); have n4_ := Aside0.mk (blk_below (g := gb321) (o := .cells #[.int .i64 ((rd_T47 t305 x70_3).f0), .int .i64 ((rd_T47 t305 x70_3).f1)] 47 (0, 0)) (by (with_reducible repeat (fail)); exact BK321.out) hb); have n5_ := Aside0.mk (below_step (by repeat ((with_reducible exact HB.out))) hb); clear HO_5; clear HO_7; clear HO_11; clear HO_68; clear BK321; clear HB; have HO_5 := n0_; have HO_7 := n1_; have HO_11 := n2_; have HO_68 := n3_; have BK321 := n4_; have HB := n5_; clear n0_ n1_ n2_ n3_ n4_ n5_; (try clear hb); (try clear hb2); (try clear hk); (try clear hi)))
                       repeat (go_quiet (fail); try go_wp2_with (fail))
                       go_roundg kj72
                       case measure => have := HJ6.out; have := HK2.out; have := HK3.out; have := HK4.out; have := HK5.out; have := HJ72.out; omega
                       case rel => exact ⟨(x11_72), (x14_72), (wrap64 (x17_4 + 1)), (by rfl), (by rfl), H', ⟨by have := HJ6.out; have := HK2.out; have := HK3.out; have := HK4.out; have := HK5.out; have := HJ72.out; omega⟩, ⟨by (with_reducible repeat (fail)); exact HO_5.out⟩, ⟨by (with_reducible repeat (fail)); exact HO_7.out⟩, ⟨by (with_reducible repeat (fail)); exact HO_11.out⟩, ⟨by (with_reducible repeat (fail)); exact HO_68.out⟩, ⟨by (with_reducible repeat (fail)); exact BK321.out⟩, ⟨by repeat ((with_reducible exact HB.out))⟩⟩
                      ·rw [if_neg c83] at H
                       have c83b0 : (t331 == x21_72) = false := beq_eq_false_iff_ne.mpr c83
                       have c83b1 : (t331 != x21_72) = true := bne_iff_ne.mpr c83
                       exact absurd H (by simp)
                ·rw [if_neg c38] at H
                 have c38b0 : decide (x17_4 < ((rd_T47 t305 x70_3).f1)) = false := decide_eq_false c38
                 clear c38
                 have H' := Aside0.mk H
                 clear H
                 have hcz85_0 : wr.cell? ⟨gb321, 0, none⟩ = some (.int .i64 ((rd_T47 t305 x70_3).f0)) := (blk_cell BK321.out 0).trans rfl
                 have hcz85_1 : wr.cell? ⟨gb321, 1, none⟩ = some (.int .i64 ((rd_T47 t305 x70_3).f1)) := (blk_cell BK321.out 1).trans rfl
                 have hfz85_0 := blk_frozen BK321.out 0
                 have hfz85_1 := blk_frozen BK321.out 1
                 go_wp2
                 repeat (go_quiet (fail); try go_wp2)
                 go_loopg [22] k4 (fun kq v22 w' => ∃ (x22_5 : Int), v22 = .int .i64 x22_5 ∧ Aside0 (letterbaglaw30_ShiftUrgent.l4 kq t302 t308 x11_4 x14_4 x22_5 t305 (t305.length : Int) x70_3 ((rd_T47 t305 x70_3).f0) ((rd_T47 t305 x70_3).f1) = some true) ∧ Aside0 (kq ≤ k4) ∧ Aside0 (Kd.R k45 45 w' w.heap.size (fun _ => True) (.slice Ao10 t302.length co10) t302) ∧ Aside0 (Kd.R k51 51 w' w.heap.size (fun _ => True) (.slice Ao13 t308.length co13) t308) ∧ Aside0 (Kd.R (Kd.int .i64) 3 w' w.heap.size (fun _ => True) v315 x11_4) ∧ Aside0 (Kd.R k47 47 w' w.heap.size (fun k_ => k_ ≠ gb321) (.slice (some ad320) t305.length co11) t305) ∧ Aside0 (w'.heap[gb321]? = some (.cells #[.int .i64 ((rd_T47 t305 x70_3).f0), .int .i64 ((rd_T47 t305 x70_3).f1)] 47 (0, 0))) ∧ Aside0 (Below w.heap.size w w'))
                 case atStart => exact ⟨(1), (by rfl), H', ⟨Nat.le_refl _⟩, ⟨by (with_reducible repeat (fail)); exact HO_5.out⟩, ⟨by (with_reducible repeat (fail)); exact HO_7.out⟩, ⟨by (with_reducible repeat (fail)); exact HO_11.out⟩, ⟨by (with_reducible repeat (fail)); exact HO_68.out⟩, ⟨by (with_reducible repeat (fail)); exact BK321.out⟩, ⟨by repeat ((with_reducible exact HB.out))⟩⟩
                 case round => as_aux_lemma =>
                  clear H'
                  try clear c1
                  try clear c2
                  try clear p2
                  try clear q2
                  try clear hx2
                  try clear hf2
                  try clear c3
                  try clear p3
                  try clear q3
                  try clear hx3
                  try clear c4
                  try clear c5
                  try clear c6
                  try clear p6
                  try clear c7
                  try clear p7
                  try clear q7
                  try clear hx7
                  try clear hf7
                  try clear c8
                  try clear c15
                  try clear c15b0
                  try clear c15b1
                  try clear c16
                  try clear c16b0
                  try clear c16b1
                  try clear c17
                  try clear c18
                  try clear c18b0
                  try clear c18b1
                  try clear c19
                  try clear c19b0
                  try clear c19b1
                  try clear c22
                  try clear c22b0
                  try clear c23
                  try clear c23b0
                  try clear c24
                  try clear c24b0
                  try clear c25
                  try clear c25b0
                  try clear p26
                  try clear q26
                  try clear hx26
                  try clear hf26
                  try clear p31
                  try clear q31
                  try clear hx31
                  try clear p32
                  try clear q32
                  try clear hx32
                  try clear c33
                  try clear c33b0
                  try clear p33
                  try clear q33
                  try clear hx33
                  try clear c34
                  try clear c34b0
                  try clear c35
                  try clear c35b0
                  try clear c38
                  try clear c38b0
                  try clear c40
                  try clear c40b0
                  try clear c41
                  try clear c41b0
                  try clear c42
                  try clear c42b0
                  try clear c45
                  try clear c47
                  try clear c47b0
                  try clear c48
                  try clear c48b0
                  try clear c49
                  try clear c49b0
                  try clear c50
                  try clear c50b0
                  try clear c51
                  try clear c54
                  try clear c54b0
                  try clear c55
                  try clear c55b0
                  try clear c56
                  try clear c56b0
                  try clear c57
                  try clear c60
                  try clear c60b0
                  try clear c60b1
                  try clear c61
                  try clear c64
                  try clear p64
                  try clear c67
                  try clear c70
                  try clear c72
                  try clear c74
                  try clear c74b0
                  try clear c75
                  try clear c75b0
                  try clear c76
                  try clear c76b0
                  try clear p77
                  try clear q77
                  try clear hx77
                  try clear hf77
                  try clear c78
                  try clear c78b0
                  try clear c83
                  try clear c83b0
                  try clear c83b1
                  try clear hcz28_0
                  try clear hcz28_1
                  try clear hcz28_2
                  try clear hcz28_3
                  try clear hcz30_0
                  try clear hcz30_1
                  try clear hcz30_2
                  try clear hcz30_3
                  try clear hcz37_0
                  try clear hcz37_1
                  try clear hcz39_0
                  try clear hcz39_1
                  try clear hcz46_0
                  try clear hcz46_1
                  try clear hcz46_2
                  try clear hcz46_3
                  try clear hcz52_0
                  try clear hcz52_1
                  try clear hcz52_2
                  try clear hcz52_3
                  try clear hcz58_0
                  try clear hcz58_1
                  try clear hcz58_2
                  try clear hcz58_3
                  try clear hcz62_0
                  try clear hcz62_1
                  try clear hcz62_2
                  try clear hcz62_3
                  try clear hcz65_0
                  try clear hcz65_1
                  try clear hcz65_2
                  try clear hcz65_3
                  try clear hcz68_0
                  try clear hcz68_1
                  try clear hcz68_2
                  try clear hcz68_3
                  try clear hcz71_0
                  try clear hcz71_1
                  try clear hcz71_2
                  try clear hcz71_3
                  try clear hcz85_0
                  try clear hcz85_1
                  try clear hfz28_0
                  try clear hfz28_1
                  try clear hfz28_2
                  try clear hfz28_3
                  try clear hfz30_0
                  try clear hfz30_1
                  try clear hfz30_2
                  try clear hfz30_3
                  try clear hfz37_0
                  try clear hfz37_1
                  try clear hfz39_0
                  try clear hfz39_1
                  try clear hfz46_0
                  try clear hfz46_1
                  try clear hfz46_2
                  try clear hfz46_3
                  try clear hfz52_0
                  try clear hfz52_1
                  try clear hfz52_2
                  try clear hfz52_3
                  try clear hfz58_0
                  try clear hfz58_1
                  try clear hfz58_2
                  try clear hfz58_3
                  try clear hfz62_0
                  try clear hfz62_1
                  try clear hfz62_2
                  try clear hfz62_3
                  try clear hfz65_0
                  try clear hfz65_1
                  try clear hfz65_2
                  try clear hfz65_3
                  try clear hfz68_0
                  try clear hfz68_1
                  try clear hfz68_2
                  try clear hfz68_3
                  try clear hfz71_0
                  try clear hfz71_1
                  try clear hfz71_2
                  try clear hfz71_3
                  try clear hfz85_0
                  try clear hfz85_1
                  try clear hx26_0
                  try clear hx317_0
                  try clear hx317_1
                  try clear hx317_2
                  try clear hx317_3
                  try clear hx320_0
                  try clear hx320_1
                  try clear hx322_0
                  try clear hx322_1
                  try clear hx322_2
                  try clear hx322_3
                  try clear hx324_0
                  try clear hx325_0
                  try clear hx325_1
                  try clear hx325_2
                  try clear hx325_3
                  try clear hx326_0
                  try clear hx326_1
                  try clear hx326_2
                  try clear hx326_3
                  try clear hx327_0
                  try clear hx327_1
                  try clear hx327_2
                  try clear hx327_3
                  try clear hx328_0
                  try clear hx330_0
                  try clear hx330_1
                  try clear hx330_2
                  try clear hx330_3
                  try clear hx77_0
                  try clear p2
                  try clear p26
                  try clear p3
                  try clear p31
                  try clear p317
                  try clear p32
                  try clear p320
                  try clear p322
                  try clear p324
                  try clear p325
                  try clear p326
                  try clear p327
                  try clear p328
                  try clear p33
                  try clear p330
                  try clear p6
                  try clear p64
                  try clear p7
                  try clear p77
                  try clear q2
                  try clear q26
                  try clear q3
                  try clear q31
                  try clear q317
                  try clear q32
                  try clear q320
                  try clear q322
                  try clear q324
                  try clear q325
                  try clear q326
                  try clear q327
                  try clear q328
                  try clear q33
                  try clear q330
                  try clear q7
                  try clear q77
                  obtain ⟨x22_5, rfl, HA, HK5, HO_5, HO_7, HO_11, HO_68, BK321, HB⟩ := hrel
                  cases gk with
                  | zero => exact absurd HA.out (by simp [letterbaglaw30_ShiftUrgent.l4])
                  | succ k5 =>
                   have H := HA.out
                   clear HA
                   simp only [letterbaglaw30_ShiftUrgent.l4] at H
                   by_cases c86 : x22_5 < (t308.length : Int)
                   ·rw [if_pos c86] at H
                    have c86b0 : decide (x22_5 < (t308.length : Int)) = true := decide_eq_true c86
                    clear c86
                    have HC87 := Aside0.mk H
                    clear H
                    go_upto_region 36 with (fail)
                    repeat (go_quiet (fail); go_upto_region 36 with (fail))
                    go_cut [207] (fun v207 wc => ∃ (kq : Nat) (x207_86 : Bool), v207 = .bool x207_86 ∧ Aside0 (letterbaglaw30_ShiftUrgent.j8 kq t302 t308 x11_4 x14_4 x22_5 t305 (t305.length : Int) x70_3 x207_86 ((rd_T47 t305 x70_3).f0) ((rd_T47 t305 x70_3).f1) = some true) ∧ Aside0 (kq ≤ k5) ∧ Aside0 (Kd.R k45 45 wc w.heap.size (fun _ => True) (.slice Ao10 t302.length co10) t302) ∧ Aside0 (Kd.R k51 51 wc w.heap.size (fun _ => True) (.slice Ao13 t308.length co13) t308) ∧ Aside0 (Kd.R (Kd.int .i64) 3 wc w.heap.size (fun _ => True) v315 x11_4) ∧ Aside0 (Kd.R k47 47 wc w.heap.size (fun k_ => k_ ≠ gb321) (.slice (some ad320) t305.length co11) t305) ∧ Aside0 (wc.heap[gb321]? = some (.cells #[.int .i64 ((rd_T47 t305 x70_3).f0), .int .i64 ((rd_T47 t305 x70_3).f1)] 47 (0, 0))) ∧ Aside0 (Below w.heap.size w wc))
                    case first => as_aux_lemma =>
                     have H := HC87.out
                     clear HC87
                     by_cases c88 : 0 ≤ x22_5
                     ·rw [if_pos c88] at H
                      have c88b0 : decide (0 ≤ x22_5) = true := decide_eq_true c88
                      clear c88
                      (skip)
                      obtain ⟨ji89, hji89⟩ : ∃ j_ : Int, (wrap64 (x22_5 - 1)) = j_ := ⟨_, rfl⟩
                      replace H : (if 0 ≤ (ji89) then (if (ji89) < (t308.length : Int) then (if ((rd_T51 t308 x22_5).f0) = ((rd_T51 t308 (ji89)).f0) then (if ((rd_T51 t308 x22_5).f1) = ((rd_T51 t308 (ji89)).f2) then (if ((rd_T47 t305 x70_3).f0) < ((rd_T51 t308 x22_5).f1) then (letterbaglaw30_ShiftUrgent.j8 k5 t302 t308 x11_4 x14_4 x22_5 t305 (t305.length : Int) x70_3 (decide (((rd_T51 t308 x22_5).f1) < ((rd_T47 t305 x70_3).f1))) ((rd_T47 t305 x70_3).f0) ((rd_T47 t305 x70_3).f1)) else (letterbaglaw30_ShiftUrgent.j8 k5 t302 t308 x11_4 x14_4 x22_5 t305 (t305.length : Int) x70_3 false ((rd_T47 t305 x70_3).f0) ((rd_T47 t305 x70_3).f1))) else (letterbaglaw30_ShiftUrgent.j8 k5 t302 t308 x11_4 x14_4 x22_5 t305 (t305.length : Int) x70_3 false ((rd_T47 t305 x70_3).f0) ((rd_T47 t305 x70_3).f1))) else (letterbaglaw30_ShiftUrgent.j8 k5 t302 t308 x11_4 x14_4 x22_5 t305 (t305.length : Int) x70_3 false ((rd_T47 t305 x70_3).f0) ((rd_T47 t305 x70_3).f1))) else (none)) else (none)) = some true := by (rw [hji89] at H; exact H)
                      have hji89w : (IntKind.i64.wrap (x22_5 - 1)) = ji89 := (i64_w _).trans hji89
                      by_cases c90 : 0 ≤ (ji89)
                      ·rw [if_pos c90] at H
                       have c90b0 : decide (0 ≤ (ji89)) = true := decide_eq_true c90
                       clear c90
                       by_cases c91 : (ji89) < (t308.length : Int)
                       ·rw [if_pos c91] at H
                        have c91b0 : decide ((ji89) < (t308.length : Int)) = true := decide_eq_true c91
                        clear c91
                        by_cases c92 : ((rd_T51 t308 x22_5).f0) = ((rd_T51 t308 (ji89)).f0)
                        ·rw [if_pos c92] at H
                         have c92b0 : (((rd_T51 t308 x22_5).f0) == ((rd_T51 t308 (ji89)).f0)) = true := beq_iff_eq.mpr c92
                         have c92b1 : (((rd_T51 t308 x22_5).f0) != ((rd_T51 t308 (ji89)).f0)) = false := bne_eq_false_iff_eq.mpr c92
                         clear c92
                         by_cases c93 : ((rd_T51 t308 x22_5).f1) = ((rd_T51 t308 (ji89)).f2)
                         ·rw [if_pos c93] at H
                          have c93b0 : (((rd_T51 t308 x22_5).f1) == ((rd_T51 t308 (ji89)).f2)) = true := beq_iff_eq.mpr c93
                          have c93b1 : (((rd_T51 t308 x22_5).f1) != ((rd_T51 t308 (ji89)).f2)) = false := bne_eq_false_iff_eq.mpr c93
                          clear c93
                          by_cases c94 : ((rd_T47 t305 x70_3).f0) < ((rd_T51 t308 x22_5).f1)
                          ·rw [if_pos c94] at H
                           have c94b0 : decide (((rd_T47 t305 x70_3).f0) < ((rd_T51 t308 x22_5).f1)) = true := decide_eq_true c94
                           clear c94
                           have H' := Aside0.mk H
                           clear H
                           have p332 : 0 ≤ (x22_5 : Int) := of_decide_eq_true (by (with_reducible assumption))
                           have q332 : x22_5 < (t308.length : Int) := of_decide_eq_true (by (with_reducible assumption))
                           obtain ⟨ad332, e332, hx332_0, hx332_1, hx332_2⟩ := at_T51 (Kd.R_reads' HO_7.out).2.2 x22_5 p332 q332
                           cases e332
                           replace p332 := eq_true p332
                           replace q332 := eq_true q332
                           have p333 : 0 ≤ ((ji89) : Int) := of_decide_eq_true (by (with_reducible assumption))
                           have q333 : (ji89) < (t308.length : Int) := of_decide_eq_true (by (with_reducible assumption))
                           obtain ⟨ad333, e333, hx333_0, hx333_1, hx333_2⟩ := at_T51 (Kd.R_reads' HO_7.out).2.2 (ji89) p333 q333
                           obtain rfl : ad332 = ad333 := (by injection e333)
                           replace p333 := eq_true p333
                           replace q333 := eq_true q333
                           have p334 : 0 ≤ (x22_5 : Int) := of_decide_eq_true (by (with_reducible assumption))
                           have q334 : x22_5 < (t308.length : Int) := of_decide_eq_true (by (with_reducible assumption))
                           obtain ⟨ad334, e334, hx334_0, hx334_1, hx334_2⟩ := at_T51 (Kd.R_reads' HO_7.out).2.2 x22_5 p334 q334
                           obtain rfl : ad332 = ad334 := (by injection e334)
                           replace p334 := eq_true p334
                           replace q334 := eq_true q334
                           have p335 : 0 ≤ ((ji89) : Int) := of_decide_eq_true (by (with_reducible assumption))
                           have q335 : (ji89) < (t308.length : Int) := of_decide_eq_true (by (with_reducible assumption))
                           obtain ⟨ad335, e335, hx335_0, hx335_1, hx335_2⟩ := at_T51 (Kd.R_reads' HO_7.out).2.2 (ji89) p335 q335
                           obtain rfl : ad332 = ad335 := (by injection e335)
                           replace p335 := eq_true p335
                           replace q335 := eq_true q335
                           have hcz95_0 : wr.cell? ⟨gb321, 0, none⟩ = some (.int .i64 ((rd_T47 t305 x70_3).f0)) := (blk_cell BK321.out 0).trans rfl
                           have hcz95_1 : wr.cell? ⟨gb321, 1, none⟩ = some (.int .i64 ((rd_T47 t305 x70_3).f1)) := (blk_cell BK321.out 1).trans rfl
                           have hfz95_0 := blk_frozen BK321.out 0
                           have hfz95_1 := blk_frozen BK321.out 1
                           have p336 : 0 ≤ (x22_5 : Int) := of_decide_eq_true (by (with_reducible assumption))
                           have q336 : x22_5 < (t308.length : Int) := of_decide_eq_true (by (with_reducible assumption))
                           obtain ⟨ad336, e336, hx336_0, hx336_1, hx336_2⟩ := at_T51 (Kd.R_reads' HO_7.out).2.2 x22_5 p336 q336
                           obtain rfl : ad332 = ad336 := (by injection e336)
                           replace p336 := eq_true p336
                           replace q336 := eq_true q336
                           have p337 : 0 ≤ (x22_5 : Int) := of_decide_eq_true (by (with_reducible assumption))
                           have q337 : x22_5 < (t308.length : Int) := of_decide_eq_true (by (with_reducible assumption))
                           obtain ⟨ad337, e337, hx337_0, hx337_1, hx337_2⟩ := at_T51 (Kd.R_reads' HO_7.out).2.2 x22_5 p337 q337
                           obtain rfl : ad332 = ad337 := (by injection e337)
                           replace p337 := eq_true p337
                           replace q337 := eq_true q337
                           go_wp2
                           repeat (go_quiet (fail); try go_wp2)
                           go_meet
                           case rel => exact ⟨_, (decide (((rd_T51 t308 x22_5).f1) < ((rd_T47 t305 x70_3).f1))), (by rfl), H', ⟨by have := HJ6.out; have := HK2.out; have := HK3.out; have := HK4.out; have := HK5.out; omega⟩, ⟨by (with_reducible repeat (apply Kd.R_drewN)); exact HO_5.out⟩, ⟨by (with_reducible repeat (apply Kd.R_drewN)); exact HO_7.out⟩, ⟨by (with_reducible repeat (apply Kd.R_drewN)); exact HO_11.out⟩, ⟨by (with_reducible repeat (apply Kd.R_drewN)); exact HO_68.out⟩, ⟨by (with_reducible repeat (refine blk_drewN ?_ _)); exact BK321.out⟩, ⟨by repeat ((with_reducible first | exact HB.out | apply pw_below_drewN))⟩⟩
                          ·rw [if_neg c94] at H
                           have c94b0 : decide (((rd_T47 t305 x70_3).f0) < ((rd_T51 t308 x22_5).f1)) = false := decide_eq_false c94
                           clear c94
                           have H' := Aside0.mk H
                           clear H
                           have p332 : 0 ≤ (x22_5 : Int) := of_decide_eq_true (by (with_reducible assumption))
                           have q332 : x22_5 < (t308.length : Int) := of_decide_eq_true (by (with_reducible assumption))
                           obtain ⟨ad332, e332, hx332_0, hx332_1, hx332_2⟩ := at_T51 (Kd.R_reads' HO_7.out).2.2 x22_5 p332 q332
                           cases e332
                           replace p332 := eq_true p332
                           replace q332 := eq_true q332
                           have p333 : 0 ≤ ((ji89) : Int) := of_decide_eq_true (by (with_reducible assumption))
                           have q333 : (ji89) < (t308.length : Int) := of_decide_eq_true (by (with_reducible assumption))
                           obtain ⟨ad333, e333, hx333_0, hx333_1, hx333_2⟩ := at_T51 (Kd.R_reads' HO_7.out).2.2 (ji89) p333 q333
                           obtain rfl : ad332 = ad333 := (by injection e333)
                           replace p333 := eq_true p333
                           replace q333 := eq_true q333
                           have p334 : 0 ≤ (x22_5 : Int) := of_decide_eq_true (by (with_reducible assumption))
                           have q334 : x22_5 < (t308.length : Int) := of_decide_eq_true (by (with_reducible assumption))
                           obtain ⟨ad334, e334, hx334_0, hx334_1, hx334_2⟩ := at_T51 (Kd.R_reads' HO_7.out).2.2 x22_5 p334 q334
                           obtain rfl : ad332 = ad334 := (by injection e334)
                           replace p334 := eq_true p334
                           replace q334 := eq_true q334
                           have p335 : 0 ≤ ((ji89) : Int) := of_decide_eq_true (by (with_reducible assumption))
                           have q335 : (ji89) < (t308.length : Int) := of_decide_eq_true (by (with_reducible assumption))
                           obtain ⟨ad335, e335, hx335_0, hx335_1, hx335_2⟩ := at_T51 (Kd.R_reads' HO_7.out).2.2 (ji89) p335 q335
                           obtain rfl : ad332 = ad335 := (by injection e335)
                           replace p335 := eq_true p335
                           replace q335 := eq_true q335
                           have hcz96_0 : wr.cell? ⟨gb321, 0, none⟩ = some (.int .i64 ((rd_T47 t305 x70_3).f0)) := (blk_cell BK321.out 0).trans rfl
                           have hcz96_1 : wr.cell? ⟨gb321, 1, none⟩ = some (.int .i64 ((rd_T47 t305 x70_3).f1)) := (blk_cell BK321.out 1).trans rfl
                           have hfz96_0 := blk_frozen BK321.out 0
                           have hfz96_1 := blk_frozen BK321.out 1
                           have p336 : 0 ≤ (x22_5 : Int) := of_decide_eq_true (by (with_reducible assumption))
                           have q336 : x22_5 < (t308.length : Int) := of_decide_eq_true (by (with_reducible assumption))
                           obtain ⟨ad336, e336, hx336_0, hx336_1, hx336_2⟩ := at_T51 (Kd.R_reads' HO_7.out).2.2 x22_5 p336 q336
                           obtain rfl : ad332 = ad336 := (by injection e336)
                           replace p336 := eq_true p336
                           replace q336 := eq_true q336
                           go_wp2
                           repeat (go_quiet (fail); try go_wp2)
                           go_meet
                           case rel => exact ⟨_, (false), (by rfl), H', ⟨by have := HJ6.out; have := HK2.out; have := HK3.out; have := HK4.out; have := HK5.out; omega⟩, ⟨by (with_reducible repeat (apply Kd.R_drewN)); exact HO_5.out⟩, ⟨by (with_reducible repeat (apply Kd.R_drewN)); exact HO_7.out⟩, ⟨by (with_reducible repeat (apply Kd.R_drewN)); exact HO_11.out⟩, ⟨by (with_reducible repeat (apply Kd.R_drewN)); exact HO_68.out⟩, ⟨by (with_reducible repeat (refine blk_drewN ?_ _)); exact BK321.out⟩, ⟨by repeat ((with_reducible first | exact HB.out | apply pw_below_drewN))⟩⟩
                         ·rw [if_neg c93] at H
                          have c93b0 : (((rd_T51 t308 x22_5).f1) == ((rd_T51 t308 (ji89)).f2)) = false := beq_eq_false_iff_ne.mpr c93
                          have c93b1 : (((rd_T51 t308 x22_5).f1) != ((rd_T51 t308 (ji89)).f2)) = true := bne_iff_ne.mpr c93
                          have H' := Aside0.mk H
                          clear H
                          have p332 : 0 ≤ (x22_5 : Int) := of_decide_eq_true (by (with_reducible assumption))
                          have q332 : x22_5 < (t308.length : Int) := of_decide_eq_true (by (with_reducible assumption))
                          obtain ⟨ad332, e332, hx332_0, hx332_1, hx332_2⟩ := at_T51 (Kd.R_reads' HO_7.out).2.2 x22_5 p332 q332
                          cases e332
                          replace p332 := eq_true p332
                          replace q332 := eq_true q332
                          have p333 : 0 ≤ ((ji89) : Int) := of_decide_eq_true (by (with_reducible assumption))
                          have q333 : (ji89) < (t308.length : Int) := of_decide_eq_true (by (with_reducible assumption))
                          obtain ⟨ad333, e333, hx333_0, hx333_1, hx333_2⟩ := at_T51 (Kd.R_reads' HO_7.out).2.2 (ji89) p333 q333
                          obtain rfl : ad332 = ad333 := (by injection e333)
                          replace p333 := eq_true p333
                          replace q333 := eq_true q333
                          have p334 : 0 ≤ (x22_5 : Int) := of_decide_eq_true (by (with_reducible assumption))
                          have q334 : x22_5 < (t308.length : Int) := of_decide_eq_true (by (with_reducible assumption))
                          obtain ⟨ad334, e334, hx334_0, hx334_1, hx334_2⟩ := at_T51 (Kd.R_reads' HO_7.out).2.2 x22_5 p334 q334
                          obtain rfl : ad332 = ad334 := (by injection e334)
                          replace p334 := eq_true p334
                          replace q334 := eq_true q334
                          have p335 : 0 ≤ ((ji89) : Int) := of_decide_eq_true (by (with_reducible assumption))
                          have q335 : (ji89) < (t308.length : Int) := of_decide_eq_true (by (with_reducible assumption))
                          obtain ⟨ad335, e335, hx335_0, hx335_1, hx335_2⟩ := at_T51 (Kd.R_reads' HO_7.out).2.2 (ji89) p335 q335
                          obtain rfl : ad332 = ad335 := (by injection e335)
                          replace p335 := eq_true p335
                          replace q335 := eq_true q335
                          go_wp2
                          repeat (go_quiet (fail); try go_wp2)
                          go_meet
                          case rel => exact ⟨_, (false), (by rfl), H', ⟨by have := HJ6.out; have := HK2.out; have := HK3.out; have := HK4.out; have := HK5.out; omega⟩, ⟨by (with_reducible repeat (apply Kd.R_drewN)); exact HO_5.out⟩, ⟨by (with_reducible repeat (apply Kd.R_drewN)); exact HO_7.out⟩, ⟨by (with_reducible repeat (apply Kd.R_drewN)); exact HO_11.out⟩, ⟨by (with_reducible repeat (apply Kd.R_drewN)); exact HO_68.out⟩, ⟨by (with_reducible repeat (refine blk_drewN ?_ _)); exact BK321.out⟩, ⟨by repeat ((with_reducible first | exact HB.out | apply pw_below_drewN))⟩⟩
                        ·rw [if_neg c92] at H
                         have c92b0 : (((rd_T51 t308 x22_5).f0) == ((rd_T51 t308 (ji89)).f0)) = false := beq_eq_false_iff_ne.mpr c92
                         have c92b1 : (((rd_T51 t308 x22_5).f0) != ((rd_T51 t308 (ji89)).f0)) = true := bne_iff_ne.mpr c92
                         have H' := Aside0.mk H
                         clear H
                         have p332 : 0 ≤ (x22_5 : Int) := of_decide_eq_true (by (with_reducible assumption))
                         have q332 : x22_5 < (t308.length : Int) := of_decide_eq_true (by (with_reducible assumption))
                         obtain ⟨ad332, e332, hx332_0, hx332_1, hx332_2⟩ := at_T51 (Kd.R_reads' HO_7.out).2.2 x22_5 p332 q332
                         cases e332
                         replace p332 := eq_true p332
                         replace q332 := eq_true q332
                         have p333 : 0 ≤ ((ji89) : Int) := of_decide_eq_true (by (with_reducible assumption))
                         have q333 : (ji89) < (t308.length : Int) := of_decide_eq_true (by (with_reducible assumption))
                         obtain ⟨ad333, e333, hx333_0, hx333_1, hx333_2⟩ := at_T51 (Kd.R_reads' HO_7.out).2.2 (ji89) p333 q333
                         obtain rfl : ad332 = ad333 := (by injection e333)
                         replace p333 := eq_true p333
                         replace q333 := eq_true q333
                         go_wp2
                         repeat (go_quiet (fail); try go_wp2)
                         go_meet
                         case rel => exact ⟨_, (false), (by rfl), H', ⟨by have := HJ6.out; have := HK2.out; have := HK3.out; have := HK4.out; have := HK5.out; omega⟩, ⟨by (with_reducible repeat (apply Kd.R_drewN)); exact HO_5.out⟩, ⟨by (with_reducible repeat (apply Kd.R_drewN)); exact HO_7.out⟩, ⟨by (with_reducible repeat (apply Kd.R_drewN)); exact HO_11.out⟩, ⟨by (with_reducible repeat (apply Kd.R_drewN)); exact HO_68.out⟩, ⟨by (with_reducible repeat (refine blk_drewN ?_ _)); exact BK321.out⟩, ⟨by repeat ((with_reducible first | exact HB.out | apply pw_below_drewN))⟩⟩
                       ·rw [if_neg c91] at H
                        exact absurd H (by simp)
                      ·rw [if_neg c90] at H
                       exact absurd H (by simp)
                     ·rw [if_neg c88] at H
                      exact absurd H (by simp)
                    case rest => as_aux_lemma =>
                     clear HC87
                     try clear c1
                     try clear c2
                     try clear p2
                     try clear q2
                     try clear hx2
                     try clear hf2
                     try clear c3
                     try clear p3
                     try clear q3
                     try clear hx3
                     try clear c4
                     try clear c5
                     try clear c6
                     try clear p6
                     try clear c7
                     try clear p7
                     try clear q7
                     try clear hx7
                     try clear hf7
                     try clear c8
                     try clear c9
                     try clear c15
                     try clear c15b0
                     try clear c15b1
                     try clear c16
                     try clear c16b0
                     try clear c16b1
                     try clear c17
                     try clear c18
                     try clear c18b0
                     try clear c18b1
                     try clear c19
                     try clear c19b0
                     try clear c19b1
                     try clear c22
                     try clear c22b0
                     try clear c23
                     try clear c23b0
                     try clear c24
                     try clear c24b0
                     try clear c25
                     try clear c25b0
                     try clear p26
                     try clear q26
                     try clear hx26
                     try clear hf26
                     try clear p31
                     try clear q31
                     try clear hx31
                     try clear p32
                     try clear q32
                     try clear hx32
                     try clear c33
                     try clear c33b0
                     try clear p33
                     try clear q33
                     try clear hx33
                     try clear c34
                     try clear c34b0
                     try clear c35
                     try clear c35b0
                     try clear c38
                     try clear c38b0
                     try clear c40
                     try clear c40b0
                     try clear c41
                     try clear c41b0
                     try clear c42
                     try clear c42b0
                     try clear c45
                     try clear c47
                     try clear c47b0
                     try clear c48
                     try clear c48b0
                     try clear c49
                     try clear c49b0
                     try clear c50
                     try clear c50b0
                     try clear c51
                     try clear c54
                     try clear c54b0
                     try clear c55
                     try clear c55b0
                     try clear c56
                     try clear c56b0
                     try clear c57
                     try clear c60
                     try clear c60b0
                     try clear c60b1
                     try clear c61
                     try clear c64
                     try clear p64
                     try clear c67
                     try clear c70
                     try clear c72
                     try clear c74
                     try clear c74b0
                     try clear c75
                     try clear c75b0
                     try clear c76
                     try clear c76b0
                     try clear p77
                     try clear q77
                     try clear hx77
                     try clear hf77
                     try clear c78
                     try clear c78b0
                     try clear c83
                     try clear c83b0
                     try clear c83b1
                     try clear c86
                     try clear c86b0
                     try clear c88
                     try clear c88b0
                     try clear c90
                     try clear c90b0
                     try clear c91
                     try clear c91b0
                     try clear c92
                     try clear c92b0
                     try clear c92b1
                     try clear c93
                     try clear c93b0
                     try clear c93b1
                     try clear c94
                     try clear c94b0
                     try clear hcz28_0
                     try clear hcz28_1
                     try clear hcz28_2
                     try clear hcz28_3
                     try clear hcz30_0
                     try clear hcz30_1
                     try clear hcz30_2
                     try clear hcz30_3
                     try clear hcz37_0
                     try clear hcz37_1
                     try clear hcz39_0
                     try clear hcz39_1
                     try clear hcz46_0
                     try clear hcz46_1
                     try clear hcz46_2
                     try clear hcz46_3
                     try clear hcz52_0
                     try clear hcz52_1
                     try clear hcz52_2
                     try clear hcz52_3
                     try clear hcz58_0
                     try clear hcz58_1
                     try clear hcz58_2
                     try clear hcz58_3
                     try clear hcz62_0
                     try clear hcz62_1
                     try clear hcz62_2
                     try clear hcz62_3
                     try clear hcz65_0
                     try clear hcz65_1
                     try clear hcz65_2
                     try clear hcz65_3
                     try clear hcz68_0
                     try clear hcz68_1
                     try clear hcz68_2
                     try clear hcz68_3
                     try clear hcz71_0
                     try clear hcz71_1
                     try clear hcz71_2
                     try clear hcz71_3
                     try clear hcz85_0
                     try clear hcz85_1
                     try clear hcz95_0
                     try clear hcz95_1
                     try clear hcz96_0
                     try clear hcz96_1
                     try clear hfz28_0
                     try clear hfz28_1
                     try clear hfz28_2
                     try clear hfz28_3
                     try clear hfz30_0
                     try clear hfz30_1
                     try clear hfz30_2
                     try clear hfz30_3
                     try clear hfz37_0
                     try clear hfz37_1
                     try clear hfz39_0
                     try clear hfz39_1
                     try clear hfz46_0
                     try clear hfz46_1
                     try clear hfz46_2
                     try clear hfz46_3
                     try clear hfz52_0
                     try clear hfz52_1
                     try clear hfz52_2
                     try clear hfz52_3
                     try clear hfz58_0
                     try clear hfz58_1
                     try clear hfz58_2
                     try clear hfz58_3
                     try clear hfz62_0
                     try clear hfz62_1
                     try clear hfz62_2
                     try clear hfz62_3
                     try clear hfz65_0
                     try clear hfz65_1
                     try clear hfz65_2
                     try clear hfz65_3
                     try clear hfz68_0
                     try clear hfz68_1
                     try clear hfz68_2
                     try clear hfz68_3
                     try clear hfz71_0
                     try clear hfz71_1
                     try clear hfz71_2
                     try clear hfz71_3
                     try clear hfz85_0
                     try clear hfz85_1
                     try clear hfz95_0
                     try clear hfz95_1
                     try clear hfz96_0
                     try clear hfz96_1
                     try clear hx26_0
                     try clear hx317_0
                     try clear hx317_1
                     try clear hx317_2
                     try clear hx317_3
                     try clear hx320_0
                     try clear hx320_1
                     try clear hx322_0
                     try clear hx322_1
                     try clear hx322_2
                     try clear hx322_3
                     try clear hx324_0
                     try clear hx325_0
                     try clear hx325_1
                     try clear hx325_2
                     try clear hx325_3
                     try clear hx326_0
                     try clear hx326_1
                     try clear hx326_2
                     try clear hx326_3
                     try clear hx327_0
                     try clear hx327_1
                     try clear hx327_2
                     try clear hx327_3
                     try clear hx328_0
                     try clear hx330_0
                     try clear hx330_1
                     try clear hx330_2
                     try clear hx330_3
                     try clear hx332_0
                     try clear hx332_1
                     try clear hx332_2
                     try clear hx333_0
                     try clear hx333_1
                     try clear hx333_2
                     try clear hx334_0
                     try clear hx334_1
                     try clear hx334_2
                     try clear hx335_0
                     try clear hx335_1
                     try clear hx335_2
                     try clear hx336_0
                     try clear hx336_1
                     try clear hx336_2
                     try clear hx337_0
                     try clear hx337_1
                     try clear hx337_2
                     try clear hx77_0
                     try clear p2
                     try clear p26
                     try clear p3
                     try clear p31
                     try clear p317
                     try clear p32
                     try clear p320
                     try clear p322
                     try clear p324
                     try clear p325
                     try clear p326
                     try clear p327
                     try clear p328
                     try clear p33
                     try clear p330
                     try clear p332
                     try clear p333
                     try clear p334
                     try clear p335
                     try clear p336
                     try clear p337
                     try clear p6
                     try clear p64
                     try clear p7
                     try clear p77
                     try clear q2
                     try clear q26
                     try clear q3
                     try clear q31
                     try clear q317
                     try clear q32
                     try clear q320
                     try clear q322
                     try clear q324
                     try clear q325
                     try clear q326
                     try clear q327
                     try clear q328
                     try clear q33
                     try clear q330
                     try clear q332
                     try clear q333
                     try clear q334
                     try clear q335
                     try clear q336
                     try clear q337
                     try clear q7
                     try clear q77
                     obtain ⟨kq, x207_86, rfl, HA, HJ86, HO_5, HO_7, HO_11, HO_68, BK321, HB⟩ := hcut
                     cases kq with
                     | zero => exact absurd HA.out (by simp [letterbaglaw30_ShiftUrgent.j8])
                     | succ kj86 =>
                      have H := HA.out
                      clear HA
                      simp only [letterbaglaw30_ShiftUrgent.j8] at H
                      by_cases c97 : x207_86 = true
                      ·subst c97
                       have H1 : (some false) = some true := by rw [if_pos rfl] at H; exact H
                       clear H
                       have H := H1
                       clear H1
                       exact absurd H (by simp)
                      ·replace c97 := Bool.eq_false_iff.mpr c97
                       subst c97
                       have H1 : (letterbaglaw30_ShiftUrgent.l4 kj86 t302 t308 x11_4 x14_4 (wrap64 (x22_5 + 1)) t305 (t305.length : Int) x70_3 ((rd_T47 t305 x70_3).f0) ((rd_T47 t305 x70_3).f1)) = some true := by rw [if_neg (show ¬ (false = true) by decide)] at H; exact H
                       clear H
                       have H := H1
                       clear H1
                       have H' := Aside0.mk H
                       clear H
                       go_wp2
                       repeat (go_quiet (fail); try go_wp2)
                       go_roundg kj86
                       case measure => have := HJ6.out; have := HK2.out; have := HK3.out; have := HK4.out; have := HK5.out; have := HJ86.out; omega
                       case rel => exact ⟨(wrap64 (x22_5 + 1)), (by rfl), H', ⟨by have := HJ6.out; have := HK2.out; have := HK3.out; have := HK4.out; have := HK5.out; have := HJ86.out; omega⟩, ⟨by (with_reducible repeat (fail)); exact HO_5.out⟩, ⟨by (with_reducible repeat (fail)); exact HO_7.out⟩, ⟨by (with_reducible repeat (fail)); exact HO_11.out⟩, ⟨by (with_reducible repeat (fail)); exact HO_68.out⟩, ⟨by (with_reducible repeat (fail)); exact BK321.out⟩, ⟨by repeat ((with_reducible exact HB.out))⟩⟩
                   ·rw [if_neg c86] at H
                    have c86b0 : decide (x22_5 < (t308.length : Int)) = false := decide_eq_false c86
                    clear c86
                    have H' := Aside0.mk H
                    clear H
                    go_wp2
                    repeat (go_quiet (fail); try go_wp2)
                    go_roundg k5
                    case measure => have := HJ6.out; have := HK2.out; have := HK3.out; have := HK4.out; have := HK5.out; omega
                    case rel => exact ⟨(x11_4), (x14_4), (wrap64 (x70_3 + 1)), (by rfl), (by rfl), H', ⟨by have := HJ6.out; have := HK2.out; have := HK3.out; have := HK4.out; have := HK5.out; omega⟩, ⟨by (with_reducible repeat (fail)); exact HO_5.out⟩, ⟨by (with_reducible repeat (fail)); exact HO_7.out⟩, ⟨by (with_reducible repeat (fail)); exact HO_11.out⟩, ⟨by (with_reducible repeat (fail)); exact Kd.R_mono HO_68.out (fun _ hk => trivial)⟩, ⟨by repeat ((with_reducible exact HB.out))⟩⟩
             ·rw [if_neg c35] at H
              exact absurd H (by simp)
            ·rw [if_neg c34] at H
             exact absurd H (by simp)
           ·rw [if_neg c33] at H
            have c33b0 : decide (x70_3 < (t305.length : Int)) = false := decide_eq_false c33
            clear c33
            have H' := Aside0.mk H
            clear H
            go_wp2
            repeat (go_quiet (fail); try go_wp2)
            go_loopg [14, 211] k3 (fun kq v14 v211 w' => ∃ (x14_4 : Int) (x211_4 : Int), v14 = .int .i64 x14_4 ∧ v211 = .int .i64 x211_4 ∧ Aside0 (letterbaglaw30_ShiftUrgent.l5 kq x14_4 t308 (t308.length : Int) x211_4 = some true) ∧ Aside0 (kq ≤ k3) ∧ Aside0 (Kd.R k51 51 w' w.heap.size (fun _ => True) (.slice Ao13 t308.length co13) t308) ∧ Aside0 (Below w.heap.size w w'))
            case atStart => exact ⟨(x14_3), (0), (by rfl), (by rfl), H', ⟨Nat.le_refl _⟩, ⟨by (with_reducible repeat (fail)); exact HO_7.out⟩, ⟨by repeat ((with_reducible exact HB.out))⟩⟩
            case round => as_aux_lemma =>
             clear H'
             try clear c1
             try clear c2
             try clear p2
             try clear q2
             try clear hx2
             try clear hf2
             try clear c3
             try clear p3
             try clear q3
             try clear hx3
             try clear c4
             try clear c5
             try clear c6
             try clear p6
             try clear c7
             try clear p7
             try clear q7
             try clear hx7
             try clear hf7
             try clear c8
             try clear c9
             try clear c15
             try clear c15b0
             try clear c15b1
             try clear c16
             try clear c16b0
             try clear c16b1
             try clear c17
             try clear c18
             try clear c18b0
             try clear c18b1
             try clear c19
             try clear c19b0
             try clear c19b1
             try clear c22
             try clear c22b0
             try clear c23
             try clear c23b0
             try clear c24
             try clear c24b0
             try clear c25
             try clear c25b0
             try clear p26
             try clear q26
             try clear hx26
             try clear hf26
             try clear p31
             try clear q31
             try clear hx31
             try clear p32
             try clear q32
             try clear hx32
             try clear c33
             try clear c33b0
             try clear p33
             try clear q33
             try clear hx33
             try clear c34
             try clear c34b0
             try clear c35
             try clear c35b0
             try clear c38
             try clear c38b0
             try clear c40
             try clear c40b0
             try clear c41
             try clear c41b0
             try clear c42
             try clear c42b0
             try clear c45
             try clear c47
             try clear c47b0
             try clear c48
             try clear c48b0
             try clear c49
             try clear c49b0
             try clear c50
             try clear c50b0
             try clear c51
             try clear c54
             try clear c54b0
             try clear c55
             try clear c55b0
             try clear c56
             try clear c56b0
             try clear c57
             try clear c60
             try clear c60b0
             try clear c60b1
             try clear c61
             try clear c64
             try clear p64
             try clear c67
             try clear c70
             try clear c72
             try clear c74
             try clear c74b0
             try clear c75
             try clear c75b0
             try clear c76
             try clear c76b0
             try clear p77
             try clear q77
             try clear hx77
             try clear hf77
             try clear c78
             try clear c78b0
             try clear c83
             try clear c83b0
             try clear c83b1
             try clear c86
             try clear c86b0
             try clear c88
             try clear c88b0
             try clear c90
             try clear c90b0
             try clear c91
             try clear c91b0
             try clear c92
             try clear c92b0
             try clear c92b1
             try clear c93
             try clear c93b0
             try clear c93b1
             try clear c94
             try clear c94b0
             try clear c97
             try clear hcz28_0
             try clear hcz28_1
             try clear hcz28_2
             try clear hcz28_3
             try clear hcz30_0
             try clear hcz30_1
             try clear hcz30_2
             try clear hcz30_3
             try clear hcz37_0
             try clear hcz37_1
             try clear hcz39_0
             try clear hcz39_1
             try clear hcz46_0
             try clear hcz46_1
             try clear hcz46_2
             try clear hcz46_3
             try clear hcz52_0
             try clear hcz52_1
             try clear hcz52_2
             try clear hcz52_3
             try clear hcz58_0
             try clear hcz58_1
             try clear hcz58_2
             try clear hcz58_3
             try clear hcz62_0
             try clear hcz62_1
             try clear hcz62_2
             try clear hcz62_3
             try clear hcz65_0
             try clear hcz65_1
             try clear hcz65_2
             try clear hcz65_3
             try clear hcz68_0
             try clear hcz68_1
             try clear hcz68_2
             try clear hcz68_3
             try clear hcz71_0
             try clear hcz71_1
             try clear hcz71_2
             try clear hcz71_3
             try clear hcz85_0
             try clear hcz85_1
             try clear hcz95_0
             try clear hcz95_1
             try clear hcz96_0
             try clear hcz96_1
             try clear hfz28_0
             try clear hfz28_1
             try clear hfz28_2
             try clear hfz28_3
             try clear hfz30_0
             try clear hfz30_1
             try clear hfz30_2
             try clear hfz30_3
             try clear hfz37_0
             try clear hfz37_1
             try clear hfz39_0
             try clear hfz39_1
             try clear hfz46_0
             try clear hfz46_1
             try clear hfz46_2
             try clear hfz46_3
             try clear hfz52_0
             try clear hfz52_1
             try clear hfz52_2
             try clear hfz52_3
             try clear hfz58_0
             try clear hfz58_1
             try clear hfz58_2
             try clear hfz58_3
             try clear hfz62_0
             try clear hfz62_1
             try clear hfz62_2
             try clear hfz62_3
             try clear hfz65_0
             try clear hfz65_1
             try clear hfz65_2
             try clear hfz65_3
             try clear hfz68_0
             try clear hfz68_1
             try clear hfz68_2
             try clear hfz68_3
             try clear hfz71_0
             try clear hfz71_1
             try clear hfz71_2
             try clear hfz71_3
             try clear hfz85_0
             try clear hfz85_1
             try clear hfz95_0
             try clear hfz95_1
             try clear hfz96_0
             try clear hfz96_1
             try clear hx26_0
             try clear hx317_0
             try clear hx317_1
             try clear hx317_2
             try clear hx317_3
             try clear hx320_0
             try clear hx320_1
             try clear hx322_0
             try clear hx322_1
             try clear hx322_2
             try clear hx322_3
             try clear hx324_0
             try clear hx325_0
             try clear hx325_1
             try clear hx325_2
             try clear hx325_3
             try clear hx326_0
             try clear hx326_1
             try clear hx326_2
             try clear hx326_3
             try clear hx327_0
             try clear hx327_1
             try clear hx327_2
             try clear hx327_3
             try clear hx328_0
             try clear hx330_0
             try clear hx330_1
             try clear hx330_2
             try clear hx330_3
             try clear hx332_0
             try clear hx332_1
             try clear hx332_2
             try clear hx333_0
             try clear hx333_1
             try clear hx333_2
             try clear hx334_0
             try clear hx334_1
             try clear hx334_2
             try clear hx335_0
             try clear hx335_1
             try clear hx335_2
             try clear hx336_0
             try clear hx336_1
             try clear hx336_2
             try clear hx337_0
             try clear hx337_1
             try clear hx337_2
             try clear hx77_0
             try clear p2
             try clear p26
             try clear p3
             try clear p31
             try clear p317
             try clear p32
             try clear p320
             try clear p322
             try clear p324
             try clear p325
             try clear p326
             try clear p327
             try clear p328
             try clear p33
             try clear p330
             try clear p332
             try clear p333
             try clear p334
             try clear p335
             try clear p336
             try clear p337
             try clear p6
             try clear p64
             try clear p7
             try clear p77
             try clear q2
             try clear q26
             try clear q3
             try clear q31
             try clear q317
             try clear q32
             try clear q320
             try clear q322
             try clear q324
             try clear q325
             try clear q326
             try clear q327
             try clear q328
             try clear q33
             try clear q330
             try clear q332
             try clear q333
             try clear q334
             try clear q335
             try clear q336
             try clear q337
             try clear q7
             try clear q77
             obtain ⟨x14_4, x211_4, rfl, rfl, HA, HK4, HO_209, HB⟩ := hrel
             cases gk with
             | zero => exact absurd HA.out (by simp [letterbaglaw30_ShiftUrgent.l5])
             | succ k4 =>
              have H := HA.out
              clear HA
              simp only [letterbaglaw30_ShiftUrgent.l5] at H
              by_cases c98 : x211_4 < (t308.length : Int)
              ·rw [if_pos c98] at H
               have c98b0 : decide (x211_4 < (t308.length : Int)) = true := decide_eq_true c98
               clear c98
               by_cases c99 : 0 ≤ x211_4
               ·rw [if_pos c99] at H
                have c99b0 : decide (0 ≤ x211_4) = true := decide_eq_true c99
                clear c99
                by_cases c100 : x211_4 < (t308.length : Int)
                ·rw [if_pos c100] at H
                 have c100b0 : decide (x211_4 < (t308.length : Int)) = true := decide_eq_true c100
                 clear c100
                 have H' := Aside0.mk H
                 clear H
                 have p338 : 0 ≤ (x211_4 : Int) := of_decide_eq_true (by (with_reducible assumption))
                 have q338 : x211_4 < (t308.length : Int) := of_decide_eq_true (by (with_reducible assumption))
                 obtain ⟨ad338, e338, hx338_0, hx338_1, hx338_2⟩ := at_T51 (Kd.R_reads' HO_209.out).2.2 x211_4 p338 q338
                 cases e338
                 replace p338 := eq_true p338
                 replace q338 := eq_true q338
                 go_wp2_with (((with_reducible refine gate_dst (N := 24) rfl ?_); refine box_event ?hg (N := 24) ?hd (cs := #[.int .i64 0, .int .i64 0, .int .i64 0]) (t := 51) ?hr ?_; (case hd => rfl); (case hg => rfl); (case hr => (go_simp; done)); intro gb339 hg w101 hbox hb; have n0_ := Aside0.mk (Kd.R_below (Kd.R_elderB (by (with_reducible repeat (fail)); exact HO_209.out) gb339 (Nat.le_of_eq hg.symm)) hb); have n1_ := Aside0.mk (below_step (by repeat ((with_reducible exact HB.out))) hb); have n2_ := Aside0.mk (hbox); have n3_ := Aside0.mk ((by rw [hg]; exact (below_size (by repeat ((with_reducible exact HB.out)))) : w.heap.size ≤ gb339)); have n4_ := Aside0.mk ((by rw [hg]; exact (below_size (by repeat ((with_reducible exact HB.out)))) : w.heap.size ≤ gb339)); clear HO_209; clear HB; have HO_209 := n0_; have HB := n1_; have BK339 := n2_; have GW339 := n3_; have GE339 := n4_; clear n0_ n1_ n2_ n3_ n4_; clear hb hbox hg; have hcz102_0 : w101.cell? ⟨gb339, 0, none⟩ = some (.int .i64 0) := (blk_cell BK339.out 0).trans rfl; have hcz102_1 : w101.cell? ⟨gb339, 1, none⟩ = some (.int .i64 0) := (blk_cell BK339.out 1).trans rfl; have hcz102_2 : w101.cell? ⟨gb339, 2, none⟩ = some (.int .i64 0) := (blk_cell BK339.out 2).trans rfl; have hfz102_0 := blk_frozen BK339.out 0; have hfz102_1 := blk_frozen BK339.out 1; have hfz102_2 := blk_frozen BK339.out 2))
                 repeat (go_quiet (fail); try go_wp2_with (fail))
                 go_roundg k4
                 case measure => have := HJ6.out; have := HK2.out; have := HK3.out; have := HK4.out; omega
                 case rel => exact ⟨(wrap64 (x14_4 - (wrap64 (((rd_T51 t308 x211_4).f2) - ((rd_T51 t308 x211_4).f1))))), (wrap64 (x211_4 + 1)), (by rfl), (by rfl), H', ⟨by have := HJ6.out; have := HK2.out; have := HK3.out; have := HK4.out; omega⟩, ⟨by (with_reducible repeat (fail)); exact Kd.R_mono (Kd.R_far (p := ⟨gb339, 2, none⟩) (Kd.R_far (p := ⟨gb339, 1, none⟩) (Kd.R_far (p := ⟨gb339, 0, none⟩) (Kd.R_mono HO_209.out (fun k_ hk => (⟨hk, hk.2⟩ : _ ∧ k_ ≠ gb339))) (fun _ hk => hk.2) (.int .i64 ((rd_T51 t308 x211_4).f0))) (fun _ hk => hk.2) (.int .i64 ((rd_T51 t308 x211_4).f1))) (fun _ hk => hk.2) (.int .i64 ((rd_T51 t308 x211_4).f2))) (fun _ hk => trivial)⟩, ⟨by repeat ((with_reducible first | exact HB.out | refine below_set ?_ GE339.out))⟩⟩
                ·rw [if_neg c100] at H
                 exact absurd H (by simp)
               ·rw [if_neg c99] at H
                exact absurd H (by simp)
              ·rw [if_neg c98] at H
               have c98b0 : decide (x211_4 < (t308.length : Int)) = false := decide_eq_false c98
               clear c98
               by_cases c103 : x14_4 = 0
               ·rw [if_pos c103] at H
                have c103b0 : (x14_4 == 0) = true := beq_iff_eq.mpr c103
                have c103b1 : (x14_4 != 0) = false := bne_eq_false_iff_eq.mpr c103
                clear c103
                replace H := Option.bind_eq_some_iff.mp H
                obtain ⟨t340, A1040, H⟩ := H
                replace H : (some t340) = some true := H
                have A104 := Aside0.mk A1040
                clear A1040
                have HT_ := Aside0.mk (Option.some.inj H)
                go_wp2_with ((go_at_call 17; (with_reducible refine (letterbaglaw30_awake.calls k4  t340 _ A104.out).mono ?_); rintro e w105 ⟨rfl, hb⟩; have n0_ := Aside0.mk (Kd.R_below (by (with_reducible repeat (fail)); exact HO_209.out) hb); have n1_ := Aside0.mk (below_step (by repeat ((with_reducible exact HB.out))) hb); clear HO_209; clear HB; have HO_209 := n0_; have HB := n1_; clear n0_ n1_; (try clear hb); (try clear hb2); (try clear hk); (try clear hi)))
                repeat (go_quiet (fail); try go_wp2_with (fail))
                go_ret
                exact ⟨by (rw [HT_.out]; rfl), by repeat ((with_reducible exact HB.out))⟩
               ·rw [if_neg c103] at H
                have c103b0 : (x14_4 == 0) = false := beq_eq_false_iff_ne.mpr c103
                have c103b1 : (x14_4 != 0) = true := bne_iff_ne.mpr c103
                exact absurd H (by simp)
     ·rw [if_neg c19] at H
      exact absurd H (by simp)
    ·rw [if_neg c18] at H
     exact absurd H (by simp)
end Go.Proofs.Ytbnjdlafnejanaa.Pr
namespace Go.Proofs.Ytbnjdlafnejanaa.Pr
open Go.RowKit Go.Proofs.YtbnjdlafnejanaaW.PrintWords Go.Proofs.YtbnjdlafnejanaaW.PrintLast Go.Proofs.YtbnjdlafnejanaaW.PrintMore
theorem running_l0 (a : List S51) (hl : a.length ≤ 1000000) (t : Int) (d : Nat) : ∀ i : Nat, i ≤ a.length → a.length - i = d →
    Ev (fun k => letterbaglaw30_running.l0 k t a (a.length : Int) (i : Int)) (Sh.runs ((a.map toL).drop i) t) := by
  induction d with
  | zero =>
    intro i hi hd
    refine Ev.step (fun k => letterbaglaw30_running.l0.eq_2 _ _ _ _ k) ?_
    rw [List.drop_of_length_le (by rw [List.length_map]; omega)]
    exact ev_neg (by omega) (Ev.now _)
  | succ d ih =>
    intro i hi hd
    have c : i < a.length := by omega
    have ci : (i : Int) < (a.length : Int) := by omega
    have cj : i < (a.map toL).length := by rw [List.length_map]; exact c
    have ed : (a.map toL).drop i = toL a[i] :: (a.map toL).drop (i + 1) := by
      rw [List.drop_eq_getElem_cons cj]; simp
    have ih1 := ih (i + 1) (by omega) (by omega)
    refine Ev.step (fun k => letterbaglaw30_running.l0.eq_2 _ _ _ _ k) ?_
    refine ev_pos ci (ev_pos (by omega) (ev_pos ci ?_))
    rw [rd51_get c, wsucc c hl, ed, Sh.runs]
    have e1 : (toL a[i]).frm = a[i].f1 := rfl
    have e2 : (toL a[i]).to = a[i].f2 := rfl
    have e3 : (toL a[i]).job = a[i].f0 := rfl
    rw [e1, e2, e3]
    by_cases c1 : a[i].f1 ≤ t
    · refine ev_pos c1 ?_
      by_cases c2 : t < a[i].f2
      · refine ev_pos c2 (ev_eq ?_ (Ev.now _))
        rw [if_pos ⟨c1, c2⟩]
      · refine ev_neg c2 (ev_eq ?_ ih1)
        rw [if_neg (fun h => c2 h.2)]
    · refine ev_neg c1 (ev_eq ?_ ih1)
      rw [if_neg (fun h => c1 h.1)]
theorem running_f (a : List S51) (hl : a.length ≤ 1000000) (t : Int) : Ev (fun k => letterbaglaw30_running.f k a t) (Sh.runs (a.map toL) t) := by
  unfold letterbaglaw30_running.f
  have h := running_l0 a hl t (a.length - 0) 0 (by omega) rfl
  rw [List.drop_zero] at h
  exact h
theorem lenSum_bd : ∀ a : List S51, (∀ u ∈ a, (0 ≤ u.f1 ∧ u.f1 < u.f2) ∧ u.f2 ≤ 256) → 0 ≤ Sh.lenSum (a.map toL) ∧ Sh.lenSum (a.map toL) ≤ 256 * (a.length : Int) := by
  intro a
  induction a with
  | nil => intro _; simp [Sh.lenSum]
  | cons u a ih =>
    intro h
    have h1 := ih (fun v hv => h v (by simp [hv]))
    have h2 := h u (by simp)
    simp only [List.map_cons, Sh.lenSum, List.length_cons, toL]
    omega
theorem urgent_l5 (a : List S51) (hl : a.length ≤ 1000) (ha : ∀ u ∈ a, (0 ≤ u.f1 ∧ u.f1 < u.f2) ∧ u.f2 ≤ 256) (d : Nat) : ∀ i : Nat, i ≤ a.length → a.length - i = d →
    Ev (fun k => letterbaglaw30_ShiftUrgent.l5 k (Sh.lenSum ((a.drop i).map toL)) a (a.length : Int) (i : Int)) true := by
  induction d with
  | zero =>
    intro i hi hd
    refine Ev.step (fun k => letterbaglaw30_ShiftUrgent.l5.eq_2 _ _ _ _ k) ?_
    rw [List.drop_of_length_le (show a.length ≤ i by omega)]
    exact ev_neg (by omega) (ev_pos rfl (Ev.bind awake_f (Ev.now _)))
  | succ d ih =>
    intro i hi hd
    have c : i < a.length := by omega
    have ci : (i : Int) < (a.length : Int) := by omega
    obtain ⟨⟨h1, h2⟩, h3⟩ := ha _ (List.getElem_mem c)
    have ih1 := ih (i + 1) (by omega) (by omega)
    have hb := lenSum_bd (a.drop (i + 1)) (fun u hu => ha u (List.mem_of_mem_drop hu))
    have hdl : (a.drop (i + 1)).length ≤ 1000 := by rw [List.length_drop]; omega
    have e : Sh.lenSum ((a.drop i).map toL) = a[i].f2 - a[i].f1 + Sh.lenSum ((a.drop (i + 1)).map toL) := by
      rw [List.drop_eq_getElem_cons c]; rfl
    have b1 : -9223372036854775808 ≤ a[i].f2 - a[i].f1 ∧ a[i].f2 - a[i].f1 ≤ 9223372036854775807 := by omega
    generalize Sh.lenSum ((a.drop (i + 1)).map toL) = y at *
    have b2 : -9223372036854775808 ≤ y ∧ y ≤ 9223372036854775807 := by omega
    have e2 : a[i].f2 - a[i].f1 + y - (a[i].f2 - a[i].f1) = y := by omega
    refine Ev.step (fun k => letterbaglaw30_ShiftUrgent.l5.eq_2 _ _ _ _ k) ?_
    refine ev_pos ci (ev_pos (by omega) (ev_pos ci ?_))
    rw [rd51_get c, wsucc c (by omega), e, w64 b1.1 b1.2, e2, w64 b2.1 b2.2]
    exact ih1
theorem urgent_j8 {l : List S45} {l1 : List S47} {a : List S51} {left : List Int} {ran q s0 s1 : Int} {i : Nat} (hi : i < a.length) (hl : a.length ≤ 1000000)
    (h : Ev (fun k => letterbaglaw30_ShiftUrgent.l4 k l a left ran ((i + 1 : Nat) : Int) l1 (l1.length : Int) q s0 s1) true) :
    Ev (fun k => letterbaglaw30_ShiftUrgent.j8 k l a left ran (i : Int) l1 (l1.length : Int) q false s0 s1) true := by
  refine Ev.step (fun k => letterbaglaw30_ShiftUrgent.j8.eq_2 _ _ _ _ _ _ _ _ _ _ _ k) ?_
  refine ev_neg Bool.false_ne_true ?_
  rw [wsucc hi hl]
  exact h
theorem urgent_l4 {l : List S45} {l1 : List S47} {a : List S51} {left : List Int} {ran q s0 s1 : Int} (hl : a.length ≤ 1000000)
    (hsep : ∀ i (h : i + 1 < a.length), a[i].f0 = a[i + 1].f0 → a[i].f2 = a[i + 1].f1 → ¬ (s0 < a[i + 1].f1 ∧ a[i + 1].f1 < s1))
    (hK : Ev (fun k => letterbaglaw30_ShiftUrgent.l1 k l a left ran l1 (l1.length : Int) (wrap64 (q + 1))) true) (d : Nat) : ∀ i : Nat, 1 ≤ i → a.length - i = d →
    Ev (fun k => letterbaglaw30_ShiftUrgent.l4 k l a left ran (i : Int) l1 (l1.length : Int) q s0 s1) true := by
  induction d with
  | zero =>
    intro i h1 hd
    refine Ev.step (fun k => letterbaglaw30_ShiftUrgent.l4.eq_2 _ _ _ _ _ _ _ _ _ _ k) ?_
    exact ev_neg (by omega) hK
  | succ d ih =>
    intro i h1 hd
    obtain ⟨j, rfl⟩ : ∃ j : Nat, i = j + 1 := ⟨i - 1, by omega⟩
    have c : j + 1 < a.length := by omega
    have cj : j < a.length := by omega
    have ci : ((j + 1 : Nat) : Int) < (a.length : Int) := by omega
    have ci2 : (j : Int) < (a.length : Int) := by omega
    have hs := hsep j c
    have ih1 := urgent_j8 c hl (ih (j + 1 + 1) (by omega) (by omega))
    have b1 : -9223372036854775808 ≤ ((j + 1 : Nat) : Int) - 1 ∧ ((j + 1 : Nat) : Int) - 1 ≤ 9223372036854775807 := by omega
    have e1 : ((j + 1 : Nat) : Int) - 1 = (j : Int) := by omega
    refine Ev.step (fun k => letterbaglaw30_ShiftUrgent.l4.eq_2 _ _ _ _ _ _ _ _ _ _ k) ?_
    rw [w64 b1.1 b1.2, e1, rd51_get c, rd51_get cj]
    refine ev_pos ci (ev_pos (by omega) (ev_pos (by omega) (ev_pos ci2 ?_)))
    by_cases c1 : a[j + 1].f0 = a[j].f0
    · refine ev_pos c1 ?_
      by_cases c2 : a[j + 1].f1 = a[j].f2
      · refine ev_pos c2 ?_
        by_cases c3 : s0 < a[j + 1].f1
        · refine ev_pos c3 ?_
          have e : decide (a[j + 1].f1 < s1) = false := decide_eq_false (fun h => hs c1.symm c2.symm ⟨c3, h⟩)
          rw [e]
          exact ih1
        · exact ev_neg c3 ih1
      · exact ev_neg c2 ih1
    · exact ev_neg c1 ih1
theorem urgent_j6 {l : List S45} {l1 : List S47} {a : List S51} {left : List Int} {ran t x q s0 s1 : Int} (hl : a.length ≤ 1000000) (ht : 0 ≤ t ∧ t ≤ 1000000) (hr : Sh.runs (a.map toL) t = x)
    (h : Ev (fun k => letterbaglaw30_ShiftUrgent.l2 k l a left ran (t + 1) l1 (l1.length : Int) q s0 s1) true) :
    Ev (fun k => letterbaglaw30_ShiftUrgent.j6 k l a left ran t x l1 (l1.length : Int) q s0 s1) true := by
  have b1 : -9223372036854775808 ≤ t + 1 ∧ t + 1 ≤ 9223372036854775807 := by omega
  refine Ev.step (fun k => letterbaglaw30_ShiftUrgent.j6.eq_2 _ _ _ _ _ _ _ _ _ _ _ k) ?_
  refine Ev.bind (running_f a hl t) (ev_pos hr ?_)
  rw [w64 b1.1 b1.2]
  exact h
theorem urgent_l3 {l : List S45} {l1 : List S47} {a : List S51} {left : List Int} {ran t q s0 s1 : Int} (hJ : Sh.BJ (l.map toJ)) (hlen : left.length = l.length) (hl : l.length ≤ 8)
    (hK : ∀ b, Sh.BAt (l.map toJ) left t (l.map toJ).length b → Ev (fun k => if b ≥ 0 then (if 0 ≤ b then (if b < (left.length : Int) then (if b < (l.length : Int) then (letterbaglaw30_ShiftUrgent.j6 k l a (left.set (b : Int).toNat (wrap64 ((rd left b) - 1))) (wrap64 (ran + 1)) t ((rd_T45 l b).f0) l1 (l1.length : Int) q s0 s1) else (none)) else (none)) else (none)) else (letterbaglaw30_ShiftUrgent.j6 k l a left ran t 0 l1 (l1.length : Int) q s0 s1)) true) (d : Nat) :
    ∀ (i : Nat) (b : Int), i ≤ l.length → l.length - i = d → Sh.BAt (l.map toJ) left t i b →
    Ev (fun k => letterbaglaw30_ShiftUrgent.l3 k l a left ran t b l1 (l1.length : Int) q l (l.length : Int) (i : Int) s0 s1) true := by
  induction d with
  | zero =>
    intro i b hi hd hB
    have e : i = (l.map toJ).length := by rw [List.length_map]; omega
    refine Ev.step (fun k => letterbaglaw30_ShiftUrgent.l3.eq_2 _ _ _ _ _ _ _ _ _ _ _ _ _ _ k) ?_
    refine ev_neg (by omega) ?_
    subst e
    exact hK b hB
  | succ d ih =>
    intro i b hi hd hB
    have c : i < l.length := by omega
    have ci : (i : Int) < (l.length : Int) := by omega
    have cl : i < left.length := by omega
    have cil : (i : Int) < (left.length : Int) := by omega
    have cj : i < (l.map toJ).length := by rw [List.length_map]; exact c
    have eJ : (l.map toJ)[i] = toJ l[i] := by simp
    have hno : ∀ b', Sh.BAt (l.map toJ) left t (i + 1) b' → Ev (fun k => letterbaglaw30_ShiftUrgent.j5 k l a left ran t b' (i : Int) l1 (l1.length : Int) q l (l.length : Int) (i : Int) false s0 s1) true := by
      intro b' h'
      refine Ev.step (fun k => letterbaglaw30_ShiftUrgent.j5.eq_2 _ _ _ _ _ _ _ _ _ _ _ _ _ _ _ _ k) ?_
      refine ev_neg Bool.false_ne_true ?_
      rw [wsucc c (by omega)]
      exact ih (i + 1) b' (by omega) (by omega) h'
    have hyes : ∀ b', Sh.BAt (l.map toJ) left t (i + 1) (i : Int) → Ev (fun k => letterbaglaw30_ShiftUrgent.j5 k l a left ran t b' (i : Int) l1 (l1.length : Int) q l (l.length : Int) (i : Int) true s0 s1) true := by
      intro b' h'
      refine Ev.step (fun k => letterbaglaw30_ShiftUrgent.j5.eq_2 _ _ _ _ _ _ _ _ _ _ _ _ _ _ _ _ k) ?_
      refine ev_pos rfl ?_
      rw [wsucc c (by omega)]
      exact ih (i + 1) (i : Int) (by omega) (by omega) h'
    refine Ev.step (fun k => letterbaglaw30_ShiftUrgent.l3.eq_2 _ _ _ _ _ _ _ _ _ _ _ _ _ _ k) ?_
    refine ev_pos ci (ev_pos (by omega) (ev_pos ci ?_))
    rw [rd45_get c, rd_get cl]
    by_cases c1 : l[i].f1 ≤ t
    · refine ev_pos c1 (ev_pos cil ?_)
      by_cases c2 : left[i] > 0
      · refine ev_pos c2 ?_
        have r1 : (l.map toJ)[i].rel ≤ t := by rw [eJ]; exact c1
        by_cases c3 : b < 0
        · refine ev_pos c3 (hyes b (hB.first cj cl r1 c2 (fun m hm _ => by omega)))
        · refine ev_neg c3 ?_
          obtain ⟨m, hm, hmi, hmJ, hml, _, _, _⟩ := hB.some (by omega)
          subst hm
          have cm : m < l.length := by omega
          have cmi : (m : Int) < (l.length : Int) := by omega
          have eM : (l.map toJ)[m] = toJ l[m] := by simp
          refine ev_pos (by omega) (ev_pos cmi ?_)
          rw [rd45_get cm]
          have hfirst : Sh.Bf (toJ l[i]) (toJ l[m]) → Sh.BAt (l.map toJ) left t (i + 1) (i : Int) := by
            intro h
            refine hB.first cj cl r1 c2 (fun m' hm' hi' => ?_)
            obtain rfl : m' = m := by omega
            rw [eJ, eM]; exact h
          have hbehind : Sh.Bf (toJ l[m]) (toJ l[i]) → Sh.BAt (l.map toJ) left t (i + 1) (m : Int) := by
            intro h
            refine hB.behind cj hmJ ?_
            rw [eJ, eM]; exact h
          have hne : l[m].f0 ≠ l[i].f0 := by
            have := List.pairwise_iff_getElem.1 hJ.vj.nod m i hmJ cj hmi
            rw [eJ, eM] at this
            exact this
          by_cases c4 : l[i].f2 < l[m].f2
          · exact ev_pos c4 (hyes _ (hfirst (.inl c4)))
          · refine ev_neg c4 ?_
            by_cases c5 : l[i].f2 = l[m].f2
            · refine ev_pos c5 ?_
              by_cases c6 : l[i].f0 < l[m].f0
              · rw [decide_eq_true c6]
                exact hyes _ (hfirst (.inr ⟨c5, c6⟩))
              · rw [decide_eq_false c6]
                exact hno _ (hbehind (.inr ⟨c5.symm, by simp only [toJ]; omega⟩))
            · exact ev_neg c5 (hno _ (hbehind (.inl (by simp only [toJ]; omega))))
      · refine ev_neg c2 (hno b (hB.no cj cl (fun h => c2 h.2)))
    · refine ev_neg c1 (hno b (hB.no cj cl (fun h => c1 (by have := h.1; rw [eJ] at this; exact this))))
theorem urgent_l2 {l : List S45} {l1 : List S47} {a : List S51} {q s0 s1 : Int} (hJ : Sh.BJ (l.map toJ)) (hl : l.length ≤ 8) (hal : a.length ≤ 1000000) (hE : Sh.IsE (l.map toJ) (l1.map toS) (Sh.runs (a.map toL)))
    (h0 : 0 ≤ s0) (h1 : s1 ≤ 256) (hin : ∀ u, s0 ≤ u → u < s1 → Sh.inS (l1.map toS) u = true)
    (hK : ∀ left ran, Sh.UInv (l.map toJ) (Sh.runs (a.map toL)) s1 left ran → Ev (fun k => letterbaglaw30_ShiftUrgent.l4 k l a left ran 1 l1 (l1.length : Int) q s0 s1) true) (d : Nat) :
    ∀ (t : Int) (left : List Int) (ran : Int), s0 ≤ t → t ≤ s1 → s1 - t = d → Sh.UInv (l.map toJ) (Sh.runs (a.map toL)) t left ran →
    Ev (fun k => letterbaglaw30_ShiftUrgent.l2 k l a left ran t l1 (l1.length : Int) q s0 s1) true := by
  induction d with
  | zero =>
    intro t left ran ht0 ht1 hd hU
    obtain rfl : t = s1 := by omega
    refine Ev.step (fun k => letterbaglaw30_ShiftUrgent.l2.eq_2 _ _ _ _ _ _ _ _ _ _ k) ?_
    exact ev_neg (by omega) (hK left ran hU)
  | succ d ih =>
    intro t left ran ht0 ht1 hd hU
    have hlen : left.length = l.length := by have := hU.len; rwa [List.length_map] at this
    refine Ev.step (fun k => letterbaglaw30_ShiftUrgent.l2.eq_2 _ _ _ _ _ _ _ _ _ _ k) ?_
    refine ev_pos (by omega) ?_
    refine urgent_l3 hJ hlen hl (fun b hB => ?_) (l.length - 0) 0 (-1) (by omega) rfl (Sh.BAt.start _ _ _)
    rcases hB.tells hE hU (hin t ht0 (by omega)) with ⟨hb, _, hf⟩ | ⟨i, hb, hi, hil, hf⟩
    · refine ev_neg (by omega) ?_
      refine urgent_j6 hal (by omega) hf (ih (t + 1) left ran (by omega) (by omega) (by omega) ?_)
      exact hU.skip hJ.vj (by omega) (by omega) (fun u k1 k2 => by rw [show u = t by omega]; exact hf)
    · subst hb
      have c : i < l.length := by omega
      have ci : (i : Int) < (l.length : Int) := by omega
      have cil : (i : Int) < (left.length : Int) := by omega
      have eJ : (l.map toJ)[i] = toJ l[i] := by simp
      have hbd := hJ.bd _ (List.getElem_mem hi)
      have hrest := hU.rest i hi hil
      have hc0 := Sh.cnt_nonneg (Sh.isId (Sh.runs (a.map toL)) (l.map toJ)[i].id) 0 t
      have hran := hU.ran
      have hc1 := Sh.cnt_nonneg (Sh.busy (Sh.runs (a.map toL))) 0 t
      have hc2 := Sh.cnt_le_len (Sh.busy (Sh.runs (a.map toL))) (a := 0) (b := t) (by omega)
      have hc3 := Sh.cnt_le_len (Sh.isId (Sh.runs (a.map toL)) (l.map toJ)[i].id) (a := 0) (b := t) (by omega)
      have hmin := (hJ.vj.pos _ (List.getElem_mem hi)).2.2
      have b1 : -9223372036854775808 ≤ left[i] - 1 ∧ left[i] - 1 ≤ 9223372036854775807 := by omega
      have b2 : -9223372036854775808 ≤ ran + 1 ∧ ran + 1 ≤ 9223372036854775807 := by omega
      refine ev_pos (by omega) (ev_pos (by omega) (ev_pos cil (ev_pos ci ?_)))
      rw [rd_get hil, rd45_get c, w64 b1.1 b1.2, w64 b2.1 b2.2, Int.toNat_natCast]
      refine urgent_j6 hal (by omega) (by rw [hf, eJ]; rfl) (ih (t + 1) _ _ (by omega) (by omega) (by omega) ?_)
      exact hU.run hJ.vj (by omega) hi hil hf
theorem urgent_l1 {l : List S45} {l1 : List S47} (hJ : Sh.BJ (l.map toJ)) (hS : Sh.BS (l1.map toS)) (hl : l.length ≤ 8) (hl1 : l1.length ≤ 8) (hb : ∀ s ∈ l1.map toS, s.to ≤ 256) (d : Nat) :
    ∀ (i : Nat) (left : List Int) (ran : Int), i ≤ l1.length → l1.length - i = d → Sh.UInv (l.map toJ) (Sh.runs ((planOf l l1).map toL)) (Sh.fin (l1.map toS) i) left ran →
    Ev (fun k => letterbaglaw30_ShiftUrgent.l1 k l (planOf l l1) left ran l1 (l1.length : Int) (i : Int)) true := by
  have hM := Sh.made_makeX hJ.vj hS.vs
  have hE : Sh.IsE (l.map toJ) (l1.map toS) (Sh.runs ((planOf l l1).map toL)) := by rw [planOf_toL]; exact hM.ise
  have hW : Sh.WF (l1.map toS) ((planOf l l1).map toL) := by rw [planOf_toL]; exact hM.wf
  have hO := hW.toOrd hS.vs
  have hpl := plan_len hJ hS (hi := 256) (by decide) hb
  have hsl : ∀ u ∈ planOf l l1, (0 ≤ u.f1 ∧ u.f1 < u.f2) ∧ u.f2 ≤ 256 := by
    intro u hu
    have h1 := hO.pos _ (List.mem_map.2 ⟨u, hu, rfl⟩)
    obtain ⟨s, hs, _, h3⟩ := hW.ins _ (List.mem_map.2 ⟨u, hu, rfl⟩)
    have h4 := hb s hs
    simp only [toL] at h1 h3
    omega
  induction d with
  | zero =>
    intro i left ran hi hd hU
    have e : i = l1.length := by omega
    subst e
    refine Ev.step (fun k => letterbaglaw30_ShiftUrgent.l1.eq_2 _ _ _ _ _ _ _ k) ?_
    refine ev_neg (by omega) ?_
    obtain ⟨B, hB0, hB⟩ := Sh.bound_of ((planOf l l1).map toL)
    have hf0 := Sh.fin_nonneg hS.vs l1.length
    have hU2 := hU.skip hJ.vj (t' := max B (Sh.fin (l1.map toS) l1.length)) hf0 (by omega) (fun u k1 _ => hE.out u (Sh.gap hS.vs k1 (fun h => absurd h (by rw [List.length_map]; omega)) (by rw [List.length_map]; omega)))
    have hr : ran = Sh.lenSum ((planOf l l1).map toL) := by
      rw [hU2.ran]
      exact Sh.busy_sum _ hO _ (by omega) (fun u hu => by have := hB u hu; omega)
    have key := urgent_l5 (planOf l l1) (by omega) hsl ((planOf l l1).length - 0) 0 (by omega) rfl
    rw [List.drop_zero, ← hr] at key
    exact key
  | succ d ih =>
    intro i left ran hi hd hU
    have c : i < l1.length := by omega
    have ci : (i : Int) < (l1.length : Int) := by omega
    have cj : i < (l1.map toS).length := by rw [List.length_map]; exact c
    have eS : (l1.map toS)[i] = toS l1[i] := by simp
    have hm : toS l1[i] ∈ l1.map toS := List.mem_map.2 ⟨_, List.getElem_mem c, rfl⟩
    have h3 := hb _ hm
    have h4 := hS.vs.pos _ hm
    simp only [toS] at h3 h4
    have hf0 := Sh.fin_nonneg hS.vs i
    have hle : Sh.fin (l1.map toS) i ≤ l1[i].f0 := by
      unfold Sh.fin
      split
      · exact h4.1
      · have hq := List.pairwise_iff_getElem.1 hS.vs.ord (i - 1) i (by omega) cj (by omega)
        rw [List.getElem?_eq_getElem (show i - 1 < (l1.map toS).length by omega)]
        rw [eS] at hq
        exact hq
    have hU2 := hU.skip hJ.vj (t' := l1[i].f0) hf0 hle (fun u k1 k2 => hE.out u (Sh.gap hS.vs k1 (fun h => by rw [eS]; exact k2) (by omega)))
    refine Ev.step (fun k => letterbaglaw30_ShiftUrgent.l1.eq_2 _ _ _ _ _ _ _ k) ?_
    refine ev_pos ci (ev_pos (by omega) (ev_pos ci ?_))
    rw [rd47_get c]
    refine urgent_l2 hJ hl (by omega) hE h4.1 h3 (fun u k1 k2 => Sh.inS_iff.2 ⟨_, hm, k1, k2⟩) (fun left' ran' hU' => ?_) (l1[i].f1 - l1[i].f0).toNat l1[i].f0 left ran (by omega) (by omega) (by omega) hU2
    refine urgent_l4 (by omega) (fun j hj e1 e2 hc => ?_) ?_ ((planOf l l1).length - 1) 1 (by omega) rfl
    · have hjl : j + 1 < ((planOf l l1).map toL).length := by rw [List.length_map]; exact hj
      have es : (planOf l l1).map toL = ((planOf l l1).map toL).take j ++ toL (planOf l l1)[j] :: toL (planOf l l1)[j + 1] :: ((planOf l l1).map toL).drop (j + 2) := by
        conv => lhs; rw [← List.take_append_drop j ((planOf l l1).map toL)]
        rw [List.drop_eq_getElem_cons (show j < ((planOf l l1).map toL).length by omega), List.drop_eq_getElem_cons hjl]
        simp
      exact hW.sep _ _ _ _ es e1 e2 _ hm hc
    · rw [wsucc c (by omega)]
      refine ih (i + 1) left' ran' (by omega) (by omega) ?_
      rw [Sh.fin_succ cj, eS]
      exact hU'
theorem urgent_l0 {l : List S45} {l1 : List S47} {a : List S51} (hl : l.length ≤ 8) (hK : Ev (fun k => letterbaglaw30_ShiftUrgent.l1 k l a (l.map fun x => x.f3) 0 l1 (l1.length : Int) 0) true) (d : Nat) : ∀ (i : Nat) (x8 : List Int), i ≤ l.length → l.length - i = d → x8.length = l.length → (∀ j (h : j < x8.length) (h' : j < l.length), j < i → x8[j] = l[j].f3) →
    Ev (fun k => letterbaglaw30_ShiftUrgent.l0 k l l1 a x8 l (l.length : Int) (i : Int)) true := by
  induction d with
  | zero =>
    intro i x8 hi hd h8 hx
    refine Ev.step (fun k => letterbaglaw30_ShiftUrgent.l0.eq_2 _ _ _ _ _ _ _ k) ?_
    refine ev_neg (by omega) ?_
    have e : x8 = l.map fun x => x.f3 := by
      apply List.ext_getElem
      · rw [h8, List.length_map]
      · intro j h1 h2
        have h3 : j < l.length := by omega
        rw [hx j h1 h3 (by omega), List.getElem_map]
    rw [e]
    exact hK
  | succ d ih =>
    intro i x8 hi hd h8 hx
    have c : i < l.length := by omega
    have ci : (i : Int) < (l.length : Int) := by omega
    have ih1 := ih (i + 1) (x8.set i l[i].f3) (by omega) (by omega) (by rw [List.length_set]; exact h8) (fun j h1 h2 h3 => by
      by_cases e : i = j
      · subst e; rw [List.getElem_set_self]
      · rw [List.getElem_set_ne e]; exact hx j (by simpa using h1) h2 (by omega))
    refine Ev.step (fun k => letterbaglaw30_ShiftUrgent.l0.eq_2 _ _ _ _ _ _ _ k) ?_
    refine ev_pos ci (ev_pos (by omega) (ev_pos ci (ev_pos (by rw [h8]; exact ci) ?_)))
    rw [rd45_get c, wsucc c (by omega), Int.toNat_natCast]
    exact ih1
theorem urgent_all (l0 : List S61) (l1 : List S55) (h0 : ∀ x ∈ l0, b61 x) (h1 : ∀ x ∈ l1, b55 x) : Ev (fun k => letterbaglaw30_ShiftUrgent.f k l0 l1) true := by
  have hJ := workX_BJ h0
  have hS := hoursX_BS h1
  have hl := workX_len l0
  have hl1 := hoursX_len l1
  have hb : ∀ s ∈ (hoursX l1).map toS, s.to ≤ 256 := fun s hs => (hoursX_bd h1 s hs).2.2.2
  have hpl := plan_len hJ hS (hi := 256) (by decide) hb
  have hU := Sh.UInv.start ((workX l0).map toJ) (Sh.runs ((planOf (workX l0) (hoursX l1)).map toL))
  have e : ((workX l0).map toJ).map Sh.Job.min = (workX l0).map fun x => x.f3 := by rw [List.map_map]; rfl
  rw [e] at hU
  have key := urgent_l1 hJ hS hl hl1 hb ((hoursX l1).length - 0) 0 _ 0 (by omega) rfl hU
  have e0 : ((0 : Int) != 0) = false := rfl
  unfold letterbaglaw30_ShiftUrgent.f
  refine Ev.bind (work_f h0) (Ev.bind (hours_f h1) (Ev.bind (ev_val (make_f hJ hS (by omega) (by omega))) ?_))
  refine Ev.bind (ev_val (check_sched hJ hS (by omega) (by omega) (plan_sched hJ hS) (show (planOf (workX l0) (hoursX l1)).length ≤ 1000 by omega))) ?_
  refine ev_pos rfl (ev_pos rfl ?_)
  rw [e0]
  refine Ev.step (fun k => letterbaglaw30_ShiftUrgent.j0.eq_2 _ _ _ _ k) ?_
  refine ev_neg Bool.false_ne_true (ev_pos (by omega) (ev_pos (by rw [Int.toNat_natCast]; omega) ?_))
  rw [Int.toNat_natCast]
  exact urgent_l0 hl key ((workX l0).length - 0) 0 _ (by omega) rfl (by simp) (fun j _ _ h => by omega)
end Go.Proofs.Ytbnjdlafnejanaa.Pr
namespace Go.Proofs.Ytbnjdlafnejanaa.shiftUrgent
open Go.ChangeShapes Go.WideShapes Go.ChangeAt Go.RowKit
set_option linter.unusedVariables false
theorem own : ownKnob Try.prog.godebug = none := by kernel_rfl
theorem laidOut : laidOutB Try.prog = true := by kernel_rfl
set_option maxRecDepth 100000 in
theorem lifted (os : Os) (started : os.Started) (H : Type) (enc : TypeId × Value → H) :
    ReturnsInHanded {} Try.checked os 5 .any (Rows.shiftUrgentSpec.pre6 enc Try.prog Try.f5 Rows.shiftUrgentRow.domain false) (Rows.shiftUrgentSpec.post enc Try.prog Try.f5 false true false false) := by
  refine returnsInHanded_of_change_sized (C := Try.checked) own started (by kernel_rfl) Try.func5
    (ChangeSpec.witness6 (enc := enc) (C := Try.checked) false ⟨#[], #[.slice none 0 0, .slice none 0 0], []⟩ 8 (by kernel_rfl) (by kernel_rfl) (by kernel_rfl) (by kernel_rfl)) ?_
  intro W base args ds gs before hval0 hW hcnd hsz0 _
  have hval : ∀ (j : Nat) t v, Try.f5.params[j]? = some t → args[j]? = some v → Value.okWide Try.prog W .any base t v := hval0
  have hW' := hW
  obtain ⟨p, q, hA0, hV, rfl, hfz, hnd⟩ := hW
  have hA : DataW.TrodAll enc Try.prog W 0 (fun _ => true) true Try.f5.params.toList args.toList ds p := hA0
  rw [Try.params5] at hA hval
  obtain ⟨v0, vs0, d0, ds0, p0, q0, hargs, rfl, rfl, h0, r0⟩ := trodAll_cons hA
  obtain ⟨v1, vs1, d1, ds1, p1, q1, rfl, rfl, rfl, h1, r1⟩ := trodAll_cons r0
  obtain ⟨rfl, rfl, rfl⟩ := trodAll_nil r1
  obtain rfl : args = #[v0, v1] := by cases args; simp_all
  obtain ⟨rfl, rfl⟩ := trodVars_none hV
  obtain ⟨a0, len0, cap0, rfl⟩ := okWide_slice Try.underlying22 (hval 0 22 v0 rfl rfl)
  have k0 := h0
  have lt0 : ∀ x ∈ p0, x.block < W.heap.size := by obtain ⟨m, hm⟩ := k0; exact DataW.trod_lt m _ _ _ hm
  obtain ⟨l0, e0, c0, hr0, hb0⟩ := Pr.open61 h0
  subst e0
  obtain ⟨a1, len1, cap1, rfl⟩ := okWide_slice Try.underlying23 (hval 1 23 v1 rfl rfl)
  have k1 := h1
  have lt1 : ∀ x ∈ p1, x.block < W.heap.size := by obtain ⟨m, hm⟩ := k1; exact DataW.trod_lt m _ _ _ hm
  obtain ⟨l1, e1, c1, hr1, hb1⟩ := Pr.open55 h1
  subst e1
  clear hA0 hval0 hsz0
  obtain ⟨k, hk⟩ := (Pr.urgent_all l0 l1 hb0 hb1).rounds
  refine (Pr.letterbaglaw30_ShiftUrgent.calls k a0 cap0 l0 a1 cap1 l1 W hr0 c0 hr1 c1 hk).mono fun e W' ⟨he, bel⟩ => ?_
  subst he
  exact ⟨_, rfl, _, _, _, [], _, [], hW', trodAll_mk1 (shut_bool Try.underlying4 _), (trodAll_cons_mk (Below.trod laidOut (by kernel_rfl) (of_decide_eq_true (by kernel_rfl)) k0 bel lt0) (trodAll_cons_mk (Below.trod laidOut (by kernel_rfl) (of_decide_eq_true (by kernel_rfl)) k1 bel lt1) trodAll_mk0)), rfl, bel.frame _, fun h => by cases h⟩
theorem over : Rows.shiftUrgentRow.holds Try.pinned (OpenSpec.ofChange Rows.shiftUrgentSpec) :=
  OpenClaim.holds_of_wide 5 Try.f5 rfl rfl rfl rfl rfl rfl rfl ⟨rfl, rfl, rfl, rfl, rfl⟩ rfl rfl rfl rfl rfl (by kernel_rfl) Try.func5 (by kernel_rfl)
    (of_decide_eq_true (by kernel_rfl)) (by unfold Func.isWrapper; first | (rw [if_pos (by decide +kernel)]; kernel_rfl) | (rw [if_neg (by decide +kernel)]; exact ⟨rfl, rfl⟩))
    (fun os started H enc _ => lifted os started H enc)
theorem proved : Rows.ShiftUrgentSaid := over
end Go.Proofs.Ytbnjdlafnejanaa.shiftUrgent
namespace Go.Proofs.Ytbnjdlafnejanaa
/-- The row, under a short name, for the claim. -/
theorem shiftUrgent_holds : Rows.ShiftUrgentSaid := shiftUrgent.proved
end Go.Proofs.Ytbnjdlafnejanaa
